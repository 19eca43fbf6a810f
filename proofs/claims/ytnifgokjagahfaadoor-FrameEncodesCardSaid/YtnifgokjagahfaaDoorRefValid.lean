/- The document's valid. -/
import Derived.Test.YtnifgokjagahfaaDoorRefF
set_option linter.unusedVariables false
set_option linter.unusedSimpArgs false
namespace Go.Proofs.YtnifgokjagahfaaDoor.RefF
open Go.RowKit Go.Proofs.YtnifgokjagahfaaDoorW.PrintWords Go.Proofs.YtnifgokjagahfaaDoorW.PrintLast Go.Proofs.YtnifgokjagahfaaDoorW.PrintMore
open Go.Proofs.YtnifgokjagahfaaDoor.Base Go.Proofs.YtnifgokjagahfaaDoor.App Go.Proofs.YtnifgokjagahfaaDoor.Layouts Go.Proofs.YtnifgokjagahfaaDoor.Msg Go.Proofs.YtnifgokjagahfaaDoor.Put Go.Proofs.YtnifgokjagahfaaDoor.EncPure
theorem head_out {f t i : Int} (h : ¬ (wi f 65535 && (wi t 65535 && wi i 9007199254740992)) = true) :
    f < 0 ∨ (0 ≤ f ∧ 65535 < f) ∨ (0 ≤ f ∧ f ≤ 65535 ∧ t < 0) ∨ (0 ≤ f ∧ f ≤ 65535 ∧ 0 ≤ t ∧ 65535 < t) ∨ (0 ≤ f ∧ f ≤ 65535 ∧ 0 ≤ t ∧ t ≤ 65535 ∧ i < 0) ∨ (0 ≤ f ∧ f ≤ 65535 ∧ 0 ≤ t ∧ t ≤ 65535 ∧ 0 ≤ i ∧ 9007199254740992 < i) := by
  by_cases h1 : 0 ≤ f ∧ f ≤ 65535
  · by_cases h2 : 0 ≤ t ∧ t ≤ 65535
    · by_cases h3 : 0 ≤ i ∧ i ≤ 9007199254740992
      · rw [wi_mk h1, wi_mk h2, wi_mk h3] at h; exact absurd rfl h
      · omega
    · omega
  · omega
theorem fit_need (m : M) (kk f : Nat) (h : m.kind = (kk : Int)) : fitB kk f (numOf m f) (mostOf f) = wi (numOf m f) (needOf m f) := by
  unfold fitB needOf hasB
  rw [h, Int.toNat_natCast]
set_option maxRecDepth 100000 in
set_option maxHeartbeats 8000000 in
theorem rvalid_any (m : M) (w : World) (hk : 1 ≤ m.kind ∧ m.kind < 17) (hR : RTab w) (hmx : m.key.size ≤ 9223372036854775807 ∧ m.value.size ≤ 9223372036854775807) : Calls Tryd.prog 40 #[.agg (mL m).toArray] w fun e w' => e = .returned (.bool (vB m)) ∧ Below w.heap.size w w' := by
  obtain ⟨kk, hkk⟩ : ∃ kk : Nat, m.kind = (kk : Int) := ⟨m.kind.toNat, by omega⟩
  have hkl : kk < 17 := by omega
  have HV := Lib.hid (show vB m = (wi m.from_ 65535 && (wi m.to_ 65535 && (wi m.id 9007199254740992 && vTo m 7))) from rfl)
  have HB := Aside0.mk ((Below.refl w.heap.size w).alloc (Nat.le_refl _) (.cells (mL m).toArray 24))
  have HM : Aside0 (MBox (w.alloc (.cells (mL m).toArray 24)) w.heap.size m) := ⟨⟨Go.heap_alloc_new w _, by simp⟩⟩
  have hR1 := hR.below HB.out
  generalize hwa : w.alloc (.cells (mL m).toArray 24) = wa at HB HM hR1
  have HWA := Lib.hid hwa
  have hc0 : wa.cell? ⟨w.heap.size, 0, none⟩ = some (.int .i64 (kk : Int)) := by rw [← hkk]; exact HM.out.c 0
  have hc1 : wa.cell? ⟨w.heap.size, 1, none⟩ = some (.int .i64 m.from_) := HM.out.c 1
  have hc2 : wa.cell? ⟨w.heap.size, 2, none⟩ = some (.int .i64 m.to_) := HM.out.c 2
  have hc3 : wa.cell? ⟨w.heap.size, 3, none⟩ = some (.int .i64 m.id) := HM.out.c 3
  have hc4 : wa.cell? ⟨w.heap.size, 4, none⟩ = some (.int .i64 m.epoch) := HM.out.c 4
  have hc5 : wa.cell? ⟨w.heap.size, 5, none⟩ = some (.int .i64 m.seq) := HM.out.c 5
  have hc6 : wa.cell? ⟨w.heap.size, 6, none⟩ = some (.int .i64 m.version) := HM.out.c 6
  have hc7 : wa.cell? ⟨w.heap.size, 7, none⟩ = some (.int .i64 m.prev) := HM.out.c 7
  have hc8 : wa.cell? ⟨w.heap.size, 8, none⟩ = some (.int .i64 m.code) := HM.out.c 8
  have hc9 : wa.cell? ⟨w.heap.size, 9, none⟩ = some (.string m.key) := HM.out.c 9
  have hc10 : wa.cell? ⟨w.heap.size, 10, none⟩ = some (.string m.value) := HM.out.c 10
  have kv := fits_any kk 2 m.version 9007199254740992 wa hkl (by decide) hR1
  have kp := fits_any kk 3 m.prev 9007199254740992 wa hkl (by decide) hR1
  have ke := fits_any kk 0 m.epoch 9007199254740992 wa hkl (by decide) hR1
  have ks := fits_any kk 1 m.seq 9007199254740992 wa hkl (by decide) hR1
  have kc := fits_any kk 4 m.code 65535 wa hkl (by decide) hR1
  have kk5 := textFits_any kk 5 m.key 255 wa hkl (by decide) hR1 hmx.1
  have kw := textFits_any kk 6 m.value 4096 wa hkl (by decide) hR1 hmx.2
  have e0 : fitB kk 0 m.epoch 9007199254740992 = wi (numOf m 0) (needOf m 0) := fit_need m kk 0 hkk
  have e1 : fitB kk 1 m.seq 9007199254740992 = wi (numOf m 1) (needOf m 1) := fit_need m kk 1 hkk
  have e2 : fitB kk 2 m.version 9007199254740992 = wi (numOf m 2) (needOf m 2) := fit_need m kk 2 hkk
  have e3 : fitB kk 3 m.prev 9007199254740992 = wi (numOf m 3) (needOf m 3) := fit_need m kk 3 hkk
  have e4 : fitB kk 4 m.code 65535 = wi (numOf m 4) (needOf m 4) := fit_need m kk 4 hkk
  have e5 : fitB kk 5 m.key.size ((255 : Nat) : Int) = wi (numOf m 5) (needOf m 5) := fit_need m kk 5 hkk
  have e6 : fitB kk 6 m.value.size ((4096 : Nat) : Int) = wi (numOf m 6) (needOf m 6) := fit_need m kk 6 hkk
  have hT : vTo m 7 = (((((((true && wi (numOf m 0) (needOf m 0)) && wi (numOf m 1) (needOf m 1)) && wi (numOf m 2) (needOf m 2)) && wi (numOf m 3) (needOf m 3)) && wi (numOf m 4) (needOf m 4)) && wi (numOf m 5) (needOf m 5)) && wi (numOf m 6) (needOf m 6)) := rfl
  rw [e0] at ke; rw [e1] at ks; rw [e2] at kv; rw [e3] at kp; rw [e4] at kc; rw [e5] at kk5; rw [e6] at kw
  generalize wi (numOf m 0) (needOf m 0) = b0 at ke hT
  generalize wi (numOf m 1) (needOf m 1) = b1 at ks hT
  generalize wi (numOf m 2) (needOf m 2) = b2 at kv hT
  generalize wi (numOf m 3) (needOf m 3) = b3 at kp hT
  generalize wi (numOf m 4) (needOf m 4) = b4 at kc hT
  generalize wi (numOf m 5) (needOf m 5) = b5 at kk5 hT
  generalize wi (numOf m 6) (needOf m 6) = b6 at kw hT
  have KV := Lib.hid kv
  have KP := Lib.hid kp
  have KE := Lib.hid ke
  have KS := Lib.hid ks
  have KC := Lib.hid kc
  have KK := Lib.hid kk5
  have KW := Lib.hid kw
  have HT := Lib.hid hT
  have HH := Aside0.mk (fun h => head_out (f := m.from_) (t := m.to_) (i := m.id) h)
  clear kv kp ke ks kc kk5 kw e0 e1 e2 e3 e4 e5 e6 hT hR hR1 hmx hk hkk HM
  by_cases hh : (wi m.from_ 65535 && (wi m.to_ 65535 && wi m.id 9007199254740992)) = true
  · have hx : (0 ≤ m.from_ ∧ m.from_ ≤ 65535) ∧ (0 ≤ m.to_ ∧ m.to_ ≤ 65535) ∧ (0 ≤ m.id ∧ m.id ≤ 9007199254740992) := by
      simp only [Bool.and_eq_true] at hh
      exact ⟨wi_of hh.1, wi_of hh.2.1, wi_of hh.2.2⟩
    obtain ⟨⟨a1, a2⟩, ⟨a3, a4⟩, a5, a6⟩ := hx
    have HX : Aside0 (vB m = vTo m 7) := ⟨by rw [HV.out, wi_mk ⟨a1, a2⟩, wi_mk ⟨a3, a4⟩, wi_mk ⟨a5, a6⟩]; simp⟩
    generalize vB m = r at HX HV ⊢
    clear hh HH
    go_enter Tryd.func40, Tryd.ntmps40
    go_wp2_with fail
    refine KV.out.mono ?_
    rintro e w' ⟨rfl, rfl⟩
    go_wp2_with fail
    refine KP.out.mono ?_
    rintro e w' ⟨rfl, rfl⟩
    go_wp2_with fail
    refine KE.out.mono ?_
    rintro e w' ⟨rfl, rfl⟩
    go_wp2_with fail
    refine KS.out.mono ?_
    rintro e w' ⟨rfl, rfl⟩
    go_wp2_with fail
    refine KC.out.mono ?_
    rintro e w' ⟨rfl, rfl⟩
    go_wp2_with fail
    refine KK.out.mono ?_
    rintro e w' ⟨rfl, rfl⟩
    go_wp2_with fail
    refine KW.out.mono ?_
    rintro e w' ⟨rfl, rfl⟩
    cases b2
    · go_wp2
      go_ret
      exact ⟨by rw [HX.out, HT.out]; simp, HB.out⟩
    cases b3
    · go_wp2
      go_ret
      exact ⟨by rw [HX.out, HT.out]; simp, HB.out⟩
    cases b0
    · go_wp2
      go_ret
      exact ⟨by rw [HX.out, HT.out]; simp, HB.out⟩
    cases b1
    · go_wp2
      go_ret
      exact ⟨by rw [HX.out, HT.out]; simp, HB.out⟩
    cases b4
    · go_wp2
      go_ret
      exact ⟨by rw [HX.out, HT.out]; simp, HB.out⟩
    cases b5
    · go_wp2
      go_ret
      exact ⟨by rw [HX.out, HT.out]; simp, HB.out⟩
    cases b6
    · go_wp2
      go_ret
      exact ⟨by rw [HX.out, HT.out]; simp, HB.out⟩
    go_wp2
    go_ret
    exact ⟨by rw [HX.out, HT.out]; rfl, HB.out⟩
  · have HF : Aside0 (vB m = false) := ⟨by
      rw [HV.out]
      cases h1 : wi m.from_ 65535 <;> cases h2 : wi m.to_ 65535 <;> cases h3 : wi m.id 9007199254740992 <;> simp [h1, h2, h3] at hh ⊢⟩
    have hd := HH.out hh
    generalize vB m = r at HF HV ⊢
    clear hh HH KV KP KE KS KC KK KW HT
    rcases hd with a1 | ⟨a1, a2⟩ | ⟨a1, a2, a3⟩ | ⟨a1, a2, a3, a4⟩ | ⟨a1, a2, a3, a4, a5⟩ | ⟨a1, a2, a3, a4, a5, a6⟩ <;>
      (go_enter Tryd.func40, Tryd.ntmps40
       go_wp2
       go_ret
       exact ⟨by rw [HF.out]; rfl, HB.out⟩)
end Go.Proofs.YtnifgokjagahfaaDoor.RefF
