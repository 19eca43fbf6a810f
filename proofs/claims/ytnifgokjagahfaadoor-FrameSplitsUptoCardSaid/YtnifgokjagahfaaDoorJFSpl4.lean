/- Joined texts of this claim: RefValid, RefSum, RefBody, RefEnc, LawEnc, RefDec -/
import Derived.Test.YtnifgokjagahfaaDoorJFSpl3
import Derived.Test.YtnifgokjagahfaaDoorJFSpl1
import Derived.Test.YtnifgokjagahfaaDoorJFSpl2
/- The document's valid. -/
set_option linter.unusedVariables false
set_option linter.unusedSimpArgs false
namespace Go.Proofs.YtnifgokjagahfaaDoor.RefF
open Go.RowKit Go.Proofs.YtnifgokjagahfaaDoorW.PrintWords Go.Proofs.YtnifgokjagahfaaDoorW.PrintLast Go.Proofs.YtnifgokjagahfaaDoorW.PrintMore
open Go.Proofs.YtnifgokjagahfaaDoor.Base Go.Proofs.YtnifgokjagahfaaDoor.App Go.Proofs.YtnifgokjagahfaaDoor.Layouts Go.Proofs.YtnifgokjagahfaaDoor.Msg Go.Proofs.YtnifgokjagahfaaDoor.Put Go.Proofs.YtnifgokjagahfaaDoor.EncPure
theorem head_out {f t i : Int} (h : ¬ (wi f 65535 && (wi t 65535 && wi i 9007199254740992)) = true) :
    f < 0 ∨ (0 ≤ f ∧ 65535 < f) ∨ (0 ≤ f ∧ f ≤ 65535 ∧ t < 0) ∨ (0 ≤ f ∧ f ≤ 65535 ∧ 0 ≤ t ∧ 65535 < t) ∨ (0 ≤ f ∧ f ≤ 65535 ∧ 0 ≤ t ∧ t ≤ 65535 ∧ i < 0) ∨ (0 ≤ f ∧ f ≤ 65535 ∧ 0 ≤ t ∧ t ≤ 65535 ∧ 0 ≤ i ∧ 9007199254740992 < i) := by
  by_cases h1 : 0 ≤ f ∧ f ≤ 65535
  · by_cases h2 : 0 ≤ t ∧ t ≤ 65535
    · by_cases h3 : 0 ≤ i ∧ i ≤ 9007199254740992
      · rw [wi_mk h1, wi_mk h2, wi_mk h3] at h; exact absurd rfl h
      · omega
    · omega
  · omega
theorem fit_need (m : M) (kk f : Nat) (h : m.kind = (kk : Int)) : fitB kk f (numOf m f) (mostOf f) = wi (numOf m f) (needOf m f) := by
  unfold fitB needOf hasB
  rw [h, Int.toNat_natCast]
set_option maxRecDepth 100000 in
set_option maxHeartbeats 8000000 in
theorem rvalid_any (m : M) (w : World) (hk : 1 ≤ m.kind ∧ m.kind < 17) (hR : RTab w) (hmx : m.key.size ≤ 9223372036854775807 ∧ m.value.size ≤ 9223372036854775807) : Calls Tryd.prog 40 #[.agg (mL m).toArray] w fun e w' => e = .returned (.bool (vB m)) ∧ Below w.heap.size w w' := by
  obtain ⟨kk, hkk⟩ : ∃ kk : Nat, m.kind = (kk : Int) := ⟨m.kind.toNat, by omega⟩
  have hkl : kk < 17 := by omega
  have HV := Lib.hid (show vB m = (wi m.from_ 65535 && (wi m.to_ 65535 && (wi m.id 9007199254740992 && vTo m 7))) from rfl)
  have HB := Aside0.mk ((Below.refl w.heap.size w).alloc (Nat.le_refl _) (.cells (mL m).toArray 24))
  have HM : Aside0 (MBox (w.alloc (.cells (mL m).toArray 24)) w.heap.size m) := ⟨⟨Go.heap_alloc_new w _, by simp⟩⟩
  have hR1 := hR.below HB.out
  generalize hwa : w.alloc (.cells (mL m).toArray 24) = wa at HB HM hR1
  have HWA := Lib.hid hwa
  have hc0 : wa.cell? ⟨w.heap.size, 0, none⟩ = some (.int .i64 (kk : Int)) := by rw [← hkk]; exact HM.out.c 0
  have hc1 : wa.cell? ⟨w.heap.size, 1, none⟩ = some (.int .i64 m.from_) := HM.out.c 1
  have hc2 : wa.cell? ⟨w.heap.size, 2, none⟩ = some (.int .i64 m.to_) := HM.out.c 2
  have hc3 : wa.cell? ⟨w.heap.size, 3, none⟩ = some (.int .i64 m.id) := HM.out.c 3
  have hc4 : wa.cell? ⟨w.heap.size, 4, none⟩ = some (.int .i64 m.epoch) := HM.out.c 4
  have hc5 : wa.cell? ⟨w.heap.size, 5, none⟩ = some (.int .i64 m.seq) := HM.out.c 5
  have hc6 : wa.cell? ⟨w.heap.size, 6, none⟩ = some (.int .i64 m.version) := HM.out.c 6
  have hc7 : wa.cell? ⟨w.heap.size, 7, none⟩ = some (.int .i64 m.prev) := HM.out.c 7
  have hc8 : wa.cell? ⟨w.heap.size, 8, none⟩ = some (.int .i64 m.code) := HM.out.c 8
  have hc9 : wa.cell? ⟨w.heap.size, 9, none⟩ = some (.string m.key) := HM.out.c 9
  have hc10 : wa.cell? ⟨w.heap.size, 10, none⟩ = some (.string m.value) := HM.out.c 10
  have kv := fits_any kk 2 m.version 9007199254740992 wa hkl (by decide) hR1
  have kp := fits_any kk 3 m.prev 9007199254740992 wa hkl (by decide) hR1
  have ke := fits_any kk 0 m.epoch 9007199254740992 wa hkl (by decide) hR1
  have ks := fits_any kk 1 m.seq 9007199254740992 wa hkl (by decide) hR1
  have kc := fits_any kk 4 m.code 65535 wa hkl (by decide) hR1
  have kk5 := textFits_any kk 5 m.key 255 wa hkl (by decide) hR1 hmx.1
  have kw := textFits_any kk 6 m.value 4096 wa hkl (by decide) hR1 hmx.2
  have e0 : fitB kk 0 m.epoch 9007199254740992 = wi (numOf m 0) (needOf m 0) := fit_need m kk 0 hkk
  have e1 : fitB kk 1 m.seq 9007199254740992 = wi (numOf m 1) (needOf m 1) := fit_need m kk 1 hkk
  have e2 : fitB kk 2 m.version 9007199254740992 = wi (numOf m 2) (needOf m 2) := fit_need m kk 2 hkk
  have e3 : fitB kk 3 m.prev 9007199254740992 = wi (numOf m 3) (needOf m 3) := fit_need m kk 3 hkk
  have e4 : fitB kk 4 m.code 65535 = wi (numOf m 4) (needOf m 4) := fit_need m kk 4 hkk
  have e5 : fitB kk 5 m.key.size ((255 : Nat) : Int) = wi (numOf m 5) (needOf m 5) := fit_need m kk 5 hkk
  have e6 : fitB kk 6 m.value.size ((4096 : Nat) : Int) = wi (numOf m 6) (needOf m 6) := fit_need m kk 6 hkk
  have hT : vTo m 7 = (((((((true && wi (numOf m 0) (needOf m 0)) && wi (numOf m 1) (needOf m 1)) && wi (numOf m 2) (needOf m 2)) && wi (numOf m 3) (needOf m 3)) && wi (numOf m 4) (needOf m 4)) && wi (numOf m 5) (needOf m 5)) && wi (numOf m 6) (needOf m 6)) := rfl
  rw [e0] at ke; rw [e1] at ks; rw [e2] at kv; rw [e3] at kp; rw [e4] at kc; rw [e5] at kk5; rw [e6] at kw
  generalize wi (numOf m 0) (needOf m 0) = b0 at ke hT
  generalize wi (numOf m 1) (needOf m 1) = b1 at ks hT
  generalize wi (numOf m 2) (needOf m 2) = b2 at kv hT
  generalize wi (numOf m 3) (needOf m 3) = b3 at kp hT
  generalize wi (numOf m 4) (needOf m 4) = b4 at kc hT
  generalize wi (numOf m 5) (needOf m 5) = b5 at kk5 hT
  generalize wi (numOf m 6) (needOf m 6) = b6 at kw hT
  have KV := Lib.hid kv
  have KP := Lib.hid kp
  have KE := Lib.hid ke
  have KS := Lib.hid ks
  have KC := Lib.hid kc
  have KK := Lib.hid kk5
  have KW := Lib.hid kw
  have HT := Lib.hid hT
  have HH := Aside0.mk (fun h => head_out (f := m.from_) (t := m.to_) (i := m.id) h)
  clear kv kp ke ks kc kk5 kw e0 e1 e2 e3 e4 e5 e6 hT hR hR1 hmx hk hkk HM
  by_cases hh : (wi m.from_ 65535 && (wi m.to_ 65535 && wi m.id 9007199254740992)) = true
  · have hx : (0 ≤ m.from_ ∧ m.from_ ≤ 65535) ∧ (0 ≤ m.to_ ∧ m.to_ ≤ 65535) ∧ (0 ≤ m.id ∧ m.id ≤ 9007199254740992) := by
      simp only [Bool.and_eq_true] at hh
      exact ⟨wi_of hh.1, wi_of hh.2.1, wi_of hh.2.2⟩
    obtain ⟨⟨a1, a2⟩, ⟨a3, a4⟩, a5, a6⟩ := hx
    have HX : Aside0 (vB m = vTo m 7) := ⟨by rw [HV.out, wi_mk ⟨a1, a2⟩, wi_mk ⟨a3, a4⟩, wi_mk ⟨a5, a6⟩]; simp⟩
    generalize vB m = r at HX HV ⊢
    clear hh HH
    go_enter Tryd.func40, Tryd.ntmps40
    go_wp2_with fail
    refine KV.out.mono ?_
    rintro e w' ⟨rfl, rfl⟩
    go_wp2_with fail
    refine KP.out.mono ?_
    rintro e w' ⟨rfl, rfl⟩
    go_wp2_with fail
    refine KE.out.mono ?_
    rintro e w' ⟨rfl, rfl⟩
    go_wp2_with fail
    refine KS.out.mono ?_
    rintro e w' ⟨rfl, rfl⟩
    go_wp2_with fail
    refine KC.out.mono ?_
    rintro e w' ⟨rfl, rfl⟩
    go_wp2_with fail
    refine KK.out.mono ?_
    rintro e w' ⟨rfl, rfl⟩
    go_wp2_with fail
    refine KW.out.mono ?_
    rintro e w' ⟨rfl, rfl⟩
    cases b2
    · go_wp2
      go_ret
      exact ⟨by rw [HX.out, HT.out]; simp, HB.out⟩
    cases b3
    · go_wp2
      go_ret
      exact ⟨by rw [HX.out, HT.out]; simp, HB.out⟩
    cases b0
    · go_wp2
      go_ret
      exact ⟨by rw [HX.out, HT.out]; simp, HB.out⟩
    cases b1
    · go_wp2
      go_ret
      exact ⟨by rw [HX.out, HT.out]; simp, HB.out⟩
    cases b4
    · go_wp2
      go_ret
      exact ⟨by rw [HX.out, HT.out]; simp, HB.out⟩
    cases b5
    · go_wp2
      go_ret
      exact ⟨by rw [HX.out, HT.out]; simp, HB.out⟩
    cases b6
    · go_wp2
      go_ret
      exact ⟨by rw [HX.out, HT.out]; simp, HB.out⟩
    go_wp2
    go_ret
    exact ⟨by rw [HX.out, HT.out]; rfl, HB.out⟩
  · have HF : Aside0 (vB m = false) := ⟨by
      rw [HV.out]
      cases h1 : wi m.from_ 65535 <;> cases h2 : wi m.to_ 65535 <;> cases h3 : wi m.id 9007199254740992 <;> simp [h1, h2, h3] at hh ⊢⟩
    have hd := HH.out hh
    generalize vB m = r at HF HV ⊢
    clear hh HH KV KP KE KS KC KK KW HT
    rcases hd with a1 | ⟨a1, a2⟩ | ⟨a1, a2, a3⟩ | ⟨a1, a2, a3, a4⟩ | ⟨a1, a2, a3, a4, a5⟩ | ⟨a1, a2, a3, a4, a5, a6⟩ <;>
      (go_enter Tryd.func40, Tryd.ntmps40
       go_wp2
       go_ret
       exact ⟨by rw [HF.out]; rfl, HB.out⟩)
end Go.Proofs.YtnifgokjagahfaaDoor.RefF

/- The document's digits, CRC and sum: of the frame. -/
set_option linter.unusedVariables false
set_option linter.unusedSimpArgs false
namespace Go.Proofs.YtnifgokjagahfaaDoor.RefSum
open Go.RowKit Go.Proofs.YtnifgokjagahfaaDoorW.PrintWords Go.Proofs.YtnifgokjagahfaaDoorW.PrintLast Go.Proofs.YtnifgokjagahfaaDoorW.PrintMore
open Go.Proofs.YtnifgokjagahfaaDoor.Base Go.Proofs.YtnifgokjagahfaaDoor.CrcPure Go.Proofs.YtnifgokjagahfaaDoor.Crc Go.Proofs.YtnifgokjagahfaaDoor.Put Go.Proofs.YtnifgokjagahfaaDoor.EncPure Go.Proofs.YtnifgokjagahfaaDoor.DecPure Go.Proofs.YtnifgokjagahfaaDoor.PFrameDecodes
/- the document's CRC -/
theorem step_f (x : Nat) (h : x < 4294967296) : granaryref2_step.f (x : Int) = some ((CrcPure.step x : Nat) : Int) := by
  unfold granaryref2_step.f CrcPure.step
  have e1 : Int.tmod (x : Int) 2 = (x : Int) % 2 := Int.tmod_eq_emod_of_nonneg (by omega)
  have e2 : Int.tdiv (x : Int) 2 = (x : Int) / 2 := Int.tdiv_eq_ediv_of_nonneg (by omega)
  rw [e1, e2, w64 _ (by omega) (by omega)]
  by_cases h0 : x % 2 = 0
  · rw [if_pos (by omega), if_pos h0]; simp
  · rw [if_neg (by omega), if_neg h0]
    have := i64_xor_nat (x / 2) 3988292384 (by omega) (by decide)
    rw [show ((x / 2 : Nat) : Int) = (x : Int) / 2 by omega] at this
    exact congrArg some this
theorem crc_ev (s : ByteArray) (hs : s.size ≤ 1073741824) (d : Nat) : ∀ (i x : Nat), i ≤ s.size → s.size - i = d → x < 4294967296 →
    Ev (fun k => granaryref2_CRC.l0 k s (x : Nat) i) ((run x (s.data.toList.drop i) ^^^ top : Nat) : Int) := by
  induction d with
  | zero =>
    intro i x h1 hd hx
    obtain rfl : i = s.size := by omega
    refine Ev.step (f := fun _ => some _) (fun k => ?_) (Ev.now _)
    simp only [granaryref2_CRC.l0]; rw [if_neg (by omega)]
    have := i64_xor_nat x 4294967295 (by omega) (by decide)
    rw [List.drop_of_length_le (by rw [data_length]; exact Nat.le_refl _)]
    exact congrArg some this
  | succ d ih =>
    intro i x h1 hd hx
    have hi : i < s.size := by omega
    have hc := s[i].toNat_lt
    have hy : x ^^^ s[i].toNat < 4294967296 := Nat.xor_lt_two_pow (n := 32) hx (by omega)
    have inner : ∀ (e j y : Nat), j ≤ 8 → 8 - j = e → y < 4294967296 → steps e y = byteStep x s[i].toNat → Ev (fun k => granaryref2_CRC.l1 k s (y : Nat) i j) ((run x (s.data.toList.drop i) ^^^ top : Nat) : Int) := by
      intro e
      induction e with
      | zero =>
        intro j y h3 h4 hy he
        obtain rfl : j = 8 := by omega
        have ih := ih (i + 1) y (by omega) (by omega) hy
        have e1 : s.data.toList.drop i = s[i] :: s.data.toList.drop (i + 1) := by
          rw [List.drop_eq_getElem_cons (by rw [data_length]; exact hi)]; rfl
        have e2 : run x (s.data.toList.drop i) = run y (s.data.toList.drop (i + 1)) := by
          rw [e1]; show run (byteStep x s[i].toNat) _ = _
          rw [← he]; rfl
        rw [e2]
        refine Ev.step (fun k => ?_) ih
        simp only [granaryref2_CRC.l1]
        rw [if_neg (by omega), w64 _ (by omega) (by omega)]
        rfl
      | succ e ihe =>
        intro j y h3 h4 hy he
        refine Ev.step (fun k => ?_) (ihe (j + 1) (CrcPure.step y) (by omega) (by omega) (step_lt hy) he)
        simp only [granaryref2_CRC.l1]
        rw [if_pos (by omega), step_f y hy, Option.bind_some, w64 _ (by omega) (by omega)]
        rfl
    refine Ev.step (fun k => ?_) (inner 8 0 (x ^^^ s[i].toNat) (by omega) (by omega) hy rfl)
    simp only [granaryref2_CRC.l0]
    rw [if_pos (by omega), if_pos (by omega), bt_nat s i hi, w64 _ (by omega) (by omega), i64_xor_nat x s[i].toNat (by omega) (by omega)]
    rfl
theorem crc_f (s : ByteArray) (hs : s.size ≤ 1073741824) : ∃ k, granaryref2_CRC.f k s = some ((crc s.data.toList : Nat) : Int) := by
  obtain ⟨k, hk⟩ := (crc_ev s hs s.size 0 top (by omega) (by omega) (by decide)).rounds
  exact ⟨k, hk⟩
theorem be_get (N : Int) (wd i : Nat) (h : i < wd) : (be N wd)[wd - 1 - i]? = some (N / 2 ^ (8 * i) % 256) := by
  unfold be beTo
  rw [List.getElem?_map, List.getElem?_range (by omega)]
  have e : wd - 1 - (wd - 1 - i) = i := by omega
  simp [e]
def dig (N : Int) (wd i : Nat) : List Int := List.replicate (wd - i) 0 ++ (be N wd).drop (wd - i)
theorem dig_length (N : Int) (wd i : Nat) (h : i ≤ wd) : (dig N wd i).length = wd := by
  unfold dig; rw [List.length_append, List.length_replicate, List.length_drop, be_length]; omega
theorem dig_next (N : Int) (wd i : Nat) (h : i < wd) : (dig N wd i).set (wd - 1 - i) (N / 2 ^ (8 * i) % 256) = dig N wd (i + 1) := by
  unfold dig
  have e1 : wd - i = (wd - 1 - i) + 1 := by omega
  have e2 : wd - (i + 1) = wd - 1 - i := by omega
  have hl : wd - 1 - i < (be N wd).length := by rw [be_length]; omega
  rw [e2, List.drop_eq_getElem_cons hl, e1, List.replicate_succ', List.append_assoc]
  have hg : (be N wd)[wd - 1 - i] = N / 2 ^ (8 * i) % 256 := by
    have := be_get N wd i h
    rw [List.getElem?_eq_getElem hl] at this
    exact Option.some.inj this
  rw [hg, List.set_append_right _ _ (by simp)]
  simp
theorem pow8 (N : Int) (i : Nat) : N / 2 ^ (8 * i) / 256 = N / 2 ^ (8 * (i + 1)) := by
  have e : (2 : Int) ^ (8 * (i + 1)) = 2 ^ (8 * i) * 256 := by
    rw [show 8 * (i + 1) = 8 * i + 8 by omega, Int.pow_add]; rfl
  rw [e, Int.ediv_ediv_of_nonneg (Int.le_of_lt (Int.pow_pos (by decide)))]
theorem digits_l (N : Int) (wd : Nat) (hN : 0 ≤ N) (hN1 : N ≤ 9007199254740992) (hw : wd ≤ 8) (d : Nat) : ∀ (i k : Nat), i ≤ wd → wd - i = d → d < k → granaryref5_digits.l0 k (N / 2 ^ (8 * i)) wd (dig N wd i) i = some (strOfNums (be N wd)) := by
  induction d with
  | zero =>
    intro i k hi hd hk
    obtain ⟨k, rfl⟩ : ∃ m, k = m + 1 := ⟨k - 1, by omega⟩
    obtain rfl : i = wd := by omega
    simp only [granaryref5_digits.l0]
    rw [if_neg (by omega)]
    unfold dig
    simp
  | succ d ih =>
    intro i k hi hd hk
    obtain ⟨k, rfl⟩ : ∃ m, k = m + 1 := ⟨k - 1, by omega⟩
    have h0 : 0 ≤ N / 2 ^ (8 * i) := Int.ediv_nonneg hN (Int.le_of_lt (Int.pow_pos (by decide)))
    have h1 : N / 2 ^ (8 * i) ≤ N := Int.ediv_le_self _ hN
    have hi' := ih (i + 1) k (by omega) (by omega) (by omega)
    rw [← pow8, ← dig_next N wd i (by omega)] at hi'
    have hl := dig_length N wd i (by omega)
    have c1 : (i : Int) < (wd : Int) := by omega
    have c2 : (0 : Int) ≤ (wd : Int) - 1 - (i : Int) := by omega
    have c3 : (wd : Int) - 1 - (i : Int) < ((dig N wd i).length : Int) := by rw [hl]; omega
    have c4 : ((wd : Int) - 1 - (i : Int)).toNat = wd - 1 - i := by omega
    have c5 : (i : Int) + 1 = ((i + 1 : Nat) : Int) := by omega
    have B1 : -9223372036854775808 ≤ (wd : Int) - 1 ∧ (wd : Int) - 1 ≤ 9223372036854775807 := by omega
    have B2 : -9223372036854775808 ≤ (wd : Int) - 1 - (i : Int) ∧ (wd : Int) - 1 - (i : Int) ≤ 9223372036854775807 := by omega
    have B3 : -9223372036854775808 ≤ (i : Int) + 1 ∧ (i : Int) + 1 ≤ 9223372036854775807 := by omega
    generalize N / 2 ^ (8 * i) = x at h0 h1 hi' ⊢
    have B4 : -9223372036854775808 ≤ x / 256 ∧ x / 256 ≤ 9223372036854775807 := by omega
    have e4 : Int.tdiv x 256 = x / 256 := Int.tdiv_eq_ediv_of_nonneg h0
    have e5 : Int.tmod x 256 = x % 256 := Int.tmod_eq_emod_of_nonneg h0
    have e1 : wrap64 ((wd : Int) - 1) = (wd : Int) - 1 := w64 _ B1.1 B1.2
    have e2 : wrap64 ((wd : Int) - 1 - (i : Int)) = (wd : Int) - 1 - (i : Int) := w64 _ B2.1 B2.2
    have e3 : wrap64 ((i : Int) + 1) = ((i + 1 : Nat) : Int) := by rw [w64 _ B3.1 B3.2]; exact c5
    have e6 : wrap64 (x / 256) = x / 256 := w64 _ B4.1 B4.2
    have e7 : x % 256 % 256 = x % 256 := Int.emod_emod_of_dvd _ (by decide)
    simp only [granaryref5_digits.l0]
    rw [if_pos c1, e1, e2, if_pos c2, if_pos c3, e4, e5, e6, e7, c4, e3]
    exact hi'
theorem digits_f (N : Int) (wd : Nat) (hN : 0 ≤ N) (hN1 : N ≤ 9007199254740992) (hw : wd ≤ 8) : granaryref5_digits.f 9 N wd = some (strOfNums (be N wd)) := by
  unfold granaryref5_digits.f
  rw [if_pos (by omega), if_pos (by omega)]
  have h := digits_l N wd hN hN1 hw wd 0 9 (by omega) (by omega) (by omega)
  have e : dig N wd 0 = List.replicate wd 0 := by
    unfold dig
    rw [Nat.sub_zero, List.drop_of_length_le (by rw [be_length]; exact Nat.le_refl _), List.append_nil]
  rw [e] at h
  have e2 : N / 2 ^ (8 * 0) = N := by simp
  rw [e2] at h
  rw [Int.toNat_natCast]
  exact h
theorem digits_any (N : Int) (wd : Nat) (w : World) (hN : 0 ≤ N) (hN1 : N ≤ 9007199254740992) (hw : wd ≤ 8) : Calls Tryd.prog 42 #[.int .i64 N, .int .i64 (wd : Int)] w fun e w' => e = .returned (.string (strOfNums (be N wd))) ∧ Below w.heap.size w w' :=
  granaryref5_digits.calls 9 N wd _ w (digits_f N wd hN hN1 hw)
theorem rsum_f (s : ByteArray) (hs : s.size ≤ 1073741824) : ∃ k, granaryref5_sum.f k s = some (strOfNums (sumL (bytesOf s))) := by
  obtain ⟨k, hk⟩ := crc_f s hs
  refine ⟨k, ?_⟩
  unfold granaryref5_sum.f
  rw [hk, Option.bind_some]
  have hlt := crc_lt s.data.toList
  have e : sumL (bytesOf s) = le4 (crc s.data.toList) := by unfold sumL; rw [strOfNums_bytesOf]
  rw [e]
  generalize crc s.data.toList = x at hlt
  unfold le4
  have h0 : (0 : Int) ≤ (x : Int) := by omega
  have d1 : Int.tdiv (x : Int) 256 = (x : Int) / 256 := Int.tdiv_eq_ediv_of_nonneg h0
  have d2 : Int.tdiv (x : Int) 65536 = (x : Int) / 65536 := Int.tdiv_eq_ediv_of_nonneg h0
  have d3 : Int.tdiv (x : Int) 16777216 = (x : Int) / 16777216 := Int.tdiv_eq_ediv_of_nonneg h0
  have w1 : wrap64 ((x : Int) / 256) = (x : Int) / 256 := w64 _ (by omega) (by omega)
  have w2 : wrap64 ((x : Int) / 65536) = (x : Int) / 65536 := by clear w1; exact w64 _ (by omega) (by omega)
  have w3 : wrap64 ((x : Int) / 16777216) = (x : Int) / 16777216 := by clear w1 w2; exact w64 _ (by omega) (by omega)
  rw [d1, d2, d3, w1, w2, w3]
  clear w1 w2 w3 d1 d2 d3
  have m0 : Int.tmod (x : Int) 256 = (x : Int) % 256 := Int.tmod_eq_emod_of_nonneg h0
  have m1 : Int.tmod ((x : Int) / 256) 256 = ((x : Int) / 256) % 256 := Int.tmod_eq_emod_of_nonneg (by omega)
  have m2 : Int.tmod ((x : Int) / 65536) 256 = ((x : Int) / 65536) % 256 := Int.tmod_eq_emod_of_nonneg (by omega)
  have m3 : Int.tmod ((x : Int) / 16777216) 256 = ((x : Int) / 16777216) % 256 := Int.tmod_eq_emod_of_nonneg (by omega)
  rw [m0, m1, m2, m3]
  clear m0 m1 m2 m3
  have q0 : (x : Int) % 256 % 256 = ((x % 256 : Nat) : Int) := by omega
  have q1 : (x : Int) / 256 % 256 % 256 = ((x / 256 % 256 : Nat) : Int) := by omega
  have q2 : (x : Int) / 65536 % 256 % 256 = ((x / 65536 % 256 : Nat) : Int) := by omega
  have q3 : (x : Int) / 16777216 % 256 % 256 = ((x / 16777216 % 256 : Nat) : Int) := by omega
  rw [q0, q1, q2, q3]
theorem rsum_any (s : ByteArray) (w : World) (hs : s.size ≤ 1073741824) : Calls Tryd.prog 43 #[.string s] w fun e w' => e = .returned (.string (strOfNums (sumL (bytesOf s)))) ∧ Below w.heap.size w w' := by
  obtain ⟨k, hk⟩ := rsum_f s hs
  exact granaryref5_sum.calls k s _ w hk
end Go.Proofs.YtnifgokjagahfaaDoor.RefSum

/- The document's body. -/
set_option linter.unusedVariables false
set_option linter.unusedSimpArgs false
namespace Go.Proofs.YtnifgokjagahfaaDoor.RefF
open Go.RowKit Go.Proofs.YtnifgokjagahfaaDoorW.PrintWords Go.Proofs.YtnifgokjagahfaaDoorW.PrintLast Go.Proofs.YtnifgokjagahfaaDoorW.PrintMore
open Go.Proofs.YtnifgokjagahfaaDoor.Base Go.Proofs.YtnifgokjagahfaaDoor.App Go.Proofs.YtnifgokjagahfaaDoor.Layouts Go.Proofs.YtnifgokjagahfaaDoor.Msg Go.Proofs.YtnifgokjagahfaaDoor.Put Go.Proofs.YtnifgokjagahfaaDoor.EncPure Go.Proofs.YtnifgokjagahfaaDoor.DecPure Go.Proofs.YtnifgokjagahfaaDoor.RefSum
theorem strOfNums_nil : strOfNums [] = (⟨#[]⟩ : ByteArray) := rfl
theorem body_text (m : M) (fs : List Nat) (j n : Nat) (h : fs[j]? = some n) : strOfNums (bodyB m (fs.take (j + 1))) = strOfNums (bodyB m (fs.take j)) ++ strOfNums (fieldB m n) := by
  rw [Enc.body_snoc m fs j n h, Enc.strOfNums_append]
theorem field_num (m : M) (n : Nat) (h : n < 5) : strOfNums (fieldB m n) = strOfNums (be (numOf m n) (wN n)) := by
  unfold fieldB; rw [textOf_num m n h, List.append_nil]
theorem field_key (m : M) : strOfNums (fieldB m 5) = strOfNums (be m.key.size 2) ++ m.key := by
  show strOfNums (be (numOf m 5) 2 ++ bytesOf m.key) = _
  rw [Enc.strOfNums_append, strOfNums_bytesOf]; rfl
theorem field_value (m : M) : strOfNums (fieldB m 6) = strOfNums (be m.value.size 4) ++ m.value := by
  show strOfNums (be (numOf m 6) 4 ++ bytesOf m.value) = _
  rw [Enc.strOfNums_append, strOfNums_bytesOf]; rfl
set_option maxRecDepth 100000 in
set_option maxHeartbeats 8000000 in
theorem rbody_any (m : M) (w : World) (hk : 1 ≤ m.kind ∧ m.kind < 17) (hv : vB m = true) (hR : RTab w) : Calls Tryd.prog 41 #[.agg (mL m).toArray] w fun e w' => e = .returned (.string (strOfNums (bodyB m (fieldsOf m.kind.toNat)))) ∧ Below w.heap.size w w' := by
  have HL := Aside0.mk (body_length_le m hv hk)
  obtain ⟨kk, hkk⟩ : ∃ kk : Nat, m.kind = (kk : Int) := ⟨m.kind.toNat, by omega⟩
  have hkl : kk < 17 := by omega
  have hkk17 : (kk : Int) < 17 := by omega
  have HB := Aside0.mk ((Below.refl w.heap.size w).alloc (Nat.le_refl _) (.cells (mL m).toArray 24))
  have HM : Aside0 (MBox (w.alloc (.cells (mL m).toArray 24)) w.heap.size m) := ⟨⟨Go.heap_alloc_new w _, by simp⟩⟩
  have hR1 := hR.below HB.out
  generalize hwa : w.alloc (.cells (mL m).toArray 24) = wa at HB HM hR1
  have hc0 : wa.cell? ⟨w.heap.size, 0, none⟩ = some (.int .i64 (kk : Int)) := by rw [← hkk]; exact HM.out.c 0
  have hct := hR1.cell kk hkl
  have hsz := fstr_size kk
  have hat := fun j n hn h => fstr_at kk j n hkl hn h
  have HI := Aside0.mk (fun j n => fields_lt kk hkl j n)
  have h6 := fields_len kk hkl
  have HF := Aside0.mk (vB_facts m hv).2.2.2
  have ek : m.kind.toNat = kk := by rw [hkk, Int.toNat_natCast]
  rw [ek] at HL ⊢
  generalize fieldsOf kk = fs at hsz hat h6 HI HL ⊢
  generalize fstr kk = S at hct hsz hat
  have HS := Aside0.mk hsz
  have HA := Aside0.mk hat
  have h6' : S.size ≤ 6 := by omega
  clear hsz hat hR hR1 h6 hk hkk hv
  go_enter Tryd.func41, Tryd.ntmps41
  go_wp2
  have hwl : w.heap.size < wa.heap.size := HM.out.lt
  have HBA := Aside0.mk (Below.refl wa.heap.size wa)
  clear hwa hc0 hct
  go_loopw [4, 5, 6] (fun bv iv _ wr => ∃ j : Nat, j ≤ S.size ∧ iv = .int .i64 (j : Int) ∧ bv = .string (strOfNums (bodyB m (fs.take j))) ∧ Aside0 (Below wa.heap.size wa wr)) (fun _ iv _ _ => 7 - (intOf iv).toNat)
  case atStart => exact ⟨0, Nat.zero_le _, rfl, rfl, HBA⟩
  case round =>
    clear HBA
    obtain ⟨j, hj, rfl, rfl, HBR⟩ := hrel
    obtain ⟨wo, rfl⟩ : ∃ wo : World, wo = wr := ⟨_, rfl⟩
    by_cases hlt : j < S.size
    · obtain ⟨n, hn⟩ : ∃ n, fs[j]? = some n := ⟨_, List.getElem?_eq_getElem (by rw [← HS.out]; exact hlt)⟩
      have ha := HA.out j n hn hlt
      have hn7 := HI.out j n hn
      have HX := Lib.hid (body_text m fs j n hn)
      have z1 : (strOfNums (bodyB m (fs.take j))).size ≤ 5000 := by
        rw [strOfNums_size]
        have := Enc.body_take_le m fs j
        have := HL.out
        omega
      have hnm := HF.out n hn7
      have HMo := Aside0.mk (HM.out.below HBR.out hwl)
      generalize strOfNums (bodyB m (fs.take j)) = X at HX z1 ⊢
      clear hn
      have e : n = 0 ∨ n = 1 ∨ n = 2 ∨ n = 3 ∨ n = 4 ∨ n = 5 ∨ n = 6 := by omega
      rcases e with e | e | e | e | e | e | e <;> subst e
      · have hc : wo.cell? ⟨w.heap.size, 4, none⟩ = some (.int .i64 m.epoch) := HMo.out.c 4
        have hn1 : 0 ≤ m.epoch := hnm.1
        have hn2 : m.epoch ≤ 9007199254740992 := hnm.2
        have KD := Lib.hid (digits_any m.epoch 8 wo hn1 (by omega) (by decide))
        have ha' : (S[j]'hlt).toNat = 69 := ha
        have z2 : (strOfNums (be m.epoch 8)).size = 8 := by rw [strOfNums_size, be_length]
        have HY : Aside0 (strOfNums (bodyB m (fs.take (j + 1))) = X ++ strOfNums (be m.epoch 8)) := ⟨by rw [HX.out, field_num m 0 (by decide)]; rfl⟩
        clear ha hnm HX
        generalize strOfNums (be m.epoch 8) = D at KD z2 HY
        have z3 : D.size ≤ 8 := by omega
        clear z2
        go_wp2_with fail
        refine KD.out.mono ?_
        rintro e w2 ⟨rfl, hb⟩
        have HB2 := Aside0.mk (HBR.out.trans (hb.mono HBR.out.size))
        clear hb KD hc
        go_wp2
        go_roundw
        case rel => exact ⟨j + 1, by omega, by go_num, by rw [HY.out], HB2⟩
        case measure => simp [intOf]; omega
      · have hc : wo.cell? ⟨w.heap.size, 5, none⟩ = some (.int .i64 m.seq) := HMo.out.c 5
        have hn1 : 0 ≤ m.seq := hnm.1
        have hn2 : m.seq ≤ 9007199254740992 := hnm.2
        have KD := Lib.hid (digits_any m.seq 8 wo hn1 (by omega) (by decide))
        have ha' : (S[j]'hlt).toNat = 83 := ha
        have z2 : (strOfNums (be m.seq 8)).size = 8 := by rw [strOfNums_size, be_length]
        have HY : Aside0 (strOfNums (bodyB m (fs.take (j + 1))) = X ++ strOfNums (be m.seq 8)) := ⟨by rw [HX.out, field_num m 1 (by decide)]; rfl⟩
        clear ha hnm HX
        generalize strOfNums (be m.seq 8) = D at KD z2 HY
        have z3 : D.size ≤ 8 := by omega
        clear z2
        go_wp2_with fail
        refine KD.out.mono ?_
        rintro e w2 ⟨rfl, hb⟩
        have HB2 := Aside0.mk (HBR.out.trans (hb.mono HBR.out.size))
        clear hb KD hc
        go_wp2
        go_roundw
        case rel => exact ⟨j + 1, by omega, by go_num, by rw [HY.out], HB2⟩
        case measure => simp [intOf]; omega
      · have hc : wo.cell? ⟨w.heap.size, 6, none⟩ = some (.int .i64 m.version) := HMo.out.c 6
        have hn1 : 0 ≤ m.version := hnm.1
        have hn2 : m.version ≤ 9007199254740992 := hnm.2
        have KD := Lib.hid (digits_any m.version 8 wo hn1 (by omega) (by decide))
        have ha' : (S[j]'hlt).toNat = 86 := ha
        have z2 : (strOfNums (be m.version 8)).size = 8 := by rw [strOfNums_size, be_length]
        have HY : Aside0 (strOfNums (bodyB m (fs.take (j + 1))) = X ++ strOfNums (be m.version 8)) := ⟨by rw [HX.out, field_num m 2 (by decide)]; rfl⟩
        clear ha hnm HX
        generalize strOfNums (be m.version 8) = D at KD z2 HY
        have z3 : D.size ≤ 8 := by omega
        clear z2
        go_wp2_with fail
        refine KD.out.mono ?_
        rintro e w2 ⟨rfl, hb⟩
        have HB2 := Aside0.mk (HBR.out.trans (hb.mono HBR.out.size))
        clear hb KD hc
        go_wp2
        go_roundw
        case rel => exact ⟨j + 1, by omega, by go_num, by rw [HY.out], HB2⟩
        case measure => simp [intOf]; omega
      · have hc : wo.cell? ⟨w.heap.size, 7, none⟩ = some (.int .i64 m.prev) := HMo.out.c 7
        have hn1 : 0 ≤ m.prev := hnm.1
        have hn2 : m.prev ≤ 9007199254740992 := hnm.2
        have KD := Lib.hid (digits_any m.prev 8 wo hn1 (by omega) (by decide))
        have ha' : (S[j]'hlt).toNat = 80 := ha
        have z2 : (strOfNums (be m.prev 8)).size = 8 := by rw [strOfNums_size, be_length]
        have HY : Aside0 (strOfNums (bodyB m (fs.take (j + 1))) = X ++ strOfNums (be m.prev 8)) := ⟨by rw [HX.out, field_num m 3 (by decide)]; rfl⟩
        clear ha hnm HX
        generalize strOfNums (be m.prev 8) = D at KD z2 HY
        have z3 : D.size ≤ 8 := by omega
        clear z2
        go_wp2_with fail
        refine KD.out.mono ?_
        rintro e w2 ⟨rfl, hb⟩
        have HB2 := Aside0.mk (HBR.out.trans (hb.mono HBR.out.size))
        clear hb KD hc
        go_wp2
        go_roundw
        case rel => exact ⟨j + 1, by omega, by go_num, by rw [HY.out], HB2⟩
        case measure => simp [intOf]; omega
      · have hc : wo.cell? ⟨w.heap.size, 8, none⟩ = some (.int .i64 m.code) := HMo.out.c 8
        have hn1 : 0 ≤ m.code := hnm.1
        have hn2 : m.code ≤ 65535 := hnm.2
        have KD := Lib.hid (digits_any m.code 2 wo hn1 (by omega) (by decide))
        have ha' : (S[j]'hlt).toNat = 67 := ha
        have z2 : (strOfNums (be m.code 2)).size = 2 := by rw [strOfNums_size, be_length]
        have HY : Aside0 (strOfNums (bodyB m (fs.take (j + 1))) = X ++ strOfNums (be m.code 2)) := ⟨by rw [HX.out, field_num m 4 (by decide)]; rfl⟩
        clear ha hnm HX
        generalize strOfNums (be m.code 2) = D at KD z2 HY
        have z3 : D.size ≤ 8 := by omega
        clear z2
        go_wp2_with fail
        refine KD.out.mono ?_
        rintro e w2 ⟨rfl, hb⟩
        have HB2 := Aside0.mk (HBR.out.trans (hb.mono HBR.out.size))
        clear hb KD hc
        go_wp2
        go_roundw
        case rel => exact ⟨j + 1, by omega, by go_num, by rw [HY.out], HB2⟩
        case measure => simp [intOf]; omega
      · have hc : wo.cell? ⟨w.heap.size, 9, none⟩ = some (.string m.key) := HMo.out.c 9
        have hn2 : (m.key.size : Int) ≤ 255 := hnm.2
        have KD := fun (w : World) => Lib.hid (digits_any m.key.size 2 w (by omega) (by omega) (by decide))
        have ha' : (S[j]'hlt).toNat = 75 := ha
        have z2 : (strOfNums (be m.key.size 2)).size = 2 := by rw [strOfNums_size, be_length]
        have HY : Aside0 (strOfNums (bodyB m (fs.take (j + 1))) = X ++ (strOfNums (be m.key.size 2) ++ m.key)) := ⟨by rw [HX.out, field_key]⟩
        clear ha hnm HX
        generalize strOfNums (be m.key.size 2) = D at KD z2 HY
        have z3 : D.size ≤ 8 := by omega
        have hwo : w.heap.size < wo.heap.size := Nat.lt_of_lt_of_le hwl HBR.out.size
        clear z2
        go_wp2_with fail
        go_region_with ((go_at_call 42; refine (KD _).out.mono ?_; rintro e w2 ⟨rfl, hb⟩; have hc2 : w2.cell? ⟨w.heap.size, 9, none⟩ = some (.string m.key) := (hb.cell (p := ⟨w.heap.size, 9, none⟩) hwo).trans hc; have HB2 := Aside0.mk hb; clear hb))
        all_goals
          have HB3 : Aside0 (Below wa.heap.size wa w2) := ⟨HBR.out.trans (Below.mono (⟨HB2.out.os, HB2.out.tape, HB2.out.output, HB2.out.size, HB2.out.block⟩ : Below wo.heap.size wo w2) HBR.out.size)⟩
          clear HB2
          go_wp2
          go_roundw
          case rel => exact ⟨j + 1, by omega, by go_num, by rw [HY.out], ⟨HB3.out.os, HB3.out.tape, HB3.out.output, HB3.out.size, HB3.out.block⟩⟩
          case measure => simp [intOf]; omega
      · have hc : wo.cell? ⟨w.heap.size, 10, none⟩ = some (.string m.value) := HMo.out.c 10
        have hn2 : (m.value.size : Int) ≤ 4096 := hnm.2
        have KD := fun (w : World) => Lib.hid (digits_any m.value.size 4 w (by omega) (by omega) (by decide))
        have ha' : (S[j]'hlt).toNat = 87 := ha
        have z2 : (strOfNums (be m.value.size 4)).size = 4 := by rw [strOfNums_size, be_length]
        have HY : Aside0 (strOfNums (bodyB m (fs.take (j + 1))) = X ++ (strOfNums (be m.value.size 4) ++ m.value)) := ⟨by rw [HX.out, field_value]⟩
        clear ha hnm HX
        generalize strOfNums (be m.value.size 4) = D at KD z2 HY
        have z3 : D.size ≤ 8 := by omega
        have hwo : w.heap.size < wo.heap.size := Nat.lt_of_lt_of_le hwl HBR.out.size
        clear z2
        go_wp2_with fail
        go_region_with ((go_at_call 42; refine (KD _).out.mono ?_; rintro e w2 ⟨rfl, hb⟩; have hc2 : w2.cell? ⟨w.heap.size, 10, none⟩ = some (.string m.value) := (hb.cell (p := ⟨w.heap.size, 10, none⟩) hwo).trans hc; have HB2 := Aside0.mk hb; clear hb))
        all_goals
          have HB3 : Aside0 (Below wa.heap.size wa w2) := ⟨HBR.out.trans (Below.mono (⟨HB2.out.os, HB2.out.tape, HB2.out.output, HB2.out.size, HB2.out.block⟩ : Below wo.heap.size wo w2) HBR.out.size)⟩
          clear HB2
          go_wp2
          go_roundw
          case rel => exact ⟨j + 1, by omega, by go_num, by rw [HY.out], ⟨HB3.out.os, HB3.out.tape, HB3.out.output, HB3.out.size, HB3.out.block⟩⟩
          case measure => simp [intOf]; omega
    · obtain rfl : j = S.size := by omega
      have ht : fs.take S.size = fs := by rw [HS.out, List.take_length]
      have HBE := Aside0.mk (HB.out.trans (HBR.out.mono HB.out.size))
      rw [ht]
      go_wp2
      go_ret
      exact ⟨rfl, HBE.out⟩
end Go.Proofs.YtnifgokjagahfaaDoor.RefF

/- The document's Encode. -/
set_option linter.unusedVariables false
set_option linter.unusedSimpArgs false
namespace Go.Proofs.YtnifgokjagahfaaDoor.RefF
open Go.RowKit Go.Proofs.YtnifgokjagahfaaDoorW.PrintWords Go.Proofs.YtnifgokjagahfaaDoorW.PrintLast Go.Proofs.YtnifgokjagahfaaDoorW.PrintMore
open Go.Proofs.YtnifgokjagahfaaDoor.Base Go.Proofs.YtnifgokjagahfaaDoor.App Go.Proofs.YtnifgokjagahfaaDoor.Layouts Go.Proofs.YtnifgokjagahfaaDoor.Msg Go.Proofs.YtnifgokjagahfaaDoor.Put Go.Proofs.YtnifgokjagahfaaDoor.EncPure Go.Proofs.YtnifgokjagahfaaDoor.DecPure Go.Proofs.YtnifgokjagahfaaDoor.RefSum Go.Proofs.YtnifgokjagahfaaDoor.Mids
theorem digits2 (N : Int) (w : World) (hN : 0 ≤ N) (hN1 : N ≤ 9007199254740992) (hw : 2 ≤ 8) : Calls Tryd.prog 42 #[.int .i64 N, .int .i64 2] w fun e w' => e = .returned (.string (strOfNums (be N 2))) ∧ Below w.heap.size w w' := digits_any N 2 w hN hN1 hw
theorem digits8 (N : Int) (w : World) (hN : 0 ≤ N) (hN1 : N ≤ 9007199254740992) (hw : 8 ≤ 8) : Calls Tryd.prog 42 #[.int .i64 N, .int .i64 8] w fun e w' => e = .returned (.string (strOfNums (be N 8))) ∧ Below w.heap.size w w' := digits_any N 8 w hN hN1 hw
theorem digits4 (N : Int) (w : World) (hN : 0 ≤ N) (hN1 : N ≤ 9007199254740992) (hw : 4 ≤ 8) : Calls Tryd.prog 42 #[.int .i64 N, .int .i64 4] w fun e w' => e = .returned (.string (strOfNums (be N 4))) ∧ Below w.heap.size w w' := digits_any N 4 w hN hN1 hw
theorem infoM : (Tryd.prog.info? 24).map (·.size) = some 11 := by kernel_rfl
theorem conv_of_blk {w : World} {b : Nat} {x : Int} (h : w.heap[b]? = some (.cells #[.int .u8 71, .int .u8 82, .int .u8 1, .int .u8 x] 5 (0, 0))) :
    (convert 82 9 (.slice (some ⟨b, 0, none⟩) 4 4)).run Tryd.prog w = .ok (.string (strOfNums [71, 82, 1, x])) w := by
  refine run_convert_bytes_arg (P := Tryd.prog) w 82 5 Tryd.underlying82 Tryd.underlying5 b 0 4 4 [71, 82, 1, x] rfl (fun i hi => ?_) 9 Tryd.underlying9
  have e : i = 0 ∨ i = 1 ∨ i = 2 ∨ i = 3 := by omega
  rw [Nat.zero_add, blk_cell h]
  rcases e with e | e | e | e <;> subst e <;> rfl
set_option maxRecDepth 100000 in
set_option maxHeartbeats 16000000 in
theorem renc_good (m : M) (w : World) (hk : 1 ≤ m.kind ∧ m.kind < 17) (hv : vB m = true) (hR : RTab w) : Calls Tryd.prog 14 #[.agg (mL m).toArray] w fun e w' => e = .returned (.tuple #[.string (strOfNums (whole m)), .int .i64 0]) ∧ Below w.heap.size w w' := by
  have HB0 := Aside0.mk ((Below.refl w.heap.size w).alloc (Nat.le_refl _) (.cells (mL m).toArray 24))
  have HM0 : Aside0 (MBox (w.alloc (.cells (mL m).toArray 24)) w.heap.size m) := ⟨⟨Go.heap_alloc_new w _, by simp⟩⟩
  have hR0 := hR.below HB0.out
  generalize hwa : w.alloc (.cells (mL m).toArray 24) = wa at HB0 HM0 hR0
  have hc0 : wa.cell? ⟨w.heap.size, 0, none⟩ = some (.int .i64 m.kind) := HM0.out.c 0
  have hrg0 := blk_range HM0.out.row
  have hk1 := hk.1
  have hk2 : ¬ m.kind > 16 := by omega
  have hk3 : ¬ m.kind < 1 := by omega
  have hkey : m.key.size ≤ 9223372036854775807 ∧ m.value.size ≤ 9223372036854775807 := by
    have h5 := (vB_facts m hv).2.2.2 5 (by decide)
    have h6 := (vB_facts m hv).2.2.2 6 (by decide)
    have e5 : numOf m 5 = m.key.size := rfl
    have e6 : numOf m 6 = m.value.size := rfl
    have m5 : mostOf 5 = 255 := rfl
    have m6 : mostOf 6 = 4096 := rfl
    omega
  have KV := Lib.hid (rvalid_any m wa hk hR0 hkey)
  have HK := Aside0.mk hk
  have HV := Aside0.mk hv
  have HR0 := Aside0.mk hR0
  clear hk hv hR hR0 hkey
  go_enter Tryd.func14, Tryd.ntmps14
  go_wp2_with ((with_reducible refine gate_load (ty := 24) (x := .tmp 1) rfl ?_); refine wpList_load_mid rfl 24 (.tmp 1) rfl w.heap.size 0 rfl (mL m) _ hrg0 Tryd.underlying24 rfl infoM ?_)
  refine KV.out.mono ?_
  rintro e w1 ⟨rfl, hb⟩
  rw [HV.out]
  have HM1 := Aside0.mk (HM0.out.below hb HM0.out.lt)
  have HB1 := Aside0.mk (HB0.out.trans (hb.mono HB0.out.size))
  have KB := Lib.hid (rbody_any m w1 HK.out HV.out (HR0.out.below hb))
  have hrg1 := blk_range HM1.out.row
  clear hb hrg0 hc0 KV HM0 hwa
  go_wp2_with ((with_reducible refine gate_load (ty := 24) (x := .tmp 1) rfl ?_); refine wpList_load_mid rfl 24 (.tmp 1) rfl w.heap.size 0 rfl (mL m) _ hrg1 Tryd.underlying24 rfl infoM ?_)
  refine KB.out.mono ?_
  rintro e w2 ⟨rfl, hb⟩
  have HM2 := Aside0.mk (HM1.out.below hb HM1.out.lt)
  have HB2 := Aside0.mk (HB1.out.trans (hb.mono HB1.out.size))
  clear hb hrg1 KB HM1 HB1 HB0
  have HF := Aside0.mk (vB_facts m HV.out)
  have hbl := body_length_le m HV.out HK.out
  have hsz : (strOfNums (bodyB m (fieldsOf m.kind.toNat))).size = (bodyB m (fieldsOf m.kind.toNat)).length := strOfNums_size _
  have K1 := fun (w : World) => Lib.hid (digits2 m.from_ w HF.out.1.1 (by have := HF.out.1.2; omega) (by decide))
  have K2 := fun (w : World) => Lib.hid (digits2 m.to_ w HF.out.2.1.1 (by have := HF.out.2.1.2; omega) (by decide))
  have K3 := fun (w : World) => Lib.hid (digits8 m.id w HF.out.2.2.1.1 HF.out.2.2.1.2 (by decide))
  have K4 := fun (w : World) => Lib.hid (digits4 (bodyB m (fieldsOf m.kind.toNat)).length w (by omega) (by omega) (by decide))
  have z0 : (strOfNums [71, 82, 1, m.kind]).size = 4 := strOfNums_size _
  have z1 : (strOfNums (be m.from_ 2)).size = 2 := by rw [strOfNums_size, be_length]
  have z2 : (strOfNums (be m.to_ 2)).size = 2 := by rw [strOfNums_size, be_length]
  have z3 : (strOfNums (be m.id 8)).size = 8 := by rw [strOfNums_size, be_length]
  have z4 : (strOfNums (be (bodyB m (fieldsOf m.kind.toNat)).length 4)).size = 4 := by rw [strOfNums_size, be_length]
  have HA : Aside0 (strOfNums (frameB m) = strOfNums [71, 82, 1, m.kind] ++ strOfNums (be m.from_ 2) ++ strOfNums (be m.to_ 2) ++ strOfNums (be m.id 8) ++ strOfNums (be (bodyB m (fieldsOf m.kind.toNat)).length 4) ++ strOfNums (bodyB m (fieldsOf m.kind.toNat))) := ⟨by
    unfold frameB headB
    simp only [Enc.strOfNums_append]⟩
  rw [← hsz] at K4 z4 HA hbl
  have HCV := fun {w : World} {b : Nat} h => conv_of_blk (w := w) (b := b) (x := m.kind) h
  generalize strOfNums (be (strOfNums (bodyB m (fieldsOf m.kind.toNat))).size 4) = D4 at K4 z4 HA
  generalize strOfNums (bodyB m (fieldsOf m.kind.toNat)) = BO at hbl HA K4 ⊢
  generalize strOfNums (be m.from_ 2) = D1 at K1 z1 HA
  generalize strOfNums (be m.to_ 2) = D2 at K2 z2 HA
  generalize strOfNums (be m.id 8) = D3 at K3 z3 HA
  generalize strOfNums [71, 82, 1, m.kind] = D0 at HCV z0 HA
  have hlt := HM2.out.lt
  have hc0 : w2.cell? ⟨w.heap.size, 0, none⟩ = some (.int .i64 m.kind) := HM2.out.c 0
  have hc1 : w2.cell? ⟨w.heap.size, 1, none⟩ = some (.int .i64 m.from_) := HM2.out.c 1
  have hc2 : w2.cell? ⟨w.heap.size, 2, none⟩ = some (.int .i64 m.to_) := HM2.out.c 2
  have hc3 : w2.cell? ⟨w.heap.size, 3, none⟩ = some (.int .i64 m.id) := HM2.out.c 3
  have hwk : IntKind.u8.wrap m.kind = m.kind := by rw [IntKind.wrap_u8]; have := HK.out; omega
  clear hsz HM2
  go_upto_region 7 with fail
  go_cut [6] (fun v wx => v = .string (strOfNums (frameB m)) ∧ Aside0 (Below w.heap.size w wx))
  case first =>
    refine Reg.wp_region_rel _ (by kernel_rfl) _ _ _ rfl (by kernel_rfl) (fun w' => Below w2.heap.size w2 w') (fun _ w w' => Below w.heap.size w w') (fun j vs w' => match j with
      | 0 => vs 0 = .pointer (some ⟨w.heap.size, 0, none⟩)
      | 1 => vs 1 = .int .i64 m.kind
      | 2 => vs 2 = .int .u8 m.kind
      | 3 => ∃ b, (vs 3) = .slice (some ⟨b, 0, none⟩) 4 4 ∧ w'.heap[b]? = some (.cells #[.int .u8 71, .int .u8 82, .int .u8 1, .int .u8 m.kind] 5 (0, 0))
      | 4 => vs 4 = .string D0
      | 5 => vs 5 = .pointer (some ⟨w.heap.size, 1, none⟩)
      | 6 => vs 6 = .int .i64 m.from_
      | 7 => vs 7 = .string D1
      | 8 => vs 8 = .string (D0 ++ D1)
      | 9 => vs 9 = .pointer (some ⟨w.heap.size, 2, none⟩)
      | 10 => vs 10 = .int .i64 m.to_
      | 11 => vs 11 = .string D2
      | 12 => vs 12 = .string (D0 ++ D1 ++ D2)
      | 13 => vs 13 = .pointer (some ⟨w.heap.size, 3, none⟩)
      | 14 => vs 14 = .int .i64 m.id
      | 15 => vs 15 = .string D3
      | 16 => vs 16 = .string (D0 ++ D1 ++ D2 ++ D3)
      | 17 => vs 17 = .string BO
      | 18 => vs 18 = .int .i64 (BO.size : Nat)
      | 19 => vs 19 = .string D4
      | 20 => vs 20 = .string (D0 ++ D1 ++ D2 ++ D3 ++ D4)
      | 21 => vs 21 = .string BO
      | 22 => vs 22 = .string (D0 ++ D1 ++ D2 ++ D3 ++ D4 ++ BO)
      | 23 => vs 23 = .string (D0 ++ D1 ++ D2 ++ D3 ++ D4 ++ BO)
      | _ => True) (below_drew (Below.refl _ _)) ?_ ?_ ?_ ?_
    · intro i j vs w0 w' hij hI hR hb
      rcases j with _ | j
      · exact hR
      rcases j with _ | j
      · exact hR
      rcases j with _ | j
      · exact hR
      rcases j with _ | j
      · obtain ⟨b, hv, hblk⟩ := hR
        exact ⟨b, hv, (hb.block b (blk_lt hblk)).trans hblk⟩
      rcases j with _ | j
      · exact hR
      rcases j with _ | j
      · exact hR
      rcases j with _ | j
      · exact hR
      rcases j with _ | j
      · exact hR
      rcases j with _ | j
      · exact hR
      rcases j with _ | j
      · exact hR
      rcases j with _ | j
      · exact hR
      rcases j with _ | j
      · exact hR
      rcases j with _ | j
      · exact hR
      rcases j with _ | j
      · exact hR
      rcases j with _ | j
      · exact hR
      rcases j with _ | j
      · exact hR
      rcases j with _ | j
      · exact hR
      rcases j with _ | j
      · exact hR
      rcases j with _ | j
      · exact hR
      rcases j with _ | j
      · exact hR
      rcases j with _ | j
      · exact hR
      rcases j with _ | j
      · exact hR
      rcases j with _ | j
      · exact hR
      rcases j with _ | j
      · exact hR
      exact trivial
    · intro j o vs vs1 w0 ho he hp hR
      rcases j with _ | j
      · exact he.trans hR
      rcases j with _ | j
      · exact he.trans hR
      rcases j with _ | j
      · exact he.trans hR
      rcases j with _ | j
      · show ∃ b, (vs1 3) = .slice (some ⟨b, 0, none⟩) 4 4 ∧ w0.heap[b]? = some (.cells #[.int .u8 71, .int .u8 82, .int .u8 1, .int .u8 m.kind] 5 (0, 0))
        rw [he]; exact hR
      rcases j with _ | j
      · exact he.trans hR
      rcases j with _ | j
      · exact he.trans hR
      rcases j with _ | j
      · exact he.trans hR
      rcases j with _ | j
      · exact he.trans hR
      rcases j with _ | j
      · exact he.trans hR
      rcases j with _ | j
      · exact he.trans hR
      rcases j with _ | j
      · exact he.trans hR
      rcases j with _ | j
      · exact he.trans hR
      rcases j with _ | j
      · exact he.trans hR
      rcases j with _ | j
      · exact he.trans hR
      rcases j with _ | j
      · exact he.trans hR
      rcases j with _ | j
      · exact he.trans hR
      rcases j with _ | j
      · exact he.trans hR
      rcases j with _ | j
      · exact he.trans hR
      rcases j with _ | j
      · exact he.trans hR
      rcases j with _ | j
      · exact he.trans hR
      rcases j with _ | j
      · exact he.trans hR
      rcases j with _ | j
      · exact he.trans hR
      rcases j with _ | j
      · exact he.trans hR
      rcases j with _ | j
      · exact he.trans hR
      exact trivial
    · skip
      refine Reg.allOps_cons ?_ ?_
      · intro vs w0 ρ hρ hcst hglb hfun hI hp
        have e1 : ρ (.tmp 1) = .pointer (some ⟨w.heap.size, 0, none⟩) := hρ (.tmp 1)
        clear hρ hp
        refine Reg.rel_value (.pointer (some ⟨w.heap.size, 0, none⟩)) ?_ ⟨hI, rfl⟩
        go_simp
      refine Reg.allOps_cons ?_ ?_
      · intro vs w0 ρ hρ hcst hglb hfun hI hp
        have e21 : ρ (.tmp 21) = .pointer (some ⟨w.heap.size, 0, none⟩) := (hρ (.tmp 21)).trans (show vs 0 = .pointer (some ⟨w.heap.size, 0, none⟩) from hp 0 rfl)
        clear hρ hp
        have hl := (hI.cell (p := ⟨w.heap.size, 0, none⟩) hlt).trans hc0
        refine Reg.rel_value (.int .i64 m.kind) ?_ ⟨hI, rfl⟩
        go_simp
      refine Reg.allOps_cons ?_ ?_
      · intro vs w0 ρ hρ hcst hglb hfun hI hp
        have e22 : ρ (.tmp 22) = .int .i64 m.kind := (hρ (.tmp 22)).trans (show vs 1 = .int .i64 m.kind from hp 1 rfl)
        clear hρ hp
        refine Reg.rel_value (.int .u8 m.kind) ?_ ⟨hI, rfl⟩
        go_simp
      refine Reg.allOps_cons ?_ ?_
      · intro vs w0 ρ hρ hcst hglb hfun hI hp
        have e23 : ρ (.tmp 23) = .int .u8 m.kind := (hρ (.tmp 23)).trans (show vs 2 = .int .u8 m.kind from hp 2 rfl)
        clear hρ hp
        refine Reg.rel_made (.slice (some ⟨w0.heap.size, 0, none⟩) 4 4) (w' := w0.alloc (.cells #[.int .u8 71, .int .u8 82, .int .u8 1, .int .u8 m.kind] 5)) ?_ ((Below.refl _ _).alloc (Nat.le_refl _) _) ⟨hI.alloc hI.size _, ⟨w0.heap.size, rfl, heap_alloc_new w0 _⟩⟩
        go_simp
      refine Reg.allOps_cons ?_ ?_
      · intro vs w0 ρ hρ hcst hglb hfun hI hp
        have r3 : ∃ b, (vs 3) = .slice (some ⟨b, 0, none⟩) 4 4 ∧ w0.heap[b]? = some (.cells #[.int .u8 71, .int .u8 82, .int .u8 1, .int .u8 m.kind] 5 (0, 0)) := hp 3 rfl
        have e24 : ρ (.tmp 24) = vs 3 := hρ (.tmp 24)
        obtain ⟨b, hv, hblk⟩ := r3
        rw [hv] at e24
        clear hρ hp
        have hcv := HCV hblk
        refine Reg.rel_value (.string D0) ?_ ⟨hI, rfl⟩
        go_simp
      refine Reg.allOps_cons ?_ ?_
      · intro vs w0 ρ hρ hcst hglb hfun hI hp
        have e1 : ρ (.tmp 1) = .pointer (some ⟨w.heap.size, 0, none⟩) := hρ (.tmp 1)
        clear hρ hp
        refine Reg.rel_value (.pointer (some ⟨w.heap.size, 1, none⟩)) ?_ ⟨hI, rfl⟩
        go_simp
      refine Reg.allOps_cons ?_ ?_
      · intro vs w0 ρ hρ hcst hglb hfun hI hp
        have e26 : ρ (.tmp 26) = .pointer (some ⟨w.heap.size, 1, none⟩) := (hρ (.tmp 26)).trans (show vs 5 = .pointer (some ⟨w.heap.size, 1, none⟩) from hp 5 rfl)
        clear hρ hp
        have hl := (hI.cell (p := ⟨w.heap.size, 1, none⟩) hlt).trans hc1
        refine Reg.rel_value (.int .i64 m.from_) ?_ ⟨hI, rfl⟩
        go_simp
      refine Reg.allOps_cons ?_ ?_
      · intro vs w0 ρ hρ hcst hglb hfun hI hp
        have e27 : ρ (.tmp 27) = .int .i64 m.from_ := (hρ (.tmp 27)).trans (show vs 6 = .int .i64 m.from_ from hp 6 rfl)
        clear hρ hp
        refine Reg.rel_call Tryd.func42 (by kernel_rfl) rfl #[.int .i64 m.from_, .int .i64 2] rfl (hfun _) (by simp [e27, hcst]) ?_
        refine (K1 w0).out.mono ?_
        rintro e w3 ⟨rfl, hb⟩
        exact ⟨_, rfl, hb, hI.trans (hb.mono hI.size), rfl⟩
      refine Reg.allOps_cons ?_ ?_
      · intro vs w0 ρ hρ hcst hglb hfun hI hp
        have e25 : ρ (.tmp 25) = .string D0 := (hρ (.tmp 25)).trans (show vs 4 = .string D0 from hp 4 rfl)
        have e28 : ρ (.tmp 28) = .string D1 := (hρ (.tmp 28)).trans (show vs 7 = .string D1 from hp 7 rfl)
        clear hρ hp
        refine Reg.rel_value (.string (D0 ++ D1)) ?_ ⟨hI, rfl⟩
        go_simp
      refine Reg.allOps_cons ?_ ?_
      · intro vs w0 ρ hρ hcst hglb hfun hI hp
        have e1 : ρ (.tmp 1) = .pointer (some ⟨w.heap.size, 0, none⟩) := hρ (.tmp 1)
        clear hρ hp
        refine Reg.rel_value (.pointer (some ⟨w.heap.size, 2, none⟩)) ?_ ⟨hI, rfl⟩
        go_simp
      refine Reg.allOps_cons ?_ ?_
      · intro vs w0 ρ hρ hcst hglb hfun hI hp
        have e30 : ρ (.tmp 30) = .pointer (some ⟨w.heap.size, 2, none⟩) := (hρ (.tmp 30)).trans (show vs 9 = .pointer (some ⟨w.heap.size, 2, none⟩) from hp 9 rfl)
        clear hρ hp
        have hl := (hI.cell (p := ⟨w.heap.size, 2, none⟩) hlt).trans hc2
        refine Reg.rel_value (.int .i64 m.to_) ?_ ⟨hI, rfl⟩
        go_simp
      refine Reg.allOps_cons ?_ ?_
      · intro vs w0 ρ hρ hcst hglb hfun hI hp
        have e31 : ρ (.tmp 31) = .int .i64 m.to_ := (hρ (.tmp 31)).trans (show vs 10 = .int .i64 m.to_ from hp 10 rfl)
        clear hρ hp
        refine Reg.rel_call Tryd.func42 (by kernel_rfl) rfl #[.int .i64 m.to_, .int .i64 2] rfl (hfun _) (by simp [e31, hcst]) ?_
        refine (K2 w0).out.mono ?_
        rintro e w3 ⟨rfl, hb⟩
        exact ⟨_, rfl, hb, hI.trans (hb.mono hI.size), rfl⟩
      refine Reg.allOps_cons ?_ ?_
      · intro vs w0 ρ hρ hcst hglb hfun hI hp
        have e29 : ρ (.tmp 29) = .string (D0 ++ D1) := (hρ (.tmp 29)).trans (show vs 8 = .string (D0 ++ D1) from hp 8 rfl)
        have e32 : ρ (.tmp 32) = .string D2 := (hρ (.tmp 32)).trans (show vs 11 = .string D2 from hp 11 rfl)
        clear hρ hp
        refine Reg.rel_value (.string (D0 ++ D1 ++ D2)) ?_ ⟨hI, rfl⟩
        go_simp
      refine Reg.allOps_cons ?_ ?_
      · intro vs w0 ρ hρ hcst hglb hfun hI hp
        have e1 : ρ (.tmp 1) = .pointer (some ⟨w.heap.size, 0, none⟩) := hρ (.tmp 1)
        clear hρ hp
        refine Reg.rel_value (.pointer (some ⟨w.heap.size, 3, none⟩)) ?_ ⟨hI, rfl⟩
        go_simp
      refine Reg.allOps_cons ?_ ?_
      · intro vs w0 ρ hρ hcst hglb hfun hI hp
        have e34 : ρ (.tmp 34) = .pointer (some ⟨w.heap.size, 3, none⟩) := (hρ (.tmp 34)).trans (show vs 13 = .pointer (some ⟨w.heap.size, 3, none⟩) from hp 13 rfl)
        clear hρ hp
        have hl := (hI.cell (p := ⟨w.heap.size, 3, none⟩) hlt).trans hc3
        refine Reg.rel_value (.int .i64 m.id) ?_ ⟨hI, rfl⟩
        go_simp
      refine Reg.allOps_cons ?_ ?_
      · intro vs w0 ρ hρ hcst hglb hfun hI hp
        have e35 : ρ (.tmp 35) = .int .i64 m.id := (hρ (.tmp 35)).trans (show vs 14 = .int .i64 m.id from hp 14 rfl)
        clear hρ hp
        refine Reg.rel_call Tryd.func42 (by kernel_rfl) rfl #[.int .i64 m.id, .int .i64 8] rfl (hfun _) (by simp [e35, hcst]) ?_
        refine (K3 w0).out.mono ?_
        rintro e w3 ⟨rfl, hb⟩
        exact ⟨_, rfl, hb, hI.trans (hb.mono hI.size), rfl⟩
      refine Reg.allOps_cons ?_ ?_
      · intro vs w0 ρ hρ hcst hglb hfun hI hp
        have e33 : ρ (.tmp 33) = .string (D0 ++ D1 ++ D2) := (hρ (.tmp 33)).trans (show vs 12 = .string (D0 ++ D1 ++ D2) from hp 12 rfl)
        have e36 : ρ (.tmp 36) = .string D3 := (hρ (.tmp 36)).trans (show vs 15 = .string D3 from hp 15 rfl)
        clear hρ hp
        refine Reg.rel_value (.string (D0 ++ D1 ++ D2 ++ D3)) ?_ ⟨hI, rfl⟩
        go_simp
      refine Reg.allOps_cons ?_ ?_
      · intro vs w0 ρ hρ hcst hglb hfun hI hp
        have e5 : ρ (.tmp 5) = .string BO := hρ (.tmp 5)
        clear hρ hp
        refine Reg.rel_value (.string BO) ?_ ⟨hI, rfl⟩
        go_simp
      refine Reg.allOps_cons ?_ ?_
      · intro vs w0 ρ hρ hcst hglb hfun hI hp
        have e38 : ρ (.tmp 38) = .string BO := (hρ (.tmp 38)).trans (show vs 17 = .string BO from hp 17 rfl)
        clear hρ hp
        refine Reg.rel_value (.int .i64 (BO.size : Nat)) ?_ ⟨hI, rfl⟩
        go_simp
      refine Reg.allOps_cons ?_ ?_
      · intro vs w0 ρ hρ hcst hglb hfun hI hp
        have e39 : ρ (.tmp 39) = .int .i64 (BO.size : Nat) := (hρ (.tmp 39)).trans (show vs 18 = .int .i64 (BO.size : Nat) from hp 18 rfl)
        clear hρ hp
        refine Reg.rel_call Tryd.func42 (by kernel_rfl) rfl #[.int .i64 (BO.size : Nat), .int .i64 4] rfl (hfun _) (by simp [e39, hcst]) ?_
        refine (K4 w0).out.mono ?_
        rintro e w3 ⟨rfl, hb⟩
        exact ⟨_, rfl, hb, hI.trans (hb.mono hI.size), rfl⟩
      refine Reg.allOps_cons ?_ ?_
      · intro vs w0 ρ hρ hcst hglb hfun hI hp
        have e37 : ρ (.tmp 37) = .string (D0 ++ D1 ++ D2 ++ D3) := (hρ (.tmp 37)).trans (show vs 16 = .string (D0 ++ D1 ++ D2 ++ D3) from hp 16 rfl)
        have e40 : ρ (.tmp 40) = .string D4 := (hρ (.tmp 40)).trans (show vs 19 = .string D4 from hp 19 rfl)
        clear hρ hp
        refine Reg.rel_value (.string (D0 ++ D1 ++ D2 ++ D3 ++ D4)) ?_ ⟨hI, rfl⟩
        go_simp
      refine Reg.allOps_cons ?_ ?_
      · intro vs w0 ρ hρ hcst hglb hfun hI hp
        have e5 : ρ (.tmp 5) = .string BO := hρ (.tmp 5)
        clear hρ hp
        refine Reg.rel_value (.string BO) ?_ ⟨hI, rfl⟩
        go_simp
      refine Reg.allOps_cons ?_ ?_
      · intro vs w0 ρ hρ hcst hglb hfun hI hp
        have e41 : ρ (.tmp 41) = .string (D0 ++ D1 ++ D2 ++ D3 ++ D4) := (hρ (.tmp 41)).trans (show vs 20 = .string (D0 ++ D1 ++ D2 ++ D3 ++ D4) from hp 20 rfl)
        have e42 : ρ (.tmp 42) = .string BO := (hρ (.tmp 42)).trans (show vs 21 = .string BO from hp 21 rfl)
        clear hρ hp
        refine Reg.rel_value (.string (D0 ++ D1 ++ D2 ++ D3 ++ D4 ++ BO)) ?_ ⟨hI, rfl⟩
        go_simp
        omega
      refine Reg.allOps_cons ?_ ?_
      · intro vs w0 ρ hρ hcst hglb hfun hI hp
        have e43 : ρ (.tmp 43) = .string (D0 ++ D1 ++ D2 ++ D3 ++ D4 ++ BO) := (hρ (.tmp 43)).trans (show vs 22 = .string (D0 ++ D1 ++ D2 ++ D3 ++ D4 ++ BO) from hp 22 rfl)
        clear hρ hp
        refine Reg.rel_value (.string (D0 ++ D1 ++ D2 ++ D3 ++ D4 ++ BO)) ?_ ⟨hI, rfl⟩
        go_simp
      exact Reg.allOps_nil
    intro vs w0 hI hR
    have r0 : vs 0 = .pointer (some ⟨w.heap.size, 0, none⟩) := hR 0 (by decide)
    have r1 : vs 1 = .int .i64 m.kind := hR 1 (by decide)
    have r2 : vs 2 = .int .u8 m.kind := hR 2 (by decide)
    have r4 : vs 4 = .string D0 := hR 4 (by decide)
    have r5 : vs 5 = .pointer (some ⟨w.heap.size, 1, none⟩) := hR 5 (by decide)
    have r6 : vs 6 = .int .i64 m.from_ := hR 6 (by decide)
    have r7 : vs 7 = .string D1 := hR 7 (by decide)
    have r8 : vs 8 = .string (D0 ++ D1) := hR 8 (by decide)
    have r9 : vs 9 = .pointer (some ⟨w.heap.size, 2, none⟩) := hR 9 (by decide)
    have r10 : vs 10 = .int .i64 m.to_ := hR 10 (by decide)
    have r11 : vs 11 = .string D2 := hR 11 (by decide)
    have r12 : vs 12 = .string (D0 ++ D1 ++ D2) := hR 12 (by decide)
    have r13 : vs 13 = .pointer (some ⟨w.heap.size, 3, none⟩) := hR 13 (by decide)
    have r14 : vs 14 = .int .i64 m.id := hR 14 (by decide)
    have r15 : vs 15 = .string D3 := hR 15 (by decide)
    have r16 : vs 16 = .string (D0 ++ D1 ++ D2 ++ D3) := hR 16 (by decide)
    have r17 : vs 17 = .string BO := hR 17 (by decide)
    have r18 : vs 18 = .int .i64 (BO.size : Nat) := hR 18 (by decide)
    have r19 : vs 19 = .string D4 := hR 19 (by decide)
    have r20 : vs 20 = .string (D0 ++ D1 ++ D2 ++ D3 ++ D4) := hR 20 (by decide)
    have r21 : vs 21 = .string BO := hR 21 (by decide)
    have r22 : vs 22 = .string (D0 ++ D1 ++ D2 ++ D3 ++ D4 ++ BO) := hR 22 (by decide)
    have r23 : vs 23 = .string (D0 ++ D1 ++ D2 ++ D3 ++ D4 ++ BO) := hR 23 (by decide)
    simp only [Reg.fillFrom, Act.put, List.setIfInBounds_toArray, List.set_cons_zero, List.set_cons_succ, r0, r1, r2, r4, r5, r6, r7, r8, r9, r10, r11, r12, r13, r14, r15, r16, r17, r18, r19, r20, r21, r22, r23]
    clear hR r0 r1 r2 r4 r5 r6 r7 r8 r9 r10 r11 r12 r13 r14 r15 r16 r17 r18 r19 r20 r21 r22 r23
    go_wp2_with fail
    go_meet
    exact ⟨by rw [HA.out], ⟨HB2.out.trans (hI.mono HB2.out.size)⟩⟩
  case rest =>
    obtain ⟨rfl, HBC⟩ := hcut
    have hfs : (frameB m).length ≤ 4403 := by rw [frame_length]; have := body_length_le m HV.out HK.out; omega
    have KS := Lib.hid (rsum_any (strOfNums (frameB m)) wc (by rw [strOfNums_size]; omega))
    have hW : strOfNums (whole m) = strOfNums (frameB m) ++ strOfNums (sumL (bytesOf (strOfNums (frameB m)))) := by
      unfold whole
      rw [Enc.strOfNums_append, bytesOf_strOfNums _ (byt_frame m HK.out)]
    have y1 : (strOfNums (frameB m)).size ≤ 5000 := by rw [strOfNums_size]; omega
    have y2 : (strOfNums (sumL (bytesOf (strOfNums (frameB m))))).size ≤ 4 := by rw [strOfNums_size]; exact Nat.le_refl _
    have HW := Lib.hid hW
    clear hW hfs K1 K2 K3 K4 z0 z1 z2 z3 z4 HCV hc0 hc1 hc2 hc3 hwk hbl HA
    generalize strOfNums (sumL (bytesOf (strOfNums (frameB m)))) = D at KS y2 HW
    go_wp2_with fail
    refine KS.out.mono ?_
    rintro e w3 ⟨rfl, hb⟩
    have HB3 := Aside0.mk (HBC.out.trans (hb.mono HBC.out.size))
    clear hb KS
    go_wp2
    go_ret2
    exact ⟨by rw [HW.out]; rfl, HB3.out⟩
end Go.Proofs.YtnifgokjagahfaaDoor.RefF

/- FrameEncodes: the program's Encode and the document's answer alike. -/
set_option linter.unusedVariables false
set_option linter.unusedSimpArgs false
namespace Go.Proofs.YtnifgokjagahfaaDoor.RefF
open Go.RowKit Go.Proofs.YtnifgokjagahfaaDoorW.PrintWords Go.Proofs.YtnifgokjagahfaaDoorW.PrintLast Go.Proofs.YtnifgokjagahfaaDoorW.PrintMore
open Go.Proofs.YtnifgokjagahfaaDoor.Base Go.Proofs.YtnifgokjagahfaaDoor.App Go.Proofs.YtnifgokjagahfaaDoor.Layouts Go.Proofs.YtnifgokjagahfaaDoor.Msg Go.Proofs.YtnifgokjagahfaaDoor.Put Go.Proofs.YtnifgokjagahfaaDoor.EncPure Go.Proofs.YtnifgokjagahfaaDoor.DecPure Go.Proofs.YtnifgokjagahfaaDoor.RefSum Go.Proofs.YtnifgokjagahfaaDoor.Mids Go.Proofs.YtnifgokjagahfaaDoor.Enc
set_option maxRecDepth 100000 in
set_option maxHeartbeats 4000000 in
theorem renc_kind (m : M) (w : World) (hk : ¬ (1 ≤ m.kind ∧ m.kind < 17)) : Calls Tryd.prog 14 #[.agg (mL m).toArray] w fun e w' => e = .returned (.tuple #[.string ByteArray.empty, .int .i64 53]) ∧ Below w.heap.size w w' := by
  have HB0 := Aside0.mk ((Below.refl w.heap.size w).alloc (Nat.le_refl _) (.cells (mL m).toArray 24))
  have HM0 : Aside0 (MBox (w.alloc (.cells (mL m).toArray 24)) w.heap.size m) := ⟨⟨Go.heap_alloc_new w _, by simp⟩⟩
  have hc0 : (w.alloc (.cells (mL m).toArray 24)).cell? ⟨w.heap.size, 0, none⟩ = some (.int .i64 m.kind) := HM0.out.c 0
  have hk' : m.kind < 1 ∨ (¬ m.kind < 1 ∧ m.kind > 16) := by omega
  clear hk
  rcases hk' with h | ⟨h1, h2⟩ <;>
    (go_enter Tryd.func14, Tryd.ntmps14
     go_wp2
     go_ret2
     exact ⟨rfl, HB0.out⟩)
set_option maxRecDepth 100000 in
set_option maxHeartbeats 4000000 in
theorem renc_field (m : M) (w : World) (hk : 1 ≤ m.kind ∧ m.kind < 17) (hv : vB m = false) (hR : RTab w) (hkey : m.key.size ≤ 9223372036854775807 ∧ m.value.size ≤ 9223372036854775807) : Calls Tryd.prog 14 #[.agg (mL m).toArray] w fun e w' => e = .returned (.tuple #[.string ByteArray.empty, .int .i64 50]) ∧ Below w.heap.size w w' := by
  have HB0 := Aside0.mk ((Below.refl w.heap.size w).alloc (Nat.le_refl _) (.cells (mL m).toArray 24))
  have HM0 : Aside0 (MBox (w.alloc (.cells (mL m).toArray 24)) w.heap.size m) := ⟨⟨Go.heap_alloc_new w _, by simp⟩⟩
  have hR0 := hR.below HB0.out
  generalize hwa : w.alloc (.cells (mL m).toArray 24) = wa at HB0 HM0 hR0
  have hc0 : wa.cell? ⟨w.heap.size, 0, none⟩ = some (.int .i64 m.kind) := HM0.out.c 0
  have hrg0 := blk_range HM0.out.row
  have hk1 := hk.1
  have hk2 : ¬ m.kind > 16 := by omega
  have hk3 : ¬ m.kind < 1 := by omega
  have KV := Lib.hid (rvalid_any m wa hk hR0 hkey)
  have HV := Aside0.mk hv
  clear hk hv hR hR0 hkey
  go_enter Tryd.func14, Tryd.ntmps14
  go_wp2_with ((with_reducible refine gate_load (ty := 24) (x := .tmp 1) rfl ?_); refine wpList_load_mid rfl 24 (.tmp 1) rfl w.heap.size 0 rfl (mL m) _ hrg0 Tryd.underlying24 rfl infoM ?_)
  refine KV.out.mono ?_
  rintro e w1 ⟨rfl, hb⟩
  rw [HV.out]
  have HB1 := Aside0.mk (HB0.out.trans (hb.mono HB0.out.size))
  clear hb hrg0 hc0 KV HM0 hwa
  go_wp2
  go_ret2
  exact ⟨rfl, HB1.out⟩
theorem renc_any (m : M) (w : World) (hR : RTab w) (hkey : m.key.size ≤ 9223372036854775807 ∧ m.value.size ≤ 9223372036854775807) : Calls Tryd.prog 14 #[.agg (mL m).toArray] w fun e w' => e = .returned (.tuple #[.string (encP m).1, .int .i64 (encP m).2]) ∧ Below w.heap.size w w' := by
  unfold encP kB
  by_cases hk : 1 ≤ m.kind ∧ m.kind < 17
  · rw [if_pos (decide_eq_true hk)]
    cases hv : vB m
    · rw [if_neg (by decide)]; exact renc_field m w hk hv hR hkey
    · rw [if_pos rfl]; exact renc_good m w hk hv hR
  · rw [if_neg (by simpa using hk)]; exact renc_kind m w hk
theorem num_any (x : Int) (w : World) : Calls Tryd.prog 15 #[.int .i64 x] w fun e w' => e = .returned (.int .i64 x) ∧ w = w' := by
  go_enter Tryd.func15, Tryd.ntmps15
  go_wp2
  go_ret
  exact ⟨rfl, rfl⟩
set_option maxRecDepth 100000 in
set_option maxHeartbeats 4000000 in
theorem law_encodes (m : M) (w : World) (hN : Crc.Nibs w) (hR : RTab w) (hkey : m.key.size ≤ 9223372036854775807 ∧ m.value.size ≤ 9223372036854775807) : Calls Tryd.prog 3 #[.agg (mL m).toArray] w fun e w' => e = .returned (.bool true) ∧ Below w.heap.size w w' := by
  have HB0 := Aside0.mk ((Below.refl w.heap.size w).alloc (Nat.le_refl _) (.cells (mL m).toArray 24))
  have HM0 : Aside0 (MBox (w.alloc (.cells (mL m).toArray 24)) w.heap.size m) := ⟨⟨Go.heap_alloc_new w _, by simp⟩⟩
  have hR0 := Aside0.mk (hR.below HB0.out)
  generalize hwa : w.alloc (.cells (mL m).toArray 24) = wa at HB0 HM0 hR0
  have hrg0 := blk_range HM0.out.row
  have K1 := Lib.hid (enc_any m wa (hN.below HB0.out))
  have K2 := fun (w : World) hR => Lib.hid (renc_any m w hR hkey)
  generalize encP m = r at K1 K2
  obtain ⟨s, x⟩ := r
  simp only at K1 K2
  clear hN hR hkey
  go_enter Tryd.func3, Tryd.ntmps3
  go_wp2_with ((with_reducible refine gate_load (ty := 24) (x := .tmp 1) rfl ?_); refine wpList_load_mid rfl 24 (.tmp 1) rfl w.heap.size 0 rfl (mL m) _ hrg0 Tryd.underlying24 rfl infoM ?_)
  refine K1.out.mono ?_
  rintro e w1 ⟨rfl, hb⟩
  have HM1 := Aside0.mk (HM0.out.below hb HM0.out.lt)
  have HB1 := Aside0.mk (HB0.out.trans (hb.mono HB0.out.size))
  have HR1 := Aside0.mk (hR0.out.below hb)
  have hrg1 := blk_range HM1.out.row
  clear hb hrg0 K1 hwa HM0 hR0
  go_wp2_with ((with_reducible refine gate_load (ty := 24) (x := .tmp 1) rfl ?_); refine wpList_load_mid rfl 24 (.tmp 1) rfl w.heap.size 0 rfl (mL m) _ hrg1 Tryd.underlying24 rfl infoM ?_)
  refine (K2 _ HR1.out).out.mono ?_
  rintro e w2 ⟨rfl, hb⟩
  have HB2 := Aside0.mk (HB1.out.trans (hb.mono HB1.out.size))
  clear hb hrg1 K2 HM1 HR1 HB1 HB0
  have hq : (s.toList == s.toList) = true := by simp
  go_wp2_with fail
  refine (num_any x _).mono ?_
  rintro e w3 ⟨rfl, rfl⟩
  go_wp2
  go_ret
  exact ⟨rfl, HB2.out⟩
end Go.Proofs.YtnifgokjagahfaaDoor.RefF

/- The document's Decode, walked. -/
set_option linter.unusedVariables false
set_option linter.unusedSimpArgs false
namespace Go.Proofs.YtnifgokjagahfaaDoor.RefDec
open Go.RowKit Go.Proofs.YtnifgokjagahfaaDoorW.PrintWords Go.Proofs.YtnifgokjagahfaaDoorW.PrintLast Go.Proofs.YtnifgokjagahfaaDoorW.PrintMore
open Go.Proofs.YtnifgokjagahfaaDoor.Base Go.Proofs.YtnifgokjagahfaaDoor.Layouts Go.Proofs.YtnifgokjagahfaaDoor.Msg Go.Proofs.YtnifgokjagahfaaDoor.Put Go.Proofs.YtnifgokjagahfaaDoor.EncPure Go.Proofs.YtnifgokjagahfaaDoor.DecPure Go.Proofs.YtnifgokjagahfaaDoor.Enc Go.Proofs.YtnifgokjagahfaaDoor.Num Go.Proofs.YtnifgokjagahfaaDoor.PFrameDecodes Go.Proofs.YtnifgokjagahfaaDoor.RefF Go.Proofs.YtnifgokjagahfaaDoor.RefSum Go.Proofs.YtnifgokjagahfaaDoor.Mids
open Go.Proofs.YtnifgokjagahfaaDoor.Dec (mL_one str_eq str_eq2)
/-- what Decode answers -/
def Told (m : M) (k : Int) (w : World) (e : Ending) (w' : World) : Prop := e = .returned (.tuple #[.agg (mL m).toArray, .int .i64 k]) ∧ Below w.heap.size w w'
theorem told_ret {W : World} {w : World} {m : M} {tmps : Array Value} {k : Int} (hp : tmps.getD 2 undef = .pointer (some ⟨w.heap.size, 0, none⟩)) (hk : tmps.getD 3 undef = .int .i64 k) (h : MBox W w.heap.size m) (hB : Below w.heap.size w W) {d : List _} (hd : d = []) :
    bodyPost Tryd.prog Tryd.f17 (Told m k w) Exit.ret ⟨tmps, d⟩ W := by
  subst hd
  refine bodyPost_ret (v := .tuple #[.agg (mL m).toArray, .int .i64 k]) ?_ rfl ⟨rfl, hB⟩
  rw [← hk]
  exact results_ct_mid rfl tmps W w.heap.size 0 (mL m) _ hp (blk_range h.row) Tryd.underlying24 rfl infoM
/-- the two blocks that a call begins with -/
structure Two (w W : World) : Prop where mk :: (res : MBox W w.heap.size zeroM) (non : MBox W (w.heap.size + 1) zeroM) (bel : Below w.heap.size w W)
theorem Two.start (w : World) : Two w ((w.alloc (.cells (mL zeroM).toArray 24)).alloc (.cells (mL zeroM).toArray 24)) := by
  have h0 : MBox (w.alloc (.cells (mL zeroM).toArray 24)) w.heap.size zeroM := ⟨Go.heap_alloc_new w _, by simp⟩
  refine ⟨h0.below ((Below.refl (w.heap.size + 1) (w.alloc (.cells (mL zeroM).toArray 24))).alloc (by simp) _) (by omega), ⟨?_, by simp⟩, ?_⟩
  · have := Go.heap_alloc_new (w.alloc (.cells (mL zeroM).toArray 24)) (.cells (mL zeroM).toArray 24)
    simpa using this
  · exact ((Below.refl w.heap.size w).alloc (Nat.le_refl _) _).alloc (by simp) _
theorem Two.below {w W W1 : World} (h : Two w W) (hb : Below W.heap.size W W1) : Two w W1 := ⟨h.res.below hb h.res.lt, h.non.below hb h.non.lt, h.bel.trans (hb.mono h.bel.size)⟩
theorem Two.drewN {w W : World} (h : Two w W) (n : Nat) : Two w (W.drewN n) := ⟨⟨h.res.row, h.res.lt⟩, ⟨h.non.row, h.non.lt⟩, ⟨h.bel.os, h.bel.tape, h.bel.output, h.bel.size, h.bel.block⟩⟩
theorem byte_at (s : ByteArray) (i : Nat) (h : i < s.size) : (bytesOf s)[i]? = some (((s[i]'h).toNat : Nat) : Int) := by
  have hl : i < (bytesOf s).length := by rw [bytesOf_length]; exact h
  rw [List.getElem?_eq_getElem hl]
  simp [bytesOf]
  rfl
theorem take3 (s : ByteArray) (h : 24 ≤ s.size) : (bytesOf s).take 3 = [(((s[0]'(by omega)).toNat : Nat) : Int), (((s[1]'(by omega)).toNat : Nat) : Int), (((s[2]'(by omega)).toNat : Nat) : Int)] := by
  rw [List.take_add_one, List.take_add_one, List.take_add_one, byte_at s 0 (by omega), byte_at s 1 (by omega), byte_at s 2 (by omega)]
  rfl
theorem numR_body (s : ByteArray) : numR (bytesOf s) 16 4 = bodyN (bytesOf s) ∧ 0 ≤ bodyN (bytesOf s) ∧ bodyN (bytesOf s) < 4294967296 := by
  have hb := byt_take (byt_drop (byt_bytesOf s) 16) 4
  have h0 := val_nonneg _ hb
  have h1 := val_lt _ hb
  have hl : (((bytesOf s).drop 16).take 4).length ≤ 4 := by rw [List.length_take]; omega
  have hp : ∀ n, n ≤ 4 → (256 : Int) ^ n ≤ 4294967296 := by
    intro n hn
    have : ∀ n, n < 5 → (256 : Int) ^ n ≤ 4294967296 := by decide
    exact this n (by omega)
  have h2 := Int.lt_of_lt_of_le h1 (hp _ hl)
  unfold numR bodyN
  exact ⟨if_neg (by omega), h0, h2⟩
set_option maxRecDepth 100000 in
set_option maxHeartbeats 8000000 in
theorem rdec_short (s : ByteArray) (w : World) (h : s.size < 24) : Calls Tryd.prog 17 #[.string s] w (Told zeroM 51 w) := by
  have h' : (s.size : Int) < 24 := by omega
  clear h
  have hwz : (w.alloc (.cells #[.int .i64 0, .int .i64 0, .int .i64 0, .int .i64 0, .int .i64 0, .int .i64 0, .int .i64 0, .int .i64 0, .int .i64 0, .string { data := #[] }, .string { data := #[] }] 24)).alloc (.cells #[.int .i64 0, .int .i64 0, .int .i64 0, .int .i64 0, .int .i64 0, .int .i64 0, .int .i64 0, .int .i64 0, .int .i64 0, .string { data := #[] }, .string { data := #[] }] 24) = (w.alloc (.cells (mL zeroM).toArray 24)).alloc (.cells (mL zeroM).toArray 24) := rfl
  have HT := Aside0.mk (Two.start w)
  have HWZ := Lib.hid hwz
  clear hwz
  go_enter Tryd.func17, Tryd.ntmps17
  go_upto_region 2 with fail
  rw [HWZ.out]
  clear HWZ
  generalize (w.alloc (.cells (mL zeroM).toArray 24)).alloc (.cells (mL zeroM).toArray 24) = wz at HT ⊢
  have hrg := blk_range HT.out.non.row
  have hth := blk_there HT.out.res.row
  go_wp2_with (first | ((with_reducible refine gate_load (ty := 24) (x := .tmp 4) rfl ?_); refine wpList_load_mid rfl 24 (.tmp 4) rfl (w.heap.size + 1) 0 rfl (mL zeroM) _ hrg Tryd.underlying24 rfl infoM ?_) | ((with_reducible refine gate_store (ty := 24) (x := .tmp 2) (y := .tmp 13) rfl ?_); refine wpList_store_mid rfl 24 (.tmp 2) (.tmp 13) rfl w.heap.size 0 (mL zeroM).toArray rfl rfl hth infoM (mL_one zeroM) ?_))
  exact told_ret (k := 51) (m := zeroM) rfl rfl ⟨setCells_whole HT.out.res.row rfl, by rw [setCells_size]; exact HT.out.res.lt⟩ (below_setCells HT.out.bel (Nat.le_refl _) _ _) rfl
set_option maxRecDepth 100000 in
set_option maxHeartbeats 8000000 in
theorem rdec_magic (s : ByteArray) (w : World) (h : 24 ≤ s.size) (hm : (bytesOf s).take 3 ≠ [71, 82, 1]) : Calls Tryd.prog 17 #[.string s] w (Told zeroM 52 w) := by
  have h' : ¬ (s.size : Int) < 24 := by omega
  have s0 : (0 : Int) < (s.size : Int) := by omega
  have s1 : (1 : Int) < (s.size : Int) := by omega
  have s2 : (2 : Int) < (s.size : Int) := by omega
  have s3 : (3 : Int) < (s.size : Int) := by omega
  have N0 : 0 < s.size := by omega
  have N1 : 1 < s.size := by omega
  have N2 : 2 < s.size := by omega
  have N3 : 3 < s.size := by omega
  rw [take3 s h] at hm
  obtain ⟨b0, e0⟩ : ∃ b : Nat, (s[0]'N0).toNat = b := ⟨_, rfl⟩
  obtain ⟨b1, e1⟩ : ∃ b : Nat, (s[1]'N1).toNat = b := ⟨_, rfl⟩
  obtain ⟨b2, e2⟩ : ∃ b : Nat, (s[2]'N2).toNat = b := ⟨_, rfl⟩
  rw [e0, e1, e2] at hm
  have hc : ((b0 : Int) != 71) = true ∨ ((b0 : Int) = 71 ∧ ((b1 : Int) != 82) = true) ∨ ((b0 : Int) = 71 ∧ (b1 : Int) = 82 ∧ ((b2 : Int) != 1) = true) := by
    by_cases c0 : (b0 : Int) = 71
    · by_cases c1 : (b1 : Int) = 82
      · refine .inr (.inr ⟨c0, c1, bne_iff_ne.2 fun c2 => hm (by rw [c0, c1, c2])⟩)
      · exact .inr (.inl ⟨c0, bne_iff_ne.2 c1⟩)
    · exact .inl (bne_iff_ne.2 c0)
  clear hm
  have hwz : (w.alloc (.cells #[.int .i64 0, .int .i64 0, .int .i64 0, .int .i64 0, .int .i64 0, .int .i64 0, .int .i64 0, .int .i64 0, .int .i64 0, .string { data := #[] }, .string { data := #[] }] 24)).alloc (.cells #[.int .i64 0, .int .i64 0, .int .i64 0, .int .i64 0, .int .i64 0, .int .i64 0, .int .i64 0, .int .i64 0, .int .i64 0, .string { data := #[] }, .string { data := #[] }] 24) = (w.alloc (.cells (mL zeroM).toArray 24)).alloc (.cells (mL zeroM).toArray 24) := rfl
  have HT := Aside0.mk (Two.start w)
  have HWZ := Lib.hid hwz
  clear hwz
  rcases hc with c0 | ⟨c0, c1⟩ | ⟨c0, c1, c2⟩
  all_goals
    go_enter Tryd.func17, Tryd.ntmps17
    go_upto_region 2 with fail
    rw [HWZ.out]
    clear HWZ
    generalize (w.alloc (.cells (mL zeroM).toArray 24)).alloc (.cells (mL zeroM).toArray 24) = wz at HT ⊢
    have hrg := blk_range HT.out.non.row
    have hth := blk_there HT.out.res.row
    go_wp2_with (first | ((with_reducible refine gate_load (ty := 24) (x := .tmp 4) rfl ?_); refine wpList_load_mid rfl 24 (.tmp 4) rfl (w.heap.size + 1) 0 rfl (mL zeroM) _ hrg Tryd.underlying24 rfl infoM ?_) | ((with_reducible refine gate_store (ty := 24) (x := .tmp 2) (y := .tmp 27) rfl ?_); refine wpList_store_mid rfl 24 (.tmp 2) (.tmp 27) rfl w.heap.size 0 (mL zeroM).toArray rfl rfl hth infoM (mL_one zeroM) ?_))
    exact told_ret (k := 52) (m := zeroM) rfl rfl ⟨setCells_whole HT.out.res.row rfl, by rw [setCells_size]; exact HT.out.res.lt⟩ (below_setCells HT.out.bel (Nat.le_refl _) _ _) rfl
set_option maxRecDepth 100000 in
set_option maxHeartbeats 8000000 in
theorem rdec_kind (s : ByteArray) (w : World) (h : 24 ≤ s.size) (hm : (bytesOf s).take 3 = [71, 82, 1]) (hk : ¬ (1 ≤ kindL (bytesOf s) ∧ kindL (bytesOf s) < 17)) : Calls Tryd.prog 17 #[.string s] w (Told zeroM 53 w) := by
  have h' : ¬ (s.size : Int) < 24 := by omega
  have s0 : (0 : Int) < (s.size : Int) := by omega
  have s1 : (1 : Int) < (s.size : Int) := by omega
  have s2 : (2 : Int) < (s.size : Int) := by omega
  have s3 : (3 : Int) < (s.size : Int) := by omega
  have N0 : 0 < s.size := by omega
  have N1 : 1 < s.size := by omega
  have N2 : 2 < s.size := by omega
  have N3 : 3 < s.size := by omega
  have hq := take3 s h
  rw [hm] at hq
  simp only [List.cons.injEq, and_true] at hq
  obtain ⟨q0, q1, q2⟩ := hq
  have e0 : (s[0]'N0).toNat = 71 := by omega
  have e1 : (s[1]'N1).toNat = 82 := by omega
  have e2 : (s[2]'N2).toNat = 1 := by omega
  clear q0 q1 q2 hm
  rw [Dec.kindL_byte s N3] at hk
  obtain ⟨kk, e3⟩ : ∃ b : Nat, (s[3]'N3).toNat = b := ⟨_, rfl⟩
  rw [e3] at hk
  have hc : (kk : Int) < 1 ∨ (¬ (kk : Int) < 1 ∧ (kk : Int) > 16) := by omega
  clear hk
  have hwz : (w.alloc (.cells #[.int .i64 0, .int .i64 0, .int .i64 0, .int .i64 0, .int .i64 0, .int .i64 0, .int .i64 0, .int .i64 0, .int .i64 0, .string { data := #[] }, .string { data := #[] }] 24)).alloc (.cells #[.int .i64 0, .int .i64 0, .int .i64 0, .int .i64 0, .int .i64 0, .int .i64 0, .int .i64 0, .int .i64 0, .int .i64 0, .string { data := #[] }, .string { data := #[] }] 24) = (w.alloc (.cells (mL zeroM).toArray 24)).alloc (.cells (mL zeroM).toArray 24) := rfl
  have HT := Aside0.mk (Two.start w)
  have HWZ := Lib.hid hwz
  clear hwz
  rcases hc with c0 | ⟨c0, c1⟩
  all_goals
    go_enter Tryd.func17, Tryd.ntmps17
    go_upto_region 2 with fail
    rw [HWZ.out]
    clear HWZ
    generalize (w.alloc (.cells (mL zeroM).toArray 24)).alloc (.cells (mL zeroM).toArray 24) = wz at HT ⊢
    have hrg := blk_range HT.out.non.row
    have hth := blk_there HT.out.res.row
    go_wp2_with (first | ((with_reducible refine gate_load (ty := 24) (x := .tmp 4) rfl ?_); refine wpList_load_mid rfl 24 (.tmp 4) rfl (w.heap.size + 1) 0 rfl (mL zeroM) _ hrg Tryd.underlying24 rfl infoM ?_) | ((with_reducible refine gate_store (ty := 24) (x := .tmp 2) (y := .tmp 36) rfl ?_); refine wpList_store_mid rfl 24 (.tmp 2) (.tmp 36) rfl w.heap.size 0 (mL zeroM).toArray rfl rfl hth infoM (mL_one zeroM) ?_))
    exact told_ret (k := 53) (m := zeroM) rfl rfl ⟨setCells_whole HT.out.res.row rfl, by rw [setCells_size]; exact HT.out.res.lt⟩ (below_setCells HT.out.bel (Nat.le_refl _) _ _) rfl
set_option maxRecDepth 100000 in
set_option maxHeartbeats 8000000 in
theorem rdec_length (s : ByteArray) (w : World) (h : 24 ≤ s.size) (hsz : s.size ≤ 9223372036854775807) (hm : (bytesOf s).take 3 = [71, 82, 1]) (hk : 1 ≤ kindL (bytesOf s) ∧ kindL (bytesOf s) < 17) (hz : 4383 < bodyN (bytesOf s) ∨ 24 + bodyN (bytesOf s) ≠ (s.size : Int)) : Calls Tryd.prog 17 #[.string s] w (Told zeroM 54 w) := by
  have h' : ¬ (s.size : Int) < 24 := by omega
  have s0 : (0 : Int) < (s.size : Int) := by omega
  have s1 : (1 : Int) < (s.size : Int) := by omega
  have s2 : (2 : Int) < (s.size : Int) := by omega
  have s3 : (3 : Int) < (s.size : Int) := by omega
  have N0 : 0 < s.size := by omega
  have N1 : 1 < s.size := by omega
  have N2 : 2 < s.size := by omega
  have N3 : 3 < s.size := by omega
  have hq := take3 s h
  rw [hm] at hq
  simp only [List.cons.injEq, and_true] at hq
  obtain ⟨q0, q1, q2⟩ := hq
  have e0 : (s[0]'N0).toNat = 71 := by omega
  have e1 : (s[1]'N1).toNat = 82 := by omega
  have e2 : (s[2]'N2).toNat = 1 := by omega
  clear q0 q1 q2 hm
  obtain ⟨kk, e3, hke, hk1, hk2⟩ := Dec.kind_yes s h hk
  have k1 : ¬ (kk : Int) < 1 := by omega
  have k2 : ¬ (kk : Int) > 16 := by omega
  obtain ⟨nb0, nb1, nb2⟩ := numR_body s
  have KN := fun (w : World) => Lib.hid (show Calls Tryd.prog 47 #[.string s, .int .i64 16, .int .i64 4] w (fun e w' => e = .returned (.int .i64 (bodyN (bytesOf s))) ∧ Drawn0 w w') by rw [← nb0]; exact rnumber_any s 16 4 w (by decide) (by omega) hsz)
  clear hk hke nb0
  generalize bodyN (bytesOf s) = n at KN hz nb1 nb2
  have hc : n > 4383 ∨ (¬ n > 4383 ∧ ((s.size : Int) != 24 + n) = true) := by
    by_cases c : n > 4383
    · exact .inl c
    · exact .inr ⟨c, bne_iff_ne.2 (by omega)⟩
  clear hz
  have hwz : (w.alloc (.cells #[.int .i64 0, .int .i64 0, .int .i64 0, .int .i64 0, .int .i64 0, .int .i64 0, .int .i64 0, .int .i64 0, .int .i64 0, .string { data := #[] }, .string { data := #[] }] 24)).alloc (.cells #[.int .i64 0, .int .i64 0, .int .i64 0, .int .i64 0, .int .i64 0, .int .i64 0, .int .i64 0, .int .i64 0, .int .i64 0, .string { data := #[] }, .string { data := #[] }] 24) = (w.alloc (.cells (mL zeroM).toArray 24)).alloc (.cells (mL zeroM).toArray 24) := rfl
  have HT := Aside0.mk (Two.start w)
  have HWZ := Lib.hid hwz
  clear hwz
  rcases hc with c0 | ⟨c0, c1⟩
  all_goals
    go_enter Tryd.func17, Tryd.ntmps17
    go_upto_region 2 with fail
    rw [HWZ.out]
    clear HWZ
    generalize (w.alloc (.cells (mL zeroM).toArray 24)).alloc (.cells (mL zeroM).toArray 24) = wz at HT ⊢
    go_wp2_with fail
    refine (KN _).out.mono ?_
    rintro e w2 ⟨rfl, ⟨⟨n2, rfl⟩⟩⟩
    have HT2 := Aside0.mk (HT.out.drewN n2)
    have hrg := blk_range HT2.out.non.row
    have hth := blk_there HT2.out.res.row
    go_wp2_with (first | ((with_reducible refine gate_load (ty := 24) (x := .tmp 4) rfl ?_); refine wpList_load_mid rfl 24 (.tmp 4) rfl (w.heap.size + 1) 0 rfl (mL zeroM) _ hrg Tryd.underlying24 rfl infoM ?_) | ((with_reducible refine gate_store (ty := 24) (x := .tmp 2) (y := .tmp 48) rfl ?_); refine wpList_store_mid rfl 24 (.tmp 2) (.tmp 48) rfl w.heap.size 0 (mL zeroM).toArray rfl rfl hth infoM (mL_one zeroM) ?_))
    exact told_ret (k := 54) (m := zeroM) rfl rfl ⟨setCells_whole HT2.out.res.row rfl, by rw [setCells_size]; exact HT2.out.res.lt⟩ (below_setCells HT2.out.bel (Nat.le_refl _) _ _) rfl
set_option maxRecDepth 100000 in
set_option maxHeartbeats 8000000 in
theorem rdec_sum (s : ByteArray) (w : World) (h : 24 ≤ s.size) (hsz : s.size ≤ 9223372036854775807) (hm : (bytesOf s).take 3 = [71, 82, 1]) (hk : 1 ≤ kindL (bytesOf s) ∧ kindL (bytesOf s) < 17) (hz : bodyN (bytesOf s) ≤ 4383) (hz2 : 24 + bodyN (bytesOf s) = (s.size : Int))
    (hs : sumL ((bytesOf s).take (s.size - 4)) ≠ (bytesOf s).drop (s.size - 4)) : Calls Tryd.prog 17 #[.string s] w (Told zeroM 55 w) := by
  have h' : ¬ (s.size : Int) < 24 := by omega
  have s0 : (0 : Int) < (s.size : Int) := by omega
  have s1 : (1 : Int) < (s.size : Int) := by omega
  have s2 : (2 : Int) < (s.size : Int) := by omega
  have s3 : (3 : Int) < (s.size : Int) := by omega
  have N0 : 0 < s.size := by omega
  have N1 : 1 < s.size := by omega
  have N2 : 2 < s.size := by omega
  have N3 : 3 < s.size := by omega
  have hq := take3 s h
  rw [hm] at hq
  simp only [List.cons.injEq, and_true] at hq
  obtain ⟨q0, q1, q2⟩ := hq
  have e0 : (s[0]'N0).toNat = 71 := by omega
  have e1 : (s[1]'N1).toNat = 82 := by omega
  have e2 : (s[2]'N2).toNat = 1 := by omega
  clear q0 q1 q2 hm
  obtain ⟨kk, e3, hke, hk1, hk2⟩ := Dec.kind_yes s h hk
  have k1 : ¬ (kk : Int) < 1 := by omega
  have k2 : ¬ (kk : Int) > 16 := by omega
  obtain ⟨nb0, nb1, nb2⟩ := numR_body s
  have KN := fun (w : World) => Lib.hid (show Calls Tryd.prog 47 #[.string s, .int .i64 16, .int .i64 4] w (fun e w' => e = .returned (.int .i64 (bodyN (bytesOf s))) ∧ Drawn0 w w') by rw [← nb0]; exact rnumber_any s 16 4 w (by decide) (by omega) hsz)
  have hl : (s.size : Int) = 24 + bodyN (bytesOf s) := by omega
  have hby := byt_bytesOf s
  have hx1 := extract_head s (s.size - 4) (by omega)
  have hx2 := extract_tail s (s.size - 4) (by omega)
  have hS : bytesOf (strOfNums ((bytesOf s).take (s.size - 4))) = (bytesOf s).take (s.size - 4) := bytesOf_strOfNums _ (byt_take hby _)
  have KU := fun (w : World) => rsum_any (strOfNums ((bytesOf s).take (s.size - 4))) w (by rw [strOfNums_size, List.length_take]; omega)
  rw [hS] at KU
  have hq2 := str_eq2 (sumL ((bytesOf s).take (s.size - 4))) ((bytesOf s).drop (s.size - 4)) (byt_sumL _) (byt_drop hby _)
  rw [decide_eq_false (by exact hs)] at hq2
  have n1 : ((20 : Int) + bodyN (bytesOf s)).toNat = s.size - 4 := by omega
  have n2 : (0 : Int) ≤ 20 + bodyN (bytesOf s) := by omega
  have n3 : (20 : Int) + bodyN (bytesOf s) ≤ s.size := by omega
  have hs1 := fun wx => run_slice_string_h (P := Tryd.prog) wx 9 s Tryd.underlying9 .i64 ((20 : Int) + bodyN (bytesOf s)) n2 n3
  have hs2 := fun wx => run_slice_string_l (P := Tryd.prog) wx 9 s Tryd.underlying9 .i64 ((20 : Int) + bodyN (bytesOf s)) n2 n3
  rw [n1, hx1] at hs1
  rw [n1, hx2] at hs2
  generalize strOfNums ((bytesOf s).take (s.size - 4)) = S1 at KU hs1
  generalize strOfNums (sumL ((bytesOf s).take (s.size - 4))) = S2 at KU hq2
  generalize strOfNums ((bytesOf s).drop (s.size - 4)) = S3 at hs2 hq2
  generalize bodyN (bytesOf s) = n at KN nb1 nb2 hl n2 n3 hs1 hs2 hz hz2
  have hle : ¬ n > 4383 := by omega
  have hne : ((s.size : Int) != 24 + n) = false := by rw [hl]; simp
  have w1 : IntKind.i64.wrap (20 + n) = 20 + n := by rw [IntKind.wrap_i64]; omega
  have KU' := fun w => Lib.hid (KU w)
  clear hk hke nb0 hs hS hx1 hx2 KU hz hz2 n1
  have hwz : (w.alloc (.cells #[.int .i64 0, .int .i64 0, .int .i64 0, .int .i64 0, .int .i64 0, .int .i64 0, .int .i64 0, .int .i64 0, .int .i64 0, .string { data := #[] }, .string { data := #[] }] 24)).alloc (.cells #[.int .i64 0, .int .i64 0, .int .i64 0, .int .i64 0, .int .i64 0, .int .i64 0, .int .i64 0, .int .i64 0, .int .i64 0, .string { data := #[] }, .string { data := #[] }] 24) = (w.alloc (.cells (mL zeroM).toArray 24)).alloc (.cells (mL zeroM).toArray 24) := rfl
  have HT := Aside0.mk (Two.start w)
  have HWZ := Lib.hid hwz
  clear hwz
  go_enter Tryd.func17, Tryd.ntmps17
  go_upto_region 2 with fail
  rw [HWZ.out]
  clear HWZ
  generalize (w.alloc (.cells (mL zeroM).toArray 24)).alloc (.cells (mL zeroM).toArray 24) = wz at HT ⊢
  go_wp2_with fail
  refine (KN _).out.mono ?_
  rintro e w2 ⟨rfl, ⟨⟨n2, rfl⟩⟩⟩
  have HT2 := Aside0.mk (HT.out.drewN n2)
  clear KN HT
  go_wp2_with fail
  go_region_with ((go_at_call 43; refine (KU' _).out.mono ?_; rintro e w3 ⟨rfl, hb⟩; have HB3 := Aside0.mk hb; clear hb))
  all_goals
    have HT3 := Aside0.mk (HT2.out.below (W1 := w3) ⟨HB3.out.os, HB3.out.tape, HB3.out.output, HB3.out.size, HB3.out.block⟩)
    clear HB3 HT2 KU'
    have hrg := blk_range HT3.out.non.row
    have hth := blk_there HT3.out.res.row
    go_wp2_with (first | ((with_reducible refine gate_load (ty := 24) (x := .tmp 4) rfl ?_); refine wpList_load_mid rfl 24 (.tmp 4) rfl (w.heap.size + 1) 0 rfl (mL zeroM) _ hrg Tryd.underlying24 rfl infoM ?_) | ((with_reducible refine gate_store (ty := 24) (x := .tmp 2) (y := .tmp 59) rfl ?_); refine wpList_store_mid rfl 24 (.tmp 2) (.tmp 59) rfl w.heap.size 0 (mL zeroM).toArray rfl rfl hth infoM (mL_one zeroM) ?_))
    exact told_ret (k := 55) (m := zeroM) rfl rfl ⟨setCells_whole HT3.out.res.row rfl, by rw [setCells_size]; exact HT3.out.res.lt⟩ (below_setCells HT3.out.bel (Nat.le_refl _) _ _) rfl
end Go.Proofs.YtnifgokjagahfaaDoor.RefDec
