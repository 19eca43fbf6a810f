/- Encode answers as encP says. -/
import Derived.Test.YtnifgokjagahfaaDoorEnc
set_option linter.unusedVariables false
set_option linter.unusedSimpArgs false
namespace Go.Proofs.YtnifgokjagahfaaDoor.Enc
open Go.RowKit Go.Proofs.YtnifgokjagahfaaDoorW.PrintWords Go.Proofs.YtnifgokjagahfaaDoorW.PrintLast Go.Proofs.YtnifgokjagahfaaDoorW.PrintMore
open Go.Proofs.YtnifgokjagahfaaDoor.Base Go.Proofs.YtnifgokjagahfaaDoor.App Go.Proofs.YtnifgokjagahfaaDoor.Layouts Go.Proofs.YtnifgokjagahfaaDoor.Msg Go.Proofs.YtnifgokjagahfaaDoor.Put Go.Proofs.YtnifgokjagahfaaDoor.EncPure Go.Proofs.YtnifgokjagahfaaDoor.DecPure
def kB (m : M) : Bool := decide (1 ≤ m.kind ∧ m.kind < 17)
def encP (m : M) : ByteArray × Int := if kB m = true then (if vB m = true then (strOfNums (whole m), 0) else (ByteArray.empty, 50)) else (ByteArray.empty, 53)
theorem strOfNums_append (a b : List Int) : strOfNums (a ++ b) = strOfNums a ++ strOfNums b := by
  apply ByteArray.ext
  unfold strOfNums
  rw [List.map_append]
  simp [ByteArray.data_append]
set_option maxRecDepth 100000 in
set_option maxHeartbeats 4000000 in
theorem enc_kind (m : M) (w : World) (hk : ¬ (1 ≤ m.kind ∧ m.kind < 17)) : Calls Tryd.prog 13 #[.agg (mL m).toArray] w fun e w' => e = .returned (.tuple #[.string ByteArray.empty, .int .i64 53]) ∧ Below w.heap.size w w' := by
  have HB0 := Aside0.mk ((Below.refl w.heap.size w).alloc (Nat.le_refl _) (.cells (mL m).toArray 24))
  have HM0 : Aside0 (MBox (w.alloc (.cells (mL m).toArray 24)) w.heap.size m) := ⟨⟨Go.heap_alloc_new w _, by simp⟩⟩
  have hc0 : (w.alloc (.cells (mL m).toArray 24)).cell? ⟨w.heap.size, 0, none⟩ = some (.int .i64 m.kind) := HM0.out.c 0
  have K := fun w => Lib.hid (known_no m.kind w hk)
  clear hk
  go_enter Tryd.func13, Tryd.ntmps13
  go_wp2_with fail
  refine (K _).out.mono ?_
  rintro e w1 ⟨rfl, hb⟩
  have HB1 := Aside0.mk (HB0.out.trans (hb.mono HB0.out.size))
  clear hb hc0 HB0 K
  go_wp2
  go_ret2
  exact ⟨rfl, HB1.out⟩
set_option maxRecDepth 100000 in
set_option maxHeartbeats 4000000 in
theorem enc_field (m : M) (w : World) (hk : 1 ≤ m.kind ∧ m.kind < 17) (hv : vB m = false) : Calls Tryd.prog 13 #[.agg (mL m).toArray] w fun e w' => e = .returned (.tuple #[.string ByteArray.empty, .int .i64 50]) ∧ Below w.heap.size w w' := by
  have HB0 := Aside0.mk ((Below.refl w.heap.size w).alloc (Nat.le_refl _) (.cells (mL m).toArray 24))
  have HM0 : Aside0 (MBox (w.alloc (.cells (mL m).toArray 24)) w.heap.size m) := ⟨⟨Go.heap_alloc_new w _, by simp⟩⟩
  have hc0 : (w.alloc (.cells (mL m).toArray 24)).cell? ⟨w.heap.size, 0, none⟩ = some (.int .i64 m.kind) := HM0.out.c 0
  have K := fun w => Lib.hid (known_yes m.kind w hk)
  have HK := Aside0.mk hk
  have HV := Aside0.mk hv
  clear hk hv
  go_enter Tryd.func13, Tryd.ntmps13
  go_wp2_with fail
  refine (K _).out.mono ?_
  rintro e w1 ⟨rfl, hb⟩
  have HM1 := Aside0.mk (HM0.out.below hb (by simp))
  have HB1 := Aside0.mk (HB0.out.trans (hb.mono HB0.out.size))
  clear hb hc0 HB0 K
  go_wp2_with fail
  refine (valid_any w.heap.size m w1 HM1.out HK.out).mono ?_
  rintro e w2 ⟨rfl, hb⟩
  have HB2 := Aside0.mk (HB1.out.trans (hb.mono HB1.out.size))
  clear hb HM1 HB1
  rw [HV.out]
  go_wp2
  go_ret2
  exact ⟨rfl, HB2.out⟩
theorem enc_any (m : M) (w : World) (hN : Crc.Nibs w) : Calls Tryd.prog 13 #[.agg (mL m).toArray] w fun e w' => e = .returned (.tuple #[.string (encP m).1, .int .i64 (encP m).2]) ∧ Below w.heap.size w w' := by
  unfold encP kB
  by_cases hk : 1 ≤ m.kind ∧ m.kind < 17
  · rw [if_pos (decide_eq_true hk)]
    cases hv : vB m
    · rw [if_neg (by decide)]; exact enc_field m w hk hv
    · rw [if_pos rfl]
      have e : strOfNums (whole m) = strOfNums (frameB m) ++ sumS (strOfNums (frameB m)) := by
        unfold whole
        rw [strOfNums_append, sumS_eq, bytesOf_strOfNums _ (byt_frame m hk)]
      simp only [e]
      exact enc_good m w hk hv hN
  · rw [if_neg (by simpa using hk)]; exact enc_kind m w hk
end Go.Proofs.YtnifgokjagahfaaDoor.Enc
