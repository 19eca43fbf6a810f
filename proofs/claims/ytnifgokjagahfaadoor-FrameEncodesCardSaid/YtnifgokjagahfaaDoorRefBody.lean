/- The document's body. -/
import Derived.Test.YtnifgokjagahfaaDoorRefValid
import Derived.Test.YtnifgokjagahfaaDoorRefSum
import Derived.Test.YtnifgokjagahfaaDoorEncAny
set_option linter.unusedVariables false
set_option linter.unusedSimpArgs false
namespace Go.Proofs.YtnifgokjagahfaaDoor.RefF
open Go.RowKit Go.Proofs.YtnifgokjagahfaaDoorW.PrintWords Go.Proofs.YtnifgokjagahfaaDoorW.PrintLast Go.Proofs.YtnifgokjagahfaaDoorW.PrintMore
open Go.Proofs.YtnifgokjagahfaaDoor.Base Go.Proofs.YtnifgokjagahfaaDoor.App Go.Proofs.YtnifgokjagahfaaDoor.Layouts Go.Proofs.YtnifgokjagahfaaDoor.Msg Go.Proofs.YtnifgokjagahfaaDoor.Put Go.Proofs.YtnifgokjagahfaaDoor.EncPure Go.Proofs.YtnifgokjagahfaaDoor.DecPure Go.Proofs.YtnifgokjagahfaaDoor.RefSum
theorem strOfNums_nil : strOfNums [] = (⟨#[]⟩ : ByteArray) := rfl
theorem body_text (m : M) (fs : List Nat) (j n : Nat) (h : fs[j]? = some n) : strOfNums (bodyB m (fs.take (j + 1))) = strOfNums (bodyB m (fs.take j)) ++ strOfNums (fieldB m n) := by
  rw [Enc.body_snoc m fs j n h, Enc.strOfNums_append]
theorem field_num (m : M) (n : Nat) (h : n < 5) : strOfNums (fieldB m n) = strOfNums (be (numOf m n) (wN n)) := by
  unfold fieldB; rw [textOf_num m n h, List.append_nil]
theorem field_key (m : M) : strOfNums (fieldB m 5) = strOfNums (be m.key.size 2) ++ m.key := by
  show strOfNums (be (numOf m 5) 2 ++ bytesOf m.key) = _
  rw [Enc.strOfNums_append, strOfNums_bytesOf]; rfl
theorem field_value (m : M) : strOfNums (fieldB m 6) = strOfNums (be m.value.size 4) ++ m.value := by
  show strOfNums (be (numOf m 6) 4 ++ bytesOf m.value) = _
  rw [Enc.strOfNums_append, strOfNums_bytesOf]; rfl
set_option maxRecDepth 100000 in
set_option maxHeartbeats 8000000 in
theorem rbody_any (m : M) (w : World) (hk : 1 ≤ m.kind ∧ m.kind < 17) (hv : vB m = true) (hR : RTab w) : Calls Tryd.prog 41 #[.agg (mL m).toArray] w fun e w' => e = .returned (.string (strOfNums (bodyB m (fieldsOf m.kind.toNat)))) ∧ Below w.heap.size w w' := by
  have HL := Aside0.mk (body_length_le m hv hk)
  obtain ⟨kk, hkk⟩ : ∃ kk : Nat, m.kind = (kk : Int) := ⟨m.kind.toNat, by omega⟩
  have hkl : kk < 17 := by omega
  have hkk17 : (kk : Int) < 17 := by omega
  have HB := Aside0.mk ((Below.refl w.heap.size w).alloc (Nat.le_refl _) (.cells (mL m).toArray 24))
  have HM : Aside0 (MBox (w.alloc (.cells (mL m).toArray 24)) w.heap.size m) := ⟨⟨Go.heap_alloc_new w _, by simp⟩⟩
  have hR1 := hR.below HB.out
  generalize hwa : w.alloc (.cells (mL m).toArray 24) = wa at HB HM hR1
  have hc0 : wa.cell? ⟨w.heap.size, 0, none⟩ = some (.int .i64 (kk : Int)) := by rw [← hkk]; exact HM.out.c 0
  have hct := hR1.cell kk hkl
  have hsz := fstr_size kk
  have hat := fun j n hn h => fstr_at kk j n hkl hn h
  have HI := Aside0.mk (fun j n => fields_lt kk hkl j n)
  have h6 := fields_len kk hkl
  have HF := Aside0.mk (vB_facts m hv).2.2.2
  have ek : m.kind.toNat = kk := by rw [hkk, Int.toNat_natCast]
  rw [ek] at HL ⊢
  generalize fieldsOf kk = fs at hsz hat h6 HI HL ⊢
  generalize fstr kk = S at hct hsz hat
  have HS := Aside0.mk hsz
  have HA := Aside0.mk hat
  have h6' : S.size ≤ 6 := by omega
  clear hsz hat hR hR1 h6 hk hkk hv
  go_enter Tryd.func41, Tryd.ntmps41
  go_wp2
  have hwl : w.heap.size < wa.heap.size := HM.out.lt
  have HBA := Aside0.mk (Below.refl wa.heap.size wa)
  clear hwa hc0 hct
  go_loopw [4, 5, 6] (fun bv iv _ wr => ∃ j : Nat, j ≤ S.size ∧ iv = .int .i64 (j : Int) ∧ bv = .string (strOfNums (bodyB m (fs.take j))) ∧ Aside0 (Below wa.heap.size wa wr)) (fun _ iv _ _ => 7 - (intOf iv).toNat)
  case atStart => exact ⟨0, Nat.zero_le _, rfl, rfl, HBA⟩
  case round =>
    clear HBA
    obtain ⟨j, hj, rfl, rfl, HBR⟩ := hrel
    obtain ⟨wo, rfl⟩ : ∃ wo : World, wo = wr := ⟨_, rfl⟩
    by_cases hlt : j < S.size
    · obtain ⟨n, hn⟩ : ∃ n, fs[j]? = some n := ⟨_, List.getElem?_eq_getElem (by rw [← HS.out]; exact hlt)⟩
      have ha := HA.out j n hn hlt
      have hn7 := HI.out j n hn
      have HX := Lib.hid (body_text m fs j n hn)
      have z1 : (strOfNums (bodyB m (fs.take j))).size ≤ 5000 := by
        rw [strOfNums_size]
        have := Enc.body_take_le m fs j
        have := HL.out
        omega
      have hnm := HF.out n hn7
      have HMo := Aside0.mk (HM.out.below HBR.out hwl)
      generalize strOfNums (bodyB m (fs.take j)) = X at HX z1 ⊢
      clear hn
      have e : n = 0 ∨ n = 1 ∨ n = 2 ∨ n = 3 ∨ n = 4 ∨ n = 5 ∨ n = 6 := by omega
      rcases e with e | e | e | e | e | e | e <;> subst e
      · have hc : wo.cell? ⟨w.heap.size, 4, none⟩ = some (.int .i64 m.epoch) := HMo.out.c 4
        have hn1 : 0 ≤ m.epoch := hnm.1
        have hn2 : m.epoch ≤ 9007199254740992 := hnm.2
        have KD := Lib.hid (digits_any m.epoch 8 wo hn1 (by omega) (by decide))
        have ha' : (S[j]'hlt).toNat = 69 := ha
        have z2 : (strOfNums (be m.epoch 8)).size = 8 := by rw [strOfNums_size, be_length]
        have HY : Aside0 (strOfNums (bodyB m (fs.take (j + 1))) = X ++ strOfNums (be m.epoch 8)) := ⟨by rw [HX.out, field_num m 0 (by decide)]; rfl⟩
        clear ha hnm HX
        generalize strOfNums (be m.epoch 8) = D at KD z2 HY
        have z3 : D.size ≤ 8 := by omega
        clear z2
        go_wp2_with fail
        refine KD.out.mono ?_
        rintro e w2 ⟨rfl, hb⟩
        have HB2 := Aside0.mk (HBR.out.trans (hb.mono HBR.out.size))
        clear hb KD hc
        go_wp2
        go_roundw
        case rel => exact ⟨j + 1, by omega, by go_num, by rw [HY.out], HB2⟩
        case measure => simp [intOf]; omega
      · have hc : wo.cell? ⟨w.heap.size, 5, none⟩ = some (.int .i64 m.seq) := HMo.out.c 5
        have hn1 : 0 ≤ m.seq := hnm.1
        have hn2 : m.seq ≤ 9007199254740992 := hnm.2
        have KD := Lib.hid (digits_any m.seq 8 wo hn1 (by omega) (by decide))
        have ha' : (S[j]'hlt).toNat = 83 := ha
        have z2 : (strOfNums (be m.seq 8)).size = 8 := by rw [strOfNums_size, be_length]
        have HY : Aside0 (strOfNums (bodyB m (fs.take (j + 1))) = X ++ strOfNums (be m.seq 8)) := ⟨by rw [HX.out, field_num m 1 (by decide)]; rfl⟩
        clear ha hnm HX
        generalize strOfNums (be m.seq 8) = D at KD z2 HY
        have z3 : D.size ≤ 8 := by omega
        clear z2
        go_wp2_with fail
        refine KD.out.mono ?_
        rintro e w2 ⟨rfl, hb⟩
        have HB2 := Aside0.mk (HBR.out.trans (hb.mono HBR.out.size))
        clear hb KD hc
        go_wp2
        go_roundw
        case rel => exact ⟨j + 1, by omega, by go_num, by rw [HY.out], HB2⟩
        case measure => simp [intOf]; omega
      · have hc : wo.cell? ⟨w.heap.size, 6, none⟩ = some (.int .i64 m.version) := HMo.out.c 6
        have hn1 : 0 ≤ m.version := hnm.1
        have hn2 : m.version ≤ 9007199254740992 := hnm.2
        have KD := Lib.hid (digits_any m.version 8 wo hn1 (by omega) (by decide))
        have ha' : (S[j]'hlt).toNat = 86 := ha
        have z2 : (strOfNums (be m.version 8)).size = 8 := by rw [strOfNums_size, be_length]
        have HY : Aside0 (strOfNums (bodyB m (fs.take (j + 1))) = X ++ strOfNums (be m.version 8)) := ⟨by rw [HX.out, field_num m 2 (by decide)]; rfl⟩
        clear ha hnm HX
        generalize strOfNums (be m.version 8) = D at KD z2 HY
        have z3 : D.size ≤ 8 := by omega
        clear z2
        go_wp2_with fail
        refine KD.out.mono ?_
        rintro e w2 ⟨rfl, hb⟩
        have HB2 := Aside0.mk (HBR.out.trans (hb.mono HBR.out.size))
        clear hb KD hc
        go_wp2
        go_roundw
        case rel => exact ⟨j + 1, by omega, by go_num, by rw [HY.out], HB2⟩
        case measure => simp [intOf]; omega
      · have hc : wo.cell? ⟨w.heap.size, 7, none⟩ = some (.int .i64 m.prev) := HMo.out.c 7
        have hn1 : 0 ≤ m.prev := hnm.1
        have hn2 : m.prev ≤ 9007199254740992 := hnm.2
        have KD := Lib.hid (digits_any m.prev 8 wo hn1 (by omega) (by decide))
        have ha' : (S[j]'hlt).toNat = 80 := ha
        have z2 : (strOfNums (be m.prev 8)).size = 8 := by rw [strOfNums_size, be_length]
        have HY : Aside0 (strOfNums (bodyB m (fs.take (j + 1))) = X ++ strOfNums (be m.prev 8)) := ⟨by rw [HX.out, field_num m 3 (by decide)]; rfl⟩
        clear ha hnm HX
        generalize strOfNums (be m.prev 8) = D at KD z2 HY
        have z3 : D.size ≤ 8 := by omega
        clear z2
        go_wp2_with fail
        refine KD.out.mono ?_
        rintro e w2 ⟨rfl, hb⟩
        have HB2 := Aside0.mk (HBR.out.trans (hb.mono HBR.out.size))
        clear hb KD hc
        go_wp2
        go_roundw
        case rel => exact ⟨j + 1, by omega, by go_num, by rw [HY.out], HB2⟩
        case measure => simp [intOf]; omega
      · have hc : wo.cell? ⟨w.heap.size, 8, none⟩ = some (.int .i64 m.code) := HMo.out.c 8
        have hn1 : 0 ≤ m.code := hnm.1
        have hn2 : m.code ≤ 65535 := hnm.2
        have KD := Lib.hid (digits_any m.code 2 wo hn1 (by omega) (by decide))
        have ha' : (S[j]'hlt).toNat = 67 := ha
        have z2 : (strOfNums (be m.code 2)).size = 2 := by rw [strOfNums_size, be_length]
        have HY : Aside0 (strOfNums (bodyB m (fs.take (j + 1))) = X ++ strOfNums (be m.code 2)) := ⟨by rw [HX.out, field_num m 4 (by decide)]; rfl⟩
        clear ha hnm HX
        generalize strOfNums (be m.code 2) = D at KD z2 HY
        have z3 : D.size ≤ 8 := by omega
        clear z2
        go_wp2_with fail
        refine KD.out.mono ?_
        rintro e w2 ⟨rfl, hb⟩
        have HB2 := Aside0.mk (HBR.out.trans (hb.mono HBR.out.size))
        clear hb KD hc
        go_wp2
        go_roundw
        case rel => exact ⟨j + 1, by omega, by go_num, by rw [HY.out], HB2⟩
        case measure => simp [intOf]; omega
      · have hc : wo.cell? ⟨w.heap.size, 9, none⟩ = some (.string m.key) := HMo.out.c 9
        have hn2 : (m.key.size : Int) ≤ 255 := hnm.2
        have KD := fun (w : World) => Lib.hid (digits_any m.key.size 2 w (by omega) (by omega) (by decide))
        have ha' : (S[j]'hlt).toNat = 75 := ha
        have z2 : (strOfNums (be m.key.size 2)).size = 2 := by rw [strOfNums_size, be_length]
        have HY : Aside0 (strOfNums (bodyB m (fs.take (j + 1))) = X ++ (strOfNums (be m.key.size 2) ++ m.key)) := ⟨by rw [HX.out, field_key]⟩
        clear ha hnm HX
        generalize strOfNums (be m.key.size 2) = D at KD z2 HY
        have z3 : D.size ≤ 8 := by omega
        have hwo : w.heap.size < wo.heap.size := Nat.lt_of_lt_of_le hwl HBR.out.size
        clear z2
        go_wp2_with fail
        go_region_with ((go_at_call 42; refine (KD _).out.mono ?_; rintro e w2 ⟨rfl, hb⟩; have hc2 : w2.cell? ⟨w.heap.size, 9, none⟩ = some (.string m.key) := (hb.cell (p := ⟨w.heap.size, 9, none⟩) hwo).trans hc; have HB2 := Aside0.mk hb; clear hb))
        all_goals
          have HB3 : Aside0 (Below wa.heap.size wa w2) := ⟨HBR.out.trans (Below.mono (⟨HB2.out.os, HB2.out.tape, HB2.out.output, HB2.out.size, HB2.out.block⟩ : Below wo.heap.size wo w2) HBR.out.size)⟩
          clear HB2
          go_wp2
          go_roundw
          case rel => exact ⟨j + 1, by omega, by go_num, by rw [HY.out], ⟨HB3.out.os, HB3.out.tape, HB3.out.output, HB3.out.size, HB3.out.block⟩⟩
          case measure => simp [intOf]; omega
      · have hc : wo.cell? ⟨w.heap.size, 10, none⟩ = some (.string m.value) := HMo.out.c 10
        have hn2 : (m.value.size : Int) ≤ 4096 := hnm.2
        have KD := fun (w : World) => Lib.hid (digits_any m.value.size 4 w (by omega) (by omega) (by decide))
        have ha' : (S[j]'hlt).toNat = 87 := ha
        have z2 : (strOfNums (be m.value.size 4)).size = 4 := by rw [strOfNums_size, be_length]
        have HY : Aside0 (strOfNums (bodyB m (fs.take (j + 1))) = X ++ (strOfNums (be m.value.size 4) ++ m.value)) := ⟨by rw [HX.out, field_value]⟩
        clear ha hnm HX
        generalize strOfNums (be m.value.size 4) = D at KD z2 HY
        have z3 : D.size ≤ 8 := by omega
        have hwo : w.heap.size < wo.heap.size := Nat.lt_of_lt_of_le hwl HBR.out.size
        clear z2
        go_wp2_with fail
        go_region_with ((go_at_call 42; refine (KD _).out.mono ?_; rintro e w2 ⟨rfl, hb⟩; have hc2 : w2.cell? ⟨w.heap.size, 10, none⟩ = some (.string m.value) := (hb.cell (p := ⟨w.heap.size, 10, none⟩) hwo).trans hc; have HB2 := Aside0.mk hb; clear hb))
        all_goals
          have HB3 : Aside0 (Below wa.heap.size wa w2) := ⟨HBR.out.trans (Below.mono (⟨HB2.out.os, HB2.out.tape, HB2.out.output, HB2.out.size, HB2.out.block⟩ : Below wo.heap.size wo w2) HBR.out.size)⟩
          clear HB2
          go_wp2
          go_roundw
          case rel => exact ⟨j + 1, by omega, by go_num, by rw [HY.out], ⟨HB3.out.os, HB3.out.tape, HB3.out.output, HB3.out.size, HB3.out.block⟩⟩
          case measure => simp [intOf]; omega
    · obtain rfl : j = S.size := by omega
      have ht : fs.take S.size = fs := by rw [HS.out, List.take_length]
      have HBE := Aside0.mk (HB.out.trans (HBR.out.mono HB.out.size))
      rw [ht]
      go_wp2
      go_ret
      exact ⟨rfl, HBE.out⟩
end Go.Proofs.YtnifgokjagahfaaDoor.RefF
