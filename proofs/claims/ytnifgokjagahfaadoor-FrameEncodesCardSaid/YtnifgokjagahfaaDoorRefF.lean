/- The document's fields: has, fits, valid. -/
import Derived.Test.YtnifgokjagahfaaDoorEncPure
import Derived.Deep.DeepCutAuto
set_option linter.unusedVariables false
set_option linter.unusedSimpArgs false
namespace Go.Proofs.YtnifgokjagahfaaDoor.RefF
open Go.RowKit Go.Proofs.YtnifgokjagahfaaDoorW.PrintWords Go.Proofs.YtnifgokjagahfaaDoorW.PrintLast Go.Proofs.YtnifgokjagahfaaDoorW.PrintMore
open Go.Proofs.YtnifgokjagahfaaDoor.Base Go.Proofs.YtnifgokjagahfaaDoor.App Go.Proofs.YtnifgokjagahfaaDoor.Layouts Go.Proofs.YtnifgokjagahfaaDoor.Msg Go.Proofs.YtnifgokjagahfaaDoor.Put Go.Proofs.YtnifgokjagahfaaDoor.EncPure
/-- the letters: E S V P C K W -/
def chOf : Nat → Nat
  | 0 => 69
  | 1 => 83
  | 2 => 86
  | 3 => 80
  | 4 => 67
  | 5 => 75
  | _ => 87
theorem chOf_inj : ∀ f, f < 7 → ∀ g, g < 7 → chOf f = chOf g → f = g := by decide
def fstr (k : Nat) : ByteArray := ⟨((fieldsOf k).map fun f => UInt8.ofNat (chOf f)).toArray⟩
theorem fstr_size (k : Nat) : (fstr k).size = (fieldsOf k).length := by simp [fstr, ByteArray.size]
theorem fstr_at (k j n : Nat) (hk : k < 17) (hn : (fieldsOf k)[j]? = some n) (h : j < (fstr k).size) : ((fstr k)[j]'h).toNat = chOf n := by
  have hn7 : n < 7 := fields_lt k hk j n hn
  have e : (fstr k)[j]'h = UInt8.ofNat (chOf n) := by
    have hj : j < (fieldsOf k).length := by rw [← fstr_size]; exact h
    have h2 : (fieldsOf k)[j] = n := by rw [List.getElem?_eq_getElem hj] at hn; exact Option.some.inj hn
    show (fstr k).data[j]'_ = _
    simp only [fstr, List.getElem_toArray, List.getElem_map, h2]
  rw [e]
  have : ∀ n, n < 7 → (UInt8.ofNat (chOf n)).toNat = chOf n := by decide
  exact this n hn7
/-- the table lies where it was laid -/
structure RTab (w : World) : Prop where mk :: (cell : ∀ i, i < 17 → w.cell? ⟨1, i, none⟩ = some (.string (fstr i))) (lt : 1 < w.heap.size)
theorem RTab.below {w w1 : World} (h : RTab w) (hb : Below w.heap.size w w1) : RTab w1 :=
  ⟨fun i hi => (hb.cell (p := ⟨1, i, none⟩) h.lt).trans (h.cell i hi), Nat.lt_of_lt_of_le h.lt hb.size⟩
def hasB (k f : Nat) : Bool := (fieldsOf k).contains f
set_option maxRecDepth 100000 in
set_option maxHeartbeats 4000000 in
theorem has_any (k f : Nat) (w : World) (hk : k < 17) (hf : f < 7) (hR : RTab w) : Calls Tryd.prog 83 #[.int .i64 (k : Nat), .int .u8 (chOf f : Nat)] w fun e w' => e = .returned (.bool (hasB k f)) ∧ w = w' := by
  have hc := hR.cell k hk
  have hsz := fstr_size k
  have hat := fun j n hn h => fstr_at k j n hk hn h
  have HI := Aside0.mk (fun j n => fields_lt k hk j n)
  have hB : hasB k f = (fieldsOf k).contains f := rfl
  have h6 := fields_len k hk
  have hkk : (k : Int) < 17 := by omega
  generalize fieldsOf k = fs at hsz hat hB h6 HI
  generalize fstr k = S at hc hsz hat
  generalize hasB k f = r at hB ⊢
  have HS := Aside0.mk hsz
  have HA := Aside0.mk hat
  have HBB := Lib.hid hB
  have h6' : S.size ≤ 6 := by omega
  clear hsz hat hB hR h6
  go_enter Tryd.func83, Tryd.ntmps83
  go_wp2
  go_loop [6] (fun iv => ∃ j : Nat, j ≤ S.size ∧ iv = .int .i64 (j : Int) ∧ Aside0 ((fs.take j).contains f = false)) (fun iv => 7 - (intOf iv).toNat)
  case atStart => exact ⟨0, Nat.zero_le _, rfl, ⟨by simp⟩⟩
  case round =>
    obtain ⟨j, hj, rfl, HN⟩ := hrel
    by_cases hlt : j < S.size
    · obtain ⟨n, hn⟩ : ∃ n, fs[j]? = some n := ⟨_, List.getElem?_eq_getElem (by rw [← HS.out]; exact hlt)⟩
      have ha := HA.out j n hn hlt
      have hn7 := HI.out j n hn
      have HX := Aside0.mk hn
      by_cases he : n = f
      · subst he
        have HT : Aside0 (r = true) := ⟨by rw [HBB.out]; simpa using List.mem_of_getElem? hn⟩
        clear hn
        go_wp2
        go_ret
        exact ⟨by rw [HT.out]; rfl, rfl⟩
      · have hne : ¬ (chOf n : Int) = (chOf f : Int) := fun h => he (chOf_inj n hn7 f hf (by omega))
        have hne2 : ((chOf n : Int) == (chOf f : Int)) = false := beq_eq_false_iff_ne.2 hne
        have HT : Aside0 ((fs.take (j + 1)).contains f = false) := ⟨by
          rw [List.take_add_one, hn, Option.toList_some, List.contains_append]
          rw [HN.out]
          simp
          exact fun h => he h.symm⟩
        clear hn
        generalize chOf n = cn at ha hne hne2
        generalize chOf f = cf at hne hne2
        go_wp2
        go_round
        case rel => exact ⟨j + 1, by omega, by go_num, HT⟩
        case measure => simp [intOf]; omega
    · obtain rfl : j = S.size := by omega
      have HT : Aside0 (r = false) := ⟨by
        rw [HBB.out, ← HN.out, List.take_of_length_le (by rw [HS.out]; exact Nat.le_refl _)]⟩
      go_wp2
      go_ret
      exact ⟨by rw [HT.out]; rfl, rfl⟩
def fitB (k f : Nat) (n most : Int) : Bool := wi n (if hasB k f = true then most else 0)
set_option maxRecDepth 100000 in
set_option maxHeartbeats 4000000 in
theorem fits_any (k f : Nat) (n most : Int) (w : World) (hk : k < 17) (hf : f < 7) (hR : RTab w) : Calls Tryd.prog 69 #[.int .i64 (k : Nat), .int .u8 (chOf f : Nat), .int .i64 n, .int .i64 most] w fun e w' => e = .returned (.bool (fitB k f n most)) ∧ w = w' := by
  have K := Lib.hid (has_any k f w hk hf hR)
  have hB : fitB k f n most = wi n (if hasB k f = true then most else 0) := rfl
  generalize hasB k f = b at K hB
  generalize fitB k f n most = r at hB ⊢
  cases b
  · rw [if_neg (by decide)] at hB
    have hB2 : r = decide (n = 0) := by
      rw [hB, Bool.eq_iff_iff]
      simp only [decide_eq_true_iff]
      constructor
      · intro h; have := wi_of h; omega
      · rintro rfl; rfl
    have HB := Lib.hid hB2
    clear hB hB2 hR
    go_enter Tryd.func69, Tryd.ntmps69
    go_wp2_with fail
    refine K.out.mono ?_
    rintro e w' ⟨rfl, rfl⟩
    go_wp2
    go_ret
    refine ⟨?_, rfl⟩
    rw [HB.out]
    simp [Bool.beq_eq_decide_eq]
  · rw [if_pos rfl] at hB
    have HB := Lib.hid hB
    clear hB hR
    by_cases h0 : 0 ≤ n
    · by_cases h1 : n ≤ most
      · have HW := Aside0.mk (wi_mk ⟨h0, h1⟩)
        go_enter Tryd.func69, Tryd.ntmps69
        go_wp2_with fail
        refine K.out.mono ?_
        rintro e w' ⟨rfl, rfl⟩
        go_wp2
        go_ret
        exact ⟨by rw [HB.out, HW.out]; rfl, rfl⟩
      · have HW : Aside0 (wi n most = false) := ⟨by cases h : wi n most; rfl; exact absurd (wi_of h).2 h1⟩
        go_enter Tryd.func69, Tryd.ntmps69
        go_wp2_with fail
        refine K.out.mono ?_
        rintro e w' ⟨rfl, rfl⟩
        go_wp2
        go_ret
        exact ⟨by rw [HB.out, HW.out]; simp <;> omega, rfl⟩
    · have HW : Aside0 (wi n most = false) := ⟨by cases h : wi n most; rfl; exact absurd (wi_of h).1 h0⟩
      go_enter Tryd.func69, Tryd.ntmps69
      go_wp2_with fail
      refine K.out.mono ?_
      rintro e w' ⟨rfl, rfl⟩
      go_wp2
      go_ret
      exact ⟨by rw [HB.out, HW.out]; rfl, rfl⟩
set_option maxRecDepth 100000 in
set_option maxHeartbeats 4000000 in
theorem textFits_any (k f : Nat) (t : ByteArray) (most : Nat) (w : World) (hk : k < 17) (hf : f < 7) (hR : RTab w) (hmx : t.size ≤ 9223372036854775807) : Calls Tryd.prog 70 #[.int .i64 (k : Nat), .int .u8 (chOf f : Nat), .string t, .int .i64 (most : Nat)] w fun e w' => e = .returned (.bool (fitB k f t.size most)) ∧ w = w' := by
  have K := Lib.hid (has_any k f w hk hf hR)
  have hB : fitB k f t.size most = wi t.size (if hasB k f = true then (most : Int) else 0) := rfl
  generalize hasB k f = b at K hB
  generalize fitB k f t.size most = r at hB ⊢
  cases b
  · rw [if_neg (by decide)] at hB
    have hB2 : r = t.toList.isEmpty := by
      rw [hB, Bool.eq_iff_iff, ByteArray.toList_eq, List.isEmpty_iff]
      have hl := data_length t
      constructor
      · intro h; have := wi_of h; exact List.eq_nil_of_length_eq_zero (by omega)
      · intro h; rw [h] at hl; have : t.size = 0 := hl.symm; rw [this]; rfl
    have HB := Lib.hid hB2
    clear hB hB2 hR
    go_enter Tryd.func70, Tryd.ntmps70
    go_wp2_with fail
    refine K.out.mono ?_
    rintro e w' ⟨rfl, rfl⟩
    go_wp2
    go_ret
    refine ⟨?_, rfl⟩
    rw [HB.out]
    simp
  · rw [if_pos rfl] at hB
    have HB := Lib.hid hB
    clear hB hR
    by_cases h1 : (t.size : Int) ≤ (most : Int)
    · have HW := Aside0.mk (wi_mk (n := t.size) ⟨by omega, h1⟩)
      go_enter Tryd.func70, Tryd.ntmps70
      go_wp2_with fail
      refine K.out.mono ?_
      rintro e w' ⟨rfl, rfl⟩
      go_wp2
      go_ret
      refine ⟨?_, rfl⟩
      rw [HB.out, HW.out]
      simp <;> omega
    · have HW : Aside0 (wi t.size most = false) := ⟨by cases h : wi (t.size : Int) most; rfl; exact absurd (wi_of h).2 h1⟩
      go_enter Tryd.func70, Tryd.ntmps70
      go_wp2_with fail
      refine K.out.mono ?_
      rintro e w' ⟨rfl, rfl⟩
      go_wp2
      go_ret
      refine ⟨?_, rfl⟩
      rw [HB.out, HW.out]
      simp <;> omega
end Go.Proofs.YtnifgokjagahfaaDoor.RefF
