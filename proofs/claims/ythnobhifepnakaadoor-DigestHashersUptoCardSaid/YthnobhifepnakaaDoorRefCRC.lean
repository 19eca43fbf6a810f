/- What the document's CRC, Join and the law's own helpers answer. -/
import Derived.Test.YthnobhifepnakaaDoorCrc
import Derived.Test.YthnobhifepnakaaDoorPDigestCRCsx1
set_option linter.unusedVariables false
set_option linter.unusedSimpArgs false
namespace Go.Proofs.YthnobhifepnakaaDoor.RefCRC
open Go.RowKit Go.Proofs.YthnobhifepnakaaDoorW.PrintWords Go.Proofs.YthnobhifepnakaaDoorW.PrintLast Go.Proofs.YthnobhifepnakaaDoorW.PrintMore
open Go.Proofs.YthnobhifepnakaaDoor.Base Go.Proofs.YthnobhifepnakaaDoor.CrcPure Go.Proofs.YthnobhifepnakaaDoor.Crc Go.Proofs.YthnobhifepnakaaDoor.PDigestCRCs
theorem twin_ev (l : List ByteArray) (hl : l.length ≤ 1073741824) (d : Nat) : ∀ i : Nat, i ≤ l.length → l.length - i = d → Ev (fun k => granarylaw2_twin.l0 k l (l.take i) i) l := by
  induction d with
  | zero =>
    intro i h1 hd
    obtain rfl : i = l.length := by omega
    refine Ev.step (f := fun _ => some l) (fun k => ?_) (Ev.now _)
    simp only [granarylaw2_twin.l0]; rw [if_neg (by omega), List.take_length]
  | succ d ih =>
    intro i h1 hd
    refine Ev.step (fun k => ?_) (ih (i + 1) (by omega) (by omega))
    have hm : (List.take i l).length ≤ i := List.length_take_le _ _
    simp only [granarylaw2_twin.l0]
    rw [if_pos (by omega), if_pos (by omega), if_pos (by omega), w64 _ (by omega) (by omega), List.take_add_one]
    simp [rdOf, List.getElem?_eq_getElem (show i < l.length by omega)]
theorem twin_f (l : List ByteArray) (hl : l.length ≤ 1073741824) : ∃ k, granarylaw2_twin.f k l = some l := (twin_ev l hl l.length 0 (by omega) (by omega)).rounds
theorem same_ev (l : List ByteArray) (hl : l.length ≤ 1073741824) (d : Nat) : ∀ i : Nat, i ≤ l.length → l.length - i = d → Ev (fun k => granarylaw2_same.l0 k l l i) true := by
  induction d with
  | zero =>
    intro i h1 hd
    obtain rfl : i = l.length := by omega
    refine Ev.step (f := fun _ => some true) (fun k => ?_) (Ev.now _)
    simp only [granarylaw2_same.l0]; rw [if_neg (by omega)]
  | succ d ih =>
    intro i h1 hd
    refine Ev.step (fun k => ?_) (ih (i + 1) (by omega) (by omega))
    simp only [granarylaw2_same.l0]
    rw [if_pos (by omega), if_pos (by omega), if_pos (by omega), if_pos trivial, w64 _ (by omega) (by omega)]
    rfl
theorem same_f (l : List ByteArray) (hl : l.length ≤ 1073741824) : ∃ k, granarylaw2_same.f k l l = some true := by
  obtain ⟨k, hk⟩ := (same_ev l hl l.length 0 (by omega) (by omega)).rounds
  exact ⟨k, by unfold granarylaw2_same.f; rw [if_pos rfl]; exact hk⟩
def ints (l : List UInt8) : List Int := l.map fun b => (b.toNat : Int)
theorem ints_append (a b : List UInt8) : ints (a ++ b) = ints a ++ ints b := by simp [ints]
theorem ints_length (a : List UInt8) : (ints a).length = a.length := by simp [ints]
def joined (l : List ByteArray) : ByteArray := strOfNums (ints (flat l))
theorem joined_data (l : List ByteArray) : (joined l).data.toList = flat l := by
  unfold joined ints
  rw [strOfNums_data, List.map_map]
  simp [Function.comp_def]
theorem joined_size (l : List ByteArray) : (joined l).size = (flat l).length := by rw [← data_length, joined_data]
theorem flat_prefix_le (l : List ByteArray) (i : Nat) : (flat (l.take i)).length ≤ (flat l).length := by
  have : flat l = flat (l.take i) ++ flat (l.drop i) := by unfold flat; rw [← List.flatMap_append, List.take_append_drop]
  rw [this]; simp
theorem join_ev (l : List ByteArray) (hl : l.length ≤ 1073741824) (hf : (flat l).length ≤ 1073741824) (d : Nat) : ∀ i : Nat, i ≤ l.length → l.length - i = d →
    Ev (fun k => granaryref2_Join.l0 k l (ints (flat (l.take i))) i) (joined l) := by
  induction d with
  | zero =>
    intro i h1 hd
    obtain rfl : i = l.length := by omega
    refine Ev.step (f := fun _ => some (joined l)) (fun k => ?_) (Ev.now _)
    simp only [granaryref2_Join.l0]; rw [if_neg (by omega), List.take_length]; rfl
  | succ d ih =>
    intro i h1 hd
    have hlt : i < l.length := by omega
    have ih := ih (i + 1) (by omega) (by omega)
    rw [flat_next l i hlt] at ih
    have hp := flat_prefix_le l (i + 1)
    rw [flat_next l i hlt, List.length_append, data_length] at hp
    generalize hs : rdOf ByteArray.empty l (i : Nat) = s at ih hp
    have inner : ∀ (e j : Nat), j ≤ s.size → s.size - j = e → Ev (fun k => granaryref2_Join.l1 k l (ints (flat (l.take i) ++ s.data.toList.take j)) i j) (joined l) := by
      intro e
      induction e with
      | zero =>
        intro j h3 h4
        obtain rfl : j = s.size := by omega
        refine Ev.step (fun k => ?_) ih
        simp only [granaryref2_Join.l1, hs]
        rw [if_pos (by omega), if_pos (by omega), if_neg (by omega), w64 _ (by omega) (by omega), take_all]
        rfl
      | succ e ihe =>
        intro j h3 h4
        refine Ev.step (fun k => ?_) (ihe (j + 1) (by omega) (by omega))
        have hj : j < s.size := by omega
        have hm : (ints (flat (l.take i) ++ s.data.toList.take j)).length ≤ 1073741824 := by
          have : (s.data.toList.take j).length ≤ j := List.length_take_le _ _
          rw [ints_length, List.length_append]; omega
        simp only [granaryref2_Join.l1, hs]
        rw [if_pos (by omega), if_pos (by omega), if_pos (by omega), if_pos (by omega), if_pos (by omega), w64 _ (by omega) (by omega), take_next s j hj, ← List.append_assoc, ints_append _ [_], bt_nat s j hj]
        rfl
    refine Ev.step (fun k => ?_) (inner s.size 0 (by omega) (by omega))
    simp only [granaryref2_Join.l0]
    rw [if_pos (by omega)]
    simp
theorem join_f (l : List ByteArray) (hl : l.length ≤ 1073741824) (hf : (flat l).length ≤ 1073741824) : ∃ k, granaryref2_Join.f k l = some (joined l) := (join_ev l hl hf l.length 0 (by omega) (by omega)).rounds
/- the document's CRC -/
theorem step_f (x : Nat) (h : x < 4294967296) : granaryref2_step.f (x : Int) = some ((CrcPure.step x : Nat) : Int) := by
  unfold granaryref2_step.f CrcPure.step
  have e1 : Int.tmod (x : Int) 2 = (x : Int) % 2 := Int.tmod_eq_emod_of_nonneg (by omega)
  have e2 : Int.tdiv (x : Int) 2 = (x : Int) / 2 := Int.tdiv_eq_ediv_of_nonneg (by omega)
  rw [e1, e2, w64 _ (by omega) (by omega)]
  by_cases h0 : x % 2 = 0
  · rw [if_pos (by omega), if_pos h0]; simp
  · rw [if_neg (by omega), if_neg h0]
    have := i64_xor_nat (x / 2) 3988292384 (by omega) (by decide)
    rw [show ((x / 2 : Nat) : Int) = (x : Int) / 2 by omega] at this
    exact congrArg some this
theorem crc_ev (s : ByteArray) (hs : s.size ≤ 1073741824) (d : Nat) : ∀ (i x : Nat), i ≤ s.size → s.size - i = d → x < 4294967296 →
    Ev (fun k => granaryref2_CRC.l0 k s (x : Nat) i) ((run x (s.data.toList.drop i) ^^^ top : Nat) : Int) := by
  induction d with
  | zero =>
    intro i x h1 hd hx
    obtain rfl : i = s.size := by omega
    refine Ev.step (f := fun _ => some _) (fun k => ?_) (Ev.now _)
    simp only [granaryref2_CRC.l0]; rw [if_neg (by omega)]
    have := i64_xor_nat x 4294967295 (by omega) (by decide)
    rw [List.drop_of_length_le (by rw [data_length]; exact Nat.le_refl _)]
    exact congrArg some this
  | succ d ih =>
    intro i x h1 hd hx
    have hi : i < s.size := by omega
    have hc := s[i].toNat_lt
    have hy : x ^^^ s[i].toNat < 4294967296 := Nat.xor_lt_two_pow (n := 32) hx (by omega)
    have inner : ∀ (e j y : Nat), j ≤ 8 → 8 - j = e → y < 4294967296 → steps e y = byteStep x s[i].toNat → Ev (fun k => granaryref2_CRC.l1 k s (y : Nat) i j) ((run x (s.data.toList.drop i) ^^^ top : Nat) : Int) := by
      intro e
      induction e with
      | zero =>
        intro j y h3 h4 hy he
        obtain rfl : j = 8 := by omega
        have ih := ih (i + 1) y (by omega) (by omega) hy
        have e1 : s.data.toList.drop i = s[i] :: s.data.toList.drop (i + 1) := by
          rw [List.drop_eq_getElem_cons (by rw [data_length]; exact hi)]; rfl
        have e2 : run x (s.data.toList.drop i) = run y (s.data.toList.drop (i + 1)) := by
          rw [e1]; show run (byteStep x s[i].toNat) _ = _
          rw [← he]; rfl
        rw [e2]
        refine Ev.step (fun k => ?_) ih
        simp only [granaryref2_CRC.l1]
        rw [if_neg (by omega), w64 _ (by omega) (by omega)]
        rfl
      | succ e ihe =>
        intro j y h3 h4 hy he
        refine Ev.step (fun k => ?_) (ihe (j + 1) (CrcPure.step y) (by omega) (by omega) (step_lt hy) he)
        simp only [granaryref2_CRC.l1]
        rw [if_pos (by omega), step_f y hy, Option.bind_some, w64 _ (by omega) (by omega)]
        rfl
    refine Ev.step (fun k => ?_) (inner 8 0 (x ^^^ s[i].toNat) (by omega) (by omega) hy rfl)
    simp only [granaryref2_CRC.l0]
    rw [if_pos (by omega), if_pos (by omega), bt_nat s i hi, w64 _ (by omega) (by omega), i64_xor_nat x s[i].toNat (by omega) (by omega)]
    rfl
theorem crc_f (s : ByteArray) (hs : s.size ≤ 1073741824) : ∃ k, granaryref2_CRC.f k s = some ((crc s.data.toList : Nat) : Int) := by
  obtain ⟨k, hk⟩ := (crc_ev s hs s.size 0 top (by omega) (by omega) (by decide)).rounds
  exact ⟨k, hk⟩
end Go.Proofs.YthnobhifepnakaaDoor.RefCRC
