/- The document's digits, CRC and sum: of the frame. -/
import Derived.Test.YtnifgokjagahfaaDoorDecPure
import Derived.Test.YtnifgokjagahfaaDoorNum
set_option linter.unusedVariables false
set_option linter.unusedSimpArgs false
namespace Go.Proofs.YtnifgokjagahfaaDoor.RefSum
open Go.RowKit Go.Proofs.YtnifgokjagahfaaDoorW.PrintWords Go.Proofs.YtnifgokjagahfaaDoorW.PrintLast Go.Proofs.YtnifgokjagahfaaDoorW.PrintMore
open Go.Proofs.YtnifgokjagahfaaDoor.Base Go.Proofs.YtnifgokjagahfaaDoor.CrcPure Go.Proofs.YtnifgokjagahfaaDoor.Crc Go.Proofs.YtnifgokjagahfaaDoor.Put Go.Proofs.YtnifgokjagahfaaDoor.EncPure Go.Proofs.YtnifgokjagahfaaDoor.DecPure Go.Proofs.YtnifgokjagahfaaDoor.PFrameDecodes
/- the document's CRC -/
theorem step_f (x : Nat) (h : x < 4294967296) : granaryref2_step.f (x : Int) = some ((CrcPure.step x : Nat) : Int) := by
  unfold granaryref2_step.f CrcPure.step
  have e1 : Int.tmod (x : Int) 2 = (x : Int) % 2 := Int.tmod_eq_emod_of_nonneg (by omega)
  have e2 : Int.tdiv (x : Int) 2 = (x : Int) / 2 := Int.tdiv_eq_ediv_of_nonneg (by omega)
  rw [e1, e2, w64 _ (by omega) (by omega)]
  by_cases h0 : x % 2 = 0
  · rw [if_pos (by omega), if_pos h0]; simp
  · rw [if_neg (by omega), if_neg h0]
    have := i64_xor_nat (x / 2) 3988292384 (by omega) (by decide)
    rw [show ((x / 2 : Nat) : Int) = (x : Int) / 2 by omega] at this
    exact congrArg some this
theorem crc_ev (s : ByteArray) (hs : s.size ≤ 1073741824) (d : Nat) : ∀ (i x : Nat), i ≤ s.size → s.size - i = d → x < 4294967296 →
    Ev (fun k => granaryref2_CRC.l0 k s (x : Nat) i) ((run x (s.data.toList.drop i) ^^^ top : Nat) : Int) := by
  induction d with
  | zero =>
    intro i x h1 hd hx
    obtain rfl : i = s.size := by omega
    refine Ev.step (f := fun _ => some _) (fun k => ?_) (Ev.now _)
    simp only [granaryref2_CRC.l0]; rw [if_neg (by omega)]
    have := i64_xor_nat x 4294967295 (by omega) (by decide)
    rw [List.drop_of_length_le (by rw [data_length]; exact Nat.le_refl _)]
    exact congrArg some this
  | succ d ih =>
    intro i x h1 hd hx
    have hi : i < s.size := by omega
    have hc := s[i].toNat_lt
    have hy : x ^^^ s[i].toNat < 4294967296 := Nat.xor_lt_two_pow (n := 32) hx (by omega)
    have inner : ∀ (e j y : Nat), j ≤ 8 → 8 - j = e → y < 4294967296 → steps e y = byteStep x s[i].toNat → Ev (fun k => granaryref2_CRC.l1 k s (y : Nat) i j) ((run x (s.data.toList.drop i) ^^^ top : Nat) : Int) := by
      intro e
      induction e with
      | zero =>
        intro j y h3 h4 hy he
        obtain rfl : j = 8 := by omega
        have ih := ih (i + 1) y (by omega) (by omega) hy
        have e1 : s.data.toList.drop i = s[i] :: s.data.toList.drop (i + 1) := by
          rw [List.drop_eq_getElem_cons (by rw [data_length]; exact hi)]; rfl
        have e2 : run x (s.data.toList.drop i) = run y (s.data.toList.drop (i + 1)) := by
          rw [e1]; show run (byteStep x s[i].toNat) _ = _
          rw [← he]; rfl
        rw [e2]
        refine Ev.step (fun k => ?_) ih
        simp only [granaryref2_CRC.l1]
        rw [if_neg (by omega), w64 _ (by omega) (by omega)]
        rfl
      | succ e ihe =>
        intro j y h3 h4 hy he
        refine Ev.step (fun k => ?_) (ihe (j + 1) (CrcPure.step y) (by omega) (by omega) (step_lt hy) he)
        simp only [granaryref2_CRC.l1]
        rw [if_pos (by omega), step_f y hy, Option.bind_some, w64 _ (by omega) (by omega)]
        rfl
    refine Ev.step (fun k => ?_) (inner 8 0 (x ^^^ s[i].toNat) (by omega) (by omega) hy rfl)
    simp only [granaryref2_CRC.l0]
    rw [if_pos (by omega), if_pos (by omega), bt_nat s i hi, w64 _ (by omega) (by omega), i64_xor_nat x s[i].toNat (by omega) (by omega)]
    rfl
theorem crc_f (s : ByteArray) (hs : s.size ≤ 1073741824) : ∃ k, granaryref2_CRC.f k s = some ((crc s.data.toList : Nat) : Int) := by
  obtain ⟨k, hk⟩ := (crc_ev s hs s.size 0 top (by omega) (by omega) (by decide)).rounds
  exact ⟨k, hk⟩
theorem be_get (N : Int) (wd i : Nat) (h : i < wd) : (be N wd)[wd - 1 - i]? = some (N / 2 ^ (8 * i) % 256) := by
  unfold be beTo
  rw [List.getElem?_map, List.getElem?_range (by omega)]
  have e : wd - 1 - (wd - 1 - i) = i := by omega
  simp [e]
def dig (N : Int) (wd i : Nat) : List Int := List.replicate (wd - i) 0 ++ (be N wd).drop (wd - i)
theorem dig_length (N : Int) (wd i : Nat) (h : i ≤ wd) : (dig N wd i).length = wd := by
  unfold dig; rw [List.length_append, List.length_replicate, List.length_drop, be_length]; omega
theorem dig_next (N : Int) (wd i : Nat) (h : i < wd) : (dig N wd i).set (wd - 1 - i) (N / 2 ^ (8 * i) % 256) = dig N wd (i + 1) := by
  unfold dig
  have e1 : wd - i = (wd - 1 - i) + 1 := by omega
  have e2 : wd - (i + 1) = wd - 1 - i := by omega
  have hl : wd - 1 - i < (be N wd).length := by rw [be_length]; omega
  rw [e2, List.drop_eq_getElem_cons hl, e1, List.replicate_succ', List.append_assoc]
  have hg : (be N wd)[wd - 1 - i] = N / 2 ^ (8 * i) % 256 := by
    have := be_get N wd i h
    rw [List.getElem?_eq_getElem hl] at this
    exact Option.some.inj this
  rw [hg, List.set_append_right _ _ (by simp)]
  simp
theorem pow8 (N : Int) (i : Nat) : N / 2 ^ (8 * i) / 256 = N / 2 ^ (8 * (i + 1)) := by
  have e : (2 : Int) ^ (8 * (i + 1)) = 2 ^ (8 * i) * 256 := by
    rw [show 8 * (i + 1) = 8 * i + 8 by omega, Int.pow_add]; rfl
  rw [e, Int.ediv_ediv_of_nonneg (Int.le_of_lt (Int.pow_pos (by decide)))]
theorem digits_l (N : Int) (wd : Nat) (hN : 0 ≤ N) (hN1 : N ≤ 9007199254740992) (hw : wd ≤ 8) (d : Nat) : ∀ (i k : Nat), i ≤ wd → wd - i = d → d < k → granaryref5_digits.l0 k (N / 2 ^ (8 * i)) wd (dig N wd i) i = some (strOfNums (be N wd)) := by
  induction d with
  | zero =>
    intro i k hi hd hk
    obtain ⟨k, rfl⟩ : ∃ m, k = m + 1 := ⟨k - 1, by omega⟩
    obtain rfl : i = wd := by omega
    simp only [granaryref5_digits.l0]
    rw [if_neg (by omega)]
    unfold dig
    simp
  | succ d ih =>
    intro i k hi hd hk
    obtain ⟨k, rfl⟩ : ∃ m, k = m + 1 := ⟨k - 1, by omega⟩
    have h0 : 0 ≤ N / 2 ^ (8 * i) := Int.ediv_nonneg hN (Int.le_of_lt (Int.pow_pos (by decide)))
    have h1 : N / 2 ^ (8 * i) ≤ N := Int.ediv_le_self _ hN
    have hi' := ih (i + 1) k (by omega) (by omega) (by omega)
    rw [← pow8, ← dig_next N wd i (by omega)] at hi'
    have hl := dig_length N wd i (by omega)
    have c1 : (i : Int) < (wd : Int) := by omega
    have c2 : (0 : Int) ≤ (wd : Int) - 1 - (i : Int) := by omega
    have c3 : (wd : Int) - 1 - (i : Int) < ((dig N wd i).length : Int) := by rw [hl]; omega
    have c4 : ((wd : Int) - 1 - (i : Int)).toNat = wd - 1 - i := by omega
    have c5 : (i : Int) + 1 = ((i + 1 : Nat) : Int) := by omega
    have B1 : -9223372036854775808 ≤ (wd : Int) - 1 ∧ (wd : Int) - 1 ≤ 9223372036854775807 := by omega
    have B2 : -9223372036854775808 ≤ (wd : Int) - 1 - (i : Int) ∧ (wd : Int) - 1 - (i : Int) ≤ 9223372036854775807 := by omega
    have B3 : -9223372036854775808 ≤ (i : Int) + 1 ∧ (i : Int) + 1 ≤ 9223372036854775807 := by omega
    generalize N / 2 ^ (8 * i) = x at h0 h1 hi' ⊢
    have B4 : -9223372036854775808 ≤ x / 256 ∧ x / 256 ≤ 9223372036854775807 := by omega
    have e4 : Int.tdiv x 256 = x / 256 := Int.tdiv_eq_ediv_of_nonneg h0
    have e5 : Int.tmod x 256 = x % 256 := Int.tmod_eq_emod_of_nonneg h0
    have e1 : wrap64 ((wd : Int) - 1) = (wd : Int) - 1 := w64 _ B1.1 B1.2
    have e2 : wrap64 ((wd : Int) - 1 - (i : Int)) = (wd : Int) - 1 - (i : Int) := w64 _ B2.1 B2.2
    have e3 : wrap64 ((i : Int) + 1) = ((i + 1 : Nat) : Int) := by rw [w64 _ B3.1 B3.2]; exact c5
    have e6 : wrap64 (x / 256) = x / 256 := w64 _ B4.1 B4.2
    have e7 : x % 256 % 256 = x % 256 := Int.emod_emod_of_dvd _ (by decide)
    simp only [granaryref5_digits.l0]
    rw [if_pos c1, e1, e2, if_pos c2, if_pos c3, e4, e5, e6, e7, c4, e3]
    exact hi'
theorem digits_f (N : Int) (wd : Nat) (hN : 0 ≤ N) (hN1 : N ≤ 9007199254740992) (hw : wd ≤ 8) : granaryref5_digits.f 9 N wd = some (strOfNums (be N wd)) := by
  unfold granaryref5_digits.f
  rw [if_pos (by omega), if_pos (by omega)]
  have h := digits_l N wd hN hN1 hw wd 0 9 (by omega) (by omega) (by omega)
  have e : dig N wd 0 = List.replicate wd 0 := by
    unfold dig
    rw [Nat.sub_zero, List.drop_of_length_le (by rw [be_length]; exact Nat.le_refl _), List.append_nil]
  rw [e] at h
  have e2 : N / 2 ^ (8 * 0) = N := by simp
  rw [e2] at h
  rw [Int.toNat_natCast]
  exact h
theorem digits_any (N : Int) (wd : Nat) (w : World) (hN : 0 ≤ N) (hN1 : N ≤ 9007199254740992) (hw : wd ≤ 8) : Calls Tryd.prog 42 #[.int .i64 N, .int .i64 (wd : Int)] w fun e w' => e = .returned (.string (strOfNums (be N wd))) ∧ Below w.heap.size w w' :=
  granaryref5_digits.calls 9 N wd _ w (digits_f N wd hN hN1 hw)
theorem rsum_f (s : ByteArray) (hs : s.size ≤ 1073741824) : ∃ k, granaryref5_sum.f k s = some (strOfNums (sumL (bytesOf s))) := by
  obtain ⟨k, hk⟩ := crc_f s hs
  refine ⟨k, ?_⟩
  unfold granaryref5_sum.f
  rw [hk, Option.bind_some]
  have hlt := crc_lt s.data.toList
  have e : sumL (bytesOf s) = le4 (crc s.data.toList) := by unfold sumL; rw [strOfNums_bytesOf]
  rw [e]
  generalize crc s.data.toList = x at hlt
  unfold le4
  have h0 : (0 : Int) ≤ (x : Int) := by omega
  have d1 : Int.tdiv (x : Int) 256 = (x : Int) / 256 := Int.tdiv_eq_ediv_of_nonneg h0
  have d2 : Int.tdiv (x : Int) 65536 = (x : Int) / 65536 := Int.tdiv_eq_ediv_of_nonneg h0
  have d3 : Int.tdiv (x : Int) 16777216 = (x : Int) / 16777216 := Int.tdiv_eq_ediv_of_nonneg h0
  have w1 : wrap64 ((x : Int) / 256) = (x : Int) / 256 := w64 _ (by omega) (by omega)
  have w2 : wrap64 ((x : Int) / 65536) = (x : Int) / 65536 := by clear w1; exact w64 _ (by omega) (by omega)
  have w3 : wrap64 ((x : Int) / 16777216) = (x : Int) / 16777216 := by clear w1 w2; exact w64 _ (by omega) (by omega)
  rw [d1, d2, d3, w1, w2, w3]
  clear w1 w2 w3 d1 d2 d3
  have m0 : Int.tmod (x : Int) 256 = (x : Int) % 256 := Int.tmod_eq_emod_of_nonneg h0
  have m1 : Int.tmod ((x : Int) / 256) 256 = ((x : Int) / 256) % 256 := Int.tmod_eq_emod_of_nonneg (by omega)
  have m2 : Int.tmod ((x : Int) / 65536) 256 = ((x : Int) / 65536) % 256 := Int.tmod_eq_emod_of_nonneg (by omega)
  have m3 : Int.tmod ((x : Int) / 16777216) 256 = ((x : Int) / 16777216) % 256 := Int.tmod_eq_emod_of_nonneg (by omega)
  rw [m0, m1, m2, m3]
  clear m0 m1 m2 m3
  have q0 : (x : Int) % 256 % 256 = ((x % 256 : Nat) : Int) := by omega
  have q1 : (x : Int) / 256 % 256 % 256 = ((x / 256 % 256 : Nat) : Int) := by omega
  have q2 : (x : Int) / 65536 % 256 % 256 = ((x / 65536 % 256 : Nat) : Int) := by omega
  have q3 : (x : Int) / 16777216 % 256 % 256 = ((x / 16777216 % 256 : Nat) : Int) := by omega
  rw [q0, q1, q2, q3]
theorem rsum_any (s : ByteArray) (w : World) (hs : s.size ≤ 1073741824) : Calls Tryd.prog 43 #[.string s] w fun e w' => e = .returned (.string (strOfNums (sumL (bytesOf s)))) ∧ Below w.heap.size w w' := by
  obtain ⟨k, hk⟩ := rsum_f s hs
  exact granaryref5_sum.calls k s _ w hk
end Go.Proofs.YtnifgokjagahfaaDoor.RefSum
