/- Plain arithmetic: a text with some bits turned. -/
import Derived.Test.YthnobhifepnakaaDoorBurstPure
namespace Go.Proofs.YthnobhifepnakaaDoor.Flip
open Go.Proofs.YthnobhifepnakaaDoor.CrcPure
def pw2 (i : Nat) : Nat := 2 ^ i
/-- byte j behind i steps -/
def fb (f : Nat → Nat) (n p m : Nat) : Nat → Nat → Nat
  | 0, j => f j
  | i + 1, j => if (m / 2 ^ i % 2 = 1 ∧ p + i < n) ∧ j = (p + i) / 8 then fb f n p m i j ^^^ 2 ^ ((p + i) % 8) else fb f n p m i j
theorem fb_lt {f : Nat → Nat} (hf : ∀ j, f j < 256) (n p m : Nat) : ∀ i j, fb f n p m i j < 256 := by
  intro i
  induction i with
  | zero => exact hf
  | succ i ih =>
    intro j
    simp only [fb]
    split
    · refine Nat.xor_lt_two_pow (n := 8) (ih j) ?_
      exact Nat.pow_lt_pow_right (by decide) (Nat.mod_lt _ (by decide))
    · exact ih j
def leF (f : Nat → Nat) : Nat → Nat
  | 0 => 0
  | n + 1 => leF f n + 2 ^ (8 * n) * f n
theorem leF_lt {f : Nat → Nat} (hf : ∀ j, f j < 256) (n : Nat) : leF f n < 2 ^ (8 * n) := by
  induction n with
  | zero => simp [leF]
  | succ n ih =>
    have h := hf n
    have : 2 ^ (8 * (n + 1)) = 2 ^ (8 * n) * 256 := by rw [show 8 * (n + 1) = 8 * n + 8 by omega, Nat.pow_add]
    rw [this]
    simp only [leF]
    have h2 : 2 ^ (8 * n) * (f n + 1) ≤ 2 ^ (8 * n) * 256 := Nat.mul_le_mul_left _ (by omega)
    rw [Nat.mul_add, Nat.mul_one] at h2
    omega
theorem leF_congr {f g : Nat → Nat} (n : Nat) (h : ∀ j, j < n → f j = g j) : leF f n = leF g n := by
  induction n with
  | zero => rfl
  | succ n ih => simp only [leF]; rw [ih (fun j hj => h j (by omega)), h n (by omega)]
theorem mul_xor_pow (n a r : Nat) : 2 ^ n * (a ^^^ 2 ^ r) = 2 ^ n * a ^^^ 2 ^ (n + r) := by
  apply Nat.eq_of_testBit_eq; intro k
  rw [Nat.testBit_xor, Nat.testBit_two_pow_mul, Nat.testBit_two_pow_mul, Nat.testBit_xor, Nat.testBit_two_pow, Nat.testBit_two_pow]
  by_cases h : n ≤ k
  · have e : decide (r = k - n) = decide (n + r = k) := by rw [decide_eq_decide]; omega
    simp [h, e]
  · have : ¬ n + r = k := by omega
    simp [h, this]
theorem leF_flip {f : Nat → Nat} (hf : ∀ j, f j < 256) (q r : Nat) (hr : r < 8) (n : Nat) (hq : q < n) : leF (fun j => if j = q then f j ^^^ 2 ^ r else f j) n = leF f n ^^^ 2 ^ (8 * q + r) := by
  have hg : ∀ j, (fun j => if j = q then f j ^^^ 2 ^ r else f j) j < 256 := by
    intro j
    simp only
    split
    · exact Nat.xor_lt_two_pow (n := 8) (hf j) (Nat.pow_lt_pow_right (by decide) hr)
    · exact hf j
  induction n with
  | zero => omega
  | succ n ih =>
    have e1 := add_xor (b := f n) (leF_lt hf n)
    have e2 := add_xor (b := (fun j => if j = q then f j ^^^ 2 ^ r else f j) n) (leF_lt hg n)
    show leF _ n + 2 ^ (8 * n) * (fun j => if j = q then f j ^^^ 2 ^ r else f j) n = (leF f n + 2 ^ (8 * n) * f n) ^^^ _
    rw [e1, e2]
    by_cases h : q = n
    · subst h
      rw [leF_congr q (g := f) (fun j hj => if_neg (by omega))]
      simp only [if_true]
      rw [mul_xor_pow, Nat.xor_assoc]
    · rw [ih (by omega)]
      simp only
      rw [if_neg (fun e => h e.symm)]
      ac_rfl
theorem leF_fb {f : Nat → Nat} (hf : ∀ j, f j < 256) (N p m : Nat) (i : Nat) : leF (fb f (8 * N) p m i) N = flipTo (leF f N) (8 * N) p m i := by
  induction i with
  | zero => exact leF_congr N (fun j _ => rfl)
  | succ i ih =>
    simp only [flipTo]
    by_cases h : m / 2 ^ i % 2 = 1 ∧ p + i < 8 * N
    · rw [if_pos h, ← ih]
      have := leF_flip (fb_lt hf (8 * N) p m i) ((p + i) / 8) ((p + i) % 8) (Nat.mod_lt _ (by decide)) N (by omega)
      rw [show 8 * ((p + i) / 8) + (p + i) % 8 = p + i by omega] at this
      rw [← this]
      refine leF_congr N (fun j _ => ?_)
      simp only [fb]
      by_cases hj : j = (p + i) / 8
      · rw [if_pos ⟨h, hj⟩, if_pos hj]
      · rw [if_neg (fun e => hj e.2), if_neg hj]
    · rw [if_neg h, ← ih]
      refine leF_congr N (fun j _ => ?_)
      simp only [fb]
      rw [if_neg (fun e => h e.1)]
theorem leF_shift (f : Nat → Nat) (n : Nat) : leF f (n + 1) = f 0 + 256 * leF (fun j => f (j + 1)) n := by
  induction n with
  | zero => simp [leF]
  | succ n ih =>
    have e : 2 ^ (8 * (n + 1)) = 256 * 2 ^ (8 * n) := by rw [show 8 * (n + 1) = 8 + 8 * n by omega, Nat.pow_add]
    rw [leF, ih, leF, e, Nat.mul_add, Nat.mul_assoc, Nat.add_assoc]
theorem le_leF : ∀ l : List UInt8, le l = leF (fun j => (l.getD j 0).toNat) l.length
  | [] => rfl
  | c :: l => by
    rw [List.length_cons, leF_shift]
    simp only [le, List.getD_cons_zero, List.getD_cons_succ]
    rw [le_leF l]
/-- the text with the bits of m turned from p on -/
def flipL (l : List UInt8) (p m : Nat) : List UInt8 := (List.range l.length).map fun j => UInt8.ofNat (fb (fun j => (l.getD j 0).toNat) (8 * l.length) p m 32 j)
theorem flipL_length (l : List UInt8) (p m : Nat) : (flipL l p m).length = l.length := by simp [flipL]
theorem flipL_le (l : List UInt8) (p m : Nat) : le (flipL l p m) = flipTo (le l) (8 * l.length) p m 32 := by
  have hf : ∀ j, (fun j => (l.getD j 0).toNat) j < 256 := fun j => (l.getD j 0).toNat_lt
  rw [le_leF, le_leF l, ← leF_fb hf, flipL_length]
  refine leF_congr _ (fun j hj => ?_)
  have := fb_lt hf (8 * l.length) p m 32 j
  simp only [flipL]
  rw [List.getD_eq_getElem?_getD, List.getElem?_map, List.getElem?_range hj]
  simp only [Option.map_some, Option.getD_some]
  rw [UInt8.toNat_ofNat', Nat.mod_eq_of_lt (by exact this)]
theorem flip_burst (l : List UInt8) (p m : Nat) (hp : p ≤ 8 * l.length) : (crc (flipL l p m) = crc l ↔ flipL l p m = l) := by
  refine burst (p := p) (m := (m % 2 ^ 32) % 2 ^ (8 * l.length - p)) (flipL_length l p m) hp ?_ ?_
  · exact Nat.lt_of_le_of_lt (Nat.mod_le _ _) (Nat.mod_lt _ (by decide))
  · rw [flipL_le, flipTo_eq _ _ _ _ _ hp]
end Go.Proofs.YthnobhifepnakaaDoor.Flip
