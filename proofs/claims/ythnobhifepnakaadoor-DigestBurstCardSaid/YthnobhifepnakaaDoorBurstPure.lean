/- Plain arithmetic: bits changed within 32 neighbouring ones change the CRC. -/
import Derived.Test.YthnobhifepnakaaDoorCrcPure
namespace Go.Proofs.YthnobhifepnakaaDoor.CrcPure
/-- a text as a number, the first byte lowest -/
def le : List UInt8 → Nat
  | [] => 0
  | c :: l => c.toNat + 256 * le l
theorem add_xor {n a b : Nat} (h : a < 2 ^ n) : a + 2 ^ n * b = a ^^^ 2 ^ n * b := by
  have e := split_low n (a + 2 ^ n * b)
  have e1 : (a + 2 ^ n * b) / 2 ^ n = b := by
    rw [Nat.add_mul_div_left _ _ (Nat.two_pow_pos n), Nat.div_eq_of_lt h, Nat.zero_add]
  have e2 : (a + 2 ^ n * b) % 2 ^ n = a := by
    rw [Nat.add_mul_mod_self_left, Nat.mod_eq_of_lt h]
  rw [e1, e2, Nat.xor_comm] at e
  exact e
theorem run_le (l : List UInt8) : ∀ w, run w l = steps (8 * l.length) (w ^^^ le l) := by
  induction l with
  | nil => intro w; simp [run, le, steps]
  | cons c l ih =>
    intro w
    show run (byteStep w c.toNat) l = _
    rw [ih]
    have hc : c.toNat < 2 ^ 8 := c.toNat_lt
    have e : le (c :: l) = c.toNat ^^^ 2 ^ 8 * le l := add_xor hc
    have e2 : w ^^^ (c.toNat ^^^ 2 ^ 8 * le l) = (w ^^^ c.toNat) ^^^ 2 ^ 8 * le l := by ac_rfl
    rw [e, e2, show 8 * (c :: l).length = 8 + 8 * l.length by simp; omega, steps_add, steps_xor 8, steps_shl]
    rfl
theorem le_lt (l : List UInt8) : le l < 2 ^ (8 * l.length) := by
  induction l with
  | nil => simp [le]
  | cons c l ih =>
    have hc : c.toNat < 256 := c.toNat_lt
    have : 2 ^ (8 * (c :: l).length) = 256 * 2 ^ (8 * l.length) := by
      rw [show 8 * (c :: l).length = 8 + 8 * l.length by simp; omega, Nat.pow_add]
    rw [this]; simp only [le]; omega
theorem le_inj : ∀ a b : List UInt8, a.length = b.length → le a = le b → a = b
  | [], [], _, _ => rfl
  | c :: a, d :: b, hl, h => by
    have hc : c.toNat < 256 := c.toNat_lt
    have hd : d.toNat < 256 := d.toNat_lt
    simp only [le] at h
    have e1 : c.toNat = d.toNat := by omega
    have e2 : le a = le b := by omega
    rw [le_inj a b (by simpa using hl) e2, UInt8.toNat_inj.1 e1]
theorem step_ne {w : Nat} (h : w < 2 ^ 32) (h0 : w ≠ 0) : step w ≠ 0 := by
  unfold step
  split
  · omega
  · intro e
    have : w / 2 = poly := by
      have e2 : (w / 2 ^^^ poly) ^^^ poly = poly := by rw [e, Nat.zero_xor]
      rwa [Nat.xor_assoc, Nat.xor_self, Nat.xor_zero] at e2
    unfold poly at this
    omega
theorem steps_ne (n : Nat) : ∀ {w : Nat}, w < 2 ^ 32 → w ≠ 0 → steps n w ≠ 0 := by
  induction n with
  | zero => intro w _ h; exact h
  | succ n ih => intro w h h0; exact ih (step_lt h) (step_ne h h0)
theorem xor_eq_zero {a b : Nat} (h : a ^^^ b = 0) : a = b := by
  have : (a ^^^ b) ^^^ b = b := by rw [h, Nat.zero_xor]
  rwa [Nat.xor_assoc, Nat.xor_self, Nat.xor_zero] at this
theorem burst {s t : List UInt8} {p m : Nat} (hl : t.length = s.length) (hp : p ≤ 8 * s.length) (hm : m < 2 ^ 32) (h : le t = le s ^^^ 2 ^ p * m) :
    (crc t = crc s ↔ t = s) := by
  constructor
  · intro e
    have e1 : run top t = run top s := by
      have : (run top t ^^^ top) ^^^ top = (run top s ^^^ top) ^^^ top := by unfold crc at e; rw [e]
      rwa [Nat.xor_assoc, Nat.xor_self, Nat.xor_zero, Nat.xor_assoc, Nat.xor_self, Nat.xor_zero] at this
    rw [run_le, run_le, hl, h] at e1
    have e2 : top ^^^ (le s ^^^ 2 ^ p * m) = (top ^^^ le s) ^^^ 2 ^ p * m := by ac_rfl
    rw [e2, steps_xor] at e1
    have e3 : steps (8 * s.length) (2 ^ p * m) = 0 := by
      have : steps (8 * s.length) (top ^^^ le s) ^^^ (steps (8 * s.length) (top ^^^ le s) ^^^ steps (8 * s.length) (2 ^ p * m)) = steps (8 * s.length) (top ^^^ le s) ^^^ steps (8 * s.length) (top ^^^ le s) := by rw [e1]
      rwa [← Nat.xor_assoc, Nat.xor_self, Nat.zero_xor] at this
    rw [show 8 * s.length = p + (8 * s.length - p) by omega, steps_add, steps_shl] at e3
    have : m = 0 := Classical.byContradiction fun hne => steps_ne _ hm hne e3
    subst this
    refine le_inj _ _ hl ?_
    rw [h]; simp
  · intro e; rw [e]
/-- bits p to p + 31 of s turned as m says, those that lie in s -/
def flipTo (s : Nat) (n p m : Nat) : Nat → Nat
  | 0 => s
  | i + 1 => if m / 2 ^ i % 2 = 1 ∧ p + i < n then flipTo s n p m i ^^^ 2 ^ (p + i) else flipTo s n p m i
theorem flipTo_eq (s n p m i : Nat) (hp : p ≤ n) : flipTo s n p m i = s ^^^ 2 ^ p * ((m % 2 ^ i) % 2 ^ (n - p)) := by
  induction i with
  | zero => simp [flipTo, Nat.mod_one]
  | succ i ih =>
    simp only [flipTo]
    rw [ih]
    have hb : m.testBit i = decide (m / 2 ^ i % 2 = 1) := Nat.testBit_eq_decide_div_mod_eq
    have key : (m % 2 ^ (i + 1)) % 2 ^ (n - p) = if m / 2 ^ i % 2 = 1 ∧ p + i < n then (m % 2 ^ i) % 2 ^ (n - p) ^^^ 2 ^ i else (m % 2 ^ i) % 2 ^ (n - p) := by
      apply Nat.eq_of_testBit_eq; intro k
      by_cases h1 : m / 2 ^ i % 2 = 1 ∧ p + i < n
      · rw [if_pos h1, Nat.testBit_xor]
        simp only [Nat.testBit_mod_two_pow, Nat.testBit_two_pow]
        by_cases hk : k = i
        · subst hk; simp [hb, h1.1, show k < n - p by omega]
        · have : ¬ i = k := fun h => hk h.symm
          have e2 : decide (k < i + 1) = decide (k < i) := by rw [decide_eq_decide]; omega
          simp [this, e2]
      · rw [if_neg h1]
        simp only [Nat.testBit_mod_two_pow]
        by_cases hk : k = i
        · subst hk
          by_cases h2 : k < n - p
          · have : ¬ m / 2 ^ k % 2 = 1 := fun h => h1 ⟨h, by omega⟩
            simp [hb, this]
          · simp [h2]
        · have e2 : decide (k < i + 1) = decide (k < i) := by rw [decide_eq_decide]; omega
          rw [e2]
    rw [key]
    split
    · have : 2 ^ p * ((m % 2 ^ i) % 2 ^ (n - p) ^^^ 2 ^ i) = 2 ^ p * ((m % 2 ^ i) % 2 ^ (n - p)) ^^^ 2 ^ (p + i) := by
        apply Nat.eq_of_testBit_eq; intro k
        rw [Nat.testBit_xor, Nat.testBit_two_pow_mul, Nat.testBit_two_pow_mul, Nat.testBit_xor, Nat.testBit_two_pow, Nat.testBit_two_pow]
        by_cases h : p ≤ k
        · have e : decide (i = k - p) = decide (p + i = k) := by rw [decide_eq_decide]; omega
          simp [h, e]
        · have : ¬ p + i = k := by omega
          simp [h, this]
      rw [this, Nat.xor_assoc]
    · rfl
end Go.Proofs.YthnobhifepnakaaDoor.CrcPure
