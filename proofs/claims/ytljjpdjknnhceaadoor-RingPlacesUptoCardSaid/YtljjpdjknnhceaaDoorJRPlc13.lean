/- Joined texts of this claim: CrcPure, Crc -/
import Derived.Test.YtljjpdjknnhceaaDoorJRPlc0
set_option linter.unusedVariables false
set_option linter.unusedSimpArgs false
/- Plain arithmetic of the CRC: one step is linear, four steps are a look-up and a shift. -/
namespace Go.Proofs.YtljjpdjknnhceaaDoor.CrcPure
def poly : Nat := 0xedb88320
def step (w : Nat) : Nat := if w % 2 = 0 then w / 2 else (w / 2) ^^^ poly
def steps : Nat → Nat → Nat
  | 0, w => w
  | n + 1, w => steps n (step w)
theorem xor_div2 (a b : Nat) : (a ^^^ b) / 2 = a / 2 ^^^ b / 2 := by
  apply Nat.eq_of_testBit_eq; intro i
  rw [Nat.testBit_xor, ← Nat.testBit_succ, ← Nat.testBit_succ, ← Nat.testBit_succ, Nat.testBit_xor]
theorem xor_mod2 (a b : Nat) : (a ^^^ b) % 2 = (a % 2 + b % 2) % 2 := by
  have h := Nat.testBit_xor a b 0
  simp only [Nat.testBit_zero] at h
  rcases Nat.mod_two_eq_zero_or_one a with ha | ha <;> rcases Nat.mod_two_eq_zero_or_one b with hb | hb <;> rcases Nat.mod_two_eq_zero_or_one (a ^^^ b) with hc | hc <;> simp [ha, hb, hc] at h ⊢
theorem step_xor (a b : Nat) : step (a ^^^ b) = step a ^^^ step b := by
  unfold step
  rw [xor_mod2, xor_div2]
  rcases Nat.mod_two_eq_zero_or_one a with ha | ha <;> rcases Nat.mod_two_eq_zero_or_one b with hb | hb <;> simp [ha, hb]
  · ac_rfl
  · ac_rfl
  · have : a / 2 ^^^ poly ^^^ (b / 2 ^^^ poly) = a / 2 ^^^ b / 2 ^^^ (poly ^^^ poly) := by ac_rfl
    rw [this, Nat.xor_self, Nat.xor_zero]
theorem steps_xor (n : Nat) : ∀ a b, steps n (a ^^^ b) = steps n a ^^^ steps n b := by
  induction n with
  | zero => intro a b; rfl
  | succ n ih => intro a b; simp only [steps]; rw [step_xor, ih]
theorem step_zero : step 0 = 0 := rfl
theorem steps_zero (n : Nat) : steps n 0 = 0 := by
  induction n with
  | zero => rfl
  | succ n ih => simp only [steps]; rw [step_zero, ih]
theorem steps_add (m n w : Nat) : steps (m + n) w = steps n (steps m w) := by
  induction m generalizing w with
  | zero => simp [steps]
  | succ m ih => rw [show m + 1 + n = (m + n) + 1 by omega]; simp only [steps]; exact ih _
theorem step_double (w : Nat) : step (2 * w) = w := by unfold step; simp
theorem steps_shl (n w : Nat) : steps n (2 ^ n * w) = w := by
  induction n with
  | zero => simp [steps]
  | succ n ih => simp only [steps]; rw [show 2 ^ (n + 1) * w = 2 * (2 ^ n * w) by rw [Nat.pow_succ]; ac_rfl, step_double, ih]
theorem split_low (n w : Nat) : w = (2 ^ n * (w / 2 ^ n)) ^^^ (w % 2 ^ n) := by
  have h := Nat.two_pow_add_eq_or_of_lt (Nat.mod_lt w (Nat.two_pow_pos n)) (w / 2 ^ n)
  have e : 2 ^ n * (w / 2 ^ n) + w % 2 ^ n = w := Nat.div_add_mod w (2 ^ n)
  apply Nat.eq_of_testBit_eq; intro i
  rw [Nat.testBit_xor]
  conv => lhs; rw [← e, h]
  rw [Nat.testBit_or, Nat.testBit_two_pow_mul, Nat.testBit_mod_two_pow]
  by_cases hi : i < n
  · simp [hi, show ¬ n ≤ i by omega]
  · simp [hi, show n ≤ i by omega]
theorem steps_split (n w : Nat) : steps n w = (w / 2 ^ n) ^^^ steps n (w % 2 ^ n) := by
  conv => lhs; rw [split_low n w]
  rw [steps_xor, steps_shl]
/- the table of the program -/
def nibs : List Nat := [0, 498536548, 997073096, 651767980, 1994146192, 1802195444, 1303535960, 1342533948, 3988292384, 4027552580, 3604390888, 3412177804, 2607071920, 2262029012, 2685067896, 3183342108]
theorem nibs_ok : ∀ i, i < 16 → nibs.getD i 0 = steps 4 i := by decide
theorem nib4 (w : Nat) : nibs.getD (w % 16) 0 ^^^ w / 16 = steps 4 w := by
  rw [nibs_ok _ (Nat.mod_lt _ (by decide)), steps_split 4 w, Nat.xor_comm]
def byteStep (w c : Nat) : Nat := steps 8 (w ^^^ c)
theorem byte_nibs (w c : Nat) : nibs.getD ((nibs.getD ((w ^^^ c) % 16) 0 ^^^ (w ^^^ c) / 16) % 16) 0 ^^^ (nibs.getD ((w ^^^ c) % 16) 0 ^^^ (w ^^^ c) / 16) / 16 = byteStep w c := by
  rw [nib4, nib4]; unfold byteStep; rw [← steps_add]
def run (w : Nat) (l : List UInt8) : Nat := l.foldl (fun w c => byteStep w c.toNat) w
theorem run_append (w : Nat) (a b : List UInt8) : run w (a ++ b) = run (run w a) b := by simp [run]
def top : Nat := 4294967295
def crc (l : List UInt8) : Nat := run top l ^^^ top
theorem step_lt {w : Nat} (h : w < 2 ^ 32) : step w < 2 ^ 32 := by
  unfold step
  split
  · omega
  · exact Nat.xor_lt_two_pow (by omega) (by decide)
theorem steps_lt (n : Nat) : ∀ {w : Nat}, w < 2 ^ 32 → steps n w < 2 ^ 32 := by
  induction n with
  | zero => intro w h; exact h
  | succ n ih => intro w h; exact ih (step_lt h)
theorem byteStep_lt {w c : Nat} (h : w < 2 ^ 32) (hc : c < 256) : byteStep w c < 2 ^ 32 := steps_lt 8 (Nat.xor_lt_two_pow h (by omega))
theorem run_lt (l : List UInt8) : ∀ {w : Nat}, w < 2 ^ 32 → run w l < 2 ^ 32 := by
  induction l with
  | nil => intro w h; exact h
  | cons c l ih => intro w h; exact ih (byteStep_lt h c.toNat_lt)
theorem crc_lt (l : List UInt8) : crc l < 2 ^ 32 := Nat.xor_lt_two_pow (run_lt l (by decide)) (by decide)
end Go.Proofs.YtljjpdjknnhceaaDoor.CrcPure
namespace Go.Proofs.YtljjpdjknnhceaaDoor.CrcPure
theorem run_xor (l : List UInt8) : ∀ w v, run (w ^^^ v) l = run w l ^^^ steps (8 * l.length) v := by
  induction l with
  | nil => intro w v; simp [run, steps]
  | cons c l ih =>
    intro w v
    have e : byteStep (w ^^^ v) c.toNat = byteStep w c.toNat ^^^ steps 8 v := by
      unfold byteStep; rw [← steps_xor]; congr 1; ac_rfl
    show run (byteStep (w ^^^ v) c.toNat) l = run (byteStep w c.toNat) l ^^^ _
    rw [e, ih, ← steps_add, show 8 + 8 * l.length = 8 * (c :: l).length by simp; omega]
theorem crc_append (x y : List UInt8) : crc (x ++ y) = steps (8 * y.length) (crc x) ^^^ crc y := by
  unfold crc
  rw [run_append]
  have e : run top x = top ^^^ (run top x ^^^ top) := by rw [Nat.xor_comm, Nat.xor_assoc, Nat.xor_self, Nat.xor_zero]
  conv => lhs; rw [e, run_xor]
  ac_rfl
/- the product of the program -/
def mulTo (a b : Nat) : Nat → Nat
  | 0 => 0
  | i + 1 => if a.testBit (31 - i) then mulTo a b i ^^^ steps i b else mulTo a b i
def mul (a b : Nat) : Nat := mulTo a b 32
theorem steps_step (n w : Nat) : steps n (step w) = step (steps n w) := by
  rw [show steps n (step w) = steps (n + 1) w from rfl, show n + 1 = n + 1 from rfl, steps_add]; rfl
theorem mulTo_step (a b i : Nat) : mulTo a (step b) i = step (mulTo a b i) := by
  induction i with
  | zero => exact step_zero.symm
  | succ i ih => simp only [mulTo]; split <;> rw [ih]; rw [step_xor, steps_step]
theorem mulTo_steps (a b i k : Nat) : mulTo a (steps k b) i = steps k (mulTo a b i) := by
  induction k generalizing b with
  | zero => rfl
  | succ k ih => simp only [steps]; rw [ih, mulTo_step]
def x0 : Nat := 2 ^ 31
theorem steps_pow (i j : Nat) (h : i ≤ j) : steps i (2 ^ j) = 2 ^ (j - i) := by
  have := steps_shl i (2 ^ (j - i))
  rwa [← Nat.pow_add, show i + (j - i) = j by omega] at this
theorem mulTo_one (a i : Nat) (h : i ≤ 32) (k : Nat) : (mulTo a x0 i).testBit k = (a.testBit k && decide (32 - i ≤ k) && decide (k < 32)) := by
  induction i with
  | zero =>
    have : decide (32 ≤ k) = !decide (k < 32) := by by_cases h : k < 32 <;> simp [h] <;> omega
    simp [mulTo, this, Bool.and_assoc]
  | succ i ih =>
    simp only [mulTo]
    rw [x0, steps_pow i 31 (by omega)]
    have ih := ih (by omega)
    by_cases hk : k = 31 - i
    · subst hk
      have e1 : ¬ 32 - i ≤ 31 - i := by omega
      have e2 : 32 - (i + 1) ≤ 31 - i := by omega
      have e3 : 31 - i < 32 := by omega
      by_cases hb : a.testBit (31 - i)
      · rw [if_pos hb, Nat.testBit_xor, ← x0, ih]; simp [hb, e1, e3]
      · rw [if_neg hb, ← x0, ih]; simp [hb]
    · have e : decide (32 - (i + 1) ≤ k) = decide (32 - i ≤ k) := by rw [decide_eq_decide]; omega
      have e4 : ¬ 31 - i = k := by omega
      rw [e]
      split
      · rw [Nat.testBit_xor, ← x0, ih, Nat.testBit_two_pow]; simp [e4]
      · rw [← x0, ih]
theorem mul_x0 {a : Nat} (h : a < 2 ^ 32) : mul a x0 = a := by
  unfold mul
  apply Nat.eq_of_testBit_eq; intro k
  rw [mulTo_one a 32 (by omega)]
  by_cases hk : k < 32
  · simp [hk]
  · have : a.testBit k = false := Nat.testBit_lt_two_pow (Nat.lt_of_lt_of_le h (Nat.pow_le_pow_right (by decide) (by omega)))
    simp [this]
theorem mul_steps {a : Nat} (h : a < 2 ^ 32) (k : Nat) : mul a (steps k x0) = steps k a := by
  unfold mul; rw [mulTo_steps]; have := mul_x0 h; unfold mul at this; rw [this]

/- x to the power 8n, as the program makes it -/
def shiftLoop : Nat → Nat → Nat → Nat → Nat
  | 0, _, p, _ => p
  | k + 1, n, p, sq => if n = 0 then p else shiftLoop k (n / 2) (if n % 2 = 1 then mul p sq else p) (mul sq sq)
theorem steps_x0_lt (k : Nat) : steps k x0 < 2 ^ 32 := steps_lt k (by decide)
theorem shiftLoop_eq (k : Nat) : ∀ n e s, n < 2 ^ k → shiftLoop k n (steps e x0) (steps s x0) = steps (e + s * n) x0 := by
  induction k with
  | zero => intro n e s h; have : n = 0 := by omega
            subst this; simp [shiftLoop]
  | succ k ih =>
    intro n e s h
    simp only [shiftLoop]
    by_cases h0 : n = 0
    · subst h0; simp
    · rw [if_neg h0, mul_steps (steps_x0_lt s), mul_steps (steps_x0_lt e), ← steps_add, ← steps_add]
      have hn : n / 2 < 2 ^ k := by rw [Nat.pow_succ] at h; omega
      have e1 : (if n % 2 = 1 then steps (e + s) x0 else steps e x0) = steps (e + s * (n % 2)) x0 := by
        rcases Nat.mod_two_eq_zero_or_one n with hp | hp <;> simp [hp]
      rw [e1, ih _ _ _ hn]
      congr 1
      have := Nat.div_add_mod n 2
      have h2 : s * n = s * (2 * (n / 2)) + s * (n % 2) := by rw [← Nat.mul_add, this]
      have h3 : s * (2 * (n / 2)) = (s + s) * (n / 2) := by rw [← Nat.mul_assoc, Nat.mul_two]
      omega
theorem x8 : steps 8 x0 = 8388608 := by decide
theorem join_eq {a : Nat} (h : a < 2 ^ 32) (n k : Nat) (hk : n < 2 ^ k) : mul a (shiftLoop k n x0 8388608) = steps (8 * n) a := by
  have := shiftLoop_eq k n 0 8 hk
  rw [x8] at this
  simp only [steps, Nat.zero_add] at this
  rw [this, mul_steps h]
/- the reference: what some steps make of each power of 2 -/
def ofTo (t : Nat → Nat) (w : Nat) : Nat → Nat
  | 0 => 0
  | i + 1 => if w / 2 ^ i % 2 = 1 then ofTo t w i ^^^ t i else ofTo t w i
theorem ofTo_steps (m w i : Nat) : ofTo (fun j => steps m (2 ^ j)) w i = steps m (w % 2 ^ i) := by
  induction i with
  | zero => simp [ofTo, Nat.mod_one, steps_zero]
  | succ i ih =>
    simp only [ofTo]
    rw [ih, ← steps_xor]
    have hb : w.testBit i = decide (w / 2 ^ i % 2 = 1) := Nat.testBit_eq_decide_div_mod_eq
    have e : w % 2 ^ (i + 1) = if w / 2 ^ i % 2 = 1 then w % 2 ^ i ^^^ 2 ^ i else w % 2 ^ i := by
      apply Nat.eq_of_testBit_eq; intro k
      by_cases h1 : w / 2 ^ i % 2 = 1
      · rw [if_pos h1, Nat.testBit_xor, Nat.testBit_mod_two_pow, Nat.testBit_mod_two_pow, Nat.testBit_two_pow]
        by_cases hk : k = i
        · subst hk; simp [hb, h1]
        · have : ¬ i = k := fun h => hk h.symm
          have e2 : decide (k < i + 1) = decide (k < i) := by rw [decide_eq_decide]; omega
          simp [this, e2]
      · rw [if_neg h1, Nat.testBit_mod_two_pow, Nat.testBit_mod_two_pow]
        by_cases hk : k = i
        · subst hk; simp [hb, h1]
        · have e2 : decide (k < i + 1) = decide (k < i) := by rw [decide_eq_decide]; omega
          rw [e2]
    rw [e]
    split <;> rfl
theorem of_steps {w : Nat} (h : w < 2 ^ 32) (m : Nat) : ofTo (fun j => steps m (2 ^ j)) w 32 = steps m w := by
  rw [ofTo_steps, Nat.mod_eq_of_lt h]
theorem xor_top (x : Nat) (h : x < 2 ^ 32) : x ^^^ top = top - x := by
  apply Nat.eq_of_testBit_eq; intro i
  have e1 : top - x = 2 ^ 32 - (x + 1) := by unfold top; omega
  have e2 : top = 2 ^ 32 - 1 := rfl
  rw [e1, Nat.testBit_two_pow_sub_succ h, Nat.testBit_xor, e2, Nat.testBit_two_pow_sub_one]
  by_cases hi : i < 32
  · simp [hi]
  · have : x.testBit i = false := Nat.testBit_lt_two_pow (Nat.lt_of_lt_of_le h (Nat.pow_le_pow_right (by decide) (by omega)))
    simp [hi, this]
end Go.Proofs.YtljjpdjknnhceaaDoor.CrcPure

/- The CRC of the digest package: what its functions answer. -/
set_option linter.unusedVariables false
set_option linter.unusedSimpArgs false
namespace Go.Proofs.YtljjpdjknnhceaaDoor.Crc
open Go.RowKit Go.Proofs.YtljjpdjknnhceaaDoorW.PrintWords Go.Proofs.YtljjpdjknnhceaaDoorW.PrintLast Go.Proofs.YtljjpdjknnhceaaDoorW.PrintMore
open Go.Proofs.YtljjpdjknnhceaaDoor.Base Go.Proofs.YtljjpdjknnhceaaDoor.CrcPure
theorem u32_not (x : Nat) (h : x < 4294967296) : bits .xor .u32 IntKind.u32.max (x : Int) = 4294967295 - (x : Int) := by
  have e : IntKind.u32.max = ((4294967295 : Nat) : Int) := by decide
  have e2 := xor_top x h
  unfold top at e2
  rw [e, u32_xor_nat 4294967295 x (by decide) h, Nat.xor_comm, e2]; omega
/-- all parts, one behind the other -/
def flat (l : List ByteArray) : List UInt8 := l.flatMap fun s => s.data.toList
theorem flat_next (l : List ByteArray) (k : Nat) (h : k < l.length) : flat (l.take (k + 1)) = flat (l.take k) ++ (rdOf ByteArray.empty l (k : Nat)).data.toList := by
  unfold flat
  rw [List.take_add_one, List.flatMap_append]
  simp [rdOf, List.getElem?_eq_getElem h]
theorem rdOf_mem (l : List ByteArray) (k : Nat) (h : k < l.length) : rdOf ByteArray.empty l (k : Nat) ∈ l := by
  simp [rdOf, List.getElem?_eq_getElem h]
end Go.Proofs.YtljjpdjknnhceaaDoor.Crc
