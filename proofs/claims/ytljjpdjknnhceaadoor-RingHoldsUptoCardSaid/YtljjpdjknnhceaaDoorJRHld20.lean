/- Joined texts of this claim: NumPure -/
import Derived.Lib.ItoaNum
set_option linter.unusedVariables false
set_option linter.unusedSimpArgs false
/- Decimal numerals, written and read: plain lists. -/
set_option linter.unusedVariables false
set_option linter.unusedSimpArgs false
namespace Go.Proofs.YtljjpdjknnhceaaDoor.NumPure
open Go.Lib
def dgB (c : UInt8) : Bool := decide (48 ≤ c.toNat) && decide (c.toNat ≤ 57)
def valL (l : List UInt8) : Nat := l.foldl (fun n c => n * 10 + (c.toNat - 48)) 0
/-- a number without a 0 ahead, whatever its length -/
def noz (l : List UInt8) : Prop := l ≠ [] ∧ (l.length = 1 ∨ l.head? ≠ some 48) ∧ l.all dgB = true
def numL (l : List UInt8) : Option Nat := if l.length < 1 ∨ 10 < l.length ∨ (1 < l.length ∧ l.head? = some 48) then none else if l.all dgB = true then some (valL l) else none
theorem valL_snoc (l : List UInt8) (c : UInt8) : valL (l ++ [c]) = valL l * 10 + (c.toNat - 48) := by simp [valL]
theorem snoc_cases {α : Type} (l : List α) (h : l ≠ []) : ∃ a c, l = a ++ [c] := ⟨l.dropLast, l.getLast h, (List.dropLast_concat_getLast h).symm⟩
theorem dg_of (d : Nat) (h : d < 10) : (UInt8.ofNat (48 + d)).toNat = 48 + d := by
  rw [UInt8.toNat_ofNat']; omega
theorem dg_back (c : UInt8) (h : dgB c = true) : UInt8.ofNat (48 + (c.toNat - 48)) = c := by
  simp only [dgB, Bool.and_eq_true, decide_eq_true_eq] at h
  apply UInt8.toNat_inj.1
  rw [dg_of _ (by omega)]; omega
theorem dec_val : ∀ (k n : Nat), n ≤ k → valL (decDigits n) = n ∧ noz (decDigits n) ∧ (1 ≤ n → (decDigits n).head? ≠ some 48)
  | k, n, hk => by
    by_cases h : n < 10
    · rw [decDigits_one h]
      have hd := dg_of n h
      refine ⟨by show 0 * 10 + ((UInt8.ofNat (48 + n)).toNat - 48) = n; omega, ⟨by simp, .inl rfl, by simp [dgB, hd]; omega⟩, fun h1 e => ?_⟩
      simp only [List.head?_cons, Option.some.injEq] at e
      have := congrArg UInt8.toNat e
      rw [hd] at this
      have h48 : (48 : UInt8).toNat = 48 := rfl
      omega
    · cases k with
      | zero => omega
      | succ k =>
        obtain ⟨h1, h2, h3⟩ := dec_val k (n / 10) (by omega)
        have hd := dg_of (n % 10) (by omega)
        rw [decDigits, dif_neg h]
        have hh : (decDigits (n / 10) ++ [UInt8.ofNat (48 + n % 10)]).head? ≠ some 48 := by
          have h4 := h3 (by omega)
          rw [List.head?_append]
          cases e : (decDigits (n / 10)).head? with
          | none => exact absurd (List.head?_eq_none_iff.1 e) h2.1
          | some x => rw [e] at h4; simpa using h4
        refine ⟨by rw [valL_snoc, h1, hd]; omega, ⟨by simp, .inr hh, ?_⟩, fun _ => hh⟩
        rw [List.all_append, h2.2.2]
        simp [dgB, hd]; omega
theorem val_dec : ∀ (k : Nat) (l : List UInt8), l.length ≤ k → noz l → decDigits (valL l) = l ∧ (l.head? ≠ some 48 → 1 ≤ valL l)
  | 0, l, hk, h => absurd (List.eq_nil_of_length_eq_zero (by omega)) h.1
  | k + 1, l, hk, h => by
    obtain ⟨h0, h1, h2⟩ := h
    obtain ⟨a, c, rfl⟩ := snoc_cases l h0
    rw [List.all_append] at h2
    simp only [Bool.and_eq_true, List.all_cons, List.all_nil, Bool.and_true] at h2
    have hc := h2.2
    have hc' : 48 ≤ c.toNat ∧ c.toNat ≤ 57 := by simpa [dgB] using hc
    rw [valL_snoc]
    rw [List.length_append, List.length_singleton] at h1 hk
    by_cases ha : a = []
    · subst ha
      have e : valL [] * 10 + (c.toNat - 48) = c.toNat - 48 := by simp [valL]
      rw [e, decDigits_one (by omega), dg_back c hc]
      refine ⟨rfl, fun hn => ?_⟩
      have : c ≠ 48 := fun e => hn (by simp [e])
      have : c.toNat ≠ 48 := fun e => this (UInt8.toNat_inj.1 e)
      omega
    · have hal : 0 < a.length := List.length_pos_iff.2 ha
      have hhd : a.head? ≠ some 48 := by
        have h3 := h1.resolve_left (by omega)
        rw [List.head?_append] at h3
        cases e : a.head? with
        | none => exact absurd (List.head?_eq_none_iff.1 e) ha
        | some x => rw [e] at h3; simpa using h3
      obtain ⟨i1, i2⟩ := val_dec k a (by omega) ⟨ha, .inr hhd, h2.1⟩
      have h5 := i2 hhd
      rw [decDigits, dif_neg (by omega), show (valL a * 10 + (c.toNat - 48)) / 10 = valL a by omega, show (valL a * 10 + (c.toNat - 48)) % 10 = c.toNat - 48 by omega, i1, dg_back c hc]
      exact ⟨rfl, fun _ => by omega⟩
theorem numL_noz {l : List UInt8} {n : Nat} (h : numL l = some n) : noz l ∧ l.length ≤ 10 ∧ n = valL l := by
  unfold numL at h
  by_cases h1 : l.length < 1 ∨ 10 < l.length ∨ (1 < l.length ∧ l.head? = some 48)
  · rw [if_pos h1] at h; cases h
  rw [if_neg h1] at h
  by_cases h2 : l.all dgB = true
  · rw [if_pos h2] at h
    simp only [Option.some.injEq] at h
    refine ⟨⟨fun e => h1 (.inl (by rw [e]; decide)), ?_, h2⟩, by omega, h.symm⟩
    by_cases e : l.length = 1
    · exact .inl e
    · exact .inr fun e2 => h1 (.inr (.inr ⟨by omega, e2⟩))
  · rw [if_neg h2] at h; cases h
/-- what was read, written -/
theorem numL_back {l : List UInt8} {n : Nat} (h : numL l = some n) : decDigits n = l := by
  obtain ⟨h1, _, rfl⟩ := numL_noz h
  exact (val_dec _ l (Nat.le_refl _) h1).1
theorem dec_len {n : Nat} (h : n < 10000000000) : 1 ≤ (decDigits n).length ∧ (decDigits n).length ≤ 10 := by
  rw [decDigits_length]
  refine ⟨nDigits_pos n, ?_⟩
  refine Classical.byContradiction fun hn => ?_
  by_cases h0 : n = 0
  · subst h0; rw [nDigits_small (by decide)] at hn; omega
  · have hk : ∀ k u, 1 ≤ u → u < 10 ^ k → nDigits u ≤ k := by
      intro k
      induction k with
      | zero => intro u h1 h2; simp at h2; omega
      | succ k ih =>
        intro u h1 h2
        by_cases hu : u < 10
        · rw [nDigits_small hu]; omega
        · rw [nDigits_big hu]
          have := ih (u / 10) (by omega) (by rw [Nat.pow_succ] at h2; omega)
          omega
    exact hn (hk 10 n (by omega) (by simpa using h))
/-- what was written, read -/
theorem numL_dec {n : Nat} (h : n < 10000000000) : numL (decDigits n) = some n := by
  obtain ⟨h1, h2, h3⟩ := dec_val n n (Nat.le_refl _)
  obtain ⟨l1, l2⟩ := dec_len h
  unfold numL
  rw [if_neg ?_, if_pos h2.2.2, h1]
  rintro (e | e | ⟨e1, e2⟩)
  · omega
  · omega
  · rcases h2.2.1 with e | e
    · omega
    · exact e e2
theorem noz_digits {l : List UInt8} (h : noz l) : ∀ c ∈ l, 48 ≤ c.toNat ∧ c.toNat ≤ 57 := fun c hc => by
  have := List.all_eq_true.1 h.2.2 c hc
  simpa [dgB] using this
theorem valL_take (l : List UInt8) (k : Nat) (c : UInt8) (h : l[k]? = some c) : valL (l.take (k + 1)) = valL (l.take k) * 10 + (c.toNat - 48) := by
  rw [List.take_add_one, h]; exact valL_snoc _ _
theorem valL_lt : ∀ (k : Nat) (l : List UInt8), l.length ≤ k → (∀ c ∈ l, c.toNat ≤ 57) → valL l < 10 ^ k
  | 0, l, hk, _ => by
    have : l = [] := List.eq_nil_of_length_eq_zero (by omega)
    subst this; decide
  | k + 1, l, hk, h => by
    by_cases hl : l = []
    · subst hl
      have : 0 < 10 ^ (k + 1) := Nat.pow_pos (by decide)
      simpa [valL] using this
    · obtain ⟨a, c, rfl⟩ := snoc_cases l hl
      rw [valL_snoc, Nat.pow_succ]
      rw [List.length_append, List.length_singleton] at hk
      have := valL_lt k a (by omega) (fun x hx => h x (List.mem_append_left _ hx))
      have := h c (by simp)
      omega
end Go.Proofs.YtljjpdjknnhceaaDoor.NumPure
