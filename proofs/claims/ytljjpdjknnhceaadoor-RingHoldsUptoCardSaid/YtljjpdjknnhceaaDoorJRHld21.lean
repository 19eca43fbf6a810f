/- Joined texts of this claim: CutPure -/
import Derived.Lib.SplitLaws
import Derived.Lib.Join
set_option linter.unusedVariables false
set_option linter.unusedSimpArgs false
/- Texts cut at a byte: plain lists. -/
set_option linter.unusedVariables false
set_option linter.unusedSimpArgs false
namespace Go.Proofs.YtljjpdjknnhceaaDoor.CutPure
open Go.Lib
/-- the pieces of l between the bytes c -/
def pcs (c : UInt8) : List UInt8 → List (List UInt8)
  | [] => [[]]
  | b :: l => if b = c then [] :: pcs c l else match pcs c l with
    | [] => [[b]]
    | p :: r => (b :: p) :: r
theorem pcs_cons (c b : UInt8) (l : List UInt8) : pcs c (b :: l) = if b = c then [] :: pcs c l else match pcs c l with
    | [] => [[b]]
    | p :: r => (b :: p) :: r := rfl
theorem pcs_ne (c : UInt8) : ∀ l, pcs c l ≠ []
  | [] => by simp [pcs]
  | b :: l => by
    unfold pcs
    split
    · simp
    · split <;> simp
theorem pcs_miss (c : UInt8) : ∀ l : List UInt8, c ∉ l → pcs c l = [l]
  | [], _ => rfl
  | b :: l, h => by
    have h1 : b ≠ c := fun e => h (by simp [e])
    unfold pcs
    rw [if_neg h1, pcs_miss c l (fun e => h (List.mem_cons_of_mem _ e))]
theorem pcs_app (c : UInt8) (b : List UInt8) : ∀ a : List UInt8, c ∉ a → pcs c (a ++ c :: b) = a :: pcs c b
  | [], _ => by simp [pcs]
  | x :: a, h => by
    have h1 : x ≠ c := fun e => h (by simp [e])
    show pcs c (x :: (a ++ c :: b)) = _
    rw [pcs_cons, if_neg h1, pcs_app c b a (fun e => h (List.mem_cons_of_mem _ e))]
theorem pcs_hit (c : UInt8) (l : List UInt8) (k : Nat) (hn : c ∉ l.take k) (h : l[k]? = some c) : pcs c l = l.take k :: pcs c (l.drop (k + 1)) := by
  have e : l = l.take k ++ c :: l.drop (k + 1) := by
    obtain ⟨hk, e⟩ := List.getElem?_eq_some_iff.1 h
    conv => lhs; rw [← List.take_append_drop k l, List.drop_eq_getElem_cons hk, e]
  conv => lhs; rw [e]
  exact pcs_app c _ _ hn
theorem pcs_free (c : UInt8) : ∀ l p, p ∈ pcs c l → c ∉ p
  | [], p, h => by simp [pcs] at h; simp [h]
  | b :: l, p, h => by
    unfold pcs at h
    by_cases e : b = c
    · rw [if_pos e] at h
      rcases List.mem_cons.1 h with rfl | h
      · simp
      · exact pcs_free c l p h
    · rw [if_neg e] at h
      cases hp : pcs c l with
      | nil => exact absurd hp (pcs_ne c l)
      | cons q r =>
        rw [hp] at h
        simp only at h
        rcases List.mem_cons.1 h with rfl | h
        · have := pcs_free c l q (by rw [hp]; simp)
          intro hm
          rcases List.mem_cons.1 hm with e2 | hm
          · exact e e2.symm
          · exact this hm
        · exact pcs_free c l p (by rw [hp]; exact List.mem_cons_of_mem _ h)
/-- the pieces joined again -/
def glue (c : UInt8) : List (List UInt8) → List UInt8
  | [] => []
  | [p] => p
  | p :: q :: r => p ++ c :: glue c (q :: r)
theorem glue_pcs (c : UInt8) : ∀ l, glue c (pcs c l) = l
  | [] => rfl
  | b :: l => by
    have ih := glue_pcs c l
    unfold pcs
    by_cases e : b = c
    · rw [if_pos e]
      cases hp : pcs c l with
      | nil => exact absurd hp (pcs_ne c l)
      | cons q r => rw [hp] at ih; subst e; show [] ++ b :: glue b (q :: r) = _; rw [ih]; rfl
    · rw [if_neg e]
      cases hp : pcs c l with
      | nil => exact absurd hp (pcs_ne c l)
      | cons q r =>
        rw [hp] at ih
        cases r with
        | nil => simp only [glue] at ih ⊢; rw [ih]
        | cons q2 r => simp only [glue, List.cons_append] at ih ⊢; rw [ih]
theorem pcs_glue (c : UInt8) : ∀ ps : List (List UInt8), ps ≠ [] → (∀ p ∈ ps, c ∉ p) → pcs c (glue c ps) = ps
  | [], h, _ => absurd rfl h
  | [p], _, h => pcs_miss c p (h p (by simp))
  | p :: q :: r, _, h => by
    show pcs c (p ++ c :: glue c (q :: r)) = _
    rw [pcs_app c _ p (h p (by simp)), pcs_glue c (q :: r) (by simp) (fun x hx => h x (List.mem_cons_of_mem _ hx))]
theorem index_one_miss (c : UInt8) : ∀ l : List UInt8, index l [c] = -1 → c ∉ l
  | [], _ => by simp
  | b :: l, h => by
    unfold index at h
    by_cases e : b = c
    · subst e; simp [List.isPrefixOf] at h
    · have hp : ([c] : List UInt8).isPrefixOf (b :: l) = false := by simp [List.isPrefixOf, Ne.symm e]
      rw [hp] at h
      have hge := index_ge l [c]
      have h2 : index l [c] = -1 := by
        rw [if_neg (by decide)] at h
        split at h
        · next h3 => exact beq_iff_eq.1 h3
        · omega
      have := index_one_miss c l h2
      simp only [List.mem_cons, not_or]
      exact ⟨fun e2 => e e2.symm, this⟩
theorem index_one_hit (c : UInt8) : ∀ (l : List UInt8) (i : Nat), index l [c] = (i : Int) → c ∉ l.take i ∧ l[i]? = some c
  | [], i, h => by simp [index] at h
  | b :: l, i, h => by
    unfold index at h
    by_cases e : b = c
    · subst e
      simp [List.isPrefixOf] at h
      have : i = 0 := by omega
      subst this
      simp
    · have hp : ([c] : List UInt8).isPrefixOf (b :: l) = false := by simp [List.isPrefixOf, Ne.symm e]
      rw [hp, if_neg (by decide)] at h
      have hge := index_ge l [c]
      split at h
      · omega
      · next h3 =>
        have h3' : index l [c] ≠ -1 := fun e => h3 (beq_iff_eq.2 e)
        obtain ⟨j, rfl⟩ : ∃ j, i = j + 1 := ⟨i - 1, by omega⟩
        obtain ⟨h4, h5⟩ := index_one_hit c l j (by omega)
        refine ⟨?_, by simpa using h5⟩
        rw [List.take_succ_cons]
        simp only [List.mem_cons, not_or]
        exact ⟨fun e2 => e e2.symm, h4⟩
theorem splitK_pcs (c : UInt8) : ∀ (n : Nat) (l : List UInt8), count l [c] = n → splitK [c] 0 n l = pcs c l
  | n, l, h => by
    have hge := index_ge l [c]
    by_cases hm : index l [c] = -1
    · rw [pcs_miss c l (index_one_miss c l hm)]
      cases n with
      | zero => rfl
      | succ n => unfold splitK; rw [if_pos (beq_iff_eq.2 hm)]
    · obtain ⟨i, hi⟩ : ∃ i : Nat, index l [c] = (i : Int) := ⟨(index l [c]).toNat, by omega⟩
      have hc := count_hit (by simp) hi
      obtain ⟨h1, h2⟩ := index_one_hit c l i hi
      rw [pcs_hit c l i h1 h2]
      cases n with
      | zero => omega
      | succ n =>
        unfold splitK
        rw [if_neg (fun e => hm (beq_iff_eq.1 e)), hi]
        simp only [Int.toNat_natCast, Nat.add_zero, List.length_singleton]
        rw [splitK_pcs c n (l.drop (i + 1)) (by simp only [List.length_singleton] at hc; omega)]
/-- strings.Split at one byte -/
theorem split_one (c : UInt8) (l : List UInt8) : split l [c] = pcs c l := splitK_pcs c _ l rfl
theorem pcs_length (c : UInt8) (l : List UInt8) : (pcs c l).length ≤ l.length + 1 := by
  induction l with
  | nil => simp [pcs]
  | cons b l ih =>
    unfold pcs
    split
    · simp only [List.length_cons]; omega
    · split
      · simp
      · next q r hp => rw [hp] at ih; simp only [List.length_cons] at ih ⊢; omega
theorem cut_app (c : UInt8) (a b : List UInt8) (h : c ∉ a) : cut (a ++ c :: b) [c] = (a, b, true) := by
  have hi : index (a ++ c :: b) [c] = (a.length : Int) := by
    have hge := index_ge (a ++ c :: b) [c]
    by_cases hm : index (a ++ c :: b) [c] = -1
    · exact absurd (by simp) (index_one_miss c _ hm)
    · obtain ⟨i, hi⟩ : ∃ i : Nat, index (a ++ c :: b) [c] = (i : Int) := ⟨(index (a ++ c :: b) [c]).toNat, by omega⟩
      obtain ⟨h1, h2⟩ := index_one_hit c _ i hi
      rw [hi]
      have : i = a.length := by
        rcases Nat.lt_trichotomy i a.length with h3 | h3 | h3
        · rw [List.getElem?_append_left h3] at h2
          exact absurd (List.mem_of_getElem? h2) h
        · exact h3
        · refine absurd ?_ h1
          rw [List.take_append, List.mem_append]
          right
          rw [show i - a.length = (i - a.length - 1) + 1 by omega, List.take_succ_cons]
          simp
      omega
  unfold cut
  rw [hi, if_pos (by omega)]
  simp
theorem cut_cases (c : UInt8) (l : List UInt8) : (c ∉ l ∧ cut l [c] = (l, [], false)) ∨ ∃ a b, c ∉ a ∧ l = a ++ c :: b ∧ cut l [c] = (a, b, true) := by
  have hge := index_ge l [c]
  by_cases hm : index l [c] = -1
  · exact .inl ⟨index_one_miss c l hm, by unfold cut; rw [hm, if_neg (by omega)]⟩
  · obtain ⟨i, hi⟩ : ∃ i : Nat, index l [c] = (i : Int) := ⟨(index l [c]).toNat, by omega⟩
    obtain ⟨h1, h2⟩ := index_one_hit c _ i hi
    obtain ⟨hk, e⟩ := List.getElem?_eq_some_iff.1 h2
    have e2 : l = l.take i ++ c :: l.drop (i + 1) := by
      conv => lhs; rw [← List.take_append_drop i l, List.drop_eq_getElem_cons hk, e]
    refine .inr ⟨l.take i, l.drop (i + 1), h1, e2, ?_⟩
    conv => lhs; rw [e2]
    exact cut_app c _ _ h1
end Go.Proofs.YtljjpdjknnhceaaDoor.CutPure
