/- Joined texts of this claim: MadePure -/
import Derived.Test.YtljjpdjknnhceaaDoorJRNam7
import Derived.Test.YtljjpdjknnhceaaDoorJRNam12
set_option linter.unusedVariables false
set_option linter.unusedSimpArgs false
/- A made definition: plain lists. -/
set_option linter.unusedVariables false
set_option linter.unusedSimpArgs false
namespace Go.Proofs.YtljjpdjknnhceaaDoor.MadePure
open Go.Proofs.YtljjpdjknnhceaaDoor.RingPure Go.Proofs.YtljjpdjknnhceaaDoor.ChkPure Go.Proofs.YtljjpdjknnhceaaDoor.Chkd Go.Proofs.YtljjpdjknnhceaaDoor.Name
def md (x m : Int) : Int := Int.tmod (Int.tmod x m + m) m
theorem md_lt (x m : Int) (h : 0 < m) : 0 ≤ md x m ∧ md x m < m := by
  unfold md
  have h1 := Int.lt_tmod_of_pos x h
  have h2 : 0 ≤ Int.tmod x m + m := by omega
  exact ⟨Int.tmod_nonneg _ h2, Int.tmod_lt_of_pos _ h⟩
def atL (l : List Int) (i : Nat) : Int := if l.length = 0 then 0 else l.getD (i % l.length) 0
/-- the partitions of node i -/
def ps (f : Nat → Int) (i : Int) : Nat → List Int
  | 0 => []
  | j + 1 => if f j = i then ps f i j ++ [(j : Int)] else ps f i j
def nds (f z : Nat → Int) (p : Nat) : Nat → List Nd
  | 0 => []
  | k + 1 => nds f z p k ++ [(z k, ps f (k : Nat) p)]
theorem nds_length (f z : Nat → Int) (p k : Nat) : (nds f z p k).length = k := by
  induction k with
  | zero => rfl
  | succ k ih => simp [nds, ih]
theorem ps_lt (f : Nat → Int) (i : Int) : ∀ (p : Nat) (x : Int), x ∈ ps f i p → 0 ≤ x ∧ x < (p : Int)
  | 0, x, h => by cases h
  | p + 1, x, h => by
    unfold ps at h
    split at h
    · rcases List.mem_append.1 h with h | h
      · have := ps_lt f i p x h; omega
      · simp only [List.mem_singleton] at h; omega
    · have := ps_lt f i p x h; omega
theorem ris_snoc : ∀ (l : List Int) (x : Int), ris l = true → (∀ y ∈ l, y < x) → ris (l ++ [x]) = true
  | [], _, _, _ => rfl
  | [a], x, _, h => by simp [ris, h a (by simp)]
  | a :: b :: l, x, h, hx => by
    simp only [ris, Bool.and_eq_true, decide_eq_true_eq, List.cons_append] at h ⊢
    exact ⟨h.1, ris_snoc (b :: l) x h.2 (fun y hy => hx y (List.mem_cons_of_mem _ hy))⟩
theorem ps_ris (f : Nat → Int) (i : Int) : ∀ p : Nat, ris (ps f i p) = true
  | 0 => rfl
  | p + 1 => by
    unfold ps
    split
    · exact ris_snoc _ _ (ps_ris f i p) (fun y hy => (ps_lt f i p y hy).2)
    · exact ps_ris f i p
theorem ps_count (f : Nat → Int) (i : Int) : ∀ (p q : Nat), (ps f i p).count (q : Int) = if q < p ∧ f q = i then 1 else 0
  | 0, q => by simp [ps]
  | p + 1, q => by
    have ih := ps_count f i p q
    unfold ps
    by_cases h : f p = i
    · rw [if_pos h, List.count_append, ih, List.count_singleton]
      by_cases e : q = p
      · subst e; simp [h]
      · have e2 : ((p : Int) == (q : Int)) = false := by simp; omega
        rw [e2, if_neg (show ¬ (false = true) by decide)]
        by_cases h3 : q < p ∧ f q = i
        · rw [if_pos h3, if_pos ⟨by omega, h3.2⟩]
        · rw [if_neg h3, if_neg (fun h4 => h3 ⟨by omega, h4.2⟩)]
    · rw [if_neg h, ih]
      by_cases h3 : q < p ∧ f q = i
      · rw [if_pos h3, if_pos ⟨by omega, h3.2⟩]
      · rw [if_neg h3, if_neg (fun h4 => h3 ⟨by
          by_cases e : q = p
          · subst e; exact absurd h4.2 h
          · omega, h4.2⟩)]
theorem ps_le (f : Nat → Int) (i : Int) : ∀ p : Nat, (ps f i p).length ≤ p
  | 0 => Nat.le_refl _
  | p + 1 => by
    have := ps_le f i p
    unfold ps
    split <;> (try rw [List.length_append, List.length_singleton]) <;> omega
/-- how many partitions lie with nodes below k -/
def blw (f : Nat → Int) (k : Int) : Nat → Nat
  | 0 => 0
  | j + 1 => blw f k j + if f j < k then 1 else 0
theorem blw_succ (f : Nat → Int) (k : Int) : ∀ p : Nat, blw f (k + 1) p = blw f k p + (ps f k p).length
  | 0 => rfl
  | p + 1 => by
    have ih := blw_succ f k p
    unfold blw ps
    by_cases h : f p = k
    · rw [if_pos h, if_pos (by omega), if_neg (by omega), List.length_append, List.length_singleton]; omega
    · rw [if_neg h]
      by_cases h2 : f p < k
      · rw [if_pos h2, if_pos (by omega)]; omega
      · rw [if_neg h2, if_neg (by omega)]; omega
theorem blw_zero (f : Nat → Int) (hf : ∀ j, 0 ≤ f j) : ∀ p : Nat, blw f 0 p = 0
  | 0 => rfl
  | p + 1 => by unfold blw; rw [blw_zero f hf p, if_neg (by have := hf p; omega)]
theorem blw_all (f : Nat → Int) (n : Int) (hf : ∀ j, f j < n) : ∀ p : Nat, blw f n p = p
  | 0 => rfl
  | p + 1 => by unfold blw; rw [blw_all f n hf p, if_pos (hf p)]
theorem cnt_app (a b : List Nd) : cnt (a ++ b) = cnt a + cnt b := by unfold cnt; rw [List.map_append, List.sum_append]
theorem times_app (a b : List Nd) (q : Int) : times (a ++ b) q = times a q + times b q := by unfold times; rw [List.map_append, List.sum_append]
theorem full_app (a b : List Nd) : full (a ++ b) = full a + full b := by unfold full; rw [List.filter_append, List.length_append]
theorem cnt_nds (f z : Nat → Int) (p : Nat) (hf : ∀ j, 0 ≤ f j) : ∀ k : Nat, cnt (nds f z p k) = blw f (k : Nat) p
  | 0 => (blw_zero f hf p).symm
  | k + 1 => by
    show cnt (nds f z p k ++ [(z k, ps f (k : Nat) p)]) = _
    rw [cnt_app, cnt_nds f z p hf k]
    have := blw_succ f (k : Nat) p
    simp only [cnt, List.map_cons, List.map_nil, List.sum_cons, List.sum_nil, Nat.add_zero]
    rw [show ((k + 1 : Nat) : Int) = (k : Int) + 1 by omega]
    omega
theorem times_nds (f z : Nat → Int) (p : Nat) (hf : ∀ j, 0 ≤ f j) (q : Nat) (hq : q < p) : ∀ k : Nat, times (nds f z p k) (q : Int) = if f q < (k : Int) then 1 else 0
  | 0 => by rw [if_neg (by have := hf q; omega)]; rfl
  | k + 1 => by
    show times (nds f z p k ++ [(z k, ps f (k : Nat) p)]) _ = _
    rw [times_app, times_nds f z p hf q hq k]
    simp only [times, List.map_cons, List.map_nil, List.sum_cons, List.sum_nil, Nat.add_zero]
    rw [ps_count]
    by_cases h : f q = (k : Int)
    · rw [if_neg (by omega), if_pos ⟨hq, h⟩, if_pos (by omega)]
    · rw [if_neg (show ¬ (q < p ∧ f q = (k : Int)) from fun e => h e.2)]
      by_cases h2 : f q < (k : Int)
      · rw [if_pos h2, if_pos (by omega)]
      · rw [if_neg h2, if_neg (by omega)]
theorem nds_mem (f z : Nat → Int) (p : Nat) : ∀ (k : Nat) (n : Nd), n ∈ nds f z p k → ∃ i : Nat, n = (z i, ps f (i : Nat) p)
  | 0, n, h => by cases h
  | k + 1, n, h => by
    rcases List.mem_append.1 (show n ∈ nds f z p k ++ [(z k, ps f (k : Nat) p)] from h) with h | h
    · exact nds_mem f z p k n h
    · exact ⟨k, by simpa using h⟩
theorem full_pos {ns : List Nd} (h : 0 < cnt ns) : 0 < full ns := by
  induction ns with
  | nil => exact absurd h (by decide)
  | cons n ns ih =>
    unfold full
    by_cases hn : 0 < n.2.length
    · rw [List.filter_cons_of_pos (by simpa using hn)]; simp
    · rw [List.filter_cons_of_neg (by simpa using hn)]
      exact ih (by unfold cnt at h ⊢; simp only [List.map_cons, List.sum_cons] at h; omega)
structure Fz (f z : Nat → Int) (n : Nat) : Prop where mk ::
  (lo : ∀ j, 0 ≤ f j) (hi : ∀ j, f j < (n : Int)) (zo : ∀ i, 0 ≤ z i ∧ z i ≤ 7)
theorem made_cnt {f z : Nat → Int} {n : Nat} (h : Fz f z n) (p : Nat) : cnt (nds f z p n) = p := by rw [cnt_nds f z p h.lo n, blw_all f (n : Nat) h.hi p]
theorem made_dealt {f z : Nat → Int} {n : Nat} (h : Fz f z n) (p : Nat) (hp : 1 ≤ p ∧ p ≤ 64) : dealt (nds f z p n) := by
  have hc := made_cnt h p
  refine ⟨by omega, by omega, fun i hi => ?_, fun m hm => ?_⟩
  · rw [times_nds f z p h.lo i (by omega) n, if_pos (h.hi i)]
  · obtain ⟨i, rfl⟩ := nds_mem f z p n m hm
    exact ps_ris f _ p
theorem made_zoned {f z : Nat → Int} {n : Nat} (h : Fz f z n) (p k : Nat) : zoned (nds f z p k) = true := by
  unfold zoned
  rw [List.all_eq_true]
  intro m hm
  obtain ⟨i, rfl⟩ := nds_mem f z p k m hm
  have := h.zo i
  simp only [Bool.and_eq_true, decide_eq_true_eq]
  omega
theorem made_chk {f z : Nat → Int} {n p : Nat} (h : Fz f z n) (hn : 1 ≤ n ∧ n ≤ 16) (hp : 1 ≤ p ∧ p ≤ 64) {c : Cl} (hnm : nmB c.store = true) (hset : setB c = true) (hrep : c.replicas ≤ full (nds f z p n)) (hfl : (p : Int) * c.replicas * c.chunks ≤ 512) : (chkC c (nds f z p n)).1 = 0 := by
  have hc := made_cnt h p
  have hl := nds_length f z p n
  unfold chkC chk
  rw [if_neg (by rw [hnm]; decide), if_neg (by rw [hset]; decide), if_neg (by omega), if_neg (by rw [made_zoned h p n]; decide)]
  have hs := (homes_iff _).2 (made_dealt h p hp)
  cases e : homesP (nds f z p n) with
  | none => rw [e] at hs; exact absurd hs (by decide)
  | some l =>
    simp only
    rw [if_neg (by omega), hc, if_neg (by omega)]
end Go.Proofs.YtljjpdjknnhceaaDoor.MadePure
