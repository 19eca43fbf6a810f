/- A stably sorted list is one list: that of the document. Plain. -/
import Derived.Test.YtbheegamibdbhaaStabPure
set_option linter.unusedVariables false
set_option linter.unusedSimpArgs false
namespace Go.Proofs.Ytbheegamibdbhaa.StabUse
open Go.Sort Go.Proofs.Ytbheegamibdbhaa.SymPure Go.Proofs.Ytbheegamibdbhaa.SymMerge Go.Proofs.Ytbheegamibdbhaa.StabPure
variable {α : Type} {key : α → Int}
theorem eq_of_same : ∀ {l m : List α}, Srt key l → Srt key m → Same key l m → l = m
  | [], [], _, _, _ => rfl
  | [], y :: m, _, _, h => by
    have := (h.mem (x := y)).2 (List.mem_cons_self ..)
    simp at this
  | x :: l, [], _, _, h => by
    have := (h.mem (x := x)).1 (List.mem_cons_self ..)
    simp at this
  | x :: l, y :: m, hl, hm, h => by
    obtain ⟨l1, l2⟩ := List.pairwise_cons.1 hl
    obtain ⟨m1, m2⟩ := List.pairwise_cons.1 hm
    have k1 : key x ≤ key y := by
      rcases List.mem_cons.1 ((h.mem (x := y)).2 (List.mem_cons_self ..)) with e | e
      · rw [e]; exact Int.le_refl _
      · exact l1 y e
    have k2 : key y ≤ key x := by
      rcases List.mem_cons.1 ((h.mem (x := x)).1 (List.mem_cons_self ..)) with e | e
      · rw [e]; exact Int.le_refl _
      · exact m1 x e
    have k3 : key y = key x := by omega
    have h0 := h (key x)
    rw [List.filter_cons_of_pos (by simp), List.filter_cons_of_pos (by simp [k3])] at h0
    injection h0 with e1 e2
    subst e1
    have hs : Same key l m := fun k => by
      have hk := h k
      by_cases e : key x = k
      · subst e; exact e2
      · rw [List.filter_cons_of_neg (by simp [e]), List.filter_cons_of_neg (by simp [e])] at hk
        exact hk
    rw [eq_of_same l2 m2 hs]
def upTo (key : α → Int) (now : Int) (l : List α) : Nat → List α
  | 0 => []
  | j + 1 => upTo key now l j ++ l.filter fun x => decide (key x = now + 1 + (j : Int))
def ordL (key : α → Int) (now : Int) (k : Nat) (l : List α) : List α := (l.filter fun x => decide (key x = 0)) ++ upTo key now l k
theorem upTo_mem (now : Int) (l : List α) (x : α) : ∀ k, x ∈ upTo key now l k → x ∈ l ∧ now + 1 ≤ key x ∧ key x < now + 1 + (k : Int)
  | 0, h => by simp [upTo] at h
  | k + 1, h => by
    unfold upTo at h
    rcases List.mem_append.1 h with h | h
    · have := upTo_mem now l x k h; exact ⟨this.1, this.2.1, by omega⟩
    · have := List.mem_filter.1 h
      simp only [decide_eq_true_eq] at this
      exact ⟨this.1, by omega, by omega⟩
theorem filter_srt (l : List α) (c : Int) : Srt key (l.filter fun x => decide (key x = c)) := by
  have : ∀ x ∈ l.filter (fun x => decide (key x = c)), key x = c := fun x hx => by
    have := (List.mem_filter.1 hx).2
    simpa using this
  generalize l.filter (fun x => decide (key x = c)) = m at this ⊢
  clear l
  induction m with
  | nil => exact List.Pairwise.nil
  | cons a m ih => exact List.pairwise_cons.2 ⟨fun y hy => by rw [this a (List.mem_cons_self ..), this y (List.mem_cons_of_mem _ hy)]; exact Int.le_refl _, ih fun y hy => this y (List.mem_cons_of_mem _ hy)⟩
theorem upTo_srt (now : Int) (l : List α) : ∀ k, Srt key (upTo key now l k)
  | 0 => List.Pairwise.nil
  | k + 1 => (upTo_srt now l k).app (filter_srt l _) fun x hx y hy => by
    have a := upTo_mem now l x k hx
    have b := (List.mem_filter.1 hy).2
    simp only [decide_eq_true_eq] at b
    omega
theorem ordL_srt (now : Int) (hn : 0 ≤ now) (l : List α) (k : Nat) : Srt key (ordL key now k l) := (filter_srt l 0).app (upTo_srt now l k) fun x hx y hy => by
  have a := (List.mem_filter.1 hx).2
  have b := upTo_mem now l y k hy
  simp only [decide_eq_true_eq] at a
  omega
theorem filter_two (l : List α) (c k : Int) : (l.filter fun x => decide (key x = c)).filter (fun x => decide (key x = k)) = if c = k then l.filter (fun x => decide (key x = k)) else [] := by
  by_cases e : c = k
  · subst e; rw [if_pos rfl, List.filter_filter]; congr 1; funext x; simp
  · rw [if_neg e, List.filter_filter]
    exact List.filter_eq_nil_iff.2 fun x _ => by simp; omega
theorem upTo_filter (now : Int) (l : List α) (c : Int) : ∀ k, (upTo key now l k).filter (fun x => decide (key x = c)) = if now + 1 ≤ c ∧ c < now + 1 + (k : Int) then l.filter (fun x => decide (key x = c)) else []
  | 0 => by rw [if_neg (by omega)]; rfl
  | k + 1 => by
    unfold upTo
    rw [List.filter_append, upTo_filter now l c k, filter_two]
    by_cases e : now + 1 + (k : Int) = c
    · rw [if_pos e, if_neg (by omega), if_pos (by omega)]; rfl
    · rw [if_neg e]
      by_cases g : now + 1 ≤ c ∧ c < now + 1 + (k : Int)
      · rw [if_pos g, if_pos (by omega), List.append_nil]
      · rw [if_neg g, if_neg (by omega)]; rfl
theorem ordL_same (now : Int) (hn : 0 ≤ now) (l : List α) (k : Nat) (hk : ∀ x ∈ l, key x = 0 ∨ (now + 1 ≤ key x ∧ key x < now + 1 + (k : Int))) : Same key l (ordL key now k l) := fun c => by
  unfold ordL
  rw [List.filter_append, filter_two, upTo_filter]
  by_cases e : (0 : Int) = c
  · rw [if_pos e, if_neg (by omega), List.append_nil]
  · rw [if_neg e]
    by_cases g : now + 1 ≤ c ∧ c < now + 1 + (k : Int)
    · rw [if_pos g]; rfl
    · rw [if_neg g]
      refine List.filter_eq_nil_iff.2 fun x hx => ?_
      have := hk x hx
      simp only [decide_eq_true_eq]
      omega
theorem same_perm {l m : List α} [DecidableEq α] (h : Same key l m) (x : α) : l.count x = m.count x := by
  have e : ∀ n : List α, n.count x = (n.filter fun y => decide (key y = key x)).count x := fun n => by rw [List.count_filter (by simp)]
  rw [e l, e m, h (key x)]
theorem srt_of_all [Inhabited α] (d : Array α) (h : SK key 0 d.size d) : Srt key d.toList := srt_of_sk d [] d.toList [] (by simp) 0 d.size rfl (by simp) h
end Go.Proofs.Ytbheegamibdbhaa.StabUse
