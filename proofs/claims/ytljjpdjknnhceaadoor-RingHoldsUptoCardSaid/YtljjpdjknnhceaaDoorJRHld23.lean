/- Joined texts of this claim: NumR, InsPure -/
import Derived.Test.YtljjpdjknnhceaaDoorJRHld19
import Derived.Test.YtljjpdjknnhceaaDoorJRHld22
import Derived.Test.YtljjpdjknnhceaaDoorJRHld0
set_option linter.unusedVariables false
set_option linter.unusedSimpArgs false
/- The document's split and number. -/
set_option linter.unusedVariables false
set_option linter.unusedSimpArgs false
namespace Go.Proofs.YtljjpdjknnhceaaDoor.NumR
open Go.RowKit Go.Proofs.YtljjpdjknnhceaaDoorW.PrintWords Go.Proofs.YtljjpdjknnhceaaDoorW.PrintLast Go.Proofs.YtljjpdjknnhceaaDoorW.PrintMore
open Go.Proofs.YtljjpdjknnhceaaDoor.Base Go.Proofs.YtljjpdjknnhceaaDoor.PRingNames Go.Proofs.YtljjpdjknnhceaaDoor.NumPure Go.Proofs.YtljjpdjknnhceaaDoor.CutPure Go.Proofs.YtljjpdjknnhceaaDoor.NamePure
def strO (l : List UInt8) : ByteArray := ⟨l.toArray⟩
theorem strO_data (s : ByteArray) : strO s.data.toList = s := rfl
theorem bt_at (s : ByteArray) (i : Nat) (x : UInt8) (h : s.data.toList[i]? = some x) : bt s (i : Nat) = (x.toNat : Int) := by
  have hi : i < s.size := by have := (List.getElem?_eq_some_iff.1 h).1; rwa [data_length] at this
  rw [bt_nat s i hi]
  rw [getElem_list s i hi] at h
  simp only [Option.some.injEq] at h
  rw [h]
theorem ext_strO (s : ByteArray) (a b : Nat) : s.extract a b = strO ((s.data.toList.drop a).take (b - a)) := by
  rw [← strO_data (s.extract a b), Lib.extract_data]
theorem split_l (s : ByteArray) (c : UInt8) (hs : s.size ≤ 2147483647) : ∀ (d i a : Nat) (acc : List ByteArray), i ≤ s.size → s.size - i = d → a ≤ i → acc.length ≤ i → (∀ j, a ≤ j → j < i → s.data.toList[j]? ≠ some c) →
    granaryref6_split.l0 (d + 1) s (c.toNat : Int) acc (a : Nat) (i : Nat) = some (acc ++ (pcs c (s.data.toList.drop a)).map strO)
  | 0, i, a, acc, hi, hd, ha, hl, hf => by
    have hsz := data_length s
    unfold granaryref6_split.l0
    rw [if_neg (by omega), if_pos (by omega), if_pos (by omega), if_pos (by omega), pcs_miss _ _ (fun hm => ?_)]
    · rw [ext_strO, Int.toNat_natCast, List.take_of_length_le (by rw [List.length_drop, hsz]; exact Nat.le_refl _)]
      rfl
    · obtain ⟨j, hj⟩ := List.getElem?_of_mem hm
      rw [List.getElem?_drop] at hj
      have := (List.getElem?_eq_some_iff.1 hj).1
      exact hf (a + j) (by omega) (by omega) hj
  | d + 1, i, a, acc, hi, hd, ha, hl, hf => by
    have hsz := data_length s
    obtain ⟨x, hx⟩ : ∃ x, s.data.toList[i]? = some x := ⟨_, List.getElem?_eq_getElem (by omega)⟩
    have hw : wrap64 ((i : Int) + 1) = ((i + 1 : Nat) : Int) := by rw [w64 _ (by omega) (by omega)]; omega
    unfold granaryref6_split.l0
    rw [if_pos (by omega), if_pos (by omega), bt_at s i x hx]
    by_cases e : x = c
    · subst e
      rw [if_pos rfl, if_pos (by omega), if_pos (by omega), if_pos (by omega), if_pos (by omega), hw]
      rw [split_l s x hs d (i + 1) (i + 1) _ (by omega) (by omega) (by omega) (by rw [List.length_append, List.length_singleton]; omega) (fun j h1 h2 => by omega)]
      rw [pcs_hit x (s.data.toList.drop a) (i - a) (fun hm => ?_) (by rw [List.getElem?_drop, show a + (i - a) = i by omega]; exact hx)]
      · rw [List.map_cons, List.drop_drop, show a + (i - a + 1) = i + 1 by omega, ext_strO, Int.toNat_natCast, Int.toNat_natCast, List.append_assoc]
        rfl
      · obtain ⟨j, hj⟩ := List.getElem?_of_mem hm
        rw [List.getElem?_take] at hj
        split at hj
        · rw [List.getElem?_drop] at hj
          exact hf (a + j) (by omega) (by omega) hj
        · cases hj
    · have hne : ¬ ((x.toNat : Int) = (c.toNat : Int)) := fun h => e (UInt8.toNat_inj.1 (by omega))
      rw [if_neg hne, hw]
      exact split_l s c hs d (i + 1) a acc (by omega) (by omega) (by omega) (by omega) (fun j h1 h2 => by
        by_cases ej : j = i
        · subst ej; rw [hx]; intro h; exact e (by simpa using h)
        · exact hf j h1 (by omega))
theorem split_f (s : ByteArray) (c : UInt8) (hs : s.size ≤ 2147483647) : granaryref6_split.f (s.size + 1) s (c.toNat : Int) = some ((pcs c s.data.toList).map strO) := by
  have h := split_l s c hs s.size 0 0 [] (by omega) (by omega) (by omega) (by simp) (fun j _ h => by omega)
  unfold granaryref6_split.f
  simpa using h
def numI (l : List UInt8) : Int := match numL l with | some n => ((n : Nat) : Int) | none => -1
theorem num_l (s : ByteArray) (h10 : s.size ≤ 10) : ∀ (d i : Nat), i ≤ s.size → s.size - i = d → (s.data.toList.take i).all dgB = true →
    granaryref6_number.l0 (d + 1) s (valL (s.data.toList.take i) : Nat) (i : Nat) = some (if s.data.toList.all dgB = true then ((valL s.data.toList : Nat) : Int) else -1)
  | 0, i, hi, hd, hg => by
    have hsz := data_length s
    have e : s.data.toList.take i = s.data.toList := List.take_of_length_le (by omega)
    rw [e] at hg ⊢
    unfold granaryref6_number.l0
    rw [if_neg (by omega), if_pos hg]
  | d + 1, i, hi, hd, hg => by
    have hsz := data_length s
    obtain ⟨x, hx⟩ : ∃ x, s.data.toList[i]? = some x := ⟨_, List.getElem?_eq_getElem (by omega)⟩
    have hw : wrap64 ((i : Int) + 1) = ((i + 1 : Nat) : Int) := by rw [w64 _ (by omega) (by omega)]; omega
    have hxl := x.toNat_lt
    have hv : valL (s.data.toList.take i) < 10000000000 := Nat.lt_of_lt_of_le (valL_lt i _ (List.length_take_le _ _) (fun c hc => by
      have := List.all_eq_true.1 hg c hc
      simp only [dgB, Bool.and_eq_true, decide_eq_true_eq] at this
      exact this.2)) (Nat.le_trans (Nat.pow_le_pow_right (by decide) (show i ≤ 10 by omega)) (by decide))
    unfold granaryref6_number.l0
    rw [if_pos (by omega), if_pos (by omega), bt_at s i x hx]
    by_cases h1 : x.toNat < 48
    · rw [if_pos (by omega), if_neg ?_]
      intro h
      have := List.all_eq_true.1 h x (List.mem_of_getElem? hx)
      simp only [dgB, Bool.and_eq_true, decide_eq_true_eq] at this
      omega
    · by_cases h2 : 57 < x.toNat
      · rw [if_neg (by omega), if_pos (by omega), if_neg ?_]
        intro h
        have := List.all_eq_true.1 h x (List.mem_of_getElem? hx)
        simp only [dgB, Bool.and_eq_true, decide_eq_true_eq] at this
        omega
      · rw [if_neg (by omega), if_neg (by omega), hw]
        have e2 : (((x.toNat : Int) - 48) % 256) = ((x.toNat - 48 : Nat) : Int) := by omega
        have e3 : wrap64 ((wrap64 (((valL (s.data.toList.take i) : Nat) : Int) * 10)) + (((x.toNat : Int) - 48) % 256)) = ((valL (s.data.toList.take (i + 1)) : Nat) : Int) := by
          rw [e2, w64 (((valL (s.data.toList.take i) : Nat) : Int) * 10) (by omega) (by omega), w64 _ (by omega) (by omega), valL_take _ _ _ hx]
          omega
        rw [e3]
        exact num_l s h10 d (i + 1) (by omega) (by omega) (by
          rw [List.take_add_one, hx, List.all_append, hg]
          simp [dgB]; omega)
theorem num_f (s : ByteArray) : granaryref6_number.f (s.size + 2) s = some (numI s.data.toList) := by
  have hsz := data_length s
  have h0 : s.toList = ([] : List UInt8) ↔ s.size = 0 := by
    rw [ByteArray.toList_eq]
    exact ⟨fun e => by rw [e] at hsz; simpa using hsz.symm, fun e => List.eq_nil_of_length_eq_zero (by omega)⟩
  have hj : granaryref6_number.j0 (s.size + 2) s true = some (-1) := by simp only [granaryref6_number.j0, if_true]
  have hout : (s.data.toList.length < 1 ∨ 10 < s.data.toList.length ∨ (1 < s.data.toList.length ∧ s.data.toList.head? = some 48)) → numI s.data.toList = -1 := fun h => by
    unfold numI numL; rw [if_pos h]
  have hin : ¬ (s.data.toList.length < 1 ∨ 10 < s.data.toList.length ∨ (1 < s.data.toList.length ∧ s.data.toList.head? = some 48)) → numI s.data.toList = if s.data.toList.all dgB = true then ((valL s.data.toList : Nat) : Int) else -1 := fun h => by
    unfold numI numL; rw [if_neg h]
    by_cases hgg : s.data.toList.all dgB = true
    · rw [if_pos hgg, if_pos hgg]
    · rw [if_neg hgg, if_neg hgg]
  unfold granaryref6_number.f
  by_cases h1 : s.size = 0
  · rw [if_pos (h0.2 h1), hj, hout (.inl (by omega))]
  · rw [if_neg (fun e => h1 (h0.1 e))]
    by_cases h2 : 10 < s.size
    · rw [if_pos (by omega), hj, hout (.inr (.inl (by omega)))]
    · rw [if_neg (by omega), if_pos (by omega)]
      obtain ⟨x, hx⟩ : ∃ x, s.data.toList[0]? = some x := ⟨_, List.getElem?_eq_getElem (by omega)⟩
      have hhd : s.data.toList.head? = some x := by rw [List.head?_eq_getElem?]; exact hx
      have hb0 : bt s 0 = (x.toNat : Int) := bt_at s 0 x hx
      have hfin : granaryref6_number.j0 (s.size + 2) s false = some (if s.data.toList.all dgB = true then ((valL s.data.toList : Nat) : Int) else -1) := by
        simp only [granaryref6_number.j0]
        rw [if_neg Bool.false_ne_true]
        have := num_l s (by omega) s.size 0 (by omega) (by omega) rfl
        exact this
      rw [hb0]
      by_cases h3 : x = 48
      · subst h3
        rw [if_pos (by decide)]
        by_cases h4 : s.size = 1
        · have hl : s.toList = [48] := by
            rw [ByteArray.toList_eq]
            have : s.data.toList.length = 1 := by omega
            obtain ⟨y, hy⟩ := List.length_eq_one_iff.1 this
            rw [hy] at hx ⊢
            simp at hx
            rw [hx]
          rw [hl]
          rw [show (([48] : List UInt8) != [48]) = false by decide, hfin, hin (by rintro (e | e | ⟨e, _⟩) <;> omega)]
        · have hl : (s.toList != ([48] : List UInt8)) = true := by
            rw [bne_iff_ne]
            intro e
            rw [ByteArray.toList_eq] at e
            rw [e] at hsz
            simp at hsz
            omega
          rw [hl, hj, hout (.inr (.inr ⟨by omega, hhd⟩))]
      · have hne : ¬ ((x.toNat : Int) = 48) := fun h => h3 (UInt8.toNat_inj.1 (by show x.toNat = 48; omega))
        rw [if_neg hne, hfin, hin (by
          rintro (e | e | ⟨_, e⟩)
          · omega
          · omega
          · rw [hhd] at e; exact h3 (by simpa using e))]
theorem split_any (s : ByteArray) (c : UInt8) (w : World) (hs : s.size ≤ 2147483647) : Calls Tryd.prog 74 #[.string s, .int .u8 (c.toNat : Int)] w fun e w' => ∃ v : Value, e = .returned v ∧ Kd.R Kd.string 9 w' w.heap.size (fun _ => True) v ((pcs c s.data.toList).map strO) ∧ Below w.heap.size w w' :=
  granaryref6_split.calls _ s _ _ w (split_f s c hs)
theorem numR_any (s : ByteArray) (w : World) : Calls Tryd.prog 75 #[.string s] w fun e w' => e = .returned (.int .i64 (numI s.data.toList)) ∧ Drawn0 w w' :=
  granaryref6_number.calls _ s _ w (num_f s)
end Go.Proofs.YtljjpdjknnhceaaDoor.NumR

/- Names put in one by one, and sorted: the same. Plain lists. -/
set_option linter.unusedVariables false
set_option linter.unusedSimpArgs false
namespace Go.Proofs.YtljjpdjknnhceaaDoor.InsPure
abbrev Str := List UInt8
def ins (x : Str) : List Str → List Str
  | [] => [x]
  | y :: l => if x < y then x :: y :: l else y :: ins x l
def insAll (l : List Str) : List Str := l.foldl (fun m x => ins x m) []
theorem ins_perm (x : Str) : ∀ l, List.Perm (ins x l) (x :: l)
  | [] => .refl _
  | y :: l => by
    unfold ins
    split
    · exact .refl _
    · exact (List.Perm.cons y (ins_perm x l)).trans (List.Perm.swap x y l)
theorem le_of_not_lt {x y : Str} (h : ¬ x < y) : y ≤ x := h
theorem le_tot (x y : Str) : x ≤ y ∨ y ≤ x := by
  rcases List.le_total x y with h | h
  · exact .inl h
  · exact .inr h
theorem ins_sorted (x : Str) : ∀ l : List Str, l.Pairwise (· ≤ ·) → (ins x l).Pairwise (· ≤ ·)
  | [], _ => by simp [ins]
  | y :: l, h => by
    obtain ⟨h1, h2⟩ := List.pairwise_cons.1 h
    unfold ins
    by_cases e : x < y
    · rw [if_pos e]
      have hxy : x ≤ y := List.le_of_lt e
      refine List.pairwise_cons.2 ⟨fun z hz => ?_, h⟩
      rcases List.mem_cons.1 hz with rfl | hz
      · exact hxy
      · exact List.le_trans hxy (h1 z hz)
    · rw [if_neg e]
      refine List.pairwise_cons.2 ⟨fun z hz => ?_, ins_sorted x l h2⟩
      rcases List.mem_cons.1 ((ins_perm x l).mem_iff.1 hz) with rfl | hz
      · exact le_of_not_lt e
      · exact h1 z hz
theorem insAll_snoc (l : List Str) (x : Str) : insAll (l ++ [x]) = ins x (insAll l) := by simp [insAll]
theorem foldl_spec : ∀ (l m : List Str), m.Pairwise (· ≤ ·) → (l.foldl (fun m x => ins x m) m).Pairwise (· ≤ ·) ∧ List.Perm (l.foldl (fun m x => ins x m) m) (l ++ m)
  | [], m, h => ⟨h, .refl _⟩
  | x :: l, m, h => by
    obtain ⟨h1, h2⟩ := foldl_spec l (ins x m) (ins_sorted x m h)
    refine ⟨h1, h2.trans ?_⟩
    exact ((ins_perm x m).append_left l).trans List.perm_middle
theorem ins_sort (l : List Str) : insAll l = l.mergeSort fun x y => decide (x ≤ y) := by
  obtain ⟨h1, h2⟩ := foldl_spec l [] List.Pairwise.nil
  rw [List.append_nil] at h2
  refine List.Perm.eq_of_pairwise (le := fun x y : Str => x ≤ y) ?_ h1 ?_ (h2.trans (List.mergeSort_perm _ _).symm)
  · intro a b _ _ ha hb
    exact List.le_antisymm ha hb
  · have := List.pairwise_mergeSort (le := fun x y : Str => decide (x ≤ y)) (fun a b c h1 h2 => by simp only [decide_eq_true_eq] at *; exact List.le_trans h1 h2) (fun a b => by rcases le_tot a b with h | h <;> simp [h]) l
    exact this.imp (fun h => by simpa using h)
theorem insAll_length (l : List Str) : (insAll l).length = l.length := by rw [ins_sort]; simp
theorem ins_length (x : Str) (l : List Str) : (ins x l).length = l.length + 1 := by have := (ins_perm x l).length_eq; simpa using this
end Go.Proofs.YtljjpdjknnhceaaDoor.InsPure
