/- The stable sort's blocks: plain. -/
import Derived.Test.YtbheegamibdbhaaSymMerge
import Derived.Sort.LotA
set_option linter.unusedVariables false
set_option linter.unusedSimpArgs false
namespace Go.Proofs.Ytbheegamibdbhaa.StabPure
open Go.Sort Go.Proofs.Ytbheegamibdbhaa.SymPure Go.Proofs.Ytbheegamibdbhaa.SymMerge
variable {α : Type} {key : α → Int}
theorem swo_key (key : α → Int) : SWO (ltk key) where
  irrefl := fun x => by simp [ltk]
  trans := fun x y z h g => by have := ltk_yes h; have := ltk_yes g; unfold ltk; rw [decide_eq_true_eq]; omega
  ntrans := fun x y z h g => by have := ltk_no h; have := ltk_no g; unfold ltk; rw [decide_eq_false_iff_not]; omega
theorem parts (d : Array α) (a m b : Nat) (h0 : a ≤ m) (h1 : m ≤ b) (h2 : b ≤ d.size) : ∃ X A B Z, d.toList = X ++ (A ++ (B ++ Z)) ∧ X.length = a ∧ a + A.length = m ∧ m + B.length = b := by
  refine ⟨d.toList.take a, (d.toList.drop a).take (m - a), (d.toList.drop m).take (b - m), d.toList.drop b, ?_, ?_, ?_, ?_⟩
  · have e1 : (d.toList.drop m).take (b - m) ++ d.toList.drop b = d.toList.drop m := by
      have := List.take_append_drop (b - m) (d.toList.drop m)
      rw [List.drop_drop, show m + (b - m) = b by omega] at this
      exact this
    have e2 : (d.toList.drop a).take (m - a) ++ d.toList.drop m = d.toList.drop a := by
      have := List.take_append_drop (m - a) (d.toList.drop a)
      rw [List.drop_drop, show a + (m - a) = m by omega] at this
      exact this
    rw [e1, e2, List.take_append_drop]
  · simp; omega
  · simp; omega
  · simp; omega
variable [Inhabited α]
def SK (key : α → Int) (lo hi : Nat) (d : Array α) : Prop := ∀ i j, lo ≤ i → i ≤ j → j < hi → key d[i]! ≤ key d[j]!
theorem SK.congr {lo hi : Nat} {d d' : Array α} (h : SK key lo hi d) (e : ∀ i, lo ≤ i → i < hi → d'[i]! = d[i]!) : SK key lo hi d' := fun i j h0 h1 h2 => by
  rw [e i h0 (by omega), e j (by omega) h2]; exact h i j h0 h1 h2
theorem SK.sub {lo hi lo' hi' : Nat} {d : Array α} (h : SK key lo hi d) (h0 : lo ≤ lo') (h1 : hi' ≤ hi) : SK key lo' hi' d := fun i j a b c => h i j (by omega) b (by omega)
theorem SK.none {lo hi : Nat} {d : Array α} (h : hi ≤ lo) : SK key lo hi d := fun i j a b c => by omega
/-- what a sorted piece leaves of the whole -/
structure Piece (key : α → Int) (a b : Nat) (d d' : Array α) : Prop where mk ::
  (size : d'.size = d.size) (other : ∀ i, i < a ∨ b ≤ i → d'[i]! = d[i]!) (sk : SK key a b d') (same : Same key d.toList d'.toList)
theorem bang_list (d : Array α) (l : List α) (h : d.toList = l) (i : Nat) : d[i]! = (l[i]?).getD default := by
  subst h
  rw [Array.getElem?_toList]
  simp [getElem!_def]
  cases d[i]? <;> rfl
theorem srt_of_sk (d : Array α) (X A Z : List α) (h : d.toList = X ++ (A ++ Z)) (a b : Nat) (ha : X.length = a) (hb : a + A.length = b) (hs : SK key a b d) : Srt key A := by
  refine List.pairwise_iff_getElem.2 fun i j hi hj hij => ?_
  rw [← at_mid d X A Z h i hi, ← at_mid d X A Z h j hj]
  exact hs _ _ (by omega) (by omega) (by omega)
theorem sk_of_srt (d : Array α) (X A Z : List α) (h : d.toList = X ++ (A ++ Z)) (a b : Nat) (ha : X.length = a) (hb : a + A.length = b) (hs : Srt key A) : SK key a b d := fun i j h0 h1 h2 => srt_at d X A Z h hs i j (by omega) h1 (by omega)
theorem symM_piece (d : Array α) (f a m b : Nat) (hf : b - a ≤ f) (h0 : a < m) (h1 : m < b) (h2 : b ≤ d.size) (s1 : SK key a m d) (s2 : SK key m b d) : Piece key a b d (symM (ltk key) f d a m b) := by
  obtain ⟨X, A, B, Z, h, hX, hA, hB⟩ := parts d a m b (by omega) (by omega) h2
  obtain ⟨C, hC, mg⟩ := symM_list f d X A B Z a m b hf h hX hA hB h0 h1 (srt_of_sk d X A (B ++ Z) h a m hX hA s1) (srt_of_sk d (X ++ A) B Z (by rw [h]; simp) m b (by simp; omega) hB s2)
  have hl := mg.len
  refine ⟨symM_size _ _ _ _ _ _, fun i hi => ?_, sk_of_srt _ X C Z hC a b hX (by omega) mg.srt, ?_⟩
  · rw [bang_list _ _ hC, bang_list _ _ h]
    rcases hi with hi | hi
    · rw [List.getElem?_append_left (by omega), List.getElem?_append_left (by omega)]
    · rw [← List.append_assoc, ← List.append_assoc, ← List.append_assoc, List.getElem?_append_right (by simp; omega), List.getElem?_append_right (by simp; omega)]
      congr 2
      simp; omega
  · rw [h, hC]
    refine (Same.refl X).app ?_
    rw [← List.append_assoc]
    exact mg.same.app (Same.refl Z)
/-! the insertion sort is stable -/
theorem swp_same (d : Array α) (j : Nat) (h : j + 1 < d.size) (hl : ltk key d[j + 1]! d[j]! = true) : Same key d.toList (swp d (j + 1) j).toList := by
  obtain ⟨X, A, B, Z, e, hX, hA, hB⟩ := parts d j (j + 1) (j + 2) (by omega) (by omega) (by omega)
  obtain ⟨x, rfl⟩ := List.length_eq_one_iff.1 (show A.length = 1 by omega)
  obtain ⟨y, rfl⟩ := List.length_eq_one_iff.1 (show B.length = 1 by omega)
  have hx : d[j]! = x := get_at X ([y] ++ Z) x d (by rw [e]; rfl) j hX
  have hy : d[j + 1]! = y := get_at (X ++ [x]) Z y d (by rw [e]; simp) (j + 1) (by simp; omega)
  rw [hx, hy] at hl
  rw [swp_comm _ _ _ h (by omega), swp_list d X [] Z x y (by rw [e]; rfl) j (j + 1) hX (by simp; omega), e]
  refine (Same.refl X).app ?_
  have := (Same.swap (key := key) (l := [x]) (m := [y]) (fun u hu v hv => by simp at hu hv; subst hu hv; exact ltk_yes hl)).app (Same.refl Z)
  simpa using this
theorem insInner_same (a : Nat) : ∀ (j : Nat) (d : Array α), j < d.size → Same key d.toList (insInner (ltk key) a j d).toList
  | 0, d, _ => Same.refl _
  | j + 1, d, h => by
    unfold insInner
    split
    · rename_i g
      rw [Bool.and_eq_true] at g
      exact (swp_same d j h g.2).trans (insInner_same a j _ (by rw [size_swp]; omega))
    · exact Same.refl _
theorem insInner_size (lt : α → α → Bool) (a : Nat) : ∀ (j : Nat) (d : Array α), (insInner lt a j d).size = d.size
  | 0, d => rfl
  | j + 1, d => by
    unfold insInner
    split
    · rw [insInner_size lt a j, size_swp]
    · rfl
theorem insOuter_same (a b : Nat) : ∀ (k i : Nat) (d : Array α), b - i = k → b ≤ d.size → Same key d.toList (insOuter (ltk key) a b i d).toList
  | 0, i, d, hk, h => by rw [insOuter, if_neg (by omega)]; exact Same.refl _
  | k + 1, i, d, hk, h => by
    rw [insOuter, if_pos (by omega)]
    exact (insInner_same a i d (by omega)).trans (insOuter_same a b k (i + 1) _ (by omega) (by rw [insInner_size]; exact h))
theorem ins_piece (d : Array α) (a b : Nat) (hab : a ≤ b) (hb : b ≤ d.size) : Piece key a b d (insertionSort (ltk key) d a b) := by
  obtain ⟨⟨p1, p2, p3⟩, p4⟩ := insertionSort_holds (swo_key key) d a b hab hb
  refine ⟨p1, p2, fun i j h0 h1 h2 => ?_, insOuter_same a b _ _ d rfl hb⟩
  by_cases e : i = j
  · subst e; exact Int.le_refl _
  · exact ltk_no (p4 i j h0 (by omega) h2)
/-! the blocks -/
def Sb (key : α → Int) (bs n : Nat) (d : Array α) : Prop := ∀ p, SK key (p * bs) (min (p * bs + bs) n) d
/-- sorted up to the block q; of the rest nothing is said -/
structure Up (key : α → Int) (n q : Nat) (d0 d : Array α) : Prop where mk ::
  (size : d.size = d0.size) (same : Same key d0.toList d.toList) (done : ∀ p, p < q → SK key (p * 20) (p * 20 + 20) d)
theorem Up.start (n : Nat) (d : Array α) : Up key n 0 d d := ⟨rfl, Same.refl _, fun p h => by omega⟩
theorem Up.step {n q : Nat} {d0 d d' : Array α} (h : Up key n q d0 d) (hp : Piece key (q * 20) (q * 20 + 20) d d') : Up key n (q + 1) d0 d' :=
  ⟨hp.size.trans h.size, h.same.trans hp.same, fun p hq => by
    by_cases e : p = q
    · subst e; exact hp.sk
    · exact (h.done p (by omega)).congr fun i _ h1 => hp.other i (.inl (by omega))⟩
theorem Up.last {n q : Nat} {d0 d d' : Array α} (h : Up key n q d0 d) (hn : n < q * 20 + 20) (hp : Piece key (q * 20) n d d') : d'.size = d0.size ∧ Same key d0.toList d'.toList ∧ Sb key 20 n d' :=
  ⟨hp.size.trans h.size, h.same.trans hp.same, fun p => by
    by_cases e : p < q
    · exact ((h.done p e).congr fun i _ h1 => hp.other i (.inl (by omega))).sub (Nat.le_refl _) (Nat.min_le_left _ _)
    · by_cases e2 : p = q
      · subst e2; exact hp.sk.sub (Nat.le_refl _) (Nat.min_le_right _ _)
      · exact SK.none (by have := Nat.min_le_right (p * 20 + 20) n; omega)⟩
structure In (key : α → Int) (bs n q : Nat) (d0 d : Array α) : Prop where mk ::
  (size : d.size = d0.size) (same : Same key d0.toList d.toList) (done : ∀ p, p < q → SK key (p * (2 * bs)) (p * (2 * bs) + 2 * bs) d) (todo : ∀ p, 2 * q ≤ p → SK key (p * bs) (min (p * bs + bs) n) d)
theorem In.start {bs n : Nat} {d0 d : Array α} (hs : d.size = d0.size) (hS : Same key d0.toList d.toList) (h : Sb key bs n d) : In key bs n 0 d0 d := ⟨hs, hS, fun p h => by omega, fun p _ => h p⟩
theorem two_mul' (q bs : Nat) : 2 * q * bs = q * (2 * bs) := by rw [Nat.mul_comm 2 q, Nat.mul_assoc]
theorem In.runs {bs n q : Nat} {d0 d : Array α} (h : In key bs n q d0 d) (hn : q * (2 * bs) + bs ≤ n) : SK key (q * (2 * bs)) (q * (2 * bs) + bs) d ∧ SK key (q * (2 * bs) + bs) (min (q * (2 * bs) + 2 * bs) n) d := by
  have a := h.todo (2 * q) (Nat.le_refl _)
  have b := h.todo (2 * q + 1) (by omega)
  rw [two_mul'] at a
  rw [Nat.add_mul, Nat.one_mul, two_mul'] at b
  rw [Nat.min_eq_left hn] at a
  rw [Nat.add_assoc, ← Nat.two_mul] at b
  exact ⟨a, b⟩
theorem In.step {bs n q : Nat} {d0 d d' : Array α} (h : In key bs n q d0 d) (hn : q * (2 * bs) + 2 * bs ≤ n) (hp : Piece key (q * (2 * bs)) (q * (2 * bs) + 2 * bs) d d') : In key bs n (q + 1) d0 d' :=
  ⟨hp.size.trans h.size, h.same.trans hp.same, fun p hq => by
    by_cases e : p = q
    · subst e; exact hp.sk
    · refine (h.done p (by omega)).congr fun i _ h1 => hp.other i (.inl ?_)
      have : (p + 1) * (2 * bs) ≤ q * (2 * bs) := Nat.mul_le_mul_right _ (by omega)
      rw [Nat.add_mul, Nat.one_mul] at this
      omega, fun p hq => by
    refine (h.todo p (by omega)).congr fun i h0 h1 => hp.other i (.inr ?_)
    have : (2 * (q + 1)) * bs ≤ p * bs := Nat.mul_le_mul_right _ hq
    rw [two_mul', Nat.add_mul, Nat.one_mul] at this
    omega⟩
theorem In.sb {bs n q : Nat} {d0 d : Array α} (h : In key bs n q d0 d) (hq : q * (2 * bs) ≤ n) (hn : n < q * (2 * bs) + 2 * bs) (hl : SK key (q * (2 * bs)) n d) : Sb key (2 * bs) n d := fun p => by
  by_cases e : p < q
  · exact (h.done p e).sub (Nat.le_refl _) (Nat.min_le_left _ _)
  · by_cases e2 : p = q
    · subst e2; exact hl.sub (Nat.le_refl _) (Nat.min_le_right _ _)
    · have : (q + 1) * (2 * bs) ≤ p * (2 * bs) := Nat.mul_le_mul_right _ (by omega)
      rw [Nat.add_mul, Nat.one_mul] at this
      exact SK.none (by have := Nat.min_le_right (p * (2 * bs) + 2 * bs) n; omega)
theorem In.last {bs n q : Nat} {d0 d d' : Array α} (h : In key bs n q d0 d) (hq : q * (2 * bs) ≤ n) (hn : n < q * (2 * bs) + 2 * bs) (hp : Piece key (q * (2 * bs)) n d d') : d'.size = d0.size ∧ Same key d0.toList d'.toList ∧ Sb key (2 * bs) n d' := by
  have h' : In key bs n q d0 d' := ⟨hp.size.trans h.size, h.same.trans hp.same, fun p e => by
    refine (h.done p e).congr fun i _ h1 => hp.other i (.inl ?_)
    have : (p + 1) * (2 * bs) ≤ q * (2 * bs) := Nat.mul_le_mul_right _ (by omega)
    rw [Nat.add_mul, Nat.one_mul] at this
    omega, fun p e => by
    have : (2 * q) * bs ≤ p * bs := Nat.mul_le_mul_right _ e
    rw [two_mul'] at this
    exact hp.sk.sub this (Nat.min_le_right _ _)⟩
  exact ⟨h'.size, h'.same, h'.sb hq hn hp.sk⟩
theorem In.none {bs n q : Nat} {d0 d : Array α} (h : In key bs n q d0 d) (hq : q * (2 * bs) ≤ n) (hn : n ≤ q * (2 * bs) + bs) (hb : 0 < bs) : d.size = d0.size ∧ Same key d0.toList d.toList ∧ Sb key (2 * bs) n d := by
  have a := h.todo (2 * q) (Nat.le_refl _)
  rw [two_mul', Nat.min_eq_right hn] at a
  exact ⟨h.size, h.same, h.sb hq (by omega) a⟩
theorem Sb.all {bs n : Nat} {d : Array α} (h : Sb key bs n d) (hn : n ≤ bs) : SK key 0 n d := by
  have := h 0
  rw [Nat.zero_mul, Nat.zero_add, Nat.min_eq_right hn] at this
  exact this
end Go.Proofs.Ytbheegamibdbhaa.StabPure
