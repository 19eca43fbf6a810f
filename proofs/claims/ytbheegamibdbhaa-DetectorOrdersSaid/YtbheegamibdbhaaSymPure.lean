/- The merging of sort.SliceStable: plain arrays and lists. -/
import Derived.Sort.Defs
set_option linter.unusedVariables false
set_option linter.unusedSimpArgs false
namespace Go.Proofs.Ytbheegamibdbhaa.SymPure
open Go.Sort
variable {α : Type}
theorem size_of (d : Array α) (l : List α) (h : d.toList = l) : d.size = l.length := by rw [← h]; simp
theorem td_app (j : Nat) (A W : List α) : A ++ W = A.take j ++ (A.drop j ++ W) := by rw [← List.append_assoc, List.take_append_drop]
variable [Inhabited α]
/-! lists at a place -/
theorem get_at (X Y : List α) (x : α) (d : Array α) (h : d.toList = X ++ x :: Y) (i : Nat) (hi : X.length = i) : d[i]! = x := by
  subst hi
  have : d.toList[X.length]? = some x := by rw [h]; simp
  rw [Array.getElem?_toList] at this
  simp [getElem!_def, this]
theorem swp_list (d : Array α) (X Y Z : List α) (x y : α) (h : d.toList = X ++ x :: (Y ++ y :: Z)) (i j : Nat) (hi : X.length = i) (hj : X.length + 1 + Y.length = j) : (swp d i j).toList = X ++ y :: (Y ++ x :: Z) := by
  have e1 := get_at X (Y ++ y :: Z) x d h i hi
  have e2 := get_at (X ++ x :: Y) Z y d (by rw [h]; simp) j (by simp; omega)
  unfold swp
  rw [e1, e2, Array.toList_setIfInBounds, Array.toList_setIfInBounds, h]
  subst hi
  rw [List.set_append_right _ _ (Nat.le_refl _), Nat.sub_self, List.set_cons_zero]
  rw [show X ++ y :: (Y ++ y :: Z) = (X ++ y :: Y) ++ y :: Z by simp]
  rw [List.set_append_right _ _ (by simp; omega), show j - (X ++ y :: Y).length = 0 by simp; omega, List.set_cons_zero]
  simp
theorem swp_comm (d : Array α) (i j : Nat) (hi : i < d.size) (hj : j < d.size) : swp d i j = swp d j i := by
  unfold swp
  by_cases e : i = j
  · subst e; rfl
  · rw [Array.setIfInBounds_comm _ _ e]
/-! swapRange -/
def swR (d : Array α) (a b : Nat) : Nat → Array α
  | 0 => d
  | k + 1 => swp (swR d a b k) (a + k) (b + k)
theorem swR_size (d : Array α) (a b : Nat) : ∀ k, (swR d a b k).size = d.size
  | 0 => rfl
  | k + 1 => by unfold swR swp; simp [swR_size d a b k]
theorem swR_list (d : Array α) (X U Y V Z : List α) (h : d.toList = X ++ (U ++ (Y ++ (V ++ Z)))) (a b n : Nat) (ha : X.length = a) (hu : U.length = n) (hv : V.length = n) (hb : a + n + Y.length = b) :
    ∀ k, k ≤ n → (swR d a b k).toList = X ++ ((V.take k ++ U.drop k) ++ (Y ++ ((U.take k ++ V.drop k) ++ Z)))
  | 0, _ => by simp [swR, h]
  | k + 1, hk => by
    have ih := swR_list d X U Y V Z h a b n ha hu hv hb k (by omega)
    obtain ⟨u, hu1⟩ : ∃ u, U.drop k = u :: U.drop (k + 1) := ⟨_, List.drop_eq_getElem_cons (by omega)⟩
    obtain ⟨v, hv1⟩ : ∃ v, V.drop k = v :: V.drop (k + 1) := ⟨_, List.drop_eq_getElem_cons (by omega)⟩
    have tu : U.take (k + 1) = U.take k ++ [u] := by
      rw [List.take_add_one]
      have : U[k]? = some u := by
        have := congrArg List.head? hu1
        rw [List.head?_drop] at this
        simpa using this
      rw [this]; rfl
    have tv : V.take (k + 1) = V.take k ++ [v] := by
      rw [List.take_add_one]
      have : V[k]? = some v := by
        have := congrArg List.head? hv1
        rw [List.head?_drop] at this
        simpa using this
      rw [this]; rfl
    unfold swR
    rw [swp_list (swR d a b k) (X ++ V.take k) (U.drop (k + 1) ++ (Y ++ U.take k)) (V.drop (k + 1) ++ Z) u v (by rw [ih, hu1, hv1]; simp) (a + k) (b + k) (by simp; omega) (by simp; omega), tu, tv]
    simp
theorem swR_done (d : Array α) (X U Y V Z : List α) (h : d.toList = X ++ (U ++ (Y ++ (V ++ Z)))) (a b n : Nat) (ha : X.length = a) (hu : U.length = n) (hv : V.length = n) (hb : a + n + Y.length = b) :
    (swR d a b n).toList = X ++ (V ++ (Y ++ (U ++ Z))) := by
  have := swR_list d X U Y V Z h a b n ha hu hv hb n (Nat.le_refl _)
  rw [this, List.take_of_length_le (by omega), List.drop_of_length_le (by omega), List.take_of_length_le (by omega), List.drop_of_length_le (by omega)]
  simp
/-! rotate -/
def rotL (m : Nat) : Nat → Nat → Nat → Array α → Array α
  | 0, _, _, d => d
  | f + 1, i, j, d => if i = j then swR d (m - i) m i else if j < i then rotL m f (i - j) j (swR d (m - i) m j) else rotL m f i (j - i) (swR d (m - i) (m + j - i) i)
theorem rotL_list (m : Nat) : ∀ (f i j : Nat) (d : Array α) (X A B Z : List α), i + j ≤ f → 0 < i → 0 < j → d.toList = X ++ (A ++ (B ++ Z)) → A.length = i → B.length = j → X.length + i = m → (rotL m f i j d).toList = X ++ (B ++ (A ++ Z))
  | 0, i, j, d, X, A, B, Z, hf, hi, hj, _, _, _, _ => by omega
  | f + 1, i, j, d, X, A, B, Z, hf, hi, hj, h, hA, hB, hm => by
    unfold rotL
    by_cases e : i = j
    · rw [if_pos e]
      exact swR_done d X A [] B Z (by simpa using h) (m - i) m i (by omega) hA (by omega) (by simp; omega)
    · rw [if_neg e]
      by_cases g : j < i
      · rw [if_pos g]
        have hs := swR_done d X (A.take j) (A.drop j) B Z (by rw [h, td_app j A]) (m - i) m j (by omega) (by simp; omega) hB (by simp; omega)
        rw [rotL_list m f (i - j) j _ (X ++ B) (A.drop j) (A.take j) Z (by omega) (by omega) hj (by rw [hs]; simp) (by simp; omega) (by simp; omega) (by simp; omega), td_app j A Z]
        simp
      · rw [if_neg g]
        have hs := swR_done d X A (B.take (j - i)) (B.drop (j - i)) Z (by rw [h, td_app (j - i) B]) (m - i) (m + j - i) i (by omega) hA (by simp; omega) (by simp; omega)
        rw [rotL_list m f i (j - i) _ X (B.drop (j - i)) (B.take (j - i)) (A ++ Z) (by omega) hi (by omega) (by rw [hs]) (by simp; omega) (by simp; omega) hm, td_app (j - i) B (A ++ Z)]
def rot (d : Array α) (a m b : Nat) : Array α := rotL m (b - a) (m - a) (b - m) d
theorem rot_list (d : Array α) (X A B Z : List α) (h : d.toList = X ++ (A ++ (B ++ Z))) (a m b : Nat) (ha : X.length = a) (hA : a + A.length = m) (hB : m + B.length = b) (h0 : a < m) (h1 : m < b) : (rot d a m b).toList = X ++ (B ++ (A ++ Z)) :=
  rotL_list m (b - a) (m - a) (b - m) d X A B Z (by omega) (by omega) (by omega) h (by omega) (by omega) (by omega)
theorem rotL_size (m : Nat) : ∀ (f i j : Nat) (d : Array α), (rotL m f i j d).size = d.size
  | 0, _, _, _ => rfl
  | f + 1, i, j, d => by
    unfold rotL
    split
    · exact swR_size _ _ _ _
    · split
      · rw [rotL_size m f]; exact swR_size _ _ _ _
      · rw [rotL_size m f]; exact swR_size _ _ _ _
/-! the search -/
def bs (p : Nat → Bool) : Nat → Nat → Nat → Nat
  | 0, i, _ => i
  | f + 1, i, j => if i < j then if p ((i + j) / 2) = true then bs p f ((i + j) / 2 + 1) j else bs p f i ((i + j) / 2) else i
theorem bs_spec (p : Nat → Bool) (lo hi : Nat) (hp : ∀ k k', lo ≤ k → k ≤ k' → k' < hi → p k' = true → p k = true) : ∀ f i j, j - i ≤ f → lo ≤ i → i ≤ j → j ≤ hi → (∀ k, lo ≤ k → k < i → p k = true) → (∀ k, j ≤ k → k < hi → p k = false) →
    i ≤ bs p f i j ∧ bs p f i j ≤ j ∧ (∀ k, lo ≤ k → k < bs p f i j → p k = true) ∧ (∀ k, bs p f i j ≤ k → k < hi → p k = false)
  | 0, i, j, hf, h0, h1, h2, ht, hn => by
    have : i = j := by omega
    subst this
    exact ⟨Nat.le_refl _, Nat.le_refl _, ht, hn⟩
  | f + 1, i, j, hf, h0, h1, h2, ht, hn => by
    unfold bs
    by_cases e : i < j
    · rw [if_pos e]
      by_cases g : p ((i + j) / 2) = true
      · rw [if_pos g]
        obtain ⟨a, b, c, d⟩ := bs_spec p lo hi hp f ((i + j) / 2 + 1) j (by omega) (by omega) (by omega) h2 (fun k k0 k1 => hp k ((i + j) / 2) k0 (by omega) (by omega) g) hn
        exact ⟨by omega, b, c, d⟩
      · rw [if_neg g]
        obtain ⟨a, b, c, d⟩ := bs_spec p lo hi hp f i ((i + j) / 2) (by omega) h0 (by omega) (by omega) ht (fun k k0 k1 => by
          cases e2 : p k
          · rfl
          · exact absurd (hp ((i + j) / 2) k (by omega) k0 k1 e2) g)
        exact ⟨a, by omega, c, d⟩
    · rw [if_neg e]
      have : i = j := by omega
      subst this
      exact ⟨Nat.le_refl _, Nat.le_refl _, ht, hn⟩
theorem bs_le (p : Nat → Bool) : ∀ f i j, i ≤ j → i ≤ bs p f i j ∧ bs p f i j ≤ j
  | 0, i, j, h => ⟨Nat.le_refl _, h⟩
  | f + 1, i, j, h => by
    unfold bs
    split
    · split
      · have := bs_le p f ((i + j) / 2 + 1) j (by omega); omega
      · have := bs_le p f i ((i + j) / 2) (by omega); omega
    · omega
/-! one element moved -/
/-- right, from a to e -/
def movR (d : Array α) (a : Nat) : Nat → Array α
  | 0 => d
  | k + 1 => swp (movR d a k) (a + k) (a + k + 1)
theorem movR_size (d : Array α) (a : Nat) : ∀ k, (movR d a k).size = d.size
  | 0 => rfl
  | k + 1 => by unfold movR swp; simp [movR_size d a k]
theorem movR_list (d : Array α) (X B Z : List α) (x : α) (h : d.toList = X ++ x :: (B ++ Z)) (a : Nat) (ha : X.length = a) : ∀ k, k ≤ B.length → (movR d a k).toList = X ++ (B.take k ++ x :: (B.drop k ++ Z))
  | 0, _ => by simp [movR, h]
  | k + 1, hk => by
    have ih := movR_list d X B Z x h a ha k (by omega)
    obtain ⟨u, hu1⟩ : ∃ u, B.drop k = u :: B.drop (k + 1) := ⟨_, List.drop_eq_getElem_cons (by omega)⟩
    have tu : B.take (k + 1) = B.take k ++ [u] := by
      rw [List.take_add_one]
      have : B[k]? = some u := by
        have := congrArg List.head? hu1
        rw [List.head?_drop] at this
        simpa using this
      rw [this]; rfl
    unfold movR
    rw [swp_list (movR d a k) (X ++ B.take k) [] (B.drop (k + 1) ++ Z) x u (by rw [ih, hu1]; simp) (a + k) (a + k + 1) (by simp; omega) (by simp; omega), tu]
    simp
/-- left, from m, k steps -/
def movL (d : Array α) (m : Nat) : Nat → Array α
  | 0 => d
  | k + 1 => swp (movL d m k) (m - k) (m - k - 1)
theorem movL_size (d : Array α) (m : Nat) : ∀ k, (movL d m k).size = d.size
  | 0 => rfl
  | k + 1 => by unfold movL swp; simp [movL_size d m k]
theorem movL_list (d : Array α) (X A Z : List α) (y : α) (h : d.toList = X ++ (A ++ y :: Z)) (m : Nat) (hm : X.length + A.length = m) : ∀ k, k ≤ A.length → (movL d m k).toList = X ++ (A.take (A.length - k) ++ y :: (A.drop (A.length - k) ++ Z))
  | 0, _ => by simp [movL, h]
  | k + 1, hk => by
    have ih := movL_list d X A Z y h m hm k (by omega)
    have hq : A.length - k = (A.length - (k + 1)) + 1 := by omega
    have hlt : A.length - (k + 1) < A.length := by omega
    generalize hqe : A.length - (k + 1) = q at hq hlt ⊢
    rw [hq] at ih
    obtain ⟨u, hu⟩ : ∃ u, A[q]? = some u := ⟨_, List.getElem?_eq_getElem hlt⟩
    have tu : A.take (q + 1) = A.take q ++ [u] := by rw [List.take_add_one, hu]; rfl
    have du : A.drop q = u :: A.drop (q + 1) := by
      rw [List.drop_eq_getElem_cons hlt]
      rw [List.getElem?_eq_getElem hlt] at hu
      injection hu with hu
      rw [hu]
    have hsz := size_of _ _ ih
    unfold movL
    have := swp_list (movL d m k) (X ++ A.take q) [] (A.drop (q + 1) ++ Z) u y (by rw [ih, tu]; simp) (m - k - 1) (m - k) (by simp; omega) (by simp; omega)
    rw [swp_comm _ _ _ (by rw [hsz]; simp; omega) (by rw [hsz]; simp; omega), this, du]
    simp
end Go.Proofs.Ytbheegamibdbhaa.SymPure
