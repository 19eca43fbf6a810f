/- symMerge: two sorted runs are merged, equals keep their order. Plain. -/
import Derived.Test.YtbheegamibdbhaaSymPure
set_option linter.unusedVariables false
set_option linter.unusedSimpArgs false
namespace Go.Proofs.Ytbheegamibdbhaa.SymMerge
open Go.Sort Go.Proofs.Ytbheegamibdbhaa.SymPure
variable {α : Type}
section
variable (key : α → Int)
def Srt (l : List α) : Prop := l.Pairwise fun x y => key x ≤ key y
def Same (l l' : List α) : Prop := ∀ k : Int, l.filter (fun x => decide (key x = k)) = l'.filter fun x => decide (key x = k)
def ltk (x y : α) : Bool := decide (key x < key y)
end
variable {key : α → Int}
theorem Same.refl (l : List α) : Same key l l := fun _ => rfl
theorem Same.trans {l m n : List α} (h : Same key l m) (g : Same key m n) : Same key l n := fun k => (h k).trans (g k)
theorem Same.mem {l m : List α} (h : Same key l m) {x : α} : x ∈ l ↔ x ∈ m := by
  have e := h (key x)
  constructor
  · intro hx
    have : x ∈ l.filter (fun y => decide (key y = key x)) := List.mem_filter.2 ⟨hx, by simp⟩
    rw [e] at this
    exact (List.mem_filter.1 this).1
  · intro hx
    have : x ∈ m.filter (fun y => decide (key y = key x)) := List.mem_filter.2 ⟨hx, by simp⟩
    rw [← e] at this
    exact (List.mem_filter.1 this).1
theorem Same.app {l l' m m' : List α} (h : Same key l l') (g : Same key m m') : Same key (l ++ m) (l' ++ m') := fun k => by
  rw [List.filter_append, List.filter_append, h k, g k]
theorem Same.swap {l m : List α} (h : ∀ x ∈ l, ∀ y ∈ m, key y < key x) : Same key (l ++ m) (m ++ l) := fun k => by
  rw [List.filter_append, List.filter_append]
  by_cases e : ∃ x ∈ l, key x = k
  · obtain ⟨x, hx, rfl⟩ := e
    have : m.filter (fun y => decide (key y = key x)) = [] := List.filter_eq_nil_iff.2 fun y hy => by have := h x hx y hy; simp; omega
    rw [this]; simp
  · have : l.filter (fun y => decide (key y = k)) = [] := List.filter_eq_nil_iff.2 fun y hy => by
      simp only [decide_eq_true_eq]; exact fun h => e ⟨y, hy, h⟩
    rw [this]; simp
theorem Srt.app {l m : List α} (h : Srt key l) (g : Srt key m) (c : ∀ x ∈ l, ∀ y ∈ m, key x ≤ key y) : Srt key (l ++ m) := List.pairwise_append.2 ⟨h, g, c⟩
theorem not_t {b : Bool} (h : (!b) = true) : b = false := by cases b <;> simp_all
theorem not_f {b : Bool} (h : (!b) = false) : b = true := by cases b <;> simp_all
theorem ltk_no {x y : α} (h : ltk key x y = false) : key y ≤ key x := by unfold ltk at h; simp at h; exact h
theorem ltk_yes {x y : α} (h : ltk key x y = true) : key x < key y := by unfold ltk at h; simpa using h
variable [Inhabited α]
theorem at_mid (d : Array α) (X A Z : List α) (h : d.toList = X ++ (A ++ Z)) (k : Nat) (hk : k < A.length) : d[X.length + k]! = A[k] := by
  refine get_at (X ++ A.take k) (A.drop (k + 1) ++ Z) A[k] d ?_ _ (by simp; omega)
  rw [h, td_app k A, List.drop_eq_getElem_cons hk, List.append_assoc]
  rfl
theorem srt_at (d : Array α) (X A Z : List α) (h : d.toList = X ++ (A ++ Z)) (hs : Srt key A) (i j : Nat) (h0 : X.length ≤ i) (h1 : i ≤ j) (h2 : j < X.length + A.length) : key d[i]! ≤ key d[j]! := by
  have e1 := at_mid d X A Z h (i - X.length) (by omega)
  have e2 := at_mid d X A Z h (j - X.length) (by omega)
  rw [show X.length + (i - X.length) = i by omega] at e1
  rw [show X.length + (j - X.length) = j by omega] at e2
  rw [e1, e2]
  by_cases e : i = j
  · subst e; exact Int.le_refl _
  · exact List.pairwise_iff_getElem.1 hs _ _ (by omega) (by omega) (by omega)
theorem mem_take_at (d : Array α) (X A Z : List α) (h : d.toList = X ++ (A ++ Z)) (n : Nat) (x : α) (hx : x ∈ A.take n) : ∃ k, k < n ∧ k < A.length ∧ d[X.length + k]! = x := by
  obtain ⟨k, hk, e⟩ := List.getElem_of_mem hx
  have hl : k < n ∧ k < A.length := by simpa [List.length_take, Nat.lt_min] using hk
  refine ⟨k, hl.1, hl.2, ?_⟩
  rw [at_mid d X A Z h k hl.2, ← e, List.getElem_take]
theorem mem_drop_at (d : Array α) (X A Z : List α) (h : d.toList = X ++ (A ++ Z)) (n : Nat) (x : α) (hx : x ∈ A.drop n) : ∃ k, n ≤ k ∧ k < A.length ∧ d[X.length + k]! = x := by
  obtain ⟨k, hk, e⟩ := List.getElem_of_mem hx
  have hl : n + k < A.length := by rw [List.length_drop] at hk; omega
  refine ⟨n + k, by omega, hl, ?_⟩
  rw [at_mid d X A Z h (n + k) hl, ← e, List.getElem_drop]
def symM (lt : α → α → Bool) : Nat → Array α → Nat → Nat → Nat → Array α
  | 0, d, _, _, _ => d
  | f + 1, d, a, m, b =>
    if m - a = 1 then movR d a (bs (fun h => lt d[h]! d[a]!) (b - m) m b - 1 - a)
    else if b - m = 1 then movL d m (m - bs (fun h => !lt d[m]! d[h]!) (m - a) a m)
    else
      let mid := (a + b) / 2
      let n := mid + m
      let s := if mid < m then bs (fun c => !lt d[n - 1 - c]! d[c]!) (mid - (n - b)) (n - b) mid else bs (fun c => !lt d[n - 1 - c]! d[c]!) (m - a) a m
      let d1 := if s < m ∧ m < n - s then rot d s m (n - s) else d
      let d2 := if a < s ∧ s < mid then symM lt f d1 a s mid else d1
      if mid < n - s ∧ n - s < b then symM lt f d2 mid (n - s) b else d2
theorem symM_size (lt : α → α → Bool) : ∀ (f : Nat) (d : Array α) (a m b : Nat), (symM lt f d a m b).size = d.size
  | 0, _, _, _, _ => rfl
  | f + 1, d, a, m, b => by
    unfold symM
    split
    · exact movR_size _ _ _
    · split
      · exact movL_size _ _ _
      · simp only [apply_ite Array.size, symM_size lt f, rot, rotL_size, ite_self]
/-- what a merge leaves of two runs -/
structure Mg (key : α → Int) (A B C : List α) : Prop where mk ::
  (srt : Srt key C) (same : Same key (A ++ B) C) (len : C.length = A.length + B.length)
theorem one_left (d : Array α) (X B Z : List α) (x : α) (a b : Nat) (h : d.toList = X ++ ([x] ++ (B ++ Z))) (ha : X.length = a) (hb : a + 1 + B.length = b) (hB : Srt key B) :
    ∃ C, (movR d a (bs (fun h => ltk key d[h]! d[a]!) (b - (a + 1)) (a + 1) b - 1 - a)).toList = X ++ (C ++ Z) ∧ Mg key [x] B C := by
  subst ha
  have hx : d[X.length]! = x := get_at X (B ++ Z) x d (by rw [h]; rfl) _ rfl
  have hY : d.toList = (X ++ [x]) ++ (B ++ Z) := by rw [h]; simp
  have hYl : (X ++ [x]).length = X.length + 1 := by simp
  rw [hx]
  obtain ⟨h1, h2, h3, h4⟩ := bs_spec (fun h => ltk key d[h]! x) (X.length + 1) b (fun k k' k0 k1 k2 e => by
    have := ltk_yes e
    have := srt_at d (X ++ [x]) B Z hY hB k k' (by omega) k1 (by omega)
    unfold ltk; rw [decide_eq_true_eq]; omega) (b - (X.length + 1)) (X.length + 1) b (by omega) (by omega) (by omega) (by omega) (fun k _ _ => by omega) (fun k _ _ => by omega)
  generalize bs (fun h => ltk key d[h]! x) (b - (X.length + 1)) (X.length + 1) b = i at h1 h2 h3 h4 ⊢
  have hm := movR_list d X B Z x (by rw [h]; rfl) X.length rfl (i - 1 - X.length) (by omega)
  obtain ⟨q, hq⟩ : ∃ q, q = i - 1 - X.length := ⟨_, rfl⟩
  rw [← hq] at hm ⊢
  refine ⟨B.take q ++ x :: B.drop q, by rw [hm]; simp, ?_, ?_, ?_⟩
  · have e1 : ∀ y ∈ B.take q, key y < key x := fun y hy => by
      obtain ⟨k, k1, k2, rfl⟩ := mem_take_at d (X ++ [x]) B Z hY q y hy
      exact ltk_yes (h3 ((X ++ [x]).length + k) (by omega) (by omega))
    have e2 : ∀ y ∈ B.drop q, key x ≤ key y := fun y hy => by
      obtain ⟨k, k1, k2, rfl⟩ := mem_drop_at d (X ++ [x]) B Z hY q y hy
      exact ltk_no (h4 ((X ++ [x]).length + k) (by omega) (by omega))
    have e3 := hB
    unfold Srt at e3 ⊢
    rw [← List.take_append_drop q B] at e3
    obtain ⟨p1, p2, p3⟩ := List.pairwise_append.1 e3
    refine List.pairwise_append.2 ⟨p1, List.pairwise_cons.2 ⟨e2, p2⟩, fun y hy z hz => ?_⟩
    rcases List.mem_cons.1 hz with rfl | hz
    · exact Int.le_of_lt (e1 y hy)
    · exact p3 y hy z hz
  · have e1 : ∀ y ∈ B.take q, key y < key x := fun y hy => by
      obtain ⟨k, k1, k2, rfl⟩ := mem_take_at d (X ++ [x]) B Z hY q y hy
      exact ltk_yes (h3 ((X ++ [x]).length + k) (by omega) (by omega))
    have := (Same.swap (key := key) (l := [x]) (m := B.take q) (fun u hu y hy => by simp at hu; subst hu; exact e1 y hy)).app (Same.refl (key := key) (B.drop q))
    rw [List.append_assoc, List.take_append_drop, List.append_assoc] at this
    exact this
  · rw [List.length_append, List.length_cons, List.length_take, List.length_drop]; simp; omega
theorem one_right (d : Array α) (X A Z : List α) (y : α) (a m : Nat) (h : d.toList = X ++ (A ++ ([y] ++ Z))) (ha : X.length = a) (hm : a + A.length = m) (hA : Srt key A) :
    ∃ C, (movL d m (m - bs (fun h => !ltk key d[m]! d[h]!) (m - a) a m)).toList = X ++ (C ++ Z) ∧ Mg key A [y] C := by
  subst ha
  have hy : d[m]! = y := get_at (X ++ A) Z y d (by rw [h]; simp) _ (by simp; omega)
  rw [hy]
  obtain ⟨h1, h2, h3, h4⟩ := bs_spec (fun h => !ltk key y d[h]!) X.length m (fun k k' k0 k1 k2 e => by
    have e := ltk_no (not_t e)
    have := srt_at d X A ([y] ++ Z) h hA k k' (by omega) k1 (by omega)
    unfold ltk; simp; omega) (m - X.length) X.length m (by omega) (by omega) (by omega) (by omega) (fun k _ _ => by omega) (fun k _ _ => by omega)
  generalize bs (fun h => !ltk key y d[h]!) (m - X.length) X.length m = i at h1 h2 h3 h4 ⊢
  have hmv := movL_list d X A Z y (by rw [h]; rfl) m (by omega) (m - i) (by omega)
  obtain ⟨q, hq⟩ : ∃ q, q = A.length - (m - i) := ⟨_, rfl⟩
  rw [← hq] at hmv
  have e1 : ∀ z ∈ A.take q, key z ≤ key y := fun z hz => by
    obtain ⟨k, k1, k2, rfl⟩ := mem_take_at d X A ([y] ++ Z) h q z hz
    exact ltk_no (not_t (h3 (X.length + k) (by omega) (by omega)))
  have e2 : ∀ z ∈ A.drop q, key y < key z := fun z hz => by
    obtain ⟨k, k1, k2, rfl⟩ := mem_drop_at d X A ([y] ++ Z) h q z hz
    exact ltk_yes (not_f (h4 (X.length + k) (by omega) (by omega)))
  refine ⟨A.take q ++ y :: A.drop q, by rw [hmv]; simp, ?_, ?_, ?_⟩
  · have e3 := hA
    unfold Srt at e3 ⊢
    rw [← List.take_append_drop q A] at e3
    obtain ⟨p1, p2, p3⟩ := List.pairwise_append.1 e3
    refine List.pairwise_append.2 ⟨p1, List.pairwise_cons.2 ⟨fun z hz => Int.le_of_lt (e2 z hz), p2⟩, fun u hu z hz => ?_⟩
    rcases List.mem_cons.1 hz with rfl | hz
    · exact e1 u hu
    · exact p3 u hu z hz
  · have := (Same.refl (key := key) (A.take q)).app (Same.swap (key := key) (l := A.drop q) (m := [y]) (fun u hu z hz => by simp at hz; subst hz; exact e2 u hu))
    rw [← List.append_assoc, List.take_append_drop] at this
    exact this
  · rw [List.length_append, List.length_cons, List.length_take, List.length_drop]; simp; omega
theorem symM_list : ∀ (f : Nat) (d : Array α) (X A B Z : List α) (a m b : Nat), b - a ≤ f → d.toList = X ++ (A ++ (B ++ Z)) → X.length = a → a + A.length = m → m + B.length = b → a < m → m < b → Srt key A → Srt key B →
    ∃ C, (symM (ltk key) f d a m b).toList = X ++ (C ++ Z) ∧ Mg key A B C
  | 0, d, X, A, B, Z, a, m, b, hf, h, ha, hA, hB, h0, h1, sA, sB => by omega
  | f + 1, d, X, A, B, Z, a, m, b, hf, h, ha, hA, hB, h0, h1, sA, sB => by
    unfold symM
    by_cases e1 : m - a = 1
    · rw [if_pos e1]
      obtain ⟨x, rfl⟩ := List.length_eq_one_iff.1 (show A.length = 1 by omega)
      obtain rfl : m = a + 1 := by omega
      exact one_left d X B Z x a b h ha (by omega) sB
    · rw [if_neg e1]
      by_cases e2 : b - m = 1
      · rw [if_pos e2]
        obtain ⟨y, rfl⟩ := List.length_eq_one_iff.1 (show B.length = 1 by omega)
        exact one_right d X A Z y a m h ha hA sA
      · rw [if_neg e2]
        simp only
        obtain ⟨mid, hmid⟩ : ∃ mid, mid = (a + b) / 2 := ⟨_, rfl⟩
        rw [← hmid]
        have hmid1 : a < mid ∧ mid < b ∧ 2 * mid ≤ a + b ∧ a + b ≤ 2 * mid + 1 := by omega
        clear hmid
        have hdB : d.toList = (X ++ A) ++ (B ++ Z) := by rw [h]; simp
        have hXA : (X ++ A).length = m := by simp; omega
        have mono : ∀ lo hi, a ≤ lo → hi ≤ m → (∀ c, lo ≤ c → c < hi → m ≤ mid + m - 1 - c ∧ mid + m - 1 - c < b) → ∀ k k', lo ≤ k → k ≤ k' → k' < hi → (!ltk key d[mid + m - 1 - k']! d[k']!) = true → (!ltk key d[mid + m - 1 - k]! d[k]!) = true := fun lo hi l0 l1 l2 k k' k0 k1 k2 e => by
          have e := ltk_no (not_t e)
          have g1 := srt_at d X A (B ++ Z) h sA k k' (by omega) k1 (by omega)
          have c1 := l2 k k0 (by omega)
          have c2 := l2 k' (by omega) k2
          have g2 := srt_at d (X ++ A) B Z hdB sB (mid + m - 1 - k') (mid + m - 1 - k) (by omega) (by omega) (by omega)
          unfold ltk
          simp only [Bool.not_eq_true', decide_eq_false_iff_not]
          omega
        -- the place of the cut
        obtain ⟨s, hs⟩ : ∃ s, s = if mid < m then bs (fun c => !ltk key d[mid + m - 1 - c]! d[c]!) (mid - (mid + m - b)) (mid + m - b) mid else bs (fun c => !ltk key d[mid + m - 1 - c]! d[c]!) (m - a) a m := ⟨_, rfl⟩
        rw [← hs]
        have hcut : a ≤ s ∧ s ≤ m ∧ s ≤ mid ∧ mid + m - s ≤ b ∧ (∀ x ∈ A.drop (s - a), ∀ y ∈ B.take (mid - s), key y < key x) ∧ (∀ x ∈ A.take (s - a), ∀ y ∈ B.drop (mid - s), key x ≤ key y) := by
          have hA1 : ∀ x ∈ A.drop (s - a), ∃ k, s - a ≤ k ∧ a + k < m ∧ d[a + k]! = x := fun x hx => by
            obtain ⟨k, k1, k2, k3⟩ := mem_drop_at d X A (B ++ Z) h _ x hx
            exact ⟨k, k1, by omega, by rw [← ha]; exact k3⟩
          have hA2 : ∀ x ∈ A.take (s - a), ∃ k, k < s - a ∧ a + k < m ∧ d[a + k]! = x := fun x hx => by
            obtain ⟨k, k1, k2, k3⟩ := mem_take_at d X A (B ++ Z) h _ x hx
            exact ⟨k, k1, by omega, by rw [← ha]; exact k3⟩
          have hB1 : ∀ y ∈ B.take (mid - s), ∃ k, k < mid - s ∧ m + k < b ∧ d[m + k]! = y := fun y hy => by
            obtain ⟨k, k1, k2, k3⟩ := mem_take_at d (X ++ A) B Z hdB _ y hy
            exact ⟨k, k1, by omega, by rw [← hXA]; exact k3⟩
          have hB2 : ∀ y ∈ B.drop (mid - s), ∃ k, mid - s ≤ k ∧ m + k < b ∧ d[m + k]! = y := fun y hy => by
            obtain ⟨k, k1, k2, k3⟩ := mem_drop_at d (X ++ A) B Z hdB _ y hy
            exact ⟨k, k1, by omega, by rw [← hXA]; exact k3⟩
          have gA := fun i j h0 h1 h2 => srt_at d X A (B ++ Z) h sA i j h0 h1 h2
          have gB := fun i j h0 h1 h2 => srt_at d (X ++ A) B Z hdB sB i j h0 h1 h2
          rw [hXA] at gB
          rw [ha] at gA
          by_cases hmm : mid < m
          · rw [if_pos hmm] at hs
            obtain ⟨p1, p2, p3, p4⟩ := bs_spec (fun c => !ltk key d[mid + m - 1 - c]! d[c]!) (mid + m - b) mid (mono _ _ (by omega) (by omega) (fun c c0 c1 => by omega)) (mid - (mid + m - b)) (mid + m - b) mid (by omega) (by omega) (by omega) (by omega) (fun k _ _ => by omega) (fun k _ _ => by omega)
            rw [← hs] at p1 p2 p3 p4
            refine ⟨by omega, by omega, p2, by omega, fun x hx y hy => ?_, fun x hx y hy => ?_⟩
            · obtain ⟨k, k1, k2, rfl⟩ := hA1 x hx
              obtain ⟨l, l1, l2, rfl⟩ := hB1 y hy
              have q := ltk_yes (not_f (p4 s (by omega) (by omega)))
              have q1 := gA s (a + k) (by omega) (by omega) (by omega)
              have q2 := gB (m + l) (mid + m - 1 - s) (by omega) (by omega) (by omega)
              omega
            · obtain ⟨k, k1, k2, rfl⟩ := hA2 x hx
              obtain ⟨l, l1, l2, rfl⟩ := hB2 y hy
              have q := ltk_no (not_t (p3 (s - 1) (by omega) (by omega)))
              have q1 := gA (a + k) (s - 1) (by omega) (by omega) (by omega)
              have q2 := gB (mid + m - 1 - (s - 1)) (m + l) (by omega) (by omega) (by omega)
              omega
          · rw [if_neg hmm] at hs
            obtain ⟨p1, p2, p3, p4⟩ := bs_spec (fun c => !ltk key d[mid + m - 1 - c]! d[c]!) a m (mono _ _ (by omega) (by omega) (fun c c0 c1 => by omega)) (m - a) a m (by omega) (by omega) (by omega) (by omega) (fun k _ _ => by omega) (fun k _ _ => by omega)
            rw [← hs] at p1 p2 p3 p4
            refine ⟨p1, p2, by omega, by omega, fun x hx y hy => ?_, fun x hx y hy => ?_⟩
            · obtain ⟨k, k1, k2, rfl⟩ := hA1 x hx
              obtain ⟨l, l1, l2, rfl⟩ := hB1 y hy
              have q := ltk_yes (not_f (p4 s (by omega) (by omega)))
              have q1 := gA s (a + k) (by omega) (by omega) (by omega)
              have q2 := gB (m + l) (mid + m - 1 - s) (by omega) (by omega) (by omega)
              omega
            · obtain ⟨k, k1, k2, rfl⟩ := hA2 x hx
              obtain ⟨l, l1, l2, rfl⟩ := hB2 y hy
              have q := ltk_no (not_t (p3 (s - 1) (by omega) (by omega)))
              have q1 := gA (a + k) (s - 1) (by omega) (by omega) (by omega)
              have q2 := gB (mid + m - 1 - (s - 1)) (m + l) (by omega) (by omega) (by omega)
              omega
        clear hs mono
        obtain ⟨c1, c2, c3, c4, c5, c6⟩ := hcut
        obtain ⟨A1, hA1⟩ : ∃ A1, A1 = A.take (s - a) := ⟨_, rfl⟩
        obtain ⟨A2, hA2⟩ : ∃ A2, A2 = A.drop (s - a) := ⟨_, rfl⟩
        obtain ⟨B1, hB1⟩ : ∃ B1, B1 = B.take (mid - s) := ⟨_, rfl⟩
        obtain ⟨B2, hB2⟩ : ∃ B2, B2 = B.drop (mid - s) := ⟨_, rfl⟩
        have lA1 : A1.length = s - a := by rw [hA1, List.length_take]; omega
        have lA2 : A2.length = m - s := by rw [hA2, List.length_drop]; omega
        have lB1 : B1.length = mid - s := by rw [hB1, List.length_take]; omega
        have lB2 : B2.length = b - (mid + m - s) := by rw [hB2, List.length_drop]; omega
        have eA : A = A1 ++ A2 := by rw [hA1, hA2, List.take_append_drop]
        have eB : B = B1 ++ B2 := by rw [hB1, hB2, List.take_append_drop]
        rw [← hA2, ← hB1] at c5
        rw [← hA1, ← hB2] at c6
        clear hA1 hA2 hB1 hB2
        subst eA eB
        obtain ⟨sA1, sA2, sA3⟩ := List.pairwise_append.1 sA
        obtain ⟨sB1, sB2, sB3⟩ := List.pairwise_append.1 sB
        -- the turn
        obtain ⟨d1, hd1⟩ : ∃ d1, d1 = if s < m ∧ m < mid + m - s then rot d s m (mid + m - s) else d := ⟨_, rfl⟩
        rw [← hd1]
        have L1 : d1.toList = X ++ (A1 ++ (B1 ++ (A2 ++ (B2 ++ Z)))) := by
          rw [hd1]
          by_cases e : s < m ∧ m < mid + m - s
          · rw [if_pos e]
            rw [rot_list d (X ++ A1) A2 B1 (B2 ++ Z) (by rw [h]; simp) s m (mid + m - s) (by simp; omega) (by omega) (by omega) e.1 e.2]
            simp
          · rw [if_neg e, h]
            rcases (show s = m ∨ mid = s by omega) with e | e
            · have : A2 = [] := List.eq_nil_of_length_eq_zero (by omega)
              subst this; simp
            · have : B1 = [] := List.eq_nil_of_length_eq_zero (by omega)
              subst this; simp
        clear hd1 h hdB
        -- the left part
        obtain ⟨d2, hd2⟩ : ∃ d2, d2 = if a < s ∧ s < mid then symM (ltk key) f d1 a s mid else d1 := ⟨_, rfl⟩
        rw [← hd2]
        have L2 : ∃ C1, d2.toList = X ++ (C1 ++ (A2 ++ (B2 ++ Z))) ∧ Mg key A1 B1 C1 := by
          rw [hd2]
          by_cases e : a < s ∧ s < mid
          · rw [if_pos e]
            exact symM_list f d1 X A1 B1 (A2 ++ (B2 ++ Z)) a s mid (by omega) L1 ha (by omega) (by omega) e.1 e.2 sA1 sB1
          · rw [if_neg e, L1]
            rcases (show s = a ∨ mid = s by omega) with e | e
            · have : A1 = [] := List.eq_nil_of_length_eq_zero (by omega)
              subst this
              exact ⟨B1, by simp, sB1, Same.refl _, by simp⟩
            · have : B1 = [] := List.eq_nil_of_length_eq_zero (by omega)
              subst this
              exact ⟨A1, by simp, sA1, by rw [List.append_nil]; exact Same.refl _, by simp⟩
        obtain ⟨C1, L2, m1⟩ := L2
        have lC1 := m1.len
        clear hd2 L1
        -- the right part
        have L3 : ∃ C2, (if mid < mid + m - s ∧ mid + m - s < b then symM (ltk key) f d2 mid (mid + m - s) b else d2).toList = X ++ (C1 ++ (C2 ++ Z)) ∧ Mg key A2 B2 C2 := by
          by_cases e : mid < mid + m - s ∧ mid + m - s < b
          · rw [if_pos e]
            obtain ⟨C2, q1, q2⟩ := symM_list f d2 (X ++ C1) A2 B2 Z mid (mid + m - s) b (by omega) (by rw [L2]; simp) (by simp; omega) (by omega) (by omega) e.1 e.2 sA2 sB2
            exact ⟨C2, by rw [q1]; simp, q2⟩
          · rw [if_neg e, L2]
            rcases (show s = m ∨ b = mid + m - s by omega) with e | e
            · have : A2 = [] := List.eq_nil_of_length_eq_zero (by omega)
              subst this
              exact ⟨B2, by simp, sB2, Same.refl _, by simp⟩
            · have : B2 = [] := List.eq_nil_of_length_eq_zero (by omega)
              subst this
              exact ⟨A2, by simp, sA2, by rw [List.append_nil]; exact Same.refl _, by simp⟩
        obtain ⟨C2, L3, m2⟩ := L3
        refine ⟨C1 ++ C2, by rw [L3]; simp, m1.srt.app m2.srt fun x hx y hy => ?_, ?_, ?_⟩
        · have hx := m1.same.mem.2 hx
          have hy := m2.same.mem.2 hy
          rcases List.mem_append.1 hx with hx | hx
          · rcases List.mem_append.1 hy with hy | hy
            · exact sA3 x hx y hy
            · exact c6 x hx y hy
          · rcases List.mem_append.1 hy with hy | hy
            · exact Int.le_of_lt (c5 y hy x hx)
            · exact sB3 x hx y hy
        · have q := ((Same.refl (key := key) A1).app ((Same.swap (key := key) c5).app (Same.refl (key := key) B2)))
          have e1 : A1 ++ ((A2 ++ B1) ++ B2) = (A1 ++ A2) ++ (B1 ++ B2) := by simp
          have e2 : A1 ++ ((B1 ++ A2) ++ B2) = (A1 ++ B1) ++ (A2 ++ B2) := by simp
          rw [e1, e2] at q
          exact q.trans (m1.same.app m2.same)
        · have := m2.len; simp; omega
end Go.Proofs.Ytbheegamibdbhaa.SymMerge
