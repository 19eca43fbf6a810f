/- What Encode writes, and what Decode reads, as lists of bytes. -/
import Derived.Test.YtnifgokjagahfaaDoorPut
import Derived.Test.YtnifgokjagahfaaDoorValid
set_option linter.unusedVariables false
set_option linter.unusedSimpArgs false
namespace Go.Proofs.YtnifgokjagahfaaDoor.EncPure
open Go.RowKit Go.Proofs.YtnifgokjagahfaaDoorW.PrintWords Go.Proofs.YtnifgokjagahfaaDoorW.PrintLast Go.Proofs.YtnifgokjagahfaaDoorW.PrintMore
open Go.Proofs.YtnifgokjagahfaaDoor.Base Go.Proofs.YtnifgokjagahfaaDoor.Layouts Go.Proofs.YtnifgokjagahfaaDoor.Msg Go.Proofs.YtnifgokjagahfaaDoor.Put
def wN : Nat → Nat
  | 0 | 1 | 2 | 3 => 8
  | 4 | 5 => 2
  | _ => 4
theorem wN_eq : ∀ f, f < 7 → widthOf f = (wN f : Int) := by decide
theorem wN_range : ∀ f, f < 7 → 1 ≤ wN f ∧ wN f ≤ 8 := by decide
/-- what a field adds to the body -/
def textOf (m : M) (f : Nat) : List Int := if f = 5 then bytesOf m.key else if f = 6 then bytesOf m.value else []
def fieldB (m : M) (f : Nat) : List Int := be (numOf m f) (wN f) ++ textOf m f
def bodyB (m : M) (fs : List Nat) : List Int := fs.flatMap (fieldB m)
def headB (m : M) : List Int := [71, 82, 1, m.kind] ++ be m.from_ 2 ++ be m.to_ 2 ++ be m.id 8
theorem headB_length (m : M) : (headB m).length = 16 := by simp [headB, be, beTo]
/-- all but the four bytes at the end -/
def frameB (m : M) : List Int := headB m ++ be (bodyB m (fieldsOf m.kind.toNat)).length 4 ++ bodyB m (fieldsOf m.kind.toNat)
theorem wi_of {n k : Int} (h : wi n k = true) : 0 ≤ n ∧ n ≤ k := by
  unfold wi at h
  split at h
  · split at h
    · exact ⟨by assumption, by assumption⟩
    · cases h
  · cases h
theorem wi_mk {n k : Int} (h : 0 ≤ n ∧ n ≤ k) : wi n k = true := by
  unfold wi; rw [if_pos h.1, if_pos h.2]
theorem vTo_all (m : M) : ∀ n, vTo m n = true → ∀ f, f < n → wi (numOf m f) (needOf m f) = true := by
  intro n
  induction n with
  | zero => intro _ f hf; omega
  | succ n ih =>
    intro h f hf
    simp only [vTo, Bool.and_eq_true] at h
    by_cases e : f = n
    · subst e; exact h.2
    · exact ih h.1 f (by omega)
theorem vTo_mk (m : M) : ∀ n, (∀ f, f < n → wi (numOf m f) (needOf m f) = true) → vTo m n = true
  | 0, _ => rfl
  | n + 1, h => by
    simp only [vTo, Bool.and_eq_true]
    exact ⟨vTo_mk m n (fun f hf => h f (by omega)), h n (by omega)⟩
theorem vB_iff (m : M) : vB m = true ↔ (0 ≤ m.from_ ∧ m.from_ ≤ 65535) ∧ (0 ≤ m.to_ ∧ m.to_ ≤ 65535) ∧ (0 ≤ m.id ∧ m.id ≤ 9007199254740992) ∧ ∀ f, f < 7 → 0 ≤ numOf m f ∧ numOf m f ≤ needOf m f := by
  constructor
  · intro h
    unfold vB at h
    simp only [Bool.and_eq_true] at h
    obtain ⟨h1, h2, h3, h4⟩ := h
    exact ⟨wi_of h1, wi_of h2, wi_of h3, fun f hf => wi_of (vTo_all m 7 h4 f hf)⟩
  · rintro ⟨h1, h2, h3, h4⟩
    unfold vB
    rw [wi_mk h1, wi_mk h2, wi_mk h3, vTo_mk m 7 (fun f hf => wi_mk (h4 f hf))]
    rfl
theorem mostOf_pos : ∀ f, f < 7 → (0 : Int) ≤ mostOf f := by decide
theorem needOf_le (m : M) (f : Nat) (hf : f < 7) : needOf m f ≤ mostOf f := by
  unfold needOf
  split
  · exact Int.le_refl _
  · exact mostOf_pos f hf
theorem vB_facts (m : M) (h : vB m = true) : (0 ≤ m.from_ ∧ m.from_ ≤ 65535) ∧ (0 ≤ m.to_ ∧ m.to_ ≤ 65535) ∧ (0 ≤ m.id ∧ m.id ≤ 9007199254740992) ∧ ∀ f, f < 7 → 0 ≤ numOf m f ∧ numOf m f ≤ mostOf f := by
  obtain ⟨h1, h2, h3, h4⟩ := (vB_iff m).1 h
  exact ⟨h1, h2, h3, fun f hf => ⟨(h4 f hf).1, Int.le_trans (h4 f hf).2 (needOf_le m f hf)⟩⟩
theorem snoc_ind {P : List Int → Prop} (nil : P []) (snoc : ∀ l b, P l → P (l ++ [b])) : ∀ l, P l := by
  have h : ∀ r : List Int, P r.reverse := by
    intro r
    induction r with
    | nil => exact nil
    | cons b r ih => rw [List.reverse_cons]; exact snoc _ _ ih
  intro l
  have := h l.reverse
  rwa [List.reverse_reverse] at this
/-! numbers, the highest byte first -/
def val (l : List Int) : Int := l.foldl (fun a b => 256 * a + b) 0
def Byt (l : List Int) : Prop := ∀ x ∈ l, 0 ≤ x ∧ x < 256
theorem val_snoc (l : List Int) (b : Int) : val (l ++ [b]) = 256 * val l + b := by simp [val]
theorem beTo_succ (N : Int) (wd : Nat) : be N (wd + 1) = be (N / 256) wd ++ [N % 256] := by
  unfold be
  rw [beTo_next]
  congr 1
  · unfold beTo
    apply List.map_congr_left
    intro j hj
    have hj' : j < wd := by simpa using hj
    have e : 8 * (wd + 1 - 1 - j) = 8 + 8 * (wd - 1 - j) := by omega
    rw [e, Int.pow_add, ← Int.ediv_ediv_of_nonneg (by decide)]
    rfl
  · have e : 8 * (wd + 1 - 1 - wd) = 0 := by omega
    rw [e]
    simp
theorem val_be (wd : Nat) : ∀ (N : Int), 0 ≤ N → N < 256 ^ wd → val (be N wd) = N := by
  induction wd with
  | zero => intro N h0 h1; simp [be, beTo, val]; omega
  | succ wd ih =>
    intro N h0 h1
    rw [beTo_succ, val_snoc, ih (N / 256) (by omega) (by
      have : (256 : Int) ^ (wd + 1) = 256 ^ wd * 256 := Int.pow_succ _ _
      rw [this] at h1
      exact Int.ediv_lt_of_lt_mul (by decide) h1)]
    omega
theorem be_length (N : Int) (wd : Nat) : (be N wd).length = wd := beTo_length N wd wd
theorem be_byt (N : Int) (wd : Nat) : Byt (be N wd) := by
  intro x hx
  unfold be beTo at hx
  obtain ⟨j, _, rfl⟩ := List.mem_map.1 hx
  omega
theorem val_nonneg (l : List Int) (h : Byt l) : 0 ≤ val l := by
  induction l using snoc_ind with
  | nil => simp [val]
  | snoc l b ih =>
    rw [val_snoc]
    have h1 := ih (fun x hx => h x (by simp [hx]))
    have h2 := h b (by simp)
    omega
theorem be_val (l : List Int) (h : Byt l) : be (val l) l.length = l := by
  induction l using snoc_ind with
  | nil => simp [be, beTo]
  | snoc l b ih =>
    have h2 := h b (by simp)
    have hl : (l ++ [b]).length = l.length + 1 := by simp
    rw [hl, beTo_succ, val_snoc]
    have e1 : (256 * val l + b) / 256 = val l := by omega
    have e2 : (256 * val l + b) % 256 = b := by omega
    rw [e1, e2, ih (fun x hx => h x (by simp [hx]))]
theorem val_lt (l : List Int) (h : Byt l) : val l < 256 ^ l.length := by
  induction l using snoc_ind with
  | nil => simp [val]
  | snoc l b ih =>
    have hl : (l ++ [b]).length = l.length + 1 := by simp
    rw [hl, val_snoc, Int.pow_succ]
    have h1 := ih (fun x hx => h x (by simp [hx]))
    have h2 := h b (by simp)
    omega
theorem byt_bytesOf (s : ByteArray) : Byt (bytesOf s) := by
  intro x hx
  unfold bytesOf at hx
  obtain ⟨b, _, rfl⟩ := List.mem_map.1 hx
  have := b.toNat_lt
  omega
theorem bytesOf_strOfNums (l : List Int) (h : Byt l) : bytesOf (strOfNums l) = l := by
  unfold bytesOf
  rw [strOfNums_data, List.map_map]
  conv => rhs; rw [← List.map_id l]
  apply List.map_congr_left
  intro x hx
  have h2 := h x hx
  simp only [Function.comp_apply, id]
  rw [UInt8.toNat_ofNat']
  omega
theorem byt_append {a b : List Int} : Byt (a ++ b) ↔ Byt a ∧ Byt b := by
  unfold Byt
  constructor
  · intro h
    exact ⟨fun x hx => h x (by simp [hx]), fun x hx => h x (by simp [hx])⟩
  · rintro ⟨h, k⟩ x hx
    rcases List.mem_append.1 hx with hx | hx
    · exact h x hx
    · exact k x hx
theorem byt_take {a : List Int} (h : Byt a) (n : Nat) : Byt (a.take n) := fun x hx => h x (List.mem_of_mem_take hx)
theorem byt_drop {a : List Int} (h : Byt a) (n : Nat) : Byt (a.drop n) := fun x hx => h x (List.mem_of_mem_drop hx)
theorem byt_text (m : M) (f : Nat) : Byt (textOf m f) := by
  unfold textOf
  split
  · exact byt_bytesOf _
  · split
    · exact byt_bytesOf _
    · intro x hx; cases hx
theorem byt_body (m : M) (fs : List Nat) : Byt (bodyB m fs) := by
  intro x hx
  unfold bodyB at hx
  obtain ⟨f, _, hf⟩ := List.mem_flatMap.1 hx
  exact byt_append.2 ⟨be_byt _ _, byt_text m f⟩ x hf
/-! reading -/
structure Cur where mk ::
  (rest : List Int) (short : Bool)
def numC (w : Nat) (most : Int) (c : Cur) : Int × Cur :=
  if c.rest.length < w then (0, ⟨c.rest, true⟩)
  else if most < val (c.rest.take w) then (0, ⟨c.rest.drop w, true⟩)
  else (val (c.rest.take w), ⟨c.rest.drop w, c.short⟩)
def textC (w : Nat) (most : Int) (c : Cur) : List Int × Cur :=
  if (numC w most c).2.short = true ∨ ((numC w most c).2.rest.length : Int) < (numC w most c).1 then ([], ⟨(numC w most c).2.rest, true⟩)
  else ((numC w most c).2.rest.take (numC w most c).1.toNat, ⟨(numC w most c).2.rest.drop (numC w most c).1.toNat, (numC w most c).2.short⟩)
def setNum (m : M) (f : Nat) (n : Int) : M :=
  match f with
  | 0 => { m with epoch := n }
  | 1 => { m with seq := n }
  | 2 => { m with version := n }
  | 3 => { m with prev := n }
  | _ => { m with code := n }
def setText (m : M) (f : Nat) (t : ByteArray) : M := if f = 5 then { m with key := t } else { m with value := t }
def readC (m : M) (f : Nat) (c : Cur) : M × Cur :=
  if f < 5 then (setNum m f (numC (wN f) (mostOf f) c).1, (numC (wN f) (mostOf f) c).2)
  else (setText m f (strOfNums (textC (wN f) (mostOf f) c).1), (textC (wN f) (mostOf f) c).2)
def parseC : List Nat → M → Cur → M × Cur
  | [], m, c => (m, c)
  | f :: fs, m, c => parseC fs (readC m f c).1 (readC m f c).2
theorem numC_ok {w : Nat} {most : Int} {c c' : Cur} {n : Int} (h : numC w most c = (n, c')) (hs : c'.short = false) (hb : Byt c.rest) :
    c.short = false ∧ c.rest = be n w ++ c'.rest ∧ 0 ≤ n ∧ n ≤ most ∧ Byt c'.rest := by
  unfold numC at h
  split at h
  · cases h; cases hs
  · split at h
    · cases h; cases hs
    · rename_i h1 h2
      cases h
      have hl : (c.rest.take w).length = w := by rw [List.length_take]; omega
      have hv := be_val (c.rest.take w) (byt_take hb w)
      rw [hl] at hv
      exact ⟨hs, by show c.rest = be (val (c.rest.take w)) w ++ c.rest.drop w; rw [hv, List.take_append_drop], val_nonneg _ (byt_take hb w), by omega, byt_drop hb w⟩
theorem numC_mk {w : Nat} {most n : Int} (t : List Int) (h0 : 0 ≤ n) (h1 : n ≤ most) (hw : n < 256 ^ w) : numC w most ⟨be n w ++ t, false⟩ = (n, ⟨t, false⟩) := by
  unfold numC
  have e1 : (be n w ++ t).take w = be n w := by rw [List.take_left' (be_length n w)]
  have e2 : (be n w ++ t).drop w = t := by rw [List.drop_left' (be_length n w)]
  simp only [e1, e2, val_be w n h0 hw]
  rw [if_neg (by simp [be_length]), if_neg (by omega)]
theorem textC_ok {w : Nat} {most : Int} {c c' : Cur} {l : List Int} (h : textC w most c = (l, c')) (hs : c'.short = false) (hb : Byt c.rest) :
    c.short = false ∧ c.rest = be l.length w ++ l ++ c'.rest ∧ (l.length : Int) ≤ most ∧ Byt l ∧ Byt c'.rest := by
  unfold textC at h
  generalize hr : numC w most c = r at h
  obtain ⟨n, c1⟩ := r
  simp only at h
  split at h
  · cases h; cases hs
  · rename_i h1
    simp only [not_or, Int.not_lt] at h1
    cases h
    have h1s : c1.short = false := hs
    obtain ⟨h2, h3, h4, h5, h6⟩ := numC_ok hr h1s hb
    have hl : (c1.rest.take n.toNat).length = n.toNat := by rw [List.length_take]; omega
    refine ⟨h2, ?_, by rw [hl]; omega, byt_take h6 _, byt_drop h6 _⟩
    have e : ((c1.rest.take n.toNat).length : Int) = n := by rw [hl]; omega
    rw [e, List.append_assoc, List.take_append_drop]
    exact h3
theorem textC_mk {w : Nat} {most : Int} (l t : List Int) (h1 : (l.length : Int) ≤ most) (hw : (l.length : Int) < 256 ^ w) : textC w most ⟨be l.length w ++ l ++ t, false⟩ = (l, ⟨t, false⟩) := by
  unfold textC
  have e := numC_mk (w := w) (most := most) (l ++ t) (n := l.length) (by omega) h1 hw
  rw [List.append_assoc, e]
  simp only
  rw [if_neg (by simp; omega)]
  simp
/-- a field of m laid into m0 -/
def copyF (m m0 : M) (f : Nat) : M := if f < 5 then setNum m0 f (numOf m f) else setText m0 f (if f = 5 then m.key else m.value)
theorem num_size (m : M) : numOf m 5 = ((bytesOf m.key).length : Int) ∧ numOf m 6 = ((bytesOf m.value).length : Int) := by
  constructor <;> rw [bytesOf_length] <;> rfl
theorem pow_most : ∀ f, f < 7 → mostOf f < 256 ^ wN f := by decide
/-- what was written is read -/
theorem read_mk (m m0 : M) (f : Nat) (t : List Int) (hf : f < 7) (h : 0 ≤ numOf m f ∧ numOf m f ≤ mostOf f) :
    readC m0 f ⟨fieldB m f ++ t, false⟩ = (copyF m m0 f, ⟨t, false⟩) := by
  have hp := pow_most f hf
  unfold readC copyF
  by_cases h5 : f < 5
  · have ht : textOf m f = [] := by unfold textOf; rw [if_neg (by omega), if_neg (by omega)]
    rw [if_pos h5, if_pos h5]
    unfold fieldB
    rw [ht, List.append_nil, numC_mk t h.1 h.2 (by omega)]
  · rw [if_neg h5, if_neg h5]
    have e : f = 5 ∨ f = 6 := by omega
    rcases e with e | e
    · subst e
      have hn := (num_size m).1
      have ht : textOf m 5 = bytesOf m.key := rfl
      unfold fieldB
      rw [ht, hn]
      rw [hn] at h
      rw [textC_mk (bytesOf m.key) t h.2 (by omega)]
      simp only [if_true]
      rw [strOfNums_bytesOf]
    · subst e
      have hn := (num_size m).2
      have ht : textOf m 6 = bytesOf m.value := rfl
      unfold fieldB
      rw [ht, hn]
      rw [hn] at h
      rw [textC_mk (bytesOf m.value) t h.2 (by omega)]
      simp only
      rw [strOfNums_bytesOf]
      rfl
theorem parse_mk (m : M) : ∀ (fs : List Nat) (m0 : M) (t : List Int), (∀ f ∈ fs, f < 7 ∧ 0 ≤ numOf m f ∧ numOf m f ≤ mostOf f) → parseC fs m0 ⟨bodyB m fs ++ t, false⟩ = (fs.foldl (copyF m) m0, ⟨t, false⟩)
  | [], m0, t, _ => rfl
  | f :: fs, m0, t, h => by
    have hf := h f (by simp)
    have e : bodyB m (f :: fs) ++ t = fieldB m f ++ (bodyB m fs ++ t) := by simp [bodyB]
    rw [e]
    show parseC fs (readC m0 f _).1 (readC m0 f _).2 = _
    rw [read_mk m m0 f _ hf.1 hf.2]
    exact parse_mk m fs _ t (fun g hg => h g (by simp [hg]))
/-- two messages that agree in a field -/
def AgreeF (m m' : M) (f : Nat) : Prop := numOf m f = numOf m' f ∧ textOf m f = textOf m' f
theorem agree_field {m m' : M} {f : Nat} (h : AgreeF m m' f) : fieldB m f = fieldB m' f := by
  unfold fieldB; rw [h.1, h.2]
theorem textOf_num (m : M) (f : Nat) (h : f < 5) : textOf m f = [] := by
  unfold textOf; rw [if_neg (by omega), if_neg (by omega)]
theorem agree_set (m0 : M) (f g : Nat) (n : Int) (h5 : f < 5) (hg : g < 7) (hne : g ≠ f) : AgreeF (setNum m0 f n) m0 g := by
  have e1 : f = 0 ∨ f = 1 ∨ f = 2 ∨ f = 3 ∨ f = 4 := by omega
  have e2 : g = 0 ∨ g = 1 ∨ g = 2 ∨ g = 3 ∨ g = 4 ∨ g = 5 ∨ g = 6 := by omega
  rcases e1 with e | e | e | e | e <;> rcases e2 with e2 | e2 | e2 | e2 | e2 | e2 | e2 <;> subst e <;> subst e2 <;> first | exact absurd rfl hne | exact ⟨rfl, rfl⟩
theorem agree_text (m0 : M) (f g : Nat) (t : ByteArray) (h5 : f = 5 ∨ f = 6) (hg : g < 7) (hne : g ≠ f) : AgreeF (setText m0 f t) m0 g := by
  have e2 : g = 0 ∨ g = 1 ∨ g = 2 ∨ g = 3 ∨ g = 4 ∨ g = 5 ∨ g = 6 := by omega
  rcases h5 with e | e <;> rcases e2 with e2 | e2 | e2 | e2 | e2 | e2 | e2 <;> subst e <;> subst e2 <;> first | exact absurd rfl hne | exact ⟨rfl, rfl⟩
theorem num_set (m0 : M) (f : Nat) (n : Int) (h5 : f < 5) : numOf (setNum m0 f n) f = n := by
  have e1 : f = 0 ∨ f = 1 ∨ f = 2 ∨ f = 3 ∨ f = 4 := by omega
  rcases e1 with e | e | e | e | e <;> subst e <;> rfl
/-- one field read is the field written -/
theorem read_ok {m0 m1 : M} {f : Nat} {c c1 : Cur} (h : readC m0 f c = (m1, c1)) (hf : f < 7) (hs : c1.short = false) (hb : Byt c.rest) :
    c.short = false ∧ c.rest = fieldB m1 f ++ c1.rest ∧ 0 ≤ numOf m1 f ∧ numOf m1 f ≤ mostOf f ∧ Byt c1.rest ∧ (∀ g, g < 7 → g ≠ f → AgreeF m1 m0 g) := by
  unfold readC at h
  by_cases h5 : f < 5
  · rw [if_pos h5] at h
    generalize hr : numC (wN f) (mostOf f) c = r at h
    obtain ⟨n, c2⟩ := r
    cases h
    obtain ⟨h1, h2, h3, h4, h6⟩ := numC_ok hr hs hb
    refine ⟨h1, ?_, by rw [num_set _ _ _ h5]; exact h3, by rw [num_set _ _ _ h5]; exact h4, h6, fun g hg hne => agree_set _ _ _ _ h5 hg hne⟩
    unfold fieldB
    rw [textOf_num _ _ h5, num_set _ _ _ h5, List.append_nil]
    exact h2
  · rw [if_neg h5] at h
    generalize hr : textC (wN f) (mostOf f) c = r at h
    obtain ⟨l, c2⟩ := r
    cases h
    obtain ⟨h1, h2, h3, h4, h6⟩ := textC_ok hr hs hb
    have e : f = 5 ∨ f = 6 := by omega
    have hsz := strOfNums_size l
    have hbl := bytesOf_strOfNums l h4
    have hn : numOf (setText m0 f (strOfNums l)) f = (l.length : Int) := by
      rcases e with e | e <;> subst e <;> (show ((strOfNums l).size : Int) = _; rw [hsz])
    have ht : textOf (setText m0 f (strOfNums l)) f = l := by
      rcases e with e | e <;> subst e <;> (show bytesOf (strOfNums l) = _; rw [hbl])
    refine ⟨h1, ?_, by rw [hn]; omega, by rw [hn]; exact h3, h6, fun g hg hne => agree_text _ _ _ _ e hg hne⟩
    unfold fieldB
    rw [ht, hn]
    exact h2
theorem AgreeF.trans {a b c : M} {f : Nat} (h : AgreeF a b f) (k : AgreeF b c f) : AgreeF a c f := ⟨h.1.trans k.1, h.2.trans k.2⟩
theorem AgreeF.symm {a b : M} {f : Nat} (h : AgreeF a b f) : AgreeF b a f := ⟨h.1.symm, h.2.symm⟩
theorem numC_byt (w : Nat) (most : Int) (c : Cur) (h : Byt c.rest) : Byt (numC w most c).2.rest := by
  unfold numC
  split
  · exact h
  · split
    · exact byt_drop h _
    · exact byt_drop h _
theorem textC_byt (w : Nat) (most : Int) (c : Cur) (h : Byt c.rest) : Byt (textC w most c).2.rest := by
  unfold textC
  split
  · exact numC_byt _ _ _ h
  · exact byt_drop (numC_byt _ _ _ h) _
theorem readC_byt (m : M) (f : Nat) (c : Cur) (h : Byt c.rest) : Byt (readC m f c).2.rest := by
  unfold readC
  split
  · exact numC_byt _ _ _ h
  · exact textC_byt _ _ _ h
/-- the same kind and head -/
def SameHead (m m' : M) : Prop := m.kind = m'.kind ∧ m.from_ = m'.from_ ∧ m.to_ = m'.to_ ∧ m.id = m'.id
theorem SameHead.trans {a b c : M} (h : SameHead a b) (k : SameHead b c) : SameHead a c := ⟨h.1.trans k.1, h.2.1.trans k.2.1, h.2.2.1.trans k.2.2.1, h.2.2.2.trans k.2.2.2⟩
theorem setNum_head (m : M) (f : Nat) (n : Int) : SameHead (setNum m f n) m := by
  unfold setNum; split <;> exact ⟨rfl, rfl, rfl, rfl⟩
theorem setText_head (m : M) (f : Nat) (t : ByteArray) : SameHead (setText m f t) m := by
  unfold setText; split <;> exact ⟨rfl, rfl, rfl, rfl⟩
theorem readC_head (m : M) (f : Nat) (c : Cur) : SameHead (readC m f c).1 m := by
  unfold readC
  split
  · exact setNum_head _ _ _
  · exact setText_head _ _ _
theorem parseC_head : ∀ (fs : List Nat) (m : M) (c : Cur), SameHead (parseC fs m c).1 m
  | [], m, c => ⟨rfl, rfl, rfl, rfl⟩
  | f :: fs, m, c => (parseC_head fs (readC m f c).1 (readC m f c).2).trans (readC_head m f c)
theorem parse_ok : ∀ (fs : List Nat) (m0 m1 : M) (c c1 : Cur), fs.Nodup → (∀ f ∈ fs, f < 7) → parseC fs m0 c = (m1, c1) → c1.short = false → Byt c.rest →
    c.short = false ∧ c.rest = bodyB m1 fs ++ c1.rest ∧ (∀ f ∈ fs, 0 ≤ numOf m1 f ∧ numOf m1 f ≤ mostOf f) ∧ Byt c1.rest ∧ (∀ g, g < 7 → g ∉ fs → AgreeF m1 m0 g)
  | [], m0, m1, c, c1, _, _, h, hs, hb => by
    cases h
    exact ⟨hs, by simp [bodyB], fun f hf => (by cases hf), hb, fun g _ _ => ⟨rfl, rfl⟩⟩
  | f :: fs, m0, m1, c, c1, hn, hf, h, hs, hb => by
    have hn' := List.nodup_cons.1 hn
    have hb2 := readC_byt m0 f c hb
    generalize hr : readC m0 f c = r at hb2
    obtain ⟨m2, c2⟩ := r
    have h' : parseC fs m2 c2 = (m1, c1) := by
      have e : parseC (f :: fs) m0 c = parseC fs (readC m0 f c).1 (readC m0 f c).2 := rfl
      rw [e, hr] at h
      exact h
    obtain ⟨h2, h3, h4, h5, h6⟩ := parse_ok fs m2 m1 c2 c1 hn'.2 (fun g hg => hf g (by simp [hg])) h' hs hb2
    obtain ⟨k1, k2, k3, k4, k5, k6⟩ := read_ok hr (hf f (by simp)) h2 hb
    have ha := h6 f (hf f (by simp)) hn'.1
    refine ⟨k1, ?_, ?_, h5, ?_⟩
    · rw [k2, h3, ← agree_field ha]
      simp [bodyB]
    · intro g hg
      rcases List.mem_cons.1 hg with e | e
      · subst e; rw [ha.1]; exact ⟨k3, k4⟩
      · exact h4 g e
    · intro g hg hng
      exact (h6 g hg (fun e => hng (by simp [e]))).trans (k6 g hg (fun e => hng (by simp [e])))
/-- messages that agree everywhere are the same -/
theorem M_ext {a b : M} (h : SameHead a b) (k : ∀ f, f < 7 → AgreeF a b f) : a = b := by
  obtain ⟨h1, h2, h3, h4⟩ := h
  have k0 := (k 0 (by decide)).1
  have k1 := (k 1 (by decide)).1
  have k2 := (k 2 (by decide)).1
  have k3 := (k 3 (by decide)).1
  have k4 := (k 4 (by decide)).1
  have k5 : bytesOf a.key = bytesOf b.key := (k 5 (by decide)).2
  have k6 : bytesOf a.value = bytesOf b.value := (k 6 (by decide)).2
  have e5 : a.key = b.key := by rw [← strOfNums_bytesOf a.key, k5, strOfNums_bytesOf]
  have e6 : a.value = b.value := by rw [← strOfNums_bytesOf a.value, k6, strOfNums_bytesOf]
  cases a; cases b
  simp only [numOf] at k0 k1 k2 k3 k4
  simp only at h1 h2 h3 h4 e5 e6
  subst h1; subst h2; subst h3; subst h4; subst k0; subst k1; subst k2; subst k3; subst k4; subst e5; subst e6
  rfl
def blankM (k f t i : Int) : M := ⟨k, f, t, i, 0, 0, 0, 0, 0, ByteArray.empty, ByteArray.empty⟩
/-- a field that a message has not -/
def Zero (m : M) (f : Nat) : Prop := numOf m f = 0 ∧ textOf m f = []
theorem zero_blank (k f t i : Int) (g : Nat) (hg : g < 7) : Zero (blankM k f t i) g := by
  have e2 : g = 0 ∨ g = 1 ∨ g = 2 ∨ g = 3 ∨ g = 4 ∨ g = 5 ∨ g = 6 := by omega
  rcases e2 with e2 | e2 | e2 | e2 | e2 | e2 | e2 <;> subst e2 <;> exact ⟨rfl, rfl⟩
theorem zero_of_num (m : M) (g : Nat) (h : numOf m g = 0) : Zero m g := by
  refine ⟨h, ?_⟩
  unfold textOf
  split
  · rename_i e; subst e
    rw [(num_size m).1] at h
    exact List.eq_nil_of_length_eq_zero (by omega)
  · split
    · rename_i e; subst e
      rw [(num_size m).2] at h
      exact List.eq_nil_of_length_eq_zero (by omega)
    · rfl
theorem need_of_mem (m : M) (f : Nat) (h : f ∈ fieldsOf m.kind.toNat) : needOf m f = mostOf f := by
  unfold needOf; rw [if_pos (by simpa using h)]
theorem need_not_mem (m : M) (f : Nat) (h : f ∉ fieldsOf m.kind.toNat) : needOf m f = 0 := by
  unfold needOf; rw [if_neg (by simpa using h)]
theorem fieldsOf_nodup : ∀ k, k < 17 → (fieldsOf k).Nodup := by decide
theorem fieldsOf_lt : ∀ k, k < 17 → ∀ f ∈ fieldsOf k, f < 7 := by decide
/-- the number of bytes of a body -/
theorem field_length (m : M) (f : Nat) : (fieldB m f).length = wN f + (textOf m f).length := by
  unfold fieldB; rw [List.length_append, be_length]
end Go.Proofs.YtnifgokjagahfaaDoor.EncPure
