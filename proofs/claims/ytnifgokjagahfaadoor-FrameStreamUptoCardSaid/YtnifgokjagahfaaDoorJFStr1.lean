/- Joined texts of this claim: EncPure, Num, Read, DecPure, Mids, Dec -/
import Derived.Test.YtnifgokjagahfaaDoorJFStr0
import Derived.Test.YtnifgokjagahfaaDoorPFrameDecodesx1
import Derived.Deep.MidRow
/- What Encode writes, and what Decode reads, as lists of bytes. -/
set_option linter.unusedVariables false
set_option linter.unusedSimpArgs false
namespace Go.Proofs.YtnifgokjagahfaaDoor.EncPure
open Go.RowKit Go.Proofs.YtnifgokjagahfaaDoorW.PrintWords Go.Proofs.YtnifgokjagahfaaDoorW.PrintLast Go.Proofs.YtnifgokjagahfaaDoorW.PrintMore
open Go.Proofs.YtnifgokjagahfaaDoor.Base Go.Proofs.YtnifgokjagahfaaDoor.Layouts Go.Proofs.YtnifgokjagahfaaDoor.Msg Go.Proofs.YtnifgokjagahfaaDoor.Put
def wN : Nat → Nat
  | 0 | 1 | 2 | 3 => 8
  | 4 | 5 => 2
  | _ => 4
theorem wN_eq : ∀ f, f < 7 → widthOf f = (wN f : Int) := by decide
theorem wN_range : ∀ f, f < 7 → 1 ≤ wN f ∧ wN f ≤ 8 := by decide
/-- what a field adds to the body -/
def textOf (m : M) (f : Nat) : List Int := if f = 5 then bytesOf m.key else if f = 6 then bytesOf m.value else []
def fieldB (m : M) (f : Nat) : List Int := be (numOf m f) (wN f) ++ textOf m f
def bodyB (m : M) (fs : List Nat) : List Int := fs.flatMap (fieldB m)
def headB (m : M) : List Int := [71, 82, 1, m.kind] ++ be m.from_ 2 ++ be m.to_ 2 ++ be m.id 8
theorem headB_length (m : M) : (headB m).length = 16 := by simp [headB, be, beTo]
/-- all but the four bytes at the end -/
def frameB (m : M) : List Int := headB m ++ be (bodyB m (fieldsOf m.kind.toNat)).length 4 ++ bodyB m (fieldsOf m.kind.toNat)
theorem wi_of {n k : Int} (h : wi n k = true) : 0 ≤ n ∧ n ≤ k := by
  unfold wi at h
  split at h
  · split at h
    · exact ⟨by assumption, by assumption⟩
    · cases h
  · cases h
theorem wi_mk {n k : Int} (h : 0 ≤ n ∧ n ≤ k) : wi n k = true := by
  unfold wi; rw [if_pos h.1, if_pos h.2]
theorem vTo_all (m : M) : ∀ n, vTo m n = true → ∀ f, f < n → wi (numOf m f) (needOf m f) = true := by
  intro n
  induction n with
  | zero => intro _ f hf; omega
  | succ n ih =>
    intro h f hf
    simp only [vTo, Bool.and_eq_true] at h
    by_cases e : f = n
    · subst e; exact h.2
    · exact ih h.1 f (by omega)
theorem vTo_mk (m : M) : ∀ n, (∀ f, f < n → wi (numOf m f) (needOf m f) = true) → vTo m n = true
  | 0, _ => rfl
  | n + 1, h => by
    simp only [vTo, Bool.and_eq_true]
    exact ⟨vTo_mk m n (fun f hf => h f (by omega)), h n (by omega)⟩
theorem vB_iff (m : M) : vB m = true ↔ (0 ≤ m.from_ ∧ m.from_ ≤ 65535) ∧ (0 ≤ m.to_ ∧ m.to_ ≤ 65535) ∧ (0 ≤ m.id ∧ m.id ≤ 9007199254740992) ∧ ∀ f, f < 7 → 0 ≤ numOf m f ∧ numOf m f ≤ needOf m f := by
  constructor
  · intro h
    unfold vB at h
    simp only [Bool.and_eq_true] at h
    obtain ⟨h1, h2, h3, h4⟩ := h
    exact ⟨wi_of h1, wi_of h2, wi_of h3, fun f hf => wi_of (vTo_all m 7 h4 f hf)⟩
  · rintro ⟨h1, h2, h3, h4⟩
    unfold vB
    rw [wi_mk h1, wi_mk h2, wi_mk h3, vTo_mk m 7 (fun f hf => wi_mk (h4 f hf))]
    rfl
theorem mostOf_pos : ∀ f, f < 7 → (0 : Int) ≤ mostOf f := by decide
theorem needOf_le (m : M) (f : Nat) (hf : f < 7) : needOf m f ≤ mostOf f := by
  unfold needOf
  split
  · exact Int.le_refl _
  · exact mostOf_pos f hf
theorem vB_facts (m : M) (h : vB m = true) : (0 ≤ m.from_ ∧ m.from_ ≤ 65535) ∧ (0 ≤ m.to_ ∧ m.to_ ≤ 65535) ∧ (0 ≤ m.id ∧ m.id ≤ 9007199254740992) ∧ ∀ f, f < 7 → 0 ≤ numOf m f ∧ numOf m f ≤ mostOf f := by
  obtain ⟨h1, h2, h3, h4⟩ := (vB_iff m).1 h
  exact ⟨h1, h2, h3, fun f hf => ⟨(h4 f hf).1, Int.le_trans (h4 f hf).2 (needOf_le m f hf)⟩⟩
theorem snoc_ind {P : List Int → Prop} (nil : P []) (snoc : ∀ l b, P l → P (l ++ [b])) : ∀ l, P l := by
  have h : ∀ r : List Int, P r.reverse := by
    intro r
    induction r with
    | nil => exact nil
    | cons b r ih => rw [List.reverse_cons]; exact snoc _ _ ih
  intro l
  have := h l.reverse
  rwa [List.reverse_reverse] at this
/-! numbers, the highest byte first -/
def val (l : List Int) : Int := l.foldl (fun a b => 256 * a + b) 0
def Byt (l : List Int) : Prop := ∀ x ∈ l, 0 ≤ x ∧ x < 256
theorem val_snoc (l : List Int) (b : Int) : val (l ++ [b]) = 256 * val l + b := by simp [val]
theorem beTo_succ (N : Int) (wd : Nat) : be N (wd + 1) = be (N / 256) wd ++ [N % 256] := by
  unfold be
  rw [beTo_next]
  congr 1
  · unfold beTo
    apply List.map_congr_left
    intro j hj
    have hj' : j < wd := by simpa using hj
    have e : 8 * (wd + 1 - 1 - j) = 8 + 8 * (wd - 1 - j) := by omega
    rw [e, Int.pow_add, ← Int.ediv_ediv_of_nonneg (by decide)]
    rfl
  · have e : 8 * (wd + 1 - 1 - wd) = 0 := by omega
    rw [e]
    simp
theorem val_be (wd : Nat) : ∀ (N : Int), 0 ≤ N → N < 256 ^ wd → val (be N wd) = N := by
  induction wd with
  | zero => intro N h0 h1; simp [be, beTo, val]; omega
  | succ wd ih =>
    intro N h0 h1
    rw [beTo_succ, val_snoc, ih (N / 256) (by omega) (by
      have : (256 : Int) ^ (wd + 1) = 256 ^ wd * 256 := Int.pow_succ _ _
      rw [this] at h1
      exact Int.ediv_lt_of_lt_mul (by decide) h1)]
    omega
theorem be_length (N : Int) (wd : Nat) : (be N wd).length = wd := beTo_length N wd wd
theorem be_byt (N : Int) (wd : Nat) : Byt (be N wd) := by
  intro x hx
  unfold be beTo at hx
  obtain ⟨j, _, rfl⟩ := List.mem_map.1 hx
  omega
theorem val_nonneg (l : List Int) (h : Byt l) : 0 ≤ val l := by
  induction l using snoc_ind with
  | nil => simp [val]
  | snoc l b ih =>
    rw [val_snoc]
    have h1 := ih (fun x hx => h x (by simp [hx]))
    have h2 := h b (by simp)
    omega
theorem be_val (l : List Int) (h : Byt l) : be (val l) l.length = l := by
  induction l using snoc_ind with
  | nil => simp [be, beTo]
  | snoc l b ih =>
    have h2 := h b (by simp)
    have hl : (l ++ [b]).length = l.length + 1 := by simp
    rw [hl, beTo_succ, val_snoc]
    have e1 : (256 * val l + b) / 256 = val l := by omega
    have e2 : (256 * val l + b) % 256 = b := by omega
    rw [e1, e2, ih (fun x hx => h x (by simp [hx]))]
theorem val_lt (l : List Int) (h : Byt l) : val l < 256 ^ l.length := by
  induction l using snoc_ind with
  | nil => simp [val]
  | snoc l b ih =>
    have hl : (l ++ [b]).length = l.length + 1 := by simp
    rw [hl, val_snoc, Int.pow_succ]
    have h1 := ih (fun x hx => h x (by simp [hx]))
    have h2 := h b (by simp)
    omega
theorem byt_bytesOf (s : ByteArray) : Byt (bytesOf s) := by
  intro x hx
  unfold bytesOf at hx
  obtain ⟨b, _, rfl⟩ := List.mem_map.1 hx
  have := b.toNat_lt
  omega
theorem bytesOf_strOfNums (l : List Int) (h : Byt l) : bytesOf (strOfNums l) = l := by
  unfold bytesOf
  rw [strOfNums_data, List.map_map]
  conv => rhs; rw [← List.map_id l]
  apply List.map_congr_left
  intro x hx
  have h2 := h x hx
  simp only [Function.comp_apply, id]
  rw [UInt8.toNat_ofNat']
  omega
theorem byt_append {a b : List Int} : Byt (a ++ b) ↔ Byt a ∧ Byt b := by
  unfold Byt
  constructor
  · intro h
    exact ⟨fun x hx => h x (by simp [hx]), fun x hx => h x (by simp [hx])⟩
  · rintro ⟨h, k⟩ x hx
    rcases List.mem_append.1 hx with hx | hx
    · exact h x hx
    · exact k x hx
theorem byt_take {a : List Int} (h : Byt a) (n : Nat) : Byt (a.take n) := fun x hx => h x (List.mem_of_mem_take hx)
theorem byt_drop {a : List Int} (h : Byt a) (n : Nat) : Byt (a.drop n) := fun x hx => h x (List.mem_of_mem_drop hx)
theorem byt_text (m : M) (f : Nat) : Byt (textOf m f) := by
  unfold textOf
  split
  · exact byt_bytesOf _
  · split
    · exact byt_bytesOf _
    · intro x hx; cases hx
theorem byt_body (m : M) (fs : List Nat) : Byt (bodyB m fs) := by
  intro x hx
  unfold bodyB at hx
  obtain ⟨f, _, hf⟩ := List.mem_flatMap.1 hx
  exact byt_append.2 ⟨be_byt _ _, byt_text m f⟩ x hf
/-! reading -/
structure Cur where mk ::
  (rest : List Int) (short : Bool)
def numC (w : Nat) (most : Int) (c : Cur) : Int × Cur :=
  if c.rest.length < w then (0, ⟨c.rest, true⟩)
  else if most < val (c.rest.take w) then (0, ⟨c.rest.drop w, true⟩)
  else (val (c.rest.take w), ⟨c.rest.drop w, c.short⟩)
def textC (w : Nat) (most : Int) (c : Cur) : List Int × Cur :=
  if (numC w most c).2.short = true ∨ ((numC w most c).2.rest.length : Int) < (numC w most c).1 then ([], ⟨(numC w most c).2.rest, true⟩)
  else ((numC w most c).2.rest.take (numC w most c).1.toNat, ⟨(numC w most c).2.rest.drop (numC w most c).1.toNat, (numC w most c).2.short⟩)
def setNum (m : M) (f : Nat) (n : Int) : M :=
  match f with
  | 0 => { m with epoch := n }
  | 1 => { m with seq := n }
  | 2 => { m with version := n }
  | 3 => { m with prev := n }
  | _ => { m with code := n }
def setText (m : M) (f : Nat) (t : ByteArray) : M := if f = 5 then { m with key := t } else { m with value := t }
def readC (m : M) (f : Nat) (c : Cur) : M × Cur :=
  if f < 5 then (setNum m f (numC (wN f) (mostOf f) c).1, (numC (wN f) (mostOf f) c).2)
  else (setText m f (strOfNums (textC (wN f) (mostOf f) c).1), (textC (wN f) (mostOf f) c).2)
def parseC : List Nat → M → Cur → M × Cur
  | [], m, c => (m, c)
  | f :: fs, m, c => parseC fs (readC m f c).1 (readC m f c).2
theorem numC_ok {w : Nat} {most : Int} {c c' : Cur} {n : Int} (h : numC w most c = (n, c')) (hs : c'.short = false) (hb : Byt c.rest) :
    c.short = false ∧ c.rest = be n w ++ c'.rest ∧ 0 ≤ n ∧ n ≤ most ∧ Byt c'.rest := by
  unfold numC at h
  split at h
  · cases h; cases hs
  · split at h
    · cases h; cases hs
    · rename_i h1 h2
      cases h
      have hl : (c.rest.take w).length = w := by rw [List.length_take]; omega
      have hv := be_val (c.rest.take w) (byt_take hb w)
      rw [hl] at hv
      exact ⟨hs, by show c.rest = be (val (c.rest.take w)) w ++ c.rest.drop w; rw [hv, List.take_append_drop], val_nonneg _ (byt_take hb w), by omega, byt_drop hb w⟩
theorem numC_mk {w : Nat} {most n : Int} (t : List Int) (h0 : 0 ≤ n) (h1 : n ≤ most) (hw : n < 256 ^ w) : numC w most ⟨be n w ++ t, false⟩ = (n, ⟨t, false⟩) := by
  unfold numC
  have e1 : (be n w ++ t).take w = be n w := by rw [List.take_left' (be_length n w)]
  have e2 : (be n w ++ t).drop w = t := by rw [List.drop_left' (be_length n w)]
  simp only [e1, e2, val_be w n h0 hw]
  rw [if_neg (by simp [be_length]), if_neg (by omega)]
theorem textC_ok {w : Nat} {most : Int} {c c' : Cur} {l : List Int} (h : textC w most c = (l, c')) (hs : c'.short = false) (hb : Byt c.rest) :
    c.short = false ∧ c.rest = be l.length w ++ l ++ c'.rest ∧ (l.length : Int) ≤ most ∧ Byt l ∧ Byt c'.rest := by
  unfold textC at h
  generalize hr : numC w most c = r at h
  obtain ⟨n, c1⟩ := r
  simp only at h
  split at h
  · cases h; cases hs
  · rename_i h1
    simp only [not_or, Int.not_lt] at h1
    cases h
    have h1s : c1.short = false := hs
    obtain ⟨h2, h3, h4, h5, h6⟩ := numC_ok hr h1s hb
    have hl : (c1.rest.take n.toNat).length = n.toNat := by rw [List.length_take]; omega
    refine ⟨h2, ?_, by rw [hl]; omega, byt_take h6 _, byt_drop h6 _⟩
    have e : ((c1.rest.take n.toNat).length : Int) = n := by rw [hl]; omega
    rw [e, List.append_assoc, List.take_append_drop]
    exact h3
theorem textC_mk {w : Nat} {most : Int} (l t : List Int) (h1 : (l.length : Int) ≤ most) (hw : (l.length : Int) < 256 ^ w) : textC w most ⟨be l.length w ++ l ++ t, false⟩ = (l, ⟨t, false⟩) := by
  unfold textC
  have e := numC_mk (w := w) (most := most) (l ++ t) (n := l.length) (by omega) h1 hw
  rw [List.append_assoc, e]
  simp only
  rw [if_neg (by simp; omega)]
  simp
/-- a field of m laid into m0 -/
def copyF (m m0 : M) (f : Nat) : M := if f < 5 then setNum m0 f (numOf m f) else setText m0 f (if f = 5 then m.key else m.value)
theorem num_size (m : M) : numOf m 5 = ((bytesOf m.key).length : Int) ∧ numOf m 6 = ((bytesOf m.value).length : Int) := by
  constructor <;> rw [bytesOf_length] <;> rfl
theorem pow_most : ∀ f, f < 7 → mostOf f < 256 ^ wN f := by decide
/-- what was written is read -/
theorem read_mk (m m0 : M) (f : Nat) (t : List Int) (hf : f < 7) (h : 0 ≤ numOf m f ∧ numOf m f ≤ mostOf f) :
    readC m0 f ⟨fieldB m f ++ t, false⟩ = (copyF m m0 f, ⟨t, false⟩) := by
  have hp := pow_most f hf
  unfold readC copyF
  by_cases h5 : f < 5
  · have ht : textOf m f = [] := by unfold textOf; rw [if_neg (by omega), if_neg (by omega)]
    rw [if_pos h5, if_pos h5]
    unfold fieldB
    rw [ht, List.append_nil, numC_mk t h.1 h.2 (by omega)]
  · rw [if_neg h5, if_neg h5]
    have e : f = 5 ∨ f = 6 := by omega
    rcases e with e | e
    · subst e
      have hn := (num_size m).1
      have ht : textOf m 5 = bytesOf m.key := rfl
      unfold fieldB
      rw [ht, hn]
      rw [hn] at h
      rw [textC_mk (bytesOf m.key) t h.2 (by omega)]
      simp only [if_true]
      rw [strOfNums_bytesOf]
    · subst e
      have hn := (num_size m).2
      have ht : textOf m 6 = bytesOf m.value := rfl
      unfold fieldB
      rw [ht, hn]
      rw [hn] at h
      rw [textC_mk (bytesOf m.value) t h.2 (by omega)]
      simp only
      rw [strOfNums_bytesOf]
      rfl
theorem parse_mk (m : M) : ∀ (fs : List Nat) (m0 : M) (t : List Int), (∀ f ∈ fs, f < 7 ∧ 0 ≤ numOf m f ∧ numOf m f ≤ mostOf f) → parseC fs m0 ⟨bodyB m fs ++ t, false⟩ = (fs.foldl (copyF m) m0, ⟨t, false⟩)
  | [], m0, t, _ => rfl
  | f :: fs, m0, t, h => by
    have hf := h f (by simp)
    have e : bodyB m (f :: fs) ++ t = fieldB m f ++ (bodyB m fs ++ t) := by simp [bodyB]
    rw [e]
    show parseC fs (readC m0 f _).1 (readC m0 f _).2 = _
    rw [read_mk m m0 f _ hf.1 hf.2]
    exact parse_mk m fs _ t (fun g hg => h g (by simp [hg]))
/-- two messages that agree in a field -/
def AgreeF (m m' : M) (f : Nat) : Prop := numOf m f = numOf m' f ∧ textOf m f = textOf m' f
theorem agree_field {m m' : M} {f : Nat} (h : AgreeF m m' f) : fieldB m f = fieldB m' f := by
  unfold fieldB; rw [h.1, h.2]
theorem textOf_num (m : M) (f : Nat) (h : f < 5) : textOf m f = [] := by
  unfold textOf; rw [if_neg (by omega), if_neg (by omega)]
theorem agree_set (m0 : M) (f g : Nat) (n : Int) (h5 : f < 5) (hg : g < 7) (hne : g ≠ f) : AgreeF (setNum m0 f n) m0 g := by
  have e1 : f = 0 ∨ f = 1 ∨ f = 2 ∨ f = 3 ∨ f = 4 := by omega
  have e2 : g = 0 ∨ g = 1 ∨ g = 2 ∨ g = 3 ∨ g = 4 ∨ g = 5 ∨ g = 6 := by omega
  rcases e1 with e | e | e | e | e <;> rcases e2 with e2 | e2 | e2 | e2 | e2 | e2 | e2 <;> subst e <;> subst e2 <;> first | exact absurd rfl hne | exact ⟨rfl, rfl⟩
theorem agree_text (m0 : M) (f g : Nat) (t : ByteArray) (h5 : f = 5 ∨ f = 6) (hg : g < 7) (hne : g ≠ f) : AgreeF (setText m0 f t) m0 g := by
  have e2 : g = 0 ∨ g = 1 ∨ g = 2 ∨ g = 3 ∨ g = 4 ∨ g = 5 ∨ g = 6 := by omega
  rcases h5 with e | e <;> rcases e2 with e2 | e2 | e2 | e2 | e2 | e2 | e2 <;> subst e <;> subst e2 <;> first | exact absurd rfl hne | exact ⟨rfl, rfl⟩
theorem num_set (m0 : M) (f : Nat) (n : Int) (h5 : f < 5) : numOf (setNum m0 f n) f = n := by
  have e1 : f = 0 ∨ f = 1 ∨ f = 2 ∨ f = 3 ∨ f = 4 := by omega
  rcases e1 with e | e | e | e | e <;> subst e <;> rfl
/-- one field read is the field written -/
theorem read_ok {m0 m1 : M} {f : Nat} {c c1 : Cur} (h : readC m0 f c = (m1, c1)) (hf : f < 7) (hs : c1.short = false) (hb : Byt c.rest) :
    c.short = false ∧ c.rest = fieldB m1 f ++ c1.rest ∧ 0 ≤ numOf m1 f ∧ numOf m1 f ≤ mostOf f ∧ Byt c1.rest ∧ (∀ g, g < 7 → g ≠ f → AgreeF m1 m0 g) := by
  unfold readC at h
  by_cases h5 : f < 5
  · rw [if_pos h5] at h
    generalize hr : numC (wN f) (mostOf f) c = r at h
    obtain ⟨n, c2⟩ := r
    cases h
    obtain ⟨h1, h2, h3, h4, h6⟩ := numC_ok hr hs hb
    refine ⟨h1, ?_, by rw [num_set _ _ _ h5]; exact h3, by rw [num_set _ _ _ h5]; exact h4, h6, fun g hg hne => agree_set _ _ _ _ h5 hg hne⟩
    unfold fieldB
    rw [textOf_num _ _ h5, num_set _ _ _ h5, List.append_nil]
    exact h2
  · rw [if_neg h5] at h
    generalize hr : textC (wN f) (mostOf f) c = r at h
    obtain ⟨l, c2⟩ := r
    cases h
    obtain ⟨h1, h2, h3, h4, h6⟩ := textC_ok hr hs hb
    have e : f = 5 ∨ f = 6 := by omega
    have hsz := strOfNums_size l
    have hbl := bytesOf_strOfNums l h4
    have hn : numOf (setText m0 f (strOfNums l)) f = (l.length : Int) := by
      rcases e with e | e <;> subst e <;> (show ((strOfNums l).size : Int) = _; rw [hsz])
    have ht : textOf (setText m0 f (strOfNums l)) f = l := by
      rcases e with e | e <;> subst e <;> (show bytesOf (strOfNums l) = _; rw [hbl])
    refine ⟨h1, ?_, by rw [hn]; omega, by rw [hn]; exact h3, h6, fun g hg hne => agree_text _ _ _ _ e hg hne⟩
    unfold fieldB
    rw [ht, hn]
    exact h2
theorem AgreeF.trans {a b c : M} {f : Nat} (h : AgreeF a b f) (k : AgreeF b c f) : AgreeF a c f := ⟨h.1.trans k.1, h.2.trans k.2⟩
theorem AgreeF.symm {a b : M} {f : Nat} (h : AgreeF a b f) : AgreeF b a f := ⟨h.1.symm, h.2.symm⟩
theorem numC_byt (w : Nat) (most : Int) (c : Cur) (h : Byt c.rest) : Byt (numC w most c).2.rest := by
  unfold numC
  split
  · exact h
  · split
    · exact byt_drop h _
    · exact byt_drop h _
theorem textC_byt (w : Nat) (most : Int) (c : Cur) (h : Byt c.rest) : Byt (textC w most c).2.rest := by
  unfold textC
  split
  · exact numC_byt _ _ _ h
  · exact byt_drop (numC_byt _ _ _ h) _
theorem readC_byt (m : M) (f : Nat) (c : Cur) (h : Byt c.rest) : Byt (readC m f c).2.rest := by
  unfold readC
  split
  · exact numC_byt _ _ _ h
  · exact textC_byt _ _ _ h
/-- the same kind and head -/
def SameHead (m m' : M) : Prop := m.kind = m'.kind ∧ m.from_ = m'.from_ ∧ m.to_ = m'.to_ ∧ m.id = m'.id
theorem SameHead.trans {a b c : M} (h : SameHead a b) (k : SameHead b c) : SameHead a c := ⟨h.1.trans k.1, h.2.1.trans k.2.1, h.2.2.1.trans k.2.2.1, h.2.2.2.trans k.2.2.2⟩
theorem setNum_head (m : M) (f : Nat) (n : Int) : SameHead (setNum m f n) m := by
  unfold setNum; split <;> exact ⟨rfl, rfl, rfl, rfl⟩
theorem setText_head (m : M) (f : Nat) (t : ByteArray) : SameHead (setText m f t) m := by
  unfold setText; split <;> exact ⟨rfl, rfl, rfl, rfl⟩
theorem readC_head (m : M) (f : Nat) (c : Cur) : SameHead (readC m f c).1 m := by
  unfold readC
  split
  · exact setNum_head _ _ _
  · exact setText_head _ _ _
theorem parseC_head : ∀ (fs : List Nat) (m : M) (c : Cur), SameHead (parseC fs m c).1 m
  | [], m, c => ⟨rfl, rfl, rfl, rfl⟩
  | f :: fs, m, c => (parseC_head fs (readC m f c).1 (readC m f c).2).trans (readC_head m f c)
theorem parse_ok : ∀ (fs : List Nat) (m0 m1 : M) (c c1 : Cur), fs.Nodup → (∀ f ∈ fs, f < 7) → parseC fs m0 c = (m1, c1) → c1.short = false → Byt c.rest →
    c.short = false ∧ c.rest = bodyB m1 fs ++ c1.rest ∧ (∀ f ∈ fs, 0 ≤ numOf m1 f ∧ numOf m1 f ≤ mostOf f) ∧ Byt c1.rest ∧ (∀ g, g < 7 → g ∉ fs → AgreeF m1 m0 g)
  | [], m0, m1, c, c1, _, _, h, hs, hb => by
    cases h
    exact ⟨hs, by simp [bodyB], fun f hf => (by cases hf), hb, fun g _ _ => ⟨rfl, rfl⟩⟩
  | f :: fs, m0, m1, c, c1, hn, hf, h, hs, hb => by
    have hn' := List.nodup_cons.1 hn
    have hb2 := readC_byt m0 f c hb
    generalize hr : readC m0 f c = r at hb2
    obtain ⟨m2, c2⟩ := r
    have h' : parseC fs m2 c2 = (m1, c1) := by
      have e : parseC (f :: fs) m0 c = parseC fs (readC m0 f c).1 (readC m0 f c).2 := rfl
      rw [e, hr] at h
      exact h
    obtain ⟨h2, h3, h4, h5, h6⟩ := parse_ok fs m2 m1 c2 c1 hn'.2 (fun g hg => hf g (by simp [hg])) h' hs hb2
    obtain ⟨k1, k2, k3, k4, k5, k6⟩ := read_ok hr (hf f (by simp)) h2 hb
    have ha := h6 f (hf f (by simp)) hn'.1
    refine ⟨k1, ?_, ?_, h5, ?_⟩
    · rw [k2, h3, ← agree_field ha]
      simp [bodyB]
    · intro g hg
      rcases List.mem_cons.1 hg with e | e
      · subst e; rw [ha.1]; exact ⟨k3, k4⟩
      · exact h4 g e
    · intro g hg hng
      exact (h6 g hg (fun e => hng (by simp [e]))).trans (k6 g hg (fun e => hng (by simp [e])))
/-- messages that agree everywhere are the same -/
theorem M_ext {a b : M} (h : SameHead a b) (k : ∀ f, f < 7 → AgreeF a b f) : a = b := by
  obtain ⟨h1, h2, h3, h4⟩ := h
  have k0 := (k 0 (by decide)).1
  have k1 := (k 1 (by decide)).1
  have k2 := (k 2 (by decide)).1
  have k3 := (k 3 (by decide)).1
  have k4 := (k 4 (by decide)).1
  have k5 : bytesOf a.key = bytesOf b.key := (k 5 (by decide)).2
  have k6 : bytesOf a.value = bytesOf b.value := (k 6 (by decide)).2
  have e5 : a.key = b.key := by rw [← strOfNums_bytesOf a.key, k5, strOfNums_bytesOf]
  have e6 : a.value = b.value := by rw [← strOfNums_bytesOf a.value, k6, strOfNums_bytesOf]
  cases a; cases b
  simp only [numOf] at k0 k1 k2 k3 k4
  simp only at h1 h2 h3 h4 e5 e6
  subst h1; subst h2; subst h3; subst h4; subst k0; subst k1; subst k2; subst k3; subst k4; subst e5; subst e6
  rfl
def blankM (k f t i : Int) : M := ⟨k, f, t, i, 0, 0, 0, 0, 0, ByteArray.empty, ByteArray.empty⟩
/-- a field that a message has not -/
def Zero (m : M) (f : Nat) : Prop := numOf m f = 0 ∧ textOf m f = []
theorem zero_blank (k f t i : Int) (g : Nat) (hg : g < 7) : Zero (blankM k f t i) g := by
  have e2 : g = 0 ∨ g = 1 ∨ g = 2 ∨ g = 3 ∨ g = 4 ∨ g = 5 ∨ g = 6 := by omega
  rcases e2 with e2 | e2 | e2 | e2 | e2 | e2 | e2 <;> subst e2 <;> exact ⟨rfl, rfl⟩
theorem zero_of_num (m : M) (g : Nat) (h : numOf m g = 0) : Zero m g := by
  refine ⟨h, ?_⟩
  unfold textOf
  split
  · rename_i e; subst e
    rw [(num_size m).1] at h
    exact List.eq_nil_of_length_eq_zero (by omega)
  · split
    · rename_i e; subst e
      rw [(num_size m).2] at h
      exact List.eq_nil_of_length_eq_zero (by omega)
    · rfl
theorem need_of_mem (m : M) (f : Nat) (h : f ∈ fieldsOf m.kind.toNat) : needOf m f = mostOf f := by
  unfold needOf; rw [if_pos (by simpa using h)]
theorem need_not_mem (m : M) (f : Nat) (h : f ∉ fieldsOf m.kind.toNat) : needOf m f = 0 := by
  unfold needOf; rw [if_neg (by simpa using h)]
theorem fieldsOf_nodup : ∀ k, k < 17 → (fieldsOf k).Nodup := by decide
theorem fieldsOf_lt : ∀ k, k < 17 → ∀ f ∈ fieldsOf k, f < 7 := by decide
/-- the number of bytes of a body -/
theorem field_length (m : M) (f : Nat) : (fieldB m f).length = wN f + (textOf m f).length := by
  unfold fieldB; rw [List.length_append, be_length]
end Go.Proofs.YtnifgokjagahfaaDoor.EncPure

/- The cursor's number and text, read and size: of the frame package. -/
set_option linter.unusedVariables false
set_option linter.unusedSimpArgs false
namespace Go.Proofs.YtnifgokjagahfaaDoor.Num
open Go.RowKit Go.Proofs.YtnifgokjagahfaaDoorW.PrintWords Go.Proofs.YtnifgokjagahfaaDoorW.PrintLast Go.Proofs.YtnifgokjagahfaaDoorW.PrintMore
open Go.Proofs.YtnifgokjagahfaaDoor.Base Go.Proofs.YtnifgokjagahfaaDoor.Layouts Go.Proofs.YtnifgokjagahfaaDoor.Msg Go.Proofs.YtnifgokjagahfaaDoor.Put Go.Proofs.YtnifgokjagahfaaDoor.EncPure Go.Proofs.YtnifgokjagahfaaDoor.PFrameDecodes
theorem u64_or (a b : Int) (ha : 0 ≤ a) (ha1 : a < 72057594037927936) (hb : 0 ≤ b) (hb1 : b < 256) : Go.bits .or .u64 (IntKind.u64.wrap (a * 256)) (IntKind.u64.wrap b) = 256 * a + b := by
  obtain ⟨x, rfl⟩ : ∃ x : Nat, a = (x : Int) := ⟨a.toNat, by omega⟩
  obtain ⟨y, rfl⟩ : ∃ y : Nat, b = (y : Int) := ⟨b.toNat, by omega⟩
  have e1 : IntKind.u64.wrap ((x : Int) * 256) = ((256 * x : Nat) : Int) := by rw [IntKind.wrap_u64]; omega
  have e2 : IntKind.u64.wrap (y : Int) = ((y : Nat) : Int) := by rw [IntKind.wrap_u64]; omega
  rw [e1, e2, (bits_gen .u64 (256 * x) y (by show _ < 18446744073709551616; omega) (by show _ < 18446744073709551616; omega)).2.2]
  have h := Nat.two_pow_add_eq_or_of_lt (i := 8) (b := y) (by omega) x
  have h' : 256 * x + y = 256 * x ||| y := h
  rw [← h', IntKind.wrap_u64]
  omega
theorem take_bytes_next (r : ByteArray) (i : Nat) (h : i < r.size) : (bytesOf r).take (i + 1) = (bytesOf r).take i ++ [bt r (i : Int)] := by
  have hl : i < (bytesOf r).length := by rw [bytesOf_length]; exact h
  rw [List.take_add_one, List.getElem?_eq_getElem hl]
  congr 2
  rw [← rd_bytesOf]
  simp [rd, List.getD_eq_getElem?_getD, List.getElem?_eq_getElem hl]
theorem pow256_le (i : Nat) (h : i < 8) : (256 : Int) ^ i ≤ 72057594037927936 := by
  have : ∀ i, i < 8 → (256 : Int) ^ i ≤ 72057594037927936 := by decide
  exact this i h
theorem extract_tail (r : ByteArray) (k : Nat) (h : k ≤ r.size) : r.extract k r.size = strOfNums ((bytesOf r).drop k) := by
  have e : bytesOf (r.extract k r.size) = (bytesOf r).drop k := by
    unfold bytesOf
    rw [← List.map_drop]
    congr 1
    rw [ByteArray.data_extract, Array.toList_extract]
    rw [List.extract_eq_take_drop]
    rw [List.take_of_length_le]
    rw [List.length_drop, data_length]
    exact Nat.le_refl _
  rw [← strOfNums_bytesOf (r.extract k r.size), e]
theorem extract_head (r : ByteArray) (k : Nat) (h : k ≤ r.size) : r.extract 0 k = strOfNums ((bytesOf r).take k) := by
  have e : bytesOf (r.extract 0 k) = (bytesOf r).take k := by
    unfold bytesOf
    rw [← List.map_take]
    congr 1
    rw [ByteArray.data_extract, Array.toList_extract]
    simp [List.extract_eq_take_drop]
  rw [← strOfNums_bytesOf (r.extract 0 k), e]
theorem extract_mid (r : ByteArray) (i j : Nat) (h : i ≤ j) (h1 : j ≤ r.size) : r.extract i j = strOfNums (((bytesOf r).drop i).take (j - i)) := by
  have e : bytesOf (r.extract i j) = ((bytesOf r).drop i).take (j - i) := by
    unfold bytesOf
    rw [← List.map_drop, ← List.map_take]
    congr 1
    rw [ByteArray.data_extract, Array.toList_extract, List.extract_eq_take_drop]
  rw [← strOfNums_bytesOf (r.extract i j), e]
theorem number_l (r : ByteArray) (s : Bool) (wd : Nat) (most : Int) (hw : wd ≤ 8) (hr : wd ≤ r.size) (hm : 0 ≤ most) (hm1 : most ≤ 9007199254740992) (d : Nat) : ∀ (i k : Nat), i ≤ wd → wd - i = d → d < k →
    frame_cursor_number.l0 k wd most (val ((bytesOf r).take i)) i r s = some ((numC wd most ⟨bytesOf r, s⟩).1, strOfNums (numC wd most ⟨bytesOf r, s⟩).2.rest, (numC wd most ⟨bytesOf r, s⟩).2.short) := by
  have hby := byt_bytesOf r
  induction d with
  | zero =>
    intro i k hi hd hk
    obtain ⟨k, rfl⟩ : ∃ m, k = m + 1 := ⟨k - 1, by omega⟩
    obtain rfl : i = wd := by omega
    have h0 := val_nonneg _ (byt_take hby i)
    have e1 : IntKind.u64.wrap most = most := by rw [IntKind.wrap_u64]; omega
    have e2 : ((i : Nat) : Int).toNat = i := Int.toNat_natCast i
    simp only [frame_cursor_number.l0]
    rw [if_neg (by omega), if_pos (by omega), if_pos (by omega), e1, e2, extract_tail r i hr]
    have hlen : (⟨bytesOf r, s⟩ : Cur).rest.length = r.size := bytesOf_length r
    by_cases h : most < val ((bytesOf r).take i)
    · have e : numC i most ⟨bytesOf r, s⟩ = (0, ⟨(bytesOf r).drop i, true⟩) := by unfold numC; rw [if_neg (by omega), if_pos h]
      rw [if_pos h, e]
    · have e : numC i most ⟨bytesOf r, s⟩ = (val ((bytesOf r).take i), ⟨(bytesOf r).drop i, s⟩) := by unfold numC; rw [if_neg (by omega), if_neg h]
      have e3 : wrap64 (val ((bytesOf r).take i)) = val ((bytesOf r).take i) := w64 _ (by omega) (by omega)
      rw [if_neg h, e, e3]
  | succ d ih =>
    intro i k hi hd hk
    obtain ⟨k, rfl⟩ : ∃ m, k = m + 1 := ⟨k - 1, by omega⟩
    have hlt : i < r.size := by omega
    have hi := ih (i + 1) k (by omega) (by omega) (by omega)
    have c1 : (i : Int) < (wd : Int) := by omega
    have c2 : (0 : Int) ≤ (i : Int) := by omega
    have c3 : (i : Int) < (r.size : Int) := by omega
    have h0 := val_nonneg _ (byt_take hby i)
    have h1 := val_lt _ (byt_take hby i)
    have hl : ((bytesOf r).take i).length = i := by rw [List.length_take, bytesOf_length]; omega
    rw [hl] at h1
    have h2 := pow256_le i (by omega)
    have hb := bt_range r (i : Int)
    have e := take_bytes_next r i hlt
    have e3 : wrap64 ((i : Int) + 1) = ((i + 1 : Nat) : Int) := by rw [w64 _ (by omega) (by omega)]; omega
    have h3 : val ((bytesOf r).take i) < 72057594037927936 := Int.lt_of_lt_of_le h1 h2
    clear h1 h2
    have hv : 256 * val ((bytesOf r).take i) + bt r (i : Int) = val ((bytesOf r).take (i + 1)) := by rw [e, val_snoc]
    generalize val ((bytesOf r).take (i + 1)) = y at hv hi
    generalize val ((bytesOf r).take i) = x at hv h0 h3 ⊢
    generalize hbb : bt r (i : Int) = b at hv hb
    have ho := u64_or x b h0 h3 hb.1 (Int.lt_of_le_of_lt hb.2 (by decide))
    rw [hv, ← hbb] at ho
    simp only [frame_cursor_number.l0]
    rw [if_pos c1, if_pos c2, if_pos c3, ho, e3]
    exact hi
theorem number_f (r : ByteArray) (s : Bool) (wd : Nat) (most : Int) (hw : wd ≤ 8) (hm : 0 ≤ most) (hm1 : most ≤ 9007199254740992) :
    frame_cursor_number.f 9 r s wd most = some ((numC wd most ⟨bytesOf r, s⟩).1, strOfNums (numC wd most ⟨bytesOf r, s⟩).2.rest, (numC wd most ⟨bytesOf r, s⟩).2.short) := by
  unfold frame_cursor_number.f
  by_cases h : r.size < wd
  · rw [if_pos (by omega)]
    have e : numC wd most ⟨bytesOf r, s⟩ = (0, ⟨bytesOf r, true⟩) := by unfold numC; rw [if_pos (by rw [bytesOf_length]; exact h)]
    rw [e]
    simp only [strOfNums_bytesOf]
  · rw [if_neg (by omega)]
    exact number_l r s wd most hw (by omega) hm hm1 (wd - 0) 0 9 (by omega) rfl (by omega)
theorem numC_le (wd : Nat) (most : Int) (c : Cur) (hb : Byt c.rest) (hm : 0 ≤ most) : 0 ≤ (numC wd most c).1 ∧ (numC wd most c).1 ≤ most ∧ (numC wd most c).2.rest.length ≤ c.rest.length := by
  unfold numC
  split
  · exact ⟨Int.le_refl _, hm, Nat.le_refl _⟩
  · split
    · exact ⟨Int.le_refl _, hm, by simp⟩
    · exact ⟨val_nonneg _ (byt_take hb _), by simp only; omega, by simp⟩
theorem text_f (r : ByteArray) (s : Bool) (wd : Nat) (most : Int) (hw : wd ≤ 8) (hm : 0 ≤ most) (hm1 : most ≤ 9007199254740992) :
    frame_cursor_text.f 9 r s wd most = some (strOfNums (textC wd most ⟨bytesOf r, s⟩).1, strOfNums (textC wd most ⟨bytesOf r, s⟩).2.rest, (textC wd most ⟨bytesOf r, s⟩).2.short) := by
  have hb : Byt (⟨bytesOf r, s⟩ : Cur).rest := byt_bytesOf r
  have h1 := numC_le wd most ⟨bytesOf r, s⟩ hb hm
  have h2 := numC_byt wd most ⟨bytesOf r, s⟩ hb
  unfold frame_cursor_text.f
  rw [number_f r s wd most hw hm hm1]
  simp only [Option.bind_some]
  have ht : textC wd most ⟨bytesOf r, s⟩ = (if (numC wd most ⟨bytesOf r, s⟩).2.short = true ∨ ((numC wd most ⟨bytesOf r, s⟩).2.rest.length : Int) < (numC wd most ⟨bytesOf r, s⟩).1 then ([], ⟨(numC wd most ⟨bytesOf r, s⟩).2.rest, true⟩)
    else ((numC wd most ⟨bytesOf r, s⟩).2.rest.take (numC wd most ⟨bytesOf r, s⟩).1.toNat, ⟨(numC wd most ⟨bytesOf r, s⟩).2.rest.drop (numC wd most ⟨bytesOf r, s⟩).1.toNat, (numC wd most ⟨bytesOf r, s⟩).2.short⟩)) := rfl
  generalize textC wd most ⟨bytesOf r, s⟩ = y at ht ⊢
  generalize numC wd most ⟨bytesOf r, s⟩ = x at h1 h2 ht ⊢
  obtain ⟨n, c⟩ := x
  simp only at h1 h2 ht ⊢
  rw [strOfNums_size]
  by_cases hs : c.short = true
  · rw [if_pos (.inl hs)] at ht
    rw [if_pos hs, ht]
    rfl
  · by_cases hn : n > (c.rest.length : Int)
    · rw [if_pos (.inr hn)] at ht
      rw [if_neg hs, if_pos hn, ht]
      rfl
    · rw [if_neg (by simp only [not_or]; exact ⟨hs, hn⟩)] at ht
      have hsz : n.toNat ≤ (strOfNums c.rest).size := by rw [strOfNums_size]; omega
      have ht2 := extract_tail (strOfNums c.rest) n.toNat hsz
      rw [strOfNums_size] at ht2
      rw [if_neg hs, if_neg hn, if_pos h1.1, if_pos (by omega), ht, extract_head _ _ hsz, ht2, bytesOf_strOfNums _ h2]
def CBox (w0 w : World) (g : Nat) (c : Cur) : Prop := IsS95 w0 w g (strOfNums c.rest) c.short
theorem number_any (g : Nat) (c : Cur) (wd : Nat) (most : Int) (w0 w : World) (hI : CBox w0 w g c) (hB : Below w0.heap.size w0 w) (hb : Byt c.rest) (hw : wd ≤ 8) (hm : 0 ≤ most) (hm1 : most ≤ 9007199254740992) :
    Calls Tryd.prog 45 #[.pointer (some ⟨g, 0, none⟩), .int .i64 (wd : Int), .int .i64 most] w fun e w' => e = .returned (.int .i64 (numC wd most c).1) ∧ CBox w0 w' g (numC wd most c).2 ∧ Below w0.heap.size w0 w' ∧ KeepBut w w' g none := by
  refine frame_cursor_number.calls 9 g _ _ wd most _ _ _ w0 w hI hB ?_
  rw [number_f _ _ wd most hw hm hm1, bytesOf_strOfNums _ hb]
theorem text_any (g : Nat) (c : Cur) (wd : Nat) (most : Int) (w0 w : World) (hI : CBox w0 w g c) (hB : Below w0.heap.size w0 w) (hb : Byt c.rest) (hw : wd ≤ 8) (hm : 0 ≤ most) (hm1 : most ≤ 9007199254740992) :
    Calls Tryd.prog 72 #[.pointer (some ⟨g, 0, none⟩), .int .i64 (wd : Int), .int .i64 most] w fun e w' => e = .returned (.string (strOfNums (textC wd most c).1)) ∧ CBox w0 w' g (textC wd most c).2 ∧ Below w0.heap.size w0 w' ∧ KeepBut w w' g none := by
  refine frame_cursor_text.calls 9 g _ _ wd most _ _ _ w0 w hI hB ?_
  rw [text_f _ _ wd most hw hm hm1, bytesOf_strOfNums _ hb]
end Go.Proofs.YtnifgokjagahfaaDoor.Num

/- read and size of the frame package. -/
set_option linter.unusedVariables false
set_option linter.unusedSimpArgs false
namespace Go.Proofs.YtnifgokjagahfaaDoor.Num
open Go.RowKit Go.Proofs.YtnifgokjagahfaaDoorW.PrintWords Go.Proofs.YtnifgokjagahfaaDoorW.PrintLast Go.Proofs.YtnifgokjagahfaaDoorW.PrintMore
open Go.Proofs.YtnifgokjagahfaaDoor.Base Go.Proofs.YtnifgokjagahfaaDoor.Layouts Go.Proofs.YtnifgokjagahfaaDoor.Msg Go.Proofs.YtnifgokjagahfaaDoor.Put Go.Proofs.YtnifgokjagahfaaDoor.EncPure Go.Proofs.YtnifgokjagahfaaDoor.PFrameDecodes
/-- all but two blocks are as they were -/
def Kept2 (w w' : World) (a b : Nat) : Prop := w.heap.size ≤ w'.heap.size ∧ ∀ i, i < w.heap.size → i ≠ a → i ≠ b → w'.heap[i]? = w.heap[i]?
theorem Kept2.refl (w : World) (a b : Nat) : Kept2 w w a b := ⟨Nat.le_refl _, fun _ _ _ _ => rfl⟩
theorem Kept2.trans {w w1 w2 : World} {a b : Nat} (h : Kept2 w w1 a b) (k : Kept2 w1 w2 a b) : Kept2 w w2 a b :=
  ⟨Nat.le_trans h.1 k.1, fun i hi ha hb => (k.2 i (Nat.lt_of_lt_of_le hi h.1) ha hb).trans (h.2 i hi ha hb)⟩
theorem Kept2.of_but {w w1 : World} {a b : Nat} (h : KeepBut w w1 b none) : Kept2 w w1 a b := ⟨h.1, fun i hi ha hb => h.2 i hi hb (by simp)⟩
theorem Kept2.set {w w1 : World} {a b : Nat} (h : Kept2 w w1 a b) (i : Nat) (v : Value) : Kept2 w (w1.setCell ⟨a, i, none⟩ v) a b :=
  ⟨by simpa using h.1, fun j hj ha hb => (Below.heap_setCell w1 ⟨a, i, none⟩ v j (by simpa using ha)).trans (h.2 j hj ha hb)⟩
theorem mbox_num {w : World} {g : Nat} {m : M} (h : MBox w g m) (f : Nat) (hf : f < 5) (n : Int) : MBox (w.setCell ⟨g, 4 + f, none⟩ (.int .i64 n)) g (setNum m f n) := by
  have e1 : f = 0 ∨ f = 1 ∨ f = 2 ∨ f = 3 ∨ f = 4 := by omega
  have hl : g < (w.setCell ⟨g, 4 + f, none⟩ (.int .i64 n)).heap.size := by simpa using h.lt
  refine ⟨(blk_set h.row _ _).trans ?_, hl⟩
  rcases e1 with e | e | e | e | e <;> subst e <;> simp [mL, setNum]
theorem mbox_text {w : World} {g : Nat} {m : M} (h : MBox w g m) (f : Nat) (hf : f = 5 ∨ f = 6) (t : ByteArray) : MBox (w.setCell ⟨g, 4 + f, none⟩ (.string t)) g (setText m f t) := by
  have hl : g < (w.setCell ⟨g, 4 + f, none⟩ (.string t)).heap.size := by simpa using h.lt
  refine ⟨(blk_set h.row _ _).trans ?_, hl⟩
  rcases hf with e | e <;> subst e <;> simp [mL, setText]
theorem mbox_kept {w w1 : World} {g b : Nat} {m : M} (h : MBox w g m) (hk : KeepBut w w1 b none) (hne : g ≠ b) : MBox w1 g m := ⟨(hk.2 g h.lt hne (by simp)).trans h.row, Nat.lt_of_lt_of_le h.lt hk.1⟩
theorem readC_num (m : M) (f : Nat) (c : Cur) (hf : f < 5) : readC m f c = (setNum m f (numC (wN f) (mostOf f) c).1, (numC (wN f) (mostOf f) c).2) := by unfold readC; rw [if_pos hf]
theorem readC_text (m : M) (f : Nat) (c : Cur) (hf : ¬ f < 5) : readC m f c = (setText m f (strOfNums (textC (wN f) (mostOf f) c).1), (textC (wN f) (mostOf f) c).2) := by unfold readC; rw [if_neg hf]
set_option maxRecDepth 100000 in
set_option maxHeartbeats 4000000 in
theorem read_any (g1 g2 : Nat) (m : M) (c : Cur) (f : Nat) (w0 w : World) (hf : f < 7) (hM : MBox w g1 m) (hM0 : w0.heap.size ≤ g1) (hI : CBox w0 w g2 c) (hB : Below w0.heap.size w0 w) (hb : Byt c.rest) (hne : g1 ≠ g2) :
    Calls Tryd.prog 46 #[.pointer (some ⟨g1, 0, none⟩), .int .u8 (f : Nat), .pointer (some ⟨g2, 0, none⟩)] w fun e w' =>
      e = .returned (.tuple #[]) ∧ MBox w' g1 (readC m f c).1 ∧ CBox w0 w' g2 (readC m f c).2 ∧ Below w0.heap.size w0 w' ∧ Kept2 w w' g1 g2 := by
  have e : f = 0 ∨ f = 1 ∨ f = 2 ∨ f = 3 ∨ f = 4 ∨ f = 5 ∨ f = 6 := by omega
  have HR5 := fun h => Lib.hid (readC_num m f c h)
  have HR6 := fun h => Lib.hid (readC_text m f c h)
  have K8 := fun h => Lib.hid (number_any g2 c 8 9007199254740992 w0 w hI hB hb h (by decide) (by decide))
  have K2 := fun h => Lib.hid (number_any g2 c 2 65535 w0 w hI hB hb h (by decide) (by decide))
  have T2 := fun h => Lib.hid (text_any g2 c 2 255 w0 w hI hB hb h (by decide) (by decide))
  have T4 := fun h => Lib.hid (text_any g2 c 4 4096 w0 w hI hB hb h (by decide) (by decide))
  have HM := Aside0.mk hM
  have HM0 := Aside0.mk hM0
  have HNE := Aside0.mk hne
  clear hM hI hB hb hf hM0 hne
  rcases e with e | e | e | e | e | e | e <;> subst e
  · replace HR5 := HR5 (by decide)
    replace K8 := K8 (by decide)
    clear HR6 K2 T2 T4
    go_enter Tryd.func46, Tryd.ntmps46
    go_wp2_with fail
    refine K8.out.mono ?_
    rintro e w1 ⟨rfl, hI1, hB1, hK1⟩
    have HM1 := Aside0.mk (mbox_kept HM.out hK1 HNE.out)
    have hc : w1.cell? ⟨g1, 4, none⟩ = some (.int .i64 m.epoch) := HM1.out.c 4
    have hfr : w1.frozen? ⟨g1, 4, none⟩ = false := blk_frozen HM1.out.row 4
    have HI1 := Aside0.mk hI1
    have HB1 := Aside0.mk hB1
    have HK1 := Aside0.mk (Kept2.of_but (a := g1) hK1)
    clear hI1 hB1 hK1 K8
    go_wp2
    go_end0
    refine ⟨rfl, ?_, ?_, HB1.out.setCell HM0.out _, HK1.out.set _ _⟩
    · rw [HR5.out]; exact mbox_num HM1.out 0 (by decide) _
    · rw [HR5.out]; exact HI1.out.far (fun e => HNE.out e.symm) _
  · replace HR5 := HR5 (by decide)
    replace K8 := K8 (by decide)
    clear HR6 K2 T2 T4
    go_enter Tryd.func46, Tryd.ntmps46
    go_wp2_with fail
    refine K8.out.mono ?_
    rintro e w1 ⟨rfl, hI1, hB1, hK1⟩
    have HM1 := Aside0.mk (mbox_kept HM.out hK1 HNE.out)
    have hc : w1.cell? ⟨g1, 5, none⟩ = some (.int .i64 m.seq) := HM1.out.c 5
    have hfr : w1.frozen? ⟨g1, 5, none⟩ = false := blk_frozen HM1.out.row 5
    have HI1 := Aside0.mk hI1
    have HB1 := Aside0.mk hB1
    have HK1 := Aside0.mk (Kept2.of_but (a := g1) hK1)
    clear hI1 hB1 hK1 K8
    go_wp2
    go_end0
    refine ⟨rfl, ?_, ?_, HB1.out.setCell HM0.out _, HK1.out.set _ _⟩
    · rw [HR5.out]; exact mbox_num HM1.out 1 (by decide) _
    · rw [HR5.out]; exact HI1.out.far (fun e => HNE.out e.symm) _
  · replace HR5 := HR5 (by decide)
    replace K8 := K8 (by decide)
    clear HR6 K2 T2 T4
    go_enter Tryd.func46, Tryd.ntmps46
    go_wp2_with fail
    refine K8.out.mono ?_
    rintro e w1 ⟨rfl, hI1, hB1, hK1⟩
    have HM1 := Aside0.mk (mbox_kept HM.out hK1 HNE.out)
    have hc : w1.cell? ⟨g1, 6, none⟩ = some (.int .i64 m.version) := HM1.out.c 6
    have hfr : w1.frozen? ⟨g1, 6, none⟩ = false := blk_frozen HM1.out.row 6
    have HI1 := Aside0.mk hI1
    have HB1 := Aside0.mk hB1
    have HK1 := Aside0.mk (Kept2.of_but (a := g1) hK1)
    clear hI1 hB1 hK1 K8
    go_wp2
    go_end0
    refine ⟨rfl, ?_, ?_, HB1.out.setCell HM0.out _, HK1.out.set _ _⟩
    · rw [HR5.out]; exact mbox_num HM1.out 2 (by decide) _
    · rw [HR5.out]; exact HI1.out.far (fun e => HNE.out e.symm) _
  · replace HR5 := HR5 (by decide)
    replace K8 := K8 (by decide)
    clear HR6 K2 T2 T4
    go_enter Tryd.func46, Tryd.ntmps46
    go_wp2_with fail
    refine K8.out.mono ?_
    rintro e w1 ⟨rfl, hI1, hB1, hK1⟩
    have HM1 := Aside0.mk (mbox_kept HM.out hK1 HNE.out)
    have hc : w1.cell? ⟨g1, 7, none⟩ = some (.int .i64 m.prev) := HM1.out.c 7
    have hfr : w1.frozen? ⟨g1, 7, none⟩ = false := blk_frozen HM1.out.row 7
    have HI1 := Aside0.mk hI1
    have HB1 := Aside0.mk hB1
    have HK1 := Aside0.mk (Kept2.of_but (a := g1) hK1)
    clear hI1 hB1 hK1 K8
    go_wp2
    go_end0
    refine ⟨rfl, ?_, ?_, HB1.out.setCell HM0.out _, HK1.out.set _ _⟩
    · rw [HR5.out]; exact mbox_num HM1.out 3 (by decide) _
    · rw [HR5.out]; exact HI1.out.far (fun e => HNE.out e.symm) _
  · replace HR5 := HR5 (by decide)
    replace K2 := K2 (by decide)
    clear HR6 K8 T2 T4
    go_enter Tryd.func46, Tryd.ntmps46
    go_wp2_with fail
    refine K2.out.mono ?_
    rintro e w1 ⟨rfl, hI1, hB1, hK1⟩
    have HM1 := Aside0.mk (mbox_kept HM.out hK1 HNE.out)
    have hc : w1.cell? ⟨g1, 8, none⟩ = some (.int .i64 m.code) := HM1.out.c 8
    have hfr : w1.frozen? ⟨g1, 8, none⟩ = false := blk_frozen HM1.out.row 8
    have HI1 := Aside0.mk hI1
    have HB1 := Aside0.mk hB1
    have HK1 := Aside0.mk (Kept2.of_but (a := g1) hK1)
    clear hI1 hB1 hK1 K2
    go_wp2
    go_end0
    refine ⟨rfl, ?_, ?_, HB1.out.setCell HM0.out _, HK1.out.set _ _⟩
    · rw [HR5.out]; exact mbox_num HM1.out 4 (by decide) _
    · rw [HR5.out]; exact HI1.out.far (fun e => HNE.out e.symm) _
  · replace HR6 := HR6 (by decide)
    replace T2 := T2 (by decide)
    clear HR5 K8 K2 T4
    go_enter Tryd.func46, Tryd.ntmps46
    go_wp2_with fail
    refine T2.out.mono ?_
    rintro e w1 ⟨rfl, hI1, hB1, hK1⟩
    have HM1 := Aside0.mk (mbox_kept HM.out hK1 HNE.out)
    have hc : w1.cell? ⟨g1, 9, none⟩ = some (.string m.key) := HM1.out.c 9
    have hfr : w1.frozen? ⟨g1, 9, none⟩ = false := blk_frozen HM1.out.row 9
    have HI1 := Aside0.mk hI1
    have HB1 := Aside0.mk hB1
    have HK1 := Aside0.mk (Kept2.of_but (a := g1) hK1)
    clear hI1 hB1 hK1 T2
    go_wp2
    go_end0
    refine ⟨rfl, ?_, ?_, HB1.out.setCell HM0.out _, HK1.out.set _ _⟩
    · rw [HR6.out]; exact mbox_text HM1.out 5 (by decide) _
    · rw [HR6.out]; exact HI1.out.far (fun e => HNE.out e.symm) _
  · replace HR6 := HR6 (by decide)
    replace T4 := T4 (by decide)
    clear HR5 K8 K2 T2
    go_enter Tryd.func46, Tryd.ntmps46
    go_wp2_with fail
    refine T4.out.mono ?_
    rintro e w1 ⟨rfl, hI1, hB1, hK1⟩
    have HM1 := Aside0.mk (mbox_kept HM.out hK1 HNE.out)
    have hc : w1.cell? ⟨g1, 10, none⟩ = some (.string m.value) := HM1.out.c 10
    have hfr : w1.frozen? ⟨g1, 10, none⟩ = false := blk_frozen HM1.out.row 10
    have HI1 := Aside0.mk hI1
    have HB1 := Aside0.mk hB1
    have HK1 := Aside0.mk (Kept2.of_but (a := g1) hK1)
    clear hI1 hB1 hK1 T4
    go_wp2
    go_end0
    refine ⟨rfl, ?_, ?_, HB1.out.setCell HM0.out _, HK1.out.set _ _⟩
    · rw [HR6.out]; exact mbox_text HM1.out 6 (by decide) _
    · rw [HR6.out]; exact HI1.out.far (fun e => HNE.out e.symm) _
def sizeL (L : List Int) : Int := if 4383 < val ((L.drop 16).take 4) then -1 else 24 + val ((L.drop 16).take 4)
theorem numC_full {w : Nat} {most : Int} {c : Cur} (h : c.rest.length = w) (hs : c.short = false) : (numC w most c).1 = (if most < val c.rest then 0 else val c.rest) ∧ (numC w most c).2.short = decide (most < val c.rest) := by
  unfold numC
  rw [if_neg (by omega), List.take_of_length_le (by omega)]
  by_cases h1 : most < val c.rest
  · simp [h1]
  · simp [h1, hs]
set_option maxRecDepth 100000 in
set_option maxHeartbeats 4000000 in
theorem size_any (s : ByteArray) (w : World) (hs : 20 ≤ s.size) (hmx : s.size ≤ 9223372036854775807) : Calls Tryd.prog 44 #[.string s] w fun e w' => e = .returned (.int .i64 (sizeL (bytesOf s))) ∧ Below w.heap.size w w' := by
  have hbs := byt_bytesOf s
  have hL : ((bytesOf s).drop 16).take 4 = ((bytesOf s).drop 16).take (20 - 16) := rfl
  have hx := extract_mid s 16 20 (by decide) hs
  have hby : Byt (((bytesOf s).drop 16).take (20 - 16)) := byt_take (byt_drop hbs _) _
  have hlen : (((bytesOf s).drop 16).take (20 - 16)).length = 4 := by rw [List.length_take, List.length_drop, bytesOf_length]; omega
  obtain ⟨hn1, hn2⟩ := numC_full (w := 4) (most := 4383) (c := ⟨((bytesOf s).drop 16).take (20 - 16), false⟩) hlen rfl
  have hv0 := val_nonneg _ hby
  have hSZ : sizeL (bytesOf s) = if 4383 < val (((bytesOf s).drop 16).take (20 - 16)) then -1 else 24 + val (((bytesOf s).drop 16).take (20 - 16)) := rfl
  have hsl := fun wx => run_slice_string (P := Tryd.prog) (w := wx) 9 s .i64 .i64 16 20 Tryd.underlying9 (by decide) (by decide) (by omega)
  have e16 : (16 : Int).toNat = 16 := rfl
  have e20 : (20 : Int).toNat = 20 := rfl
  rw [e16, e20, hx] at hsl
  generalize ((bytesOf s).drop 16).take (20 - 16) = l at hn1 hn2 hSZ hsl hby hv0
  have HI : CBox w (w.alloc (.cells #[.string (strOfNums l), .bool false] 95)) w.heap.size ⟨l, false⟩ := IsS95.new w w (strOfNums l) false (Below.refl _ _)
  have hB := (Below.refl w.heap.size w).alloc (Nat.le_refl _) (.cells #[.string (strOfNums l), .bool false] 95)
  have K := Lib.hid (number_any w.heap.size ⟨l, false⟩ 4 4383 w _ HI hB hby (by decide) (by decide) (by decide))
  generalize numC 4 4383 ⟨l, false⟩ = r at hn1 hn2 K
  obtain ⟨n, c⟩ := r
  simp only at hn1 hn2
  have HN1 := Lib.hid hn1
  have HN2 := Lib.hid hn2
  have HSZ := Lib.hid hSZ
  have HV := Aside0.mk hv0
  clear hn1 hn2 hSZ HI hB hx hL hlen hby hbs hv0 e16 e20
  go_enter Tryd.func44, Tryd.ntmps44
  go_wp2_with fail
  refine K.out.mono ?_
  rintro e w1 ⟨rfl, hI1, hB1, hK1⟩
  have hc : w1.cell? ⟨w.heap.size, 1, none⟩ = some (.bool c.short) := cellS95_1 hI1.1
  have HB1 := Aside0.mk hB1
  clear hI1 hB1 hK1 K
  by_cases hbig : 4383 < val l
  · have h2 : c.short = true := by rw [HN2.out]; exact decide_eq_true hbig
    rw [h2] at hc
    have HBIG := Aside0.mk hbig
    clear hbig h2
    go_wp2
    go_ret
    exact ⟨by rw [HSZ.out, if_pos HBIG.out]; rfl, HB1.out⟩
  · have h2 : c.short = false := by rw [HN2.out]; exact decide_eq_false hbig
    rw [h2] at hc
    rw [if_neg hbig] at HN1
    have HN0 := HN1.out
    have hn0 : 0 ≤ n := by rw [HN0]; exact HV.out
    have hn4 : n ≤ 4383 := by rw [HN0]; omega
    have HBIG := Aside0.mk hbig
    clear hbig h2 HN0
    go_wp2
    go_ret
    exact ⟨by rw [HSZ.out, if_neg (by have := HBIG.out; omega), HN1.out]; rfl, HB1.out⟩
end Go.Proofs.YtnifgokjagahfaaDoor.Num

/- What Decode answers, as a function of the bytes; and its laws. -/
set_option linter.unusedVariables false
set_option linter.unusedSimpArgs false
namespace Go.Proofs.YtnifgokjagahfaaDoor.DecPure
open Go.RowKit Go.Proofs.YtnifgokjagahfaaDoorW.PrintWords Go.Proofs.YtnifgokjagahfaaDoorW.PrintLast Go.Proofs.YtnifgokjagahfaaDoorW.PrintMore
open Go.Proofs.YtnifgokjagahfaaDoor.Base Go.Proofs.YtnifgokjagahfaaDoor.Layouts Go.Proofs.YtnifgokjagahfaaDoor.Msg Go.Proofs.YtnifgokjagahfaaDoor.Put Go.Proofs.YtnifgokjagahfaaDoor.EncPure
def zeroM : M := blankM 0 0 0 0
/-- the four bytes at the end, of a list -/
def sumL (l : List Int) : List Int := le4 (CrcPure.crc (strOfNums l).data.toList)
theorem sumL_length (l : List Int) : (sumL l).length = 4 := rfl
theorem byt_sumL (l : List Int) : Byt (sumL l) := by
  intro x hx
  unfold sumL le4 at hx
  simp only [List.mem_cons, List.not_mem_nil, or_false] at hx
  rcases hx with h | h | h | h <;> subst h <;> omega
theorem sumS_eq (s : ByteArray) : sumS s = strOfNums (sumL (bytesOf s)) := by
  unfold sumS sumL
  rw [strOfNums_bytesOf]
/-- the whole frame -/
def whole (m : M) : List Int := frameB m ++ sumL (frameB m)
def kindL (L : List Int) : Int := L.getD 3 0
def bodyN (L : List Int) : Int := val ((L.drop 16).take 4)
def h1 (L : List Int) : Int × Cur := numC 2 65535 ⟨(L.drop 4).take 12, false⟩
def h2 (L : List Int) : Int × Cur := numC 2 65535 (h1 L).2
def h3 (L : List Int) : Int × Cur := numC 8 9007199254740992 (h2 L).2
def m0 (L : List Int) : M := blankM (kindL L) (h1 L).1 (h2 L).1 (h3 L).1
def pL (L : List Int) : M × Cur := parseC (fieldsOf (kindL L).toNat) (m0 L) ⟨(L.drop 20).take (L.length - 24), false⟩
def badL (L : List Int) : Bool := (h3 L).2.short || ((pL L).2.short || !(pL L).2.rest.isEmpty)
def decP (L : List Int) : M × Int :=
  if L.length < 24 then (zeroM, 51)
  else if L.take 3 ≠ [71, 82, 1] then (zeroM, 52)
  else if ¬ (1 ≤ kindL L ∧ kindL L < 17) then (zeroM, 53)
  else if 4383 < bodyN L ∨ 24 + bodyN L ≠ L.length then (zeroM, 54)
  else if sumL (L.take (L.length - 4)) ≠ L.drop (L.length - 4) then (zeroM, 55)
  else if badL L = true then (zeroM, 56)
  else ((pL L).1, 0)
/-! a frame's parts -/
theorem body_length_le (m : M) (h : vB m = true) (hk : 1 ≤ m.kind ∧ m.kind < 17) : (bodyB m (fieldsOf m.kind.toNat)).length ≤ 4383 := by
  obtain ⟨_, _, _, h4⟩ := vB_facts m h
  have hf : ∀ f, f < 7 → (fieldB m f).length ≤ wN f + (if f = 5 then 255 else if f = 6 then 4096 else 0) := by
    intro f hf
    rw [field_length]
    unfold textOf
    split
    · rename_i e; subst e
      have := (h4 5 (by decide)).2
      rw [(num_size m).1] at this
      have e : mostOf 5 = 255 := rfl
      rw [e] at this
      simp; omega
    · split
      · rename_i e; subst e
        have := (h4 6 (by decide)).2
        rw [(num_size m).2] at this
        have e : mostOf 6 = 4096 := rfl
        rw [e] at this
        simp; omega
      · simp
  have hs : ∀ fs : List Nat, (∀ f ∈ fs, f < 7) → (bodyB m fs).length ≤ (fs.map fun f => wN f + (if f = 5 then 255 else if f = 6 then 4096 else 0)).sum := by
    intro fs
    induction fs with
    | nil => intro _; simp [bodyB]
    | cons f fs ih =>
      intro h
      have h1 := ih (fun g hg => h g (by simp [hg]))
      have h2 := hf f (h f (by simp))
      have e : (bodyB m (f :: fs)).length = (fieldB m f).length + (bodyB m fs).length := by simp [bodyB]
      rw [e]
      simp only [List.map_cons, List.sum_cons]
      omega
  have hk' : m.kind.toNat < 17 := by omega
  refine Nat.le_trans (hs _ (fieldsOf_lt _ hk')) ?_
  have : ∀ k, k < 17 → ((fieldsOf k).map fun f => wN f + (if f = 5 then 255 else if f = 6 then 4096 else 0)).sum ≤ 4383 := by decide
  exact this _ hk'
theorem byt_head (m : M) (hk : 1 ≤ m.kind ∧ m.kind < 17) : Byt (headB m) := by
  unfold headB
  refine byt_append.2 ⟨byt_append.2 ⟨byt_append.2 ⟨?_, be_byt _ _⟩, be_byt _ _⟩, be_byt _ _⟩
  intro x hx
  simp only [List.mem_cons, List.not_mem_nil, or_false] at hx
  rcases hx with h | h | h | h <;> subst h <;> omega
theorem byt_frame (m : M) (hk : 1 ≤ m.kind ∧ m.kind < 17) : Byt (frameB m) := by
  unfold frameB
  exact byt_append.2 ⟨byt_append.2 ⟨byt_head m hk, be_byt _ _⟩, byt_body _ _⟩
theorem byt_whole (m : M) (hk : 1 ≤ m.kind ∧ m.kind < 17) : Byt (whole m) := byt_append.2 ⟨byt_frame m hk, byt_sumL _⟩
theorem frame_length (m : M) : (frameB m).length = 20 + (bodyB m (fieldsOf m.kind.toNat)).length := by
  unfold frameB
  rw [List.length_append, List.length_append, headB_length, be_length]
theorem whole_length (m : M) : (whole m).length = 24 + (bodyB m (fieldsOf m.kind.toNat)).length := by
  unfold whole
  rw [List.length_append, frame_length, sumL_length]
  omega
/-- the parts of a whole frame -/
theorem whole_parts (m : M) : whole m = [71, 82, 1, m.kind] ++ (be m.from_ 2 ++ (be m.to_ 2 ++ be m.id 8)) ++ be (bodyB m (fieldsOf m.kind.toNat)).length 4 ++ bodyB m (fieldsOf m.kind.toNat) ++ sumL (frameB m) := by
  unfold whole frameB headB
  simp only [List.append_assoc]
theorem parts_of {a b c d e : List Int} (ha : a.length = 4) (hb : b.length = 12) (hc : c.length = 4) (he : e.length = 4) {L : List Int} (hL : L = a ++ b ++ c ++ d ++ e) :
    L.take 4 = a ∧ (L.drop 4).take 12 = b ∧ (L.drop 16).take 4 = c ∧ (L.drop 20).take (L.length - 24) = d ∧ L.take (L.length - 4) = a ++ b ++ c ++ d ∧ L.drop (L.length - 4) = e ∧ L.length = 24 + d.length := by
  subst hL
  have hl : (a ++ b ++ c ++ d ++ e).length = 24 + d.length := by simp only [List.length_append]; omega
  have hl2 : (a ++ b ++ c ++ d ++ e).length - 4 = (a ++ b ++ c ++ d).length := by simp only [List.length_append]; omega
  have d4 : (a ++ b ++ c ++ d ++ e).drop 4 = b ++ c ++ d ++ e := by
    simp only [List.append_assoc]; exact List.drop_left' ha
  have d16 : (a ++ b ++ c ++ d ++ e).drop 16 = c ++ d ++ e := by
    have : a ++ b ++ c ++ d ++ e = (a ++ b) ++ (c ++ d ++ e) := by simp only [List.append_assoc]
    rw [this]; exact List.drop_left' (by rw [List.length_append]; omega)
  have d20 : (a ++ b ++ c ++ d ++ e).drop 20 = d ++ e := by
    have : a ++ b ++ c ++ d ++ e = (a ++ b ++ c) ++ (d ++ e) := by simp only [List.append_assoc]
    rw [this]; exact List.drop_left' (by simp only [List.length_append]; omega)
  refine ⟨?_, ?_, ?_, ?_, ?_, ?_, hl⟩
  · simp only [List.append_assoc]; exact List.take_left' ha
  · rw [d4]; simp only [List.append_assoc]; exact List.take_left' hb
  · rw [d16]; simp only [List.append_assoc]; exact List.take_left' hc
  · rw [d20]; exact List.take_left' (by omega)
  · rw [hl2]; exact List.take_left' rfl
  · rw [hl2]; exact List.drop_left' rfl
theorem split_parts (L : List Int) (h : 24 ≤ L.length) : L = L.take 4 ++ (L.drop 4).take 12 ++ (L.drop 16).take 4 ++ (L.drop 20).take (L.length - 24) ++ L.drop (L.length - 4) := by
  have e1 : L.drop (L.length - 4) = (L.drop 20).drop (L.length - 24) := by rw [List.drop_drop]; congr 1; omega
  have e2 : L.drop 20 = (L.drop 16).drop 4 := by rw [List.drop_drop]
  have e3 : L.drop 16 = (L.drop 4).drop 12 := by rw [List.drop_drop]
  rw [List.append_assoc, e1, List.take_append_drop, List.append_assoc, e2, List.take_append_drop, List.append_assoc, e3, List.take_append_drop, List.take_append_drop]
/-- the message's number fields ahead of the body -/
theorem heads_mk {L : List Int} {f t i : Int} (hf : 0 ≤ f ∧ f ≤ 65535) (ht : 0 ≤ t ∧ t ≤ 65535) (hi : 0 ≤ i ∧ i ≤ 9007199254740992) (h : (L.drop 4).take 12 = be f 2 ++ (be t 2 ++ be i 8)) :
    (h1 L).1 = f ∧ (h2 L).1 = t ∧ (h3 L).1 = i ∧ (h3 L).2.short = false := by
  have e1 : h1 L = (f, ⟨be t 2 ++ be i 8, false⟩) := by unfold h1; rw [h]; exact numC_mk _ hf.1 hf.2 (by omega)
  have e2 : h2 L = (t, ⟨be i 8, false⟩) := by unfold h2; rw [e1]; exact numC_mk _ ht.1 ht.2 (by omega)
  have e3 : h3 L = (i, ⟨[], false⟩) := by
    unfold h3; rw [e2]
    have := numC_mk (w := 8) (most := 9007199254740992) (n := i) [] hi.1 hi.2 (by omega)
    rw [List.append_nil] at this
    exact this
  rw [e1, e2, e3]
  exact ⟨rfl, rfl, rfl, rfl⟩
/-- what is laid over a blank message is the message -/
theorem copy_all (m : M) (h : vB m = true) (hk : 1 ≤ m.kind ∧ m.kind < 17) : (fieldsOf m.kind.toNat).foldl (copyF m) (blankM m.kind m.from_ m.to_ m.id) = m := by
  have hh : ∀ (fs : List Nat) (a : M), SameHead (fs.foldl (copyF m) a) a := by
    intro fs
    induction fs with
    | nil => intro a; exact ⟨rfl, rfl, rfl, rfl⟩
    | cons f fs ih =>
      intro a
      refine (ih _).trans ?_
      unfold copyF
      split
      · exact setNum_head _ _ _
      · exact setText_head _ _ _
  have hin : ∀ (a : M) (f : Nat), f < 7 → AgreeF (copyF m a f) m f := by
    intro a f hf
    have e : f = 0 ∨ f = 1 ∨ f = 2 ∨ f = 3 ∨ f = 4 ∨ f = 5 ∨ f = 6 := by omega
    rcases e with e | e | e | e | e | e | e <;> subst e <;> exact ⟨rfl, rfl⟩
  have hout : ∀ (a : M) (f g : Nat), f < 7 → g < 7 → g ≠ f → AgreeF (copyF m a f) a g := by
    intro a f g hf hg hne
    unfold copyF
    split
    · exact agree_set _ _ _ _ (by assumption) hg hne
    · exact agree_text _ _ _ _ (by omega) hg hne
  have ha : ∀ (fs : List Nat) (a : M), (∀ f ∈ fs, f < 7) → ∀ g, g < 7 → (g ∈ fs ∨ AgreeF a m g) → AgreeF (fs.foldl (copyF m) a) m g := by
    intro fs
    induction fs with
    | nil => intro a _ g _ h; rcases h with h | h; cases h; exact h
    | cons f fs ih =>
      intro a hfs g hg h
      refine ih (copyF m a f) (fun x hx => hfs x (by simp [hx])) g hg ?_
      by_cases e : g = f
      · subst e; exact .inr (hin a g hg)
      · rcases h with h | h
        · rcases List.mem_cons.1 h with h | h
          · exact absurd h e
          · exact .inl h
        · exact .inr ((hout a f g (hfs f (by simp)) hg e).trans h)
  have hk' : m.kind.toNat < 17 := by omega
  refine M_ext ((hh _ _).trans ⟨rfl, rfl, rfl, rfl⟩) fun g hg => ha _ _ (fieldsOf_lt _ hk') g hg ?_
  by_cases hm : g ∈ fieldsOf m.kind.toNat
  · exact .inl hm
  · refine .inr ?_
    have h4 := ((vB_iff m).1 h).2.2.2 g hg
    rw [need_not_mem m g hm] at h4
    have z1 := zero_of_num m g (by omega)
    have z2 := zero_blank m.kind m.from_ m.to_ m.id g hg
    exact ⟨z2.1.trans z1.1.symm, z2.2.trans z1.2.symm⟩
theorem kindL_of {L : List Int} {k : Int} (h : L.take 4 = [71, 82, 1, k]) : kindL L = k ∧ L.take 3 = [71, 82, 1] := by
  have e : L.take 3 = (L.take 4).take 3 := by rw [List.take_take]; rfl
  constructor
  · unfold kindL
    have hl : 3 < L.length := by
      have := congrArg List.length h
      rw [List.length_take] at this
      simp at this
      omega
    have h2 : (L.take 4)[3]? = L[3]? := by rw [List.getElem?_take]; rfl
    rw [h] at h2
    simp only [List.getD_eq_getElem?_getD, ← h2]
    rfl
  · rw [e, h]; rfl
/-- a whole frame is read back -/
theorem dec_whole (m : M) (h : vB m = true) (hk : 1 ≤ m.kind ∧ m.kind < 17) : decP (whole m) = (m, 0) := by
  obtain ⟨hf, ht, hi, h4⟩ := vB_facts m h
  have hbl := body_length_le m h hk
  obtain ⟨p1, p2, p3, p4, p5, p6, p7⟩ := parts_of (a := [71, 82, 1, m.kind]) (b := be m.from_ 2 ++ (be m.to_ 2 ++ be m.id 8)) (c := be (bodyB m (fieldsOf m.kind.toNat)).length 4) (d := bodyB m (fieldsOf m.kind.toNat)) (e := sumL (frameB m)) rfl
    (by simp only [List.length_append, be_length]) (be_length _ _) rfl (whole_parts m)
  obtain ⟨k1, k2⟩ := kindL_of p1
  obtain ⟨q1, q2, q3, q4⟩ := heads_mk hf ht hi p2
  have hb : bodyN (whole m) = ((bodyB m (fieldsOf m.kind.toNat)).length : Int) := by
    unfold bodyN; rw [p3]; exact val_be 4 _ (by omega) (by omega)
  have hk' : m.kind.toNat < 17 := by omega
  have hp : pL (whole m) = (m, ⟨[], false⟩) := by
    unfold pL m0
    rw [p4, k1, q1, q2, q3]
    have := parse_mk m (fieldsOf m.kind.toNat) (blankM m.kind m.from_ m.to_ m.id) [] (fun f hf => ⟨fieldsOf_lt _ hk' f hf, h4 f (fieldsOf_lt _ hk' f hf)⟩)
    rw [List.append_nil] at this
    rw [this, copy_all m h hk]
  unfold decP
  rw [if_neg (by omega), if_neg (by simp [k2]), if_neg (by rw [k1]; simp only [Decidable.not_not]; exact hk), if_neg (by rw [hb]; omega), if_neg ?_, if_neg ?_, hp]
  · unfold badL; rw [hp, q4]; simp
  · rw [p5, p6]
    simp only [ne_eq, Decidable.not_not]
    have e : [71, 82, 1, m.kind] ++ (be m.from_ 2 ++ (be m.to_ 2 ++ be m.id 8)) ++ be (bodyB m (fieldsOf m.kind.toNat)).length 4 ++ bodyB m (fieldsOf m.kind.toNat) = frameB m := by
      unfold frameB headB; simp only [List.append_assoc]
    rw [e]
/-- what is read is a whole frame of a valid message -/
theorem dec_ok {L : List Int} {m : M} (hb : Byt L) (h : decP L = (m, 0)) : vB m = true ∧ (1 ≤ m.kind ∧ m.kind < 17) ∧ L = whole m := by
  unfold decP at h
  split at h
  · cases h
  rename_i g1
  split at h
  · cases h
  rename_i g2
  split at h
  · cases h
  rename_i g3
  split at h
  · cases h
  rename_i g4
  split at h
  · cases h
  rename_i g5
  split at h
  · cases h
  rename_i g6
  simp only [ne_eq, Decidable.not_not] at g2 g3 g5
  simp only [not_or, Int.not_lt, ne_eq, Decidable.not_not] at g4
  have hm : (pL L).1 = m := by cases h; rfl
  have hbad : badL L = false := by simpa using g6
  unfold badL at hbad
  simp only [Bool.or_eq_false_iff, Bool.not_eq_false', List.isEmpty_iff] at hbad
  obtain ⟨b1, b2, b3⟩ := hbad
  -- the three numbers
  have hd12 : Byt ((L.drop 4).take 12) := byt_take (byt_drop hb _) _
  generalize e1 : h1 L = r1
  obtain ⟨n1, c1⟩ := r1
  generalize e2 : h2 L = r2
  obtain ⟨n2, c2⟩ := r2
  generalize e3 : h3 L = r3
  obtain ⟨n3, c3⟩ := r3
  have e2' : numC 2 65535 c1 = (n2, c2) := by have := e2; unfold h2 at this; rw [e1] at this; exact this
  have e3' : numC 8 9007199254740992 c2 = (n3, c3) := by have := e3; unfold h3 at this; rw [e2] at this; exact this
  have e1' : numC 2 65535 ⟨(L.drop 4).take 12, false⟩ = (n1, c1) := e1
  rw [e3] at b1
  have hb1 := numC_byt 2 65535 ⟨(L.drop 4).take 12, false⟩ hd12
  rw [e1'] at hb1
  have hb2 := numC_byt 2 65535 c1 hb1
  rw [e2'] at hb2
  obtain ⟨s2, r2, l2, u2, y2⟩ := numC_ok e3' b1 hb2
  obtain ⟨s1, r1, l1, u1, y1⟩ := numC_ok e2' s2 hb1
  obtain ⟨s0, r0, l0, u0, y0⟩ := numC_ok e1' s1 hd12
  have hc3 : c3.rest = [] := by
    have hl : ((L.drop 4).take 12).length = 12 := by rw [List.length_take, List.length_drop]; omega
    have r0' : (L.drop 4).take 12 = be n1 2 ++ c1.rest := r0
    rw [r0', r1, r2] at hl
    simp only [List.length_append, be_length] at hl
    exact List.eq_nil_of_length_eq_zero (by omega)
  have hk' : (kindL L).toNat < 17 := by omega
  have hm0 : m0 L = blankM (kindL L) n1 n2 n3 := by unfold m0; rw [e1, e2, e3]
  have hbody : Byt ((L.drop 20).take (L.length - 24)) := byt_take (byt_drop hb _) _
  generalize ep : pL L = rp at b2 b3 hm
  obtain ⟨mp, cp⟩ := rp
  simp only at b2 b3 hm
  subst hm
  have ep' : parseC (fieldsOf (kindL L).toNat) (m0 L) ⟨(L.drop 20).take (L.length - 24), false⟩ = (mp, cp) := ep
  obtain ⟨_, q2, q3, _, q5⟩ := parse_ok _ _ _ _ _ (fieldsOf_nodup _ hk') (fieldsOf_lt _ hk') ep' b2 hbody
  have hhd := parseC_head (fieldsOf (kindL L).toNat) (m0 L) ⟨(L.drop 20).take (L.length - 24), false⟩
  rw [ep', hm0] at hhd
  obtain ⟨k1, k2, k3, k4⟩ := hhd
  have k1 : mp.kind = kindL L := k1
  have k2 : mp.from_ = n1 := k2
  have k3 : mp.to_ = n2 := k3
  have k4 : mp.id = n3 := k4
  have q2 : (L.drop 20).take (L.length - 24) = bodyB mp (fieldsOf (kindL L).toNat) := by
    have : (L.drop 20).take (L.length - 24) = bodyB mp (fieldsOf (kindL L).toNat) ++ cp.rest := q2
    rw [this, b3, List.append_nil]
  have hv : vB mp = true := by
    refine (vB_iff mp).2 ⟨by rw [k2]; exact ⟨l0, u0⟩, by rw [k3]; exact ⟨l1, u1⟩, by rw [k4]; exact ⟨l2, u2⟩, fun f hf => ?_⟩
    by_cases hmem : f ∈ fieldsOf mp.kind.toNat
    · rw [need_of_mem mp f hmem]
      exact q3 f (by rw [← k1]; exact hmem)
    · rw [need_not_mem mp f hmem]
      have ha := q5 f hf (by rw [← k1]; exact hmem)
      rw [ha.1, hm0, (zero_blank _ _ _ _ f hf).1]
      exact ⟨Int.le_refl _, Int.le_refl _⟩
  refine ⟨hv, by rw [k1]; exact g3, ?_⟩
  have ht4 : L.take 4 = [71, 82, 1, kindL L] := by
    have hl : 3 < L.length := by omega
    have : L.take (3 + 1) = L.take 3 ++ [kindL L] := by
      rw [List.take_add_one, List.getElem?_eq_getElem hl]
      congr 1
      unfold kindL
      simp [List.getD_eq_getElem?_getD, List.getElem?_eq_getElem hl]
    rw [this, g2]; rfl
  have hN : (L.drop 16).take 4 = be (bodyB mp (fieldsOf mp.kind.toNat)).length 4 := by
    have hl : ((L.drop 16).take 4).length = 4 := by rw [List.length_take, List.length_drop]; omega
    have h5 := be_val ((L.drop 16).take 4) (byt_take (byt_drop hb _) _)
    rw [hl] at h5
    have hlen : ((bodyB mp (fieldsOf mp.kind.toNat)).length : Int) = bodyN L := by
      have := congrArg List.length q2
      rw [List.length_take, List.length_drop, k1.symm] at this
      omega
    rw [hlen]
    exact h5.symm
  have h12 : (L.drop 4).take 12 = be mp.from_ 2 ++ (be mp.to_ 2 ++ be mp.id 8) := by
    have r0' : (L.drop 4).take 12 = be n1 2 ++ c1.rest := r0
    rw [r0', r1, r2, hc3, List.append_nil, k2, k3, k4]
  have hL := split_parts L (by omega)
  have hfr : L.take (L.length - 4) = frameB mp := by
    have h20 : L.take (L.length - 4) = L.take 4 ++ (L.drop 4).take 12 ++ (L.drop 16).take 4 ++ (L.drop 20).take (L.length - 24) := by
      have := (parts_of (a := L.take 4) (b := (L.drop 4).take 12) (c := (L.drop 16).take 4) (d := (L.drop 20).take (L.length - 24)) (e := L.drop (L.length - 4)) (by rw [List.length_take]; omega) (by rw [List.length_take, List.length_drop]; omega)
        (by rw [List.length_take, List.length_drop]; omega) (by rw [List.length_drop]; omega) hL).2.2.2.2.1
      exact this
    rw [h20, ht4, h12, hN, q2, ← k1]
    unfold frameB headB
    simp only [List.append_assoc]
  have hsum : L.drop (L.length - 4) = sumL (frameB mp) := by rw [← g5, hfr]
  rw [← List.take_append_drop (L.length - 4) L, hsum, hfr]
  rfl
end Go.Proofs.YtnifgokjagahfaaDoor.DecPure

/- Whole structs in memory: stored, loaded, answered. -/
set_option linter.unusedVariables false
set_option linter.unusedSimpArgs false
namespace Go.Proofs.YtnifgokjagahfaaDoor.Mids
open Go.RowKit Go.Proofs.YtnifgokjagahfaaDoorW.PrintWords Go.Proofs.YtnifgokjagahfaaDoorW.PrintLast Go.Proofs.YtnifgokjagahfaaDoorW.PrintMore
open Go.Proofs.YtnifgokjagahfaaDoor.Base
theorem below_setCells {B : Nat} {w W : World} (h : Below B w W) {b : Nat} (hb : B ≤ b) : ∀ (vs : List Value) (o : Nat), Below B w (W.setCells b o vs)
  | vs, o => by
    induction vs generalizing W o with
    | nil => exact h
    | cons v r ih => exact ih (h.setCell hb v) _
theorem setCells_all {g : Nat} {t : TypeId} : ∀ (vs : List Value) (w : World) (pre old : List Value), old.length = vs.length → w.heap[g]? = some (.cells (pre ++ old).toArray t (0, 0)) → (w.setCells g pre.length vs).heap[g]? = some (.cells (pre ++ vs).toArray t (0, 0))
  | [], w, pre, old, hl, h => by
    have : old = [] := List.eq_nil_of_length_eq_zero (by simpa using hl)
    subst this
    exact h
  | v :: r, w, pre, [], hl, h => by simp at hl
  | v :: r, w, pre, o :: old, hl, h => by
    have e : (w.setCell ⟨g, pre.length, none⟩ v).heap[g]? = some (.cells ((pre ++ [v]) ++ old).toArray t (0, 0)) := by
      refine (blk_set h _ _).trans ?_
      congr 2
      apply Array.ext'
      simp
    have ih := setCells_all r (w.setCell ⟨g, pre.length, none⟩ v) (pre ++ [v]) old (by simpa using hl) e
    have e2 : (pre ++ [v]).length = pre.length + 1 := by simp
    rw [e2] at ih
    show ((w.setCell ⟨g, pre.length, none⟩ v).setCells g (pre.length + 1) r).heap[g]? = _
    rw [ih]
    simp
theorem setCells_whole {w : World} {g : Nat} {t : TypeId} {old vs : List Value} (h : w.heap[g]? = some (.cells old.toArray t (0, 0))) (hl : old.length = vs.length) : (w.setCells g 0 vs).heap[g]? = some (.cells vs.toArray t (0, 0)) := by
  have := setCells_all vs w [] old hl (by simpa using h)
  simpa using this
theorem setCells_size (g : Nat) : ∀ (vs : List Value) (o : Nat) (w : World), (w.setCells g o vs).heap.size = w.heap.size
  | [], _, _ => rfl
  | v :: r, o, w => by
    show ((w.setCell ⟨g, o, none⟩ v).setCells g (o + 1) r).heap.size = _
    rw [setCells_size g r]; simp
theorem setCells_other (g : Nat) {i : Nat} (hi : i ≠ g) : ∀ (vs : List Value) (o : Nat) (w : World), (w.setCells g o vs).heap[i]? = w.heap[i]?
  | [], _, _ => rfl
  | v :: r, o, w => by
    show ((w.setCell ⟨g, o, none⟩ v).setCells g (o + 1) r).heap[i]? = _
    rw [setCells_other g hi r]
    exact Below.heap_setCell w ⟨g, o, none⟩ v i hi
theorem blk_range {w : World} {g : Nat} {t : TypeId} {cs : List Value} (h : w.heap[g]? = some (.cells cs.toArray t (0, 0))) : w.rangeAt g 0 cs := fun j v hv => by
  rw [Nat.zero_add, blk_cell h j, List.getElem?_toArray]; exact hv
theorem blk_there {w : World} {g : Nat} {t : TypeId} {cs : List Value} (h : w.heap[g]? = some (.cells cs.toArray t (0, 0))) : w.there g 0 cs.length := fun j hj => by
  rw [Nat.zero_add, blk_cell h j, List.getElem?_toArray, List.getElem?_eq_getElem hj]
  exact ⟨rfl, blk_frozen h j⟩
theorem results_ct_mid {P : Program} {fn : Func} {p u : Tmp} {ty : TypeId} (h : fn.results = #[.cell p ty, .tmp u]) (tmps : Array Value) (w : World) (g o : Nat) (cs : List Value) (d : TypeDesc)
    (hp : tmps.getD p undef = .pointer (some ⟨g, o, none⟩)) (hg : w.rangeAt g o cs) (hu : P.underlying ty = some d) (hd : d.isRow = true) (hi : (P.info? ty).map (·.size) = some cs.length) :
    (results fn tmps).run P w = .ok (.tuple #[.agg cs.toArray, tmps.getD u undef]) w := by
  have hp' : tmps[p]?.getD undef = .pointer (some ⟨g, o, none⟩) := by simpa using hp
  simp [results, h, hp', asAddr, run_loadVar_mid w g o ty cs d hg hu hd hi]
theorem results_c_mid {P : Program} {fn : Func} {p : Tmp} {ty : TypeId} (h : fn.results = #[.cell p ty]) (tmps : Array Value) (w : World) (g o : Nat) (cs : List Value) (d : TypeDesc)
    (hp : tmps.getD p undef = .pointer (some ⟨g, o, none⟩)) (hg : w.rangeAt g o cs) (hu : P.underlying ty = some d) (hd : d.isRow = true) (hi : (P.info? ty).map (·.size) = some cs.length) :
    (results fn tmps).run P w = .ok (.agg cs.toArray) w := by
  have hp' : tmps[p]?.getD undef = .pointer (some ⟨g, o, none⟩) := by simpa using hp
  simp [results, h, hp', asAddr, run_loadVar_mid w g o ty cs d hg hu hd hi]
end Go.Proofs.YtnifgokjagahfaaDoor.Mids

/- Decode of the frame package. -/
set_option linter.unusedVariables false
set_option linter.unusedSimpArgs false
namespace Go.Proofs.YtnifgokjagahfaaDoor.Dec
open Go.RowKit Go.Proofs.YtnifgokjagahfaaDoorW.PrintWords Go.Proofs.YtnifgokjagahfaaDoorW.PrintLast Go.Proofs.YtnifgokjagahfaaDoorW.PrintMore
open Go.Proofs.YtnifgokjagahfaaDoor.Base Go.Proofs.YtnifgokjagahfaaDoor.Layouts Go.Proofs.YtnifgokjagahfaaDoor.Msg Go.Proofs.YtnifgokjagahfaaDoor.Put Go.Proofs.YtnifgokjagahfaaDoor.EncPure Go.Proofs.YtnifgokjagahfaaDoor.DecPure Go.Proofs.YtnifgokjagahfaaDoor.Num Go.Proofs.YtnifgokjagahfaaDoor.Mids
/-- what a call leaves that answers an error -/
def ErrW (k : Int) (w : World) (e : Ending) (w' : World) : Prop := e = .returned (.tuple #[.agg (mL zeroM).toArray, .int .i64 k]) ∧ Below w.heap.size w w'
theorem infoM : (Tryd.prog.info? 24).map (·.size) = some 11 := by kernel_rfl
theorem mL_length (m : M) : (mL m).length = 11 := rfl
theorem mL_one (m : M) : (mL m).toArray.all (·.oneCell') = true := all_oneCell_toArray (by simp [mL, Value.oneCell'])
/-- the message box that answers -/
theorem err_ret {W : World} {w : World} {m : M} {tmps : Array Value} {k : Int} (hp : tmps.getD 2 undef = .pointer (some ⟨w.heap.size, 0, none⟩)) (hk : tmps.getD 3 undef = .int .i64 k) (h : MBox W w.heap.size m) (hB : Below w.heap.size w W) {d : List _} (hd : d = []) :
    bodyPost Tryd.prog Tryd.f16 (fun e w' => e = .returned (.tuple #[.agg (mL m).toArray, .int .i64 k]) ∧ Below w.heap.size w w') Exit.ret ⟨tmps, d⟩ W := by
  subst hd
  refine bodyPost_ret (v := .tuple #[.agg (mL m).toArray, .int .i64 k]) ?_ rfl ⟨rfl, hB⟩
  rw [← hk]
  exact results_ct_mid rfl tmps W w.heap.size 0 (mL m) _ hp (blk_range h.row) Tryd.underlying24 rfl infoM
set_option maxRecDepth 100000 in
set_option maxHeartbeats 4000000 in
theorem dec_short (s : ByteArray) (w : World) (h : s.size < 24) : Calls Tryd.prog 16 #[.string s] w (ErrW 51 w) := by
  have h' : (s.size : Int) < 24 := by omega
  have HB := Aside0.mk ((Below.refl w.heap.size w).alloc (Nat.le_refl _) (.cells (mL zeroM).toArray 24))
  have HM : Aside0 (MBox (w.alloc (.cells (mL zeroM).toArray 24)) w.heap.size zeroM) := ⟨⟨Go.heap_alloc_new w _, by simp⟩⟩
  clear h
  go_enter Tryd.func16, Tryd.ntmps16
  go_wp2
  exact err_ret (k := 51) (m := zeroM) rfl rfl HM.out HB.out rfl
theorem str_eq (l : List Int) (h : Byt l) (k : List UInt8) : ((strOfNums l).toList == k) = decide (l = k.map fun b => (b.toNat : Int)) := by
  have e : (strOfNums l).toList = l.map fun n => UInt8.ofNat n.toNat := by rw [ByteArray.toList_eq]; exact strOfNums_data l
  have hb := bytesOf_strOfNums l h
  rw [e, Bool.eq_iff_iff, beq_iff_eq, decide_eq_true_iff]
  constructor
  · intro hk
    rw [← hb]
    unfold bytesOf
    rw [strOfNums_data, hk]
  · intro hk
    subst hk
    rw [List.map_map]
    conv => rhs; rw [← List.map_id k]
    apply List.map_congr_left
    intro b _
    simp
theorem kindL_byte (s : ByteArray) (h : 3 < s.size) : kindL (bytesOf s) = ((s[3]'h).toNat : Int) := by
  unfold kindL
  have hl : 3 < (bytesOf s).length := by rw [bytesOf_length]; exact h
  rw [List.getD_eq_getElem?_getD, List.getElem?_eq_getElem hl]
  simp [bytesOf]
  rfl
set_option maxRecDepth 100000 in
set_option maxHeartbeats 4000000 in
theorem dec_magic (s : ByteArray) (w : World) (h : 24 ≤ s.size) (hm : (bytesOf s).take 3 ≠ [71, 82, 1]) : Calls Tryd.prog 16 #[.string s] w (ErrW 52 w) := by
  have h' : ¬ (s.size : Int) < 24 := by omega
  have h3 : (3 : Int) ≤ (s.size : Int) := by omega
  have hx := extract_head s 3 (by omega)
  have hq := str_eq ((bytesOf s).take 3) (byt_take (byt_bytesOf s) 3) [71, 82, 1]
  rw [decide_eq_false (by exact hm)] at hq
  have HB := Aside0.mk ((Below.refl w.heap.size w).alloc (Nat.le_refl _) (.cells (mL zeroM).toArray 24))
  have HM : Aside0 (MBox (w.alloc (.cells (mL zeroM).toArray 24)) w.heap.size zeroM) := ⟨⟨Go.heap_alloc_new w _, by simp⟩⟩
  clear h hm
  go_enter Tryd.func16, Tryd.ntmps16
  go_wp2
  exact err_ret (k := 52) (m := zeroM) rfl rfl HM.out HB.out rfl
set_option maxRecDepth 100000 in
set_option maxHeartbeats 4000000 in
theorem dec_kind (s : ByteArray) (w : World) (h : 24 ≤ s.size) (hm : (bytesOf s).take 3 = [71, 82, 1]) (hk : ¬ (1 ≤ kindL (bytesOf s) ∧ kindL (bytesOf s) < 17)) : Calls Tryd.prog 16 #[.string s] w (ErrW 53 w) := by
  have h' : ¬ (s.size : Int) < 24 := by omega
  have h3 : (3 : Int) ≤ (s.size : Int) := by omega
  have h4 : (3 : Int) < (s.size : Int) := by omega
  have hx := extract_head s 3 (by omega)
  have hq := str_eq ((bytesOf s).take 3) (byt_take (byt_bytesOf s) 3) [71, 82, 1]
  rw [decide_eq_true (by exact hm)] at hq
  have hN3 : 3 < s.size := by omega
  rw [kindL_byte s hN3] at hk
  obtain ⟨kk, hkk⟩ : ∃ kk : Nat, (s[3]'hN3).toNat = kk := ⟨_, rfl⟩
  have hk2 : kk ≤ 255 := by have := (s[3]'hN3).toNat_lt; omega
  rw [hkk] at hk
  have HB := Aside0.mk ((Below.refl w.heap.size w).alloc (Nat.le_refl _) (.cells (mL zeroM).toArray 24))
  have HM : Aside0 (MBox (w.alloc (.cells (mL zeroM).toArray 24)) w.heap.size zeroM) := ⟨⟨Go.heap_alloc_new w _, by simp⟩⟩
  have KN := fun w => Lib.hid (known_no (kk : Int) w hk)
  clear h hm hk
  go_enter Tryd.func16, Tryd.ntmps16
  go_wp2_with fail
  refine (KN _).out.mono ?_
  rintro e w1 ⟨rfl, hb⟩
  have HM1 := Aside0.mk (HM.out.below hb (by simp))
  have HB1 := Aside0.mk (HB.out.trans (hb.mono HB.out.size))
  have hth := blk_there HM1.out.row
  clear hb HM HB
  go_wp2_with ((with_reducible refine gate_store (ty := 24) (x := .tmp 2) (y := .tmp 27) rfl ?_); refine wpList_store_mid rfl 24 (.tmp 2) (.tmp 27) rfl w.heap.size 0 (mL zeroM).toArray rfl rfl hth infoM (mL_one zeroM) ?_)
  exact err_ret (k := 53) (m := zeroM) rfl rfl ⟨setCells_whole HM1.out.row rfl, by rw [setCells_size]; exact HM1.out.lt⟩ (below_setCells HB1.out (Nat.le_refl _) _ _) rfl
theorem str_eq2 (a b : List Int) (ha : Byt a) (hb : Byt b) : ((strOfNums a).toList == (strOfNums b).toList) = decide (a = b) := by
  rw [str_eq a ha, ByteArray.toList_eq]
  have e : ((strOfNums b).data.toList.map fun b => (b.toNat : Int)) = b := bytesOf_strOfNums b hb
  rw [e]
/-- what stands at the third byte, told -/
theorem kind_yes (s : ByteArray) (h : 24 ≤ s.size) (hk : 1 ≤ kindL (bytesOf s) ∧ kindL (bytesOf s) < 17) : ∃ kk : Nat, (s[3]'(by omega)).toNat = kk ∧ kindL (bytesOf s) = (kk : Int) ∧ 1 ≤ (kk : Int) ∧ (kk : Int) < 17 := by
  have e := kindL_byte s (by omega)
  exact ⟨_, rfl, e, by rw [← e]; exact hk.1, by rw [← e]; exact hk.2⟩
set_option maxRecDepth 100000 in
set_option maxHeartbeats 4000000 in
theorem dec_length (s : ByteArray) (w : World) (h : 24 ≤ s.size) (hmx : s.size ≤ 9223372036854775807) (hm : (bytesOf s).take 3 = [71, 82, 1]) (hk : 1 ≤ kindL (bytesOf s) ∧ kindL (bytesOf s) < 17) (hz : sizeL (bytesOf s) < 0 ∨ sizeL (bytesOf s) ≠ s.size) : Calls Tryd.prog 16 #[.string s] w (ErrW 54 w) := by
  have h' : ¬ (s.size : Int) < 24 := by omega
  have h3 : (3 : Int) ≤ (s.size : Int) := by omega
  have h4 : (3 : Int) < (s.size : Int) := by omega
  have hN3 : 3 < s.size := by omega
  have hx := extract_head s 3 (by omega)
  have hq := str_eq ((bytesOf s).take 3) (byt_take (byt_bytesOf s) 3) [71, 82, 1]
  rw [decide_eq_true (by exact hm)] at hq
  obtain ⟨kk, hkk, hke, hk1, hk2⟩ := kind_yes s h hk
  have HB := Aside0.mk ((Below.refl w.heap.size w).alloc (Nat.le_refl _) (.cells (mL zeroM).toArray 24))
  have HM : Aside0 (MBox (w.alloc (.cells (mL zeroM).toArray 24)) w.heap.size zeroM) := ⟨⟨Go.heap_alloc_new w _, by simp⟩⟩
  have KN := fun w => Lib.hid (known_yes (kk : Int) w ⟨hk1, hk2⟩)
  have KS := fun w => size_any s w (by omega) hmx
  generalize sizeL (bytesOf s) = n at KS hz
  have KS' := fun w => Lib.hid (KS w)
  clear hm hk hke KS
  have hz' : n < 0 ∨ (¬ n < 0 ∧ (n != (s.size : Int)) = true) := by
    by_cases hn : n < 0
    · exact .inl hn
    · exact .inr ⟨hn, bne_iff_ne.2 (by omega)⟩
  clear hz
  rcases hz' with hn | ⟨hn, hne⟩
  all_goals
    go_enter Tryd.func16, Tryd.ntmps16
    go_wp2_with fail
    refine (KN _).out.mono ?_
    rintro e w1 ⟨rfl, hb⟩
    have HM1 := Aside0.mk (HM.out.below hb (by simp))
    have HB1 := Aside0.mk (HB.out.trans (hb.mono HB.out.size))
    clear hb
    go_wp2_with fail
    refine (KS' _).out.mono ?_
    rintro e w2 ⟨rfl, hb⟩
    have HM2 := Aside0.mk (HM1.out.below hb HM1.out.lt)
    have HB2 := Aside0.mk (HB1.out.trans (hb.mono HB1.out.size))
    clear hb
    have hth := blk_there HM2.out.row
    go_wp2_with ((with_reducible refine gate_store (ty := 24) (x := .tmp 2) (y := .tmp 38) rfl ?_); refine wpList_store_mid rfl 24 (.tmp 2) (.tmp 38) rfl w.heap.size 0 (mL zeroM).toArray rfl rfl hth infoM (mL_one zeroM) ?_)
    exact err_ret (k := 54) (m := zeroM) rfl rfl ⟨setCells_whole HM2.out.row rfl, by rw [setCells_size]; exact HM2.out.lt⟩ (below_setCells HB2.out (Nat.le_refl _) _ _) rfl
set_option maxRecDepth 100000 in
set_option maxHeartbeats 4000000 in
theorem dec_sum (s : ByteArray) (w : World) (h : 24 ≤ s.size) (hmx : s.size ≤ 9223372036854775807) (hm : (bytesOf s).take 3 = [71, 82, 1]) (hk : 1 ≤ kindL (bytesOf s) ∧ kindL (bytesOf s) < 17) (hz : sizeL (bytesOf s) = s.size) (hN : Crc.Nibs w)
    (hs : sumL ((bytesOf s).take (s.size - 4)) ≠ (bytesOf s).drop (s.size - 4)) : Calls Tryd.prog 16 #[.string s] w (ErrW 55 w) := by
  have h' : ¬ (s.size : Int) < 24 := by omega
  have hz0 := hz
  have h3 : (3 : Int) ≤ (s.size : Int) := by omega
  have h4 : (3 : Int) < (s.size : Int) := by omega
  have hN3 : 3 < s.size := by omega
  have hx := extract_head s 3 (by omega)
  have hq := str_eq ((bytesOf s).take 3) (byt_take (byt_bytesOf s) 3) [71, 82, 1]
  rw [decide_eq_true (by exact hm)] at hq
  obtain ⟨kk, hkk, hke, hk1, hk2⟩ := kind_yes s h hk
  have HB := Aside0.mk ((Below.refl w.heap.size w).alloc (Nat.le_refl _) (.cells (mL zeroM).toArray 24))
  have HM : Aside0 (MBox (w.alloc (.cells (mL zeroM).toArray 24)) w.heap.size zeroM) := ⟨⟨Go.heap_alloc_new w _, by simp⟩⟩
  have HN := Aside0.mk hN
  have KN := fun w => Lib.hid (known_yes (kk : Int) w ⟨hk1, hk2⟩)
  have KS := fun w => size_any s w (by omega) hmx
  rw [hz] at KS
  have KS' := fun w => Lib.hid (KS w)
  have hby := byt_bytesOf s
  have hq2 := str_eq2 (sumL ((bytesOf s).take (s.size - 4))) ((bytesOf s).drop (s.size - 4)) (byt_sumL _) (byt_drop hby _)
  rw [decide_eq_false (by exact hs)] at hq2
  have hS : sumS (strOfNums ((bytesOf s).take (s.size - 4))) = strOfNums (sumL ((bytesOf s).take (s.size - 4))) := by rw [sumS_eq, bytesOf_strOfNums _ (byt_take hby _)]
  have hsm : s.size ≤ 4407 := by
    have hz' := hz0
    unfold sizeL at hz'
    split at hz' <;> omega
  have KU := fun (w : World) (hN : Crc.Nibs w) => sum_any (strOfNums ((bytesOf s).take (s.size - 4))) w (by rw [strOfNums_size, List.length_take]; omega) hN
  rw [hS] at KU
  have hx1 := extract_head s (s.size - 4) (by omega)
  have hx2 := extract_tail s (s.size - 4) (by omega)
  generalize strOfNums ((bytesOf s).take (s.size - 4)) = S1 at KU hx1
  generalize strOfNums (sumL ((bytesOf s).take (s.size - 4))) = S2 at KU hq2
  generalize strOfNums ((bytesOf s).drop (s.size - 4)) = S3 at hx2 hq2
  have hw4 : (0 : Int) ≤ (s.size : Int) - 4 ∧ (s.size : Int) - 4 ≤ s.size ∧ ((s.size : Int) - 4).toNat = s.size - 4 := by omega
  obtain ⟨hw1, hw2, hw3⟩ := hw4
  have hs1 := fun wx => run_slice_string_h (P := Tryd.prog) wx 9 s Tryd.underlying9 .i64 ((s.size : Int) - 4) hw1 hw2
  have hs2 := fun wx => run_slice_string_l (P := Tryd.prog) wx 9 s Tryd.underlying9 .i64 ((s.size : Int) - 4) hw1 hw2
  rw [hw3, hx1] at hs1
  rw [hw3, hx2] at hs2
  have KU' := fun w h => Lib.hid (KU w h)
  clear hm hk hke KS hN hS hby hs hz hz0 hsm KU hx1 hx2 hw3
  go_enter Tryd.func16, Tryd.ntmps16
  go_wp2_with fail
  refine (KN _).out.mono ?_
  rintro e w1 ⟨rfl, hb⟩
  have HM1 := Aside0.mk (HM.out.below hb (by simp))
  have HB1 := Aside0.mk (HB.out.trans (hb.mono HB.out.size))
  clear hb HM HB
  go_wp2_with fail
  refine (KS' _).out.mono ?_
  rintro e w2 ⟨rfl, hb⟩
  have HM2 := Aside0.mk (HM1.out.below hb HM1.out.lt)
  have HB2 := Aside0.mk (HB1.out.trans (hb.mono HB1.out.size))
  have HN2 := Aside0.mk (HN.out.below HB2.out)
  clear hb HM1 HB1
  go_wp2_with fail
  go_region_with ((go_at_call 39; refine (KU' _ (by exact ⟨HN2.out.cell, HN2.out.lt⟩)).out.mono ?_; rintro e w3 ⟨rfl, hb⟩; have HB3 := Aside0.mk hb; clear hb))
  all_goals
    have hb3 : Below w2.heap.size w2 w3 := ⟨HB3.out.os, HB3.out.tape, HB3.out.output, HB3.out.size, HB3.out.block⟩
    have HM3 := Aside0.mk (HM2.out.below hb3 HM2.out.lt)
    have HB4 := Aside0.mk (HB2.out.trans (hb3.mono HB2.out.size))
    clear hb3 HB3 HM2 HB2 HN2 KU' KN KS'
    have hth := blk_there HM3.out.row
    go_wp2_with ((with_reducible refine gate_store (ty := 24) (x := .tmp 2) (y := .tmp 50) rfl ?_); refine wpList_store_mid rfl 24 (.tmp 2) (.tmp 50) rfl w.heap.size 0 (mL zeroM).toArray rfl rfl hth infoM (mL_one zeroM) ?_)
    exact err_ret (k := 55) (m := zeroM) rfl rfl ⟨setCells_whole HM3.out.row rfl, by rw [setCells_size]; exact HM3.out.lt⟩ (below_setCells ⟨HB4.out.os, HB4.out.tape, HB4.out.output, HB4.out.size, HB4.out.block⟩ (Nat.le_refl _) _ _) rfl
end Go.Proofs.YtnifgokjagahfaaDoor.Dec
