/- Joined texts of this claim: EncPure, DecPure, Enc, EncAny, Num -/
import Derived.Test.YtnifgokjagahfaaDoorJFBurst0
import Derived.Lib.AppendStr
import Derived.Lib.SlBytesConst
import Derived.Deep.DeepCutAuto
import Derived.Test.YtnifgokjagahfaaDoorPFrameDecodesx1
/- What Encode writes, and what Decode reads, as lists of bytes. -/
set_option linter.unusedVariables false
set_option linter.unusedSimpArgs false
namespace Go.Proofs.YtnifgokjagahfaaDoor.EncPure
open Go.RowKit Go.Proofs.YtnifgokjagahfaaDoorW.PrintWords Go.Proofs.YtnifgokjagahfaaDoorW.PrintLast Go.Proofs.YtnifgokjagahfaaDoorW.PrintMore
open Go.Proofs.YtnifgokjagahfaaDoor.Base Go.Proofs.YtnifgokjagahfaaDoor.Layouts Go.Proofs.YtnifgokjagahfaaDoor.Msg Go.Proofs.YtnifgokjagahfaaDoor.Put
def wN : Nat → Nat
  | 0 | 1 | 2 | 3 => 8
  | 4 | 5 => 2
  | _ => 4
theorem wN_eq : ∀ f, f < 7 → widthOf f = (wN f : Int) := by decide
theorem wN_range : ∀ f, f < 7 → 1 ≤ wN f ∧ wN f ≤ 8 := by decide
/-- what a field adds to the body -/
def textOf (m : M) (f : Nat) : List Int := if f = 5 then bytesOf m.key else if f = 6 then bytesOf m.value else []
def fieldB (m : M) (f : Nat) : List Int := be (numOf m f) (wN f) ++ textOf m f
def bodyB (m : M) (fs : List Nat) : List Int := fs.flatMap (fieldB m)
def headB (m : M) : List Int := [71, 82, 1, m.kind] ++ be m.from_ 2 ++ be m.to_ 2 ++ be m.id 8
theorem headB_length (m : M) : (headB m).length = 16 := by simp [headB, be, beTo]
/-- all but the four bytes at the end -/
def frameB (m : M) : List Int := headB m ++ be (bodyB m (fieldsOf m.kind.toNat)).length 4 ++ bodyB m (fieldsOf m.kind.toNat)
theorem wi_of {n k : Int} (h : wi n k = true) : 0 ≤ n ∧ n ≤ k := by
  unfold wi at h
  split at h
  · split at h
    · exact ⟨by assumption, by assumption⟩
    · cases h
  · cases h
theorem wi_mk {n k : Int} (h : 0 ≤ n ∧ n ≤ k) : wi n k = true := by
  unfold wi; rw [if_pos h.1, if_pos h.2]
theorem vTo_all (m : M) : ∀ n, vTo m n = true → ∀ f, f < n → wi (numOf m f) (needOf m f) = true := by
  intro n
  induction n with
  | zero => intro _ f hf; omega
  | succ n ih =>
    intro h f hf
    simp only [vTo, Bool.and_eq_true] at h
    by_cases e : f = n
    · subst e; exact h.2
    · exact ih h.1 f (by omega)
theorem vTo_mk (m : M) : ∀ n, (∀ f, f < n → wi (numOf m f) (needOf m f) = true) → vTo m n = true
  | 0, _ => rfl
  | n + 1, h => by
    simp only [vTo, Bool.and_eq_true]
    exact ⟨vTo_mk m n (fun f hf => h f (by omega)), h n (by omega)⟩
theorem vB_iff (m : M) : vB m = true ↔ (0 ≤ m.from_ ∧ m.from_ ≤ 65535) ∧ (0 ≤ m.to_ ∧ m.to_ ≤ 65535) ∧ (0 ≤ m.id ∧ m.id ≤ 9007199254740992) ∧ ∀ f, f < 7 → 0 ≤ numOf m f ∧ numOf m f ≤ needOf m f := by
  constructor
  · intro h
    unfold vB at h
    simp only [Bool.and_eq_true] at h
    obtain ⟨h1, h2, h3, h4⟩ := h
    exact ⟨wi_of h1, wi_of h2, wi_of h3, fun f hf => wi_of (vTo_all m 7 h4 f hf)⟩
  · rintro ⟨h1, h2, h3, h4⟩
    unfold vB
    rw [wi_mk h1, wi_mk h2, wi_mk h3, vTo_mk m 7 (fun f hf => wi_mk (h4 f hf))]
    rfl
theorem mostOf_pos : ∀ f, f < 7 → (0 : Int) ≤ mostOf f := by decide
theorem needOf_le (m : M) (f : Nat) (hf : f < 7) : needOf m f ≤ mostOf f := by
  unfold needOf
  split
  · exact Int.le_refl _
  · exact mostOf_pos f hf
theorem vB_facts (m : M) (h : vB m = true) : (0 ≤ m.from_ ∧ m.from_ ≤ 65535) ∧ (0 ≤ m.to_ ∧ m.to_ ≤ 65535) ∧ (0 ≤ m.id ∧ m.id ≤ 9007199254740992) ∧ ∀ f, f < 7 → 0 ≤ numOf m f ∧ numOf m f ≤ mostOf f := by
  obtain ⟨h1, h2, h3, h4⟩ := (vB_iff m).1 h
  exact ⟨h1, h2, h3, fun f hf => ⟨(h4 f hf).1, Int.le_trans (h4 f hf).2 (needOf_le m f hf)⟩⟩
theorem snoc_ind {P : List Int → Prop} (nil : P []) (snoc : ∀ l b, P l → P (l ++ [b])) : ∀ l, P l := by
  have h : ∀ r : List Int, P r.reverse := by
    intro r
    induction r with
    | nil => exact nil
    | cons b r ih => rw [List.reverse_cons]; exact snoc _ _ ih
  intro l
  have := h l.reverse
  rwa [List.reverse_reverse] at this
/-! numbers, the highest byte first -/
def val (l : List Int) : Int := l.foldl (fun a b => 256 * a + b) 0
def Byt (l : List Int) : Prop := ∀ x ∈ l, 0 ≤ x ∧ x < 256
theorem val_snoc (l : List Int) (b : Int) : val (l ++ [b]) = 256 * val l + b := by simp [val]
theorem beTo_succ (N : Int) (wd : Nat) : be N (wd + 1) = be (N / 256) wd ++ [N % 256] := by
  unfold be
  rw [beTo_next]
  congr 1
  · unfold beTo
    apply List.map_congr_left
    intro j hj
    have hj' : j < wd := by simpa using hj
    have e : 8 * (wd + 1 - 1 - j) = 8 + 8 * (wd - 1 - j) := by omega
    rw [e, Int.pow_add, ← Int.ediv_ediv_of_nonneg (by decide)]
    rfl
  · have e : 8 * (wd + 1 - 1 - wd) = 0 := by omega
    rw [e]
    simp
theorem val_be (wd : Nat) : ∀ (N : Int), 0 ≤ N → N < 256 ^ wd → val (be N wd) = N := by
  induction wd with
  | zero => intro N h0 h1; simp [be, beTo, val]; omega
  | succ wd ih =>
    intro N h0 h1
    rw [beTo_succ, val_snoc, ih (N / 256) (by omega) (by
      have : (256 : Int) ^ (wd + 1) = 256 ^ wd * 256 := Int.pow_succ _ _
      rw [this] at h1
      exact Int.ediv_lt_of_lt_mul (by decide) h1)]
    omega
theorem be_length (N : Int) (wd : Nat) : (be N wd).length = wd := beTo_length N wd wd
theorem be_byt (N : Int) (wd : Nat) : Byt (be N wd) := by
  intro x hx
  unfold be beTo at hx
  obtain ⟨j, _, rfl⟩ := List.mem_map.1 hx
  omega
theorem val_nonneg (l : List Int) (h : Byt l) : 0 ≤ val l := by
  induction l using snoc_ind with
  | nil => simp [val]
  | snoc l b ih =>
    rw [val_snoc]
    have h1 := ih (fun x hx => h x (by simp [hx]))
    have h2 := h b (by simp)
    omega
theorem be_val (l : List Int) (h : Byt l) : be (val l) l.length = l := by
  induction l using snoc_ind with
  | nil => simp [be, beTo]
  | snoc l b ih =>
    have h2 := h b (by simp)
    have hl : (l ++ [b]).length = l.length + 1 := by simp
    rw [hl, beTo_succ, val_snoc]
    have e1 : (256 * val l + b) / 256 = val l := by omega
    have e2 : (256 * val l + b) % 256 = b := by omega
    rw [e1, e2, ih (fun x hx => h x (by simp [hx]))]
theorem val_lt (l : List Int) (h : Byt l) : val l < 256 ^ l.length := by
  induction l using snoc_ind with
  | nil => simp [val]
  | snoc l b ih =>
    have hl : (l ++ [b]).length = l.length + 1 := by simp
    rw [hl, val_snoc, Int.pow_succ]
    have h1 := ih (fun x hx => h x (by simp [hx]))
    have h2 := h b (by simp)
    omega
theorem byt_bytesOf (s : ByteArray) : Byt (bytesOf s) := by
  intro x hx
  unfold bytesOf at hx
  obtain ⟨b, _, rfl⟩ := List.mem_map.1 hx
  have := b.toNat_lt
  omega
theorem bytesOf_strOfNums (l : List Int) (h : Byt l) : bytesOf (strOfNums l) = l := by
  unfold bytesOf
  rw [strOfNums_data, List.map_map]
  conv => rhs; rw [← List.map_id l]
  apply List.map_congr_left
  intro x hx
  have h2 := h x hx
  simp only [Function.comp_apply, id]
  rw [UInt8.toNat_ofNat']
  omega
theorem byt_append {a b : List Int} : Byt (a ++ b) ↔ Byt a ∧ Byt b := by
  unfold Byt
  constructor
  · intro h
    exact ⟨fun x hx => h x (by simp [hx]), fun x hx => h x (by simp [hx])⟩
  · rintro ⟨h, k⟩ x hx
    rcases List.mem_append.1 hx with hx | hx
    · exact h x hx
    · exact k x hx
theorem byt_take {a : List Int} (h : Byt a) (n : Nat) : Byt (a.take n) := fun x hx => h x (List.mem_of_mem_take hx)
theorem byt_drop {a : List Int} (h : Byt a) (n : Nat) : Byt (a.drop n) := fun x hx => h x (List.mem_of_mem_drop hx)
theorem byt_text (m : M) (f : Nat) : Byt (textOf m f) := by
  unfold textOf
  split
  · exact byt_bytesOf _
  · split
    · exact byt_bytesOf _
    · intro x hx; cases hx
theorem byt_body (m : M) (fs : List Nat) : Byt (bodyB m fs) := by
  intro x hx
  unfold bodyB at hx
  obtain ⟨f, _, hf⟩ := List.mem_flatMap.1 hx
  exact byt_append.2 ⟨be_byt _ _, byt_text m f⟩ x hf
/-! reading -/
structure Cur where mk ::
  (rest : List Int) (short : Bool)
def numC (w : Nat) (most : Int) (c : Cur) : Int × Cur :=
  if c.rest.length < w then (0, ⟨c.rest, true⟩)
  else if most < val (c.rest.take w) then (0, ⟨c.rest.drop w, true⟩)
  else (val (c.rest.take w), ⟨c.rest.drop w, c.short⟩)
def textC (w : Nat) (most : Int) (c : Cur) : List Int × Cur :=
  if (numC w most c).2.short = true ∨ ((numC w most c).2.rest.length : Int) < (numC w most c).1 then ([], ⟨(numC w most c).2.rest, true⟩)
  else ((numC w most c).2.rest.take (numC w most c).1.toNat, ⟨(numC w most c).2.rest.drop (numC w most c).1.toNat, (numC w most c).2.short⟩)
def setNum (m : M) (f : Nat) (n : Int) : M :=
  match f with
  | 0 => { m with epoch := n }
  | 1 => { m with seq := n }
  | 2 => { m with version := n }
  | 3 => { m with prev := n }
  | _ => { m with code := n }
def setText (m : M) (f : Nat) (t : ByteArray) : M := if f = 5 then { m with key := t } else { m with value := t }
def readC (m : M) (f : Nat) (c : Cur) : M × Cur :=
  if f < 5 then (setNum m f (numC (wN f) (mostOf f) c).1, (numC (wN f) (mostOf f) c).2)
  else (setText m f (strOfNums (textC (wN f) (mostOf f) c).1), (textC (wN f) (mostOf f) c).2)
def parseC : List Nat → M → Cur → M × Cur
  | [], m, c => (m, c)
  | f :: fs, m, c => parseC fs (readC m f c).1 (readC m f c).2
theorem numC_ok {w : Nat} {most : Int} {c c' : Cur} {n : Int} (h : numC w most c = (n, c')) (hs : c'.short = false) (hb : Byt c.rest) :
    c.short = false ∧ c.rest = be n w ++ c'.rest ∧ 0 ≤ n ∧ n ≤ most ∧ Byt c'.rest := by
  unfold numC at h
  split at h
  · cases h; cases hs
  · split at h
    · cases h; cases hs
    · rename_i h1 h2
      cases h
      have hl : (c.rest.take w).length = w := by rw [List.length_take]; omega
      have hv := be_val (c.rest.take w) (byt_take hb w)
      rw [hl] at hv
      exact ⟨hs, by show c.rest = be (val (c.rest.take w)) w ++ c.rest.drop w; rw [hv, List.take_append_drop], val_nonneg _ (byt_take hb w), by omega, byt_drop hb w⟩
theorem numC_mk {w : Nat} {most n : Int} (t : List Int) (h0 : 0 ≤ n) (h1 : n ≤ most) (hw : n < 256 ^ w) : numC w most ⟨be n w ++ t, false⟩ = (n, ⟨t, false⟩) := by
  unfold numC
  have e1 : (be n w ++ t).take w = be n w := by rw [List.take_left' (be_length n w)]
  have e2 : (be n w ++ t).drop w = t := by rw [List.drop_left' (be_length n w)]
  simp only [e1, e2, val_be w n h0 hw]
  rw [if_neg (by simp [be_length]), if_neg (by omega)]
theorem textC_ok {w : Nat} {most : Int} {c c' : Cur} {l : List Int} (h : textC w most c = (l, c')) (hs : c'.short = false) (hb : Byt c.rest) :
    c.short = false ∧ c.rest = be l.length w ++ l ++ c'.rest ∧ (l.length : Int) ≤ most ∧ Byt l ∧ Byt c'.rest := by
  unfold textC at h
  generalize hr : numC w most c = r at h
  obtain ⟨n, c1⟩ := r
  simp only at h
  split at h
  · cases h; cases hs
  · rename_i h1
    simp only [not_or, Int.not_lt] at h1
    cases h
    have h1s : c1.short = false := hs
    obtain ⟨h2, h3, h4, h5, h6⟩ := numC_ok hr h1s hb
    have hl : (c1.rest.take n.toNat).length = n.toNat := by rw [List.length_take]; omega
    refine ⟨h2, ?_, by rw [hl]; omega, byt_take h6 _, byt_drop h6 _⟩
    have e : ((c1.rest.take n.toNat).length : Int) = n := by rw [hl]; omega
    rw [e, List.append_assoc, List.take_append_drop]
    exact h3
theorem textC_mk {w : Nat} {most : Int} (l t : List Int) (h1 : (l.length : Int) ≤ most) (hw : (l.length : Int) < 256 ^ w) : textC w most ⟨be l.length w ++ l ++ t, false⟩ = (l, ⟨t, false⟩) := by
  unfold textC
  have e := numC_mk (w := w) (most := most) (l ++ t) (n := l.length) (by omega) h1 hw
  rw [List.append_assoc, e]
  simp only
  rw [if_neg (by simp; omega)]
  simp
/-- a field of m laid into m0 -/
def copyF (m m0 : M) (f : Nat) : M := if f < 5 then setNum m0 f (numOf m f) else setText m0 f (if f = 5 then m.key else m.value)
theorem num_size (m : M) : numOf m 5 = ((bytesOf m.key).length : Int) ∧ numOf m 6 = ((bytesOf m.value).length : Int) := by
  constructor <;> rw [bytesOf_length] <;> rfl
theorem pow_most : ∀ f, f < 7 → mostOf f < 256 ^ wN f := by decide
/-- what was written is read -/
theorem read_mk (m m0 : M) (f : Nat) (t : List Int) (hf : f < 7) (h : 0 ≤ numOf m f ∧ numOf m f ≤ mostOf f) :
    readC m0 f ⟨fieldB m f ++ t, false⟩ = (copyF m m0 f, ⟨t, false⟩) := by
  have hp := pow_most f hf
  unfold readC copyF
  by_cases h5 : f < 5
  · have ht : textOf m f = [] := by unfold textOf; rw [if_neg (by omega), if_neg (by omega)]
    rw [if_pos h5, if_pos h5]
    unfold fieldB
    rw [ht, List.append_nil, numC_mk t h.1 h.2 (by omega)]
  · rw [if_neg h5, if_neg h5]
    have e : f = 5 ∨ f = 6 := by omega
    rcases e with e | e
    · subst e
      have hn := (num_size m).1
      have ht : textOf m 5 = bytesOf m.key := rfl
      unfold fieldB
      rw [ht, hn]
      rw [hn] at h
      rw [textC_mk (bytesOf m.key) t h.2 (by omega)]
      simp only [if_true]
      rw [strOfNums_bytesOf]
    · subst e
      have hn := (num_size m).2
      have ht : textOf m 6 = bytesOf m.value := rfl
      unfold fieldB
      rw [ht, hn]
      rw [hn] at h
      rw [textC_mk (bytesOf m.value) t h.2 (by omega)]
      simp only
      rw [strOfNums_bytesOf]
      rfl
theorem parse_mk (m : M) : ∀ (fs : List Nat) (m0 : M) (t : List Int), (∀ f ∈ fs, f < 7 ∧ 0 ≤ numOf m f ∧ numOf m f ≤ mostOf f) → parseC fs m0 ⟨bodyB m fs ++ t, false⟩ = (fs.foldl (copyF m) m0, ⟨t, false⟩)
  | [], m0, t, _ => rfl
  | f :: fs, m0, t, h => by
    have hf := h f (by simp)
    have e : bodyB m (f :: fs) ++ t = fieldB m f ++ (bodyB m fs ++ t) := by simp [bodyB]
    rw [e]
    show parseC fs (readC m0 f _).1 (readC m0 f _).2 = _
    rw [read_mk m m0 f _ hf.1 hf.2]
    exact parse_mk m fs _ t (fun g hg => h g (by simp [hg]))
/-- two messages that agree in a field -/
def AgreeF (m m' : M) (f : Nat) : Prop := numOf m f = numOf m' f ∧ textOf m f = textOf m' f
theorem agree_field {m m' : M} {f : Nat} (h : AgreeF m m' f) : fieldB m f = fieldB m' f := by
  unfold fieldB; rw [h.1, h.2]
theorem textOf_num (m : M) (f : Nat) (h : f < 5) : textOf m f = [] := by
  unfold textOf; rw [if_neg (by omega), if_neg (by omega)]
theorem agree_set (m0 : M) (f g : Nat) (n : Int) (h5 : f < 5) (hg : g < 7) (hne : g ≠ f) : AgreeF (setNum m0 f n) m0 g := by
  have e1 : f = 0 ∨ f = 1 ∨ f = 2 ∨ f = 3 ∨ f = 4 := by omega
  have e2 : g = 0 ∨ g = 1 ∨ g = 2 ∨ g = 3 ∨ g = 4 ∨ g = 5 ∨ g = 6 := by omega
  rcases e1 with e | e | e | e | e <;> rcases e2 with e2 | e2 | e2 | e2 | e2 | e2 | e2 <;> subst e <;> subst e2 <;> first | exact absurd rfl hne | exact ⟨rfl, rfl⟩
theorem agree_text (m0 : M) (f g : Nat) (t : ByteArray) (h5 : f = 5 ∨ f = 6) (hg : g < 7) (hne : g ≠ f) : AgreeF (setText m0 f t) m0 g := by
  have e2 : g = 0 ∨ g = 1 ∨ g = 2 ∨ g = 3 ∨ g = 4 ∨ g = 5 ∨ g = 6 := by omega
  rcases h5 with e | e <;> rcases e2 with e2 | e2 | e2 | e2 | e2 | e2 | e2 <;> subst e <;> subst e2 <;> first | exact absurd rfl hne | exact ⟨rfl, rfl⟩
theorem num_set (m0 : M) (f : Nat) (n : Int) (h5 : f < 5) : numOf (setNum m0 f n) f = n := by
  have e1 : f = 0 ∨ f = 1 ∨ f = 2 ∨ f = 3 ∨ f = 4 := by omega
  rcases e1 with e | e | e | e | e <;> subst e <;> rfl
/-- one field read is the field written -/
theorem read_ok {m0 m1 : M} {f : Nat} {c c1 : Cur} (h : readC m0 f c = (m1, c1)) (hf : f < 7) (hs : c1.short = false) (hb : Byt c.rest) :
    c.short = false ∧ c.rest = fieldB m1 f ++ c1.rest ∧ 0 ≤ numOf m1 f ∧ numOf m1 f ≤ mostOf f ∧ Byt c1.rest ∧ (∀ g, g < 7 → g ≠ f → AgreeF m1 m0 g) := by
  unfold readC at h
  by_cases h5 : f < 5
  · rw [if_pos h5] at h
    generalize hr : numC (wN f) (mostOf f) c = r at h
    obtain ⟨n, c2⟩ := r
    cases h
    obtain ⟨h1, h2, h3, h4, h6⟩ := numC_ok hr hs hb
    refine ⟨h1, ?_, by rw [num_set _ _ _ h5]; exact h3, by rw [num_set _ _ _ h5]; exact h4, h6, fun g hg hne => agree_set _ _ _ _ h5 hg hne⟩
    unfold fieldB
    rw [textOf_num _ _ h5, num_set _ _ _ h5, List.append_nil]
    exact h2
  · rw [if_neg h5] at h
    generalize hr : textC (wN f) (mostOf f) c = r at h
    obtain ⟨l, c2⟩ := r
    cases h
    obtain ⟨h1, h2, h3, h4, h6⟩ := textC_ok hr hs hb
    have e : f = 5 ∨ f = 6 := by omega
    have hsz := strOfNums_size l
    have hbl := bytesOf_strOfNums l h4
    have hn : numOf (setText m0 f (strOfNums l)) f = (l.length : Int) := by
      rcases e with e | e <;> subst e <;> (show ((strOfNums l).size : Int) = _; rw [hsz])
    have ht : textOf (setText m0 f (strOfNums l)) f = l := by
      rcases e with e | e <;> subst e <;> (show bytesOf (strOfNums l) = _; rw [hbl])
    refine ⟨h1, ?_, by rw [hn]; omega, by rw [hn]; exact h3, h6, fun g hg hne => agree_text _ _ _ _ e hg hne⟩
    unfold fieldB
    rw [ht, hn]
    exact h2
theorem AgreeF.trans {a b c : M} {f : Nat} (h : AgreeF a b f) (k : AgreeF b c f) : AgreeF a c f := ⟨h.1.trans k.1, h.2.trans k.2⟩
theorem AgreeF.symm {a b : M} {f : Nat} (h : AgreeF a b f) : AgreeF b a f := ⟨h.1.symm, h.2.symm⟩
theorem numC_byt (w : Nat) (most : Int) (c : Cur) (h : Byt c.rest) : Byt (numC w most c).2.rest := by
  unfold numC
  split
  · exact h
  · split
    · exact byt_drop h _
    · exact byt_drop h _
theorem textC_byt (w : Nat) (most : Int) (c : Cur) (h : Byt c.rest) : Byt (textC w most c).2.rest := by
  unfold textC
  split
  · exact numC_byt _ _ _ h
  · exact byt_drop (numC_byt _ _ _ h) _
theorem readC_byt (m : M) (f : Nat) (c : Cur) (h : Byt c.rest) : Byt (readC m f c).2.rest := by
  unfold readC
  split
  · exact numC_byt _ _ _ h
  · exact textC_byt _ _ _ h
/-- the same kind and head -/
def SameHead (m m' : M) : Prop := m.kind = m'.kind ∧ m.from_ = m'.from_ ∧ m.to_ = m'.to_ ∧ m.id = m'.id
theorem SameHead.trans {a b c : M} (h : SameHead a b) (k : SameHead b c) : SameHead a c := ⟨h.1.trans k.1, h.2.1.trans k.2.1, h.2.2.1.trans k.2.2.1, h.2.2.2.trans k.2.2.2⟩
theorem setNum_head (m : M) (f : Nat) (n : Int) : SameHead (setNum m f n) m := by
  unfold setNum; split <;> exact ⟨rfl, rfl, rfl, rfl⟩
theorem setText_head (m : M) (f : Nat) (t : ByteArray) : SameHead (setText m f t) m := by
  unfold setText; split <;> exact ⟨rfl, rfl, rfl, rfl⟩
theorem readC_head (m : M) (f : Nat) (c : Cur) : SameHead (readC m f c).1 m := by
  unfold readC
  split
  · exact setNum_head _ _ _
  · exact setText_head _ _ _
theorem parseC_head : ∀ (fs : List Nat) (m : M) (c : Cur), SameHead (parseC fs m c).1 m
  | [], m, c => ⟨rfl, rfl, rfl, rfl⟩
  | f :: fs, m, c => (parseC_head fs (readC m f c).1 (readC m f c).2).trans (readC_head m f c)
theorem parse_ok : ∀ (fs : List Nat) (m0 m1 : M) (c c1 : Cur), fs.Nodup → (∀ f ∈ fs, f < 7) → parseC fs m0 c = (m1, c1) → c1.short = false → Byt c.rest →
    c.short = false ∧ c.rest = bodyB m1 fs ++ c1.rest ∧ (∀ f ∈ fs, 0 ≤ numOf m1 f ∧ numOf m1 f ≤ mostOf f) ∧ Byt c1.rest ∧ (∀ g, g < 7 → g ∉ fs → AgreeF m1 m0 g)
  | [], m0, m1, c, c1, _, _, h, hs, hb => by
    cases h
    exact ⟨hs, by simp [bodyB], fun f hf => (by cases hf), hb, fun g _ _ => ⟨rfl, rfl⟩⟩
  | f :: fs, m0, m1, c, c1, hn, hf, h, hs, hb => by
    have hn' := List.nodup_cons.1 hn
    have hb2 := readC_byt m0 f c hb
    generalize hr : readC m0 f c = r at hb2
    obtain ⟨m2, c2⟩ := r
    have h' : parseC fs m2 c2 = (m1, c1) := by
      have e : parseC (f :: fs) m0 c = parseC fs (readC m0 f c).1 (readC m0 f c).2 := rfl
      rw [e, hr] at h
      exact h
    obtain ⟨h2, h3, h4, h5, h6⟩ := parse_ok fs m2 m1 c2 c1 hn'.2 (fun g hg => hf g (by simp [hg])) h' hs hb2
    obtain ⟨k1, k2, k3, k4, k5, k6⟩ := read_ok hr (hf f (by simp)) h2 hb
    have ha := h6 f (hf f (by simp)) hn'.1
    refine ⟨k1, ?_, ?_, h5, ?_⟩
    · rw [k2, h3, ← agree_field ha]
      simp [bodyB]
    · intro g hg
      rcases List.mem_cons.1 hg with e | e
      · subst e; rw [ha.1]; exact ⟨k3, k4⟩
      · exact h4 g e
    · intro g hg hng
      exact (h6 g hg (fun e => hng (by simp [e]))).trans (k6 g hg (fun e => hng (by simp [e])))
/-- messages that agree everywhere are the same -/
theorem M_ext {a b : M} (h : SameHead a b) (k : ∀ f, f < 7 → AgreeF a b f) : a = b := by
  obtain ⟨h1, h2, h3, h4⟩ := h
  have k0 := (k 0 (by decide)).1
  have k1 := (k 1 (by decide)).1
  have k2 := (k 2 (by decide)).1
  have k3 := (k 3 (by decide)).1
  have k4 := (k 4 (by decide)).1
  have k5 : bytesOf a.key = bytesOf b.key := (k 5 (by decide)).2
  have k6 : bytesOf a.value = bytesOf b.value := (k 6 (by decide)).2
  have e5 : a.key = b.key := by rw [← strOfNums_bytesOf a.key, k5, strOfNums_bytesOf]
  have e6 : a.value = b.value := by rw [← strOfNums_bytesOf a.value, k6, strOfNums_bytesOf]
  cases a; cases b
  simp only [numOf] at k0 k1 k2 k3 k4
  simp only at h1 h2 h3 h4 e5 e6
  subst h1; subst h2; subst h3; subst h4; subst k0; subst k1; subst k2; subst k3; subst k4; subst e5; subst e6
  rfl
def blankM (k f t i : Int) : M := ⟨k, f, t, i, 0, 0, 0, 0, 0, ByteArray.empty, ByteArray.empty⟩
/-- a field that a message has not -/
def Zero (m : M) (f : Nat) : Prop := numOf m f = 0 ∧ textOf m f = []
theorem zero_blank (k f t i : Int) (g : Nat) (hg : g < 7) : Zero (blankM k f t i) g := by
  have e2 : g = 0 ∨ g = 1 ∨ g = 2 ∨ g = 3 ∨ g = 4 ∨ g = 5 ∨ g = 6 := by omega
  rcases e2 with e2 | e2 | e2 | e2 | e2 | e2 | e2 <;> subst e2 <;> exact ⟨rfl, rfl⟩
theorem zero_of_num (m : M) (g : Nat) (h : numOf m g = 0) : Zero m g := by
  refine ⟨h, ?_⟩
  unfold textOf
  split
  · rename_i e; subst e
    rw [(num_size m).1] at h
    exact List.eq_nil_of_length_eq_zero (by omega)
  · split
    · rename_i e; subst e
      rw [(num_size m).2] at h
      exact List.eq_nil_of_length_eq_zero (by omega)
    · rfl
theorem need_of_mem (m : M) (f : Nat) (h : f ∈ fieldsOf m.kind.toNat) : needOf m f = mostOf f := by
  unfold needOf; rw [if_pos (by simpa using h)]
theorem need_not_mem (m : M) (f : Nat) (h : f ∉ fieldsOf m.kind.toNat) : needOf m f = 0 := by
  unfold needOf; rw [if_neg (by simpa using h)]
theorem fieldsOf_nodup : ∀ k, k < 17 → (fieldsOf k).Nodup := by decide
theorem fieldsOf_lt : ∀ k, k < 17 → ∀ f ∈ fieldsOf k, f < 7 := by decide
/-- the number of bytes of a body -/
theorem field_length (m : M) (f : Nat) : (fieldB m f).length = wN f + (textOf m f).length := by
  unfold fieldB; rw [List.length_append, be_length]
end Go.Proofs.YtnifgokjagahfaaDoor.EncPure

/- What Decode answers, as a function of the bytes; and its laws. -/
set_option linter.unusedVariables false
set_option linter.unusedSimpArgs false
namespace Go.Proofs.YtnifgokjagahfaaDoor.DecPure
open Go.RowKit Go.Proofs.YtnifgokjagahfaaDoorW.PrintWords Go.Proofs.YtnifgokjagahfaaDoorW.PrintLast Go.Proofs.YtnifgokjagahfaaDoorW.PrintMore
open Go.Proofs.YtnifgokjagahfaaDoor.Base Go.Proofs.YtnifgokjagahfaaDoor.Layouts Go.Proofs.YtnifgokjagahfaaDoor.Msg Go.Proofs.YtnifgokjagahfaaDoor.Put Go.Proofs.YtnifgokjagahfaaDoor.EncPure
def zeroM : M := blankM 0 0 0 0
/-- the four bytes at the end, of a list -/
def sumL (l : List Int) : List Int := le4 (CrcPure.crc (strOfNums l).data.toList)
theorem sumL_length (l : List Int) : (sumL l).length = 4 := rfl
theorem byt_sumL (l : List Int) : Byt (sumL l) := by
  intro x hx
  unfold sumL le4 at hx
  simp only [List.mem_cons, List.not_mem_nil, or_false] at hx
  rcases hx with h | h | h | h <;> subst h <;> omega
theorem sumS_eq (s : ByteArray) : sumS s = strOfNums (sumL (bytesOf s)) := by
  unfold sumS sumL
  rw [strOfNums_bytesOf]
/-- the whole frame -/
def whole (m : M) : List Int := frameB m ++ sumL (frameB m)
def kindL (L : List Int) : Int := L.getD 3 0
def bodyN (L : List Int) : Int := val ((L.drop 16).take 4)
def h1 (L : List Int) : Int × Cur := numC 2 65535 ⟨(L.drop 4).take 12, false⟩
def h2 (L : List Int) : Int × Cur := numC 2 65535 (h1 L).2
def h3 (L : List Int) : Int × Cur := numC 8 9007199254740992 (h2 L).2
def m0 (L : List Int) : M := blankM (kindL L) (h1 L).1 (h2 L).1 (h3 L).1
def pL (L : List Int) : M × Cur := parseC (fieldsOf (kindL L).toNat) (m0 L) ⟨(L.drop 20).take (L.length - 24), false⟩
def badL (L : List Int) : Bool := (h3 L).2.short || ((pL L).2.short || !(pL L).2.rest.isEmpty)
def decP (L : List Int) : M × Int :=
  if L.length < 24 then (zeroM, 51)
  else if L.take 3 ≠ [71, 82, 1] then (zeroM, 52)
  else if ¬ (1 ≤ kindL L ∧ kindL L < 17) then (zeroM, 53)
  else if 4383 < bodyN L ∨ 24 + bodyN L ≠ L.length then (zeroM, 54)
  else if sumL (L.take (L.length - 4)) ≠ L.drop (L.length - 4) then (zeroM, 55)
  else if badL L = true then (zeroM, 56)
  else ((pL L).1, 0)
/-! a frame's parts -/
theorem body_length_le (m : M) (h : vB m = true) (hk : 1 ≤ m.kind ∧ m.kind < 17) : (bodyB m (fieldsOf m.kind.toNat)).length ≤ 4383 := by
  obtain ⟨_, _, _, h4⟩ := vB_facts m h
  have hf : ∀ f, f < 7 → (fieldB m f).length ≤ wN f + (if f = 5 then 255 else if f = 6 then 4096 else 0) := by
    intro f hf
    rw [field_length]
    unfold textOf
    split
    · rename_i e; subst e
      have := (h4 5 (by decide)).2
      rw [(num_size m).1] at this
      have e : mostOf 5 = 255 := rfl
      rw [e] at this
      simp; omega
    · split
      · rename_i e; subst e
        have := (h4 6 (by decide)).2
        rw [(num_size m).2] at this
        have e : mostOf 6 = 4096 := rfl
        rw [e] at this
        simp; omega
      · simp
  have hs : ∀ fs : List Nat, (∀ f ∈ fs, f < 7) → (bodyB m fs).length ≤ (fs.map fun f => wN f + (if f = 5 then 255 else if f = 6 then 4096 else 0)).sum := by
    intro fs
    induction fs with
    | nil => intro _; simp [bodyB]
    | cons f fs ih =>
      intro h
      have h1 := ih (fun g hg => h g (by simp [hg]))
      have h2 := hf f (h f (by simp))
      have e : (bodyB m (f :: fs)).length = (fieldB m f).length + (bodyB m fs).length := by simp [bodyB]
      rw [e]
      simp only [List.map_cons, List.sum_cons]
      omega
  have hk' : m.kind.toNat < 17 := by omega
  refine Nat.le_trans (hs _ (fieldsOf_lt _ hk')) ?_
  have : ∀ k, k < 17 → ((fieldsOf k).map fun f => wN f + (if f = 5 then 255 else if f = 6 then 4096 else 0)).sum ≤ 4383 := by decide
  exact this _ hk'
theorem byt_head (m : M) (hk : 1 ≤ m.kind ∧ m.kind < 17) : Byt (headB m) := by
  unfold headB
  refine byt_append.2 ⟨byt_append.2 ⟨byt_append.2 ⟨?_, be_byt _ _⟩, be_byt _ _⟩, be_byt _ _⟩
  intro x hx
  simp only [List.mem_cons, List.not_mem_nil, or_false] at hx
  rcases hx with h | h | h | h <;> subst h <;> omega
theorem byt_frame (m : M) (hk : 1 ≤ m.kind ∧ m.kind < 17) : Byt (frameB m) := by
  unfold frameB
  exact byt_append.2 ⟨byt_append.2 ⟨byt_head m hk, be_byt _ _⟩, byt_body _ _⟩
theorem byt_whole (m : M) (hk : 1 ≤ m.kind ∧ m.kind < 17) : Byt (whole m) := byt_append.2 ⟨byt_frame m hk, byt_sumL _⟩
theorem frame_length (m : M) : (frameB m).length = 20 + (bodyB m (fieldsOf m.kind.toNat)).length := by
  unfold frameB
  rw [List.length_append, List.length_append, headB_length, be_length]
theorem whole_length (m : M) : (whole m).length = 24 + (bodyB m (fieldsOf m.kind.toNat)).length := by
  unfold whole
  rw [List.length_append, frame_length, sumL_length]
  omega
/-- the parts of a whole frame -/
theorem whole_parts (m : M) : whole m = [71, 82, 1, m.kind] ++ (be m.from_ 2 ++ (be m.to_ 2 ++ be m.id 8)) ++ be (bodyB m (fieldsOf m.kind.toNat)).length 4 ++ bodyB m (fieldsOf m.kind.toNat) ++ sumL (frameB m) := by
  unfold whole frameB headB
  simp only [List.append_assoc]
theorem parts_of {a b c d e : List Int} (ha : a.length = 4) (hb : b.length = 12) (hc : c.length = 4) (he : e.length = 4) {L : List Int} (hL : L = a ++ b ++ c ++ d ++ e) :
    L.take 4 = a ∧ (L.drop 4).take 12 = b ∧ (L.drop 16).take 4 = c ∧ (L.drop 20).take (L.length - 24) = d ∧ L.take (L.length - 4) = a ++ b ++ c ++ d ∧ L.drop (L.length - 4) = e ∧ L.length = 24 + d.length := by
  subst hL
  have hl : (a ++ b ++ c ++ d ++ e).length = 24 + d.length := by simp only [List.length_append]; omega
  have hl2 : (a ++ b ++ c ++ d ++ e).length - 4 = (a ++ b ++ c ++ d).length := by simp only [List.length_append]; omega
  have d4 : (a ++ b ++ c ++ d ++ e).drop 4 = b ++ c ++ d ++ e := by
    simp only [List.append_assoc]; exact List.drop_left' ha
  have d16 : (a ++ b ++ c ++ d ++ e).drop 16 = c ++ d ++ e := by
    have : a ++ b ++ c ++ d ++ e = (a ++ b) ++ (c ++ d ++ e) := by simp only [List.append_assoc]
    rw [this]; exact List.drop_left' (by rw [List.length_append]; omega)
  have d20 : (a ++ b ++ c ++ d ++ e).drop 20 = d ++ e := by
    have : a ++ b ++ c ++ d ++ e = (a ++ b ++ c) ++ (d ++ e) := by simp only [List.append_assoc]
    rw [this]; exact List.drop_left' (by simp only [List.length_append]; omega)
  refine ⟨?_, ?_, ?_, ?_, ?_, ?_, hl⟩
  · simp only [List.append_assoc]; exact List.take_left' ha
  · rw [d4]; simp only [List.append_assoc]; exact List.take_left' hb
  · rw [d16]; simp only [List.append_assoc]; exact List.take_left' hc
  · rw [d20]; exact List.take_left' (by omega)
  · rw [hl2]; exact List.take_left' rfl
  · rw [hl2]; exact List.drop_left' rfl
theorem split_parts (L : List Int) (h : 24 ≤ L.length) : L = L.take 4 ++ (L.drop 4).take 12 ++ (L.drop 16).take 4 ++ (L.drop 20).take (L.length - 24) ++ L.drop (L.length - 4) := by
  have e1 : L.drop (L.length - 4) = (L.drop 20).drop (L.length - 24) := by rw [List.drop_drop]; congr 1; omega
  have e2 : L.drop 20 = (L.drop 16).drop 4 := by rw [List.drop_drop]
  have e3 : L.drop 16 = (L.drop 4).drop 12 := by rw [List.drop_drop]
  rw [List.append_assoc, e1, List.take_append_drop, List.append_assoc, e2, List.take_append_drop, List.append_assoc, e3, List.take_append_drop, List.take_append_drop]
/-- the message's number fields ahead of the body -/
theorem heads_mk {L : List Int} {f t i : Int} (hf : 0 ≤ f ∧ f ≤ 65535) (ht : 0 ≤ t ∧ t ≤ 65535) (hi : 0 ≤ i ∧ i ≤ 9007199254740992) (h : (L.drop 4).take 12 = be f 2 ++ (be t 2 ++ be i 8)) :
    (h1 L).1 = f ∧ (h2 L).1 = t ∧ (h3 L).1 = i ∧ (h3 L).2.short = false := by
  have e1 : h1 L = (f, ⟨be t 2 ++ be i 8, false⟩) := by unfold h1; rw [h]; exact numC_mk _ hf.1 hf.2 (by omega)
  have e2 : h2 L = (t, ⟨be i 8, false⟩) := by unfold h2; rw [e1]; exact numC_mk _ ht.1 ht.2 (by omega)
  have e3 : h3 L = (i, ⟨[], false⟩) := by
    unfold h3; rw [e2]
    have := numC_mk (w := 8) (most := 9007199254740992) (n := i) [] hi.1 hi.2 (by omega)
    rw [List.append_nil] at this
    exact this
  rw [e1, e2, e3]
  exact ⟨rfl, rfl, rfl, rfl⟩
/-- what is laid over a blank message is the message -/
theorem copy_all (m : M) (h : vB m = true) (hk : 1 ≤ m.kind ∧ m.kind < 17) : (fieldsOf m.kind.toNat).foldl (copyF m) (blankM m.kind m.from_ m.to_ m.id) = m := by
  have hh : ∀ (fs : List Nat) (a : M), SameHead (fs.foldl (copyF m) a) a := by
    intro fs
    induction fs with
    | nil => intro a; exact ⟨rfl, rfl, rfl, rfl⟩
    | cons f fs ih =>
      intro a
      refine (ih _).trans ?_
      unfold copyF
      split
      · exact setNum_head _ _ _
      · exact setText_head _ _ _
  have hin : ∀ (a : M) (f : Nat), f < 7 → AgreeF (copyF m a f) m f := by
    intro a f hf
    have e : f = 0 ∨ f = 1 ∨ f = 2 ∨ f = 3 ∨ f = 4 ∨ f = 5 ∨ f = 6 := by omega
    rcases e with e | e | e | e | e | e | e <;> subst e <;> exact ⟨rfl, rfl⟩
  have hout : ∀ (a : M) (f g : Nat), f < 7 → g < 7 → g ≠ f → AgreeF (copyF m a f) a g := by
    intro a f g hf hg hne
    unfold copyF
    split
    · exact agree_set _ _ _ _ (by assumption) hg hne
    · exact agree_text _ _ _ _ (by omega) hg hne
  have ha : ∀ (fs : List Nat) (a : M), (∀ f ∈ fs, f < 7) → ∀ g, g < 7 → (g ∈ fs ∨ AgreeF a m g) → AgreeF (fs.foldl (copyF m) a) m g := by
    intro fs
    induction fs with
    | nil => intro a _ g _ h; rcases h with h | h; cases h; exact h
    | cons f fs ih =>
      intro a hfs g hg h
      refine ih (copyF m a f) (fun x hx => hfs x (by simp [hx])) g hg ?_
      by_cases e : g = f
      · subst e; exact .inr (hin a g hg)
      · rcases h with h | h
        · rcases List.mem_cons.1 h with h | h
          · exact absurd h e
          · exact .inl h
        · exact .inr ((hout a f g (hfs f (by simp)) hg e).trans h)
  have hk' : m.kind.toNat < 17 := by omega
  refine M_ext ((hh _ _).trans ⟨rfl, rfl, rfl, rfl⟩) fun g hg => ha _ _ (fieldsOf_lt _ hk') g hg ?_
  by_cases hm : g ∈ fieldsOf m.kind.toNat
  · exact .inl hm
  · refine .inr ?_
    have h4 := ((vB_iff m).1 h).2.2.2 g hg
    rw [need_not_mem m g hm] at h4
    have z1 := zero_of_num m g (by omega)
    have z2 := zero_blank m.kind m.from_ m.to_ m.id g hg
    exact ⟨z2.1.trans z1.1.symm, z2.2.trans z1.2.symm⟩
theorem kindL_of {L : List Int} {k : Int} (h : L.take 4 = [71, 82, 1, k]) : kindL L = k ∧ L.take 3 = [71, 82, 1] := by
  have e : L.take 3 = (L.take 4).take 3 := by rw [List.take_take]; rfl
  constructor
  · unfold kindL
    have hl : 3 < L.length := by
      have := congrArg List.length h
      rw [List.length_take] at this
      simp at this
      omega
    have h2 : (L.take 4)[3]? = L[3]? := by rw [List.getElem?_take]; rfl
    rw [h] at h2
    simp only [List.getD_eq_getElem?_getD, ← h2]
    rfl
  · rw [e, h]; rfl
/-- a whole frame is read back -/
theorem dec_whole (m : M) (h : vB m = true) (hk : 1 ≤ m.kind ∧ m.kind < 17) : decP (whole m) = (m, 0) := by
  obtain ⟨hf, ht, hi, h4⟩ := vB_facts m h
  have hbl := body_length_le m h hk
  obtain ⟨p1, p2, p3, p4, p5, p6, p7⟩ := parts_of (a := [71, 82, 1, m.kind]) (b := be m.from_ 2 ++ (be m.to_ 2 ++ be m.id 8)) (c := be (bodyB m (fieldsOf m.kind.toNat)).length 4) (d := bodyB m (fieldsOf m.kind.toNat)) (e := sumL (frameB m)) rfl
    (by simp only [List.length_append, be_length]) (be_length _ _) rfl (whole_parts m)
  obtain ⟨k1, k2⟩ := kindL_of p1
  obtain ⟨q1, q2, q3, q4⟩ := heads_mk hf ht hi p2
  have hb : bodyN (whole m) = ((bodyB m (fieldsOf m.kind.toNat)).length : Int) := by
    unfold bodyN; rw [p3]; exact val_be 4 _ (by omega) (by omega)
  have hk' : m.kind.toNat < 17 := by omega
  have hp : pL (whole m) = (m, ⟨[], false⟩) := by
    unfold pL m0
    rw [p4, k1, q1, q2, q3]
    have := parse_mk m (fieldsOf m.kind.toNat) (blankM m.kind m.from_ m.to_ m.id) [] (fun f hf => ⟨fieldsOf_lt _ hk' f hf, h4 f (fieldsOf_lt _ hk' f hf)⟩)
    rw [List.append_nil] at this
    rw [this, copy_all m h hk]
  unfold decP
  rw [if_neg (by omega), if_neg (by simp [k2]), if_neg (by rw [k1]; simp only [Decidable.not_not]; exact hk), if_neg (by rw [hb]; omega), if_neg ?_, if_neg ?_, hp]
  · unfold badL; rw [hp, q4]; simp
  · rw [p5, p6]
    simp only [ne_eq, Decidable.not_not]
    have e : [71, 82, 1, m.kind] ++ (be m.from_ 2 ++ (be m.to_ 2 ++ be m.id 8)) ++ be (bodyB m (fieldsOf m.kind.toNat)).length 4 ++ bodyB m (fieldsOf m.kind.toNat) = frameB m := by
      unfold frameB headB; simp only [List.append_assoc]
    rw [e]
/-- what is read is a whole frame of a valid message -/
theorem dec_ok {L : List Int} {m : M} (hb : Byt L) (h : decP L = (m, 0)) : vB m = true ∧ (1 ≤ m.kind ∧ m.kind < 17) ∧ L = whole m := by
  unfold decP at h
  split at h
  · cases h
  rename_i g1
  split at h
  · cases h
  rename_i g2
  split at h
  · cases h
  rename_i g3
  split at h
  · cases h
  rename_i g4
  split at h
  · cases h
  rename_i g5
  split at h
  · cases h
  rename_i g6
  simp only [ne_eq, Decidable.not_not] at g2 g3 g5
  simp only [not_or, Int.not_lt, ne_eq, Decidable.not_not] at g4
  have hm : (pL L).1 = m := by cases h; rfl
  have hbad : badL L = false := by simpa using g6
  unfold badL at hbad
  simp only [Bool.or_eq_false_iff, Bool.not_eq_false', List.isEmpty_iff] at hbad
  obtain ⟨b1, b2, b3⟩ := hbad
  -- the three numbers
  have hd12 : Byt ((L.drop 4).take 12) := byt_take (byt_drop hb _) _
  generalize e1 : h1 L = r1
  obtain ⟨n1, c1⟩ := r1
  generalize e2 : h2 L = r2
  obtain ⟨n2, c2⟩ := r2
  generalize e3 : h3 L = r3
  obtain ⟨n3, c3⟩ := r3
  have e2' : numC 2 65535 c1 = (n2, c2) := by have := e2; unfold h2 at this; rw [e1] at this; exact this
  have e3' : numC 8 9007199254740992 c2 = (n3, c3) := by have := e3; unfold h3 at this; rw [e2] at this; exact this
  have e1' : numC 2 65535 ⟨(L.drop 4).take 12, false⟩ = (n1, c1) := e1
  rw [e3] at b1
  have hb1 := numC_byt 2 65535 ⟨(L.drop 4).take 12, false⟩ hd12
  rw [e1'] at hb1
  have hb2 := numC_byt 2 65535 c1 hb1
  rw [e2'] at hb2
  obtain ⟨s2, r2, l2, u2, y2⟩ := numC_ok e3' b1 hb2
  obtain ⟨s1, r1, l1, u1, y1⟩ := numC_ok e2' s2 hb1
  obtain ⟨s0, r0, l0, u0, y0⟩ := numC_ok e1' s1 hd12
  have hc3 : c3.rest = [] := by
    have hl : ((L.drop 4).take 12).length = 12 := by rw [List.length_take, List.length_drop]; omega
    have r0' : (L.drop 4).take 12 = be n1 2 ++ c1.rest := r0
    rw [r0', r1, r2] at hl
    simp only [List.length_append, be_length] at hl
    exact List.eq_nil_of_length_eq_zero (by omega)
  have hk' : (kindL L).toNat < 17 := by omega
  have hm0 : m0 L = blankM (kindL L) n1 n2 n3 := by unfold m0; rw [e1, e2, e3]
  have hbody : Byt ((L.drop 20).take (L.length - 24)) := byt_take (byt_drop hb _) _
  generalize ep : pL L = rp at b2 b3 hm
  obtain ⟨mp, cp⟩ := rp
  simp only at b2 b3 hm
  subst hm
  have ep' : parseC (fieldsOf (kindL L).toNat) (m0 L) ⟨(L.drop 20).take (L.length - 24), false⟩ = (mp, cp) := ep
  obtain ⟨_, q2, q3, _, q5⟩ := parse_ok _ _ _ _ _ (fieldsOf_nodup _ hk') (fieldsOf_lt _ hk') ep' b2 hbody
  have hhd := parseC_head (fieldsOf (kindL L).toNat) (m0 L) ⟨(L.drop 20).take (L.length - 24), false⟩
  rw [ep', hm0] at hhd
  obtain ⟨k1, k2, k3, k4⟩ := hhd
  have k1 : mp.kind = kindL L := k1
  have k2 : mp.from_ = n1 := k2
  have k3 : mp.to_ = n2 := k3
  have k4 : mp.id = n3 := k4
  have q2 : (L.drop 20).take (L.length - 24) = bodyB mp (fieldsOf (kindL L).toNat) := by
    have : (L.drop 20).take (L.length - 24) = bodyB mp (fieldsOf (kindL L).toNat) ++ cp.rest := q2
    rw [this, b3, List.append_nil]
  have hv : vB mp = true := by
    refine (vB_iff mp).2 ⟨by rw [k2]; exact ⟨l0, u0⟩, by rw [k3]; exact ⟨l1, u1⟩, by rw [k4]; exact ⟨l2, u2⟩, fun f hf => ?_⟩
    by_cases hmem : f ∈ fieldsOf mp.kind.toNat
    · rw [need_of_mem mp f hmem]
      exact q3 f (by rw [← k1]; exact hmem)
    · rw [need_not_mem mp f hmem]
      have ha := q5 f hf (by rw [← k1]; exact hmem)
      rw [ha.1, hm0, (zero_blank _ _ _ _ f hf).1]
      exact ⟨Int.le_refl _, Int.le_refl _⟩
  refine ⟨hv, by rw [k1]; exact g3, ?_⟩
  have ht4 : L.take 4 = [71, 82, 1, kindL L] := by
    have hl : 3 < L.length := by omega
    have : L.take (3 + 1) = L.take 3 ++ [kindL L] := by
      rw [List.take_add_one, List.getElem?_eq_getElem hl]
      congr 1
      unfold kindL
      simp [List.getD_eq_getElem?_getD, List.getElem?_eq_getElem hl]
    rw [this, g2]; rfl
  have hN : (L.drop 16).take 4 = be (bodyB mp (fieldsOf mp.kind.toNat)).length 4 := by
    have hl : ((L.drop 16).take 4).length = 4 := by rw [List.length_take, List.length_drop]; omega
    have h5 := be_val ((L.drop 16).take 4) (byt_take (byt_drop hb _) _)
    rw [hl] at h5
    have hlen : ((bodyB mp (fieldsOf mp.kind.toNat)).length : Int) = bodyN L := by
      have := congrArg List.length q2
      rw [List.length_take, List.length_drop, k1.symm] at this
      omega
    rw [hlen]
    exact h5.symm
  have h12 : (L.drop 4).take 12 = be mp.from_ 2 ++ (be mp.to_ 2 ++ be mp.id 8) := by
    have r0' : (L.drop 4).take 12 = be n1 2 ++ c1.rest := r0
    rw [r0', r1, r2, hc3, List.append_nil, k2, k3, k4]
  have hL := split_parts L (by omega)
  have hfr : L.take (L.length - 4) = frameB mp := by
    have h20 : L.take (L.length - 4) = L.take 4 ++ (L.drop 4).take 12 ++ (L.drop 16).take 4 ++ (L.drop 20).take (L.length - 24) := by
      have := (parts_of (a := L.take 4) (b := (L.drop 4).take 12) (c := (L.drop 16).take 4) (d := (L.drop 20).take (L.length - 24)) (e := L.drop (L.length - 4)) (by rw [List.length_take]; omega) (by rw [List.length_take, List.length_drop]; omega)
        (by rw [List.length_take, List.length_drop]; omega) (by rw [List.length_drop]; omega) hL).2.2.2.2.1
      exact this
    rw [h20, ht4, h12, hN, q2, ← k1]
    unfold frameB headB
    simp only [List.append_assoc]
  have hsum : L.drop (L.length - 4) = sumL (frameB mp) := by rw [← g5, hfr]
  rw [← List.take_append_drop (L.length - 4) L, hsum, hfr]
  rfl
end Go.Proofs.YtnifgokjagahfaaDoor.DecPure

/- Encode of the frame package. -/
set_option linter.unusedVariables false
set_option linter.unusedSimpArgs false
namespace Go.Proofs.YtnifgokjagahfaaDoor.Enc
open Go.RowKit Go.Proofs.YtnifgokjagahfaaDoorW.PrintWords Go.Proofs.YtnifgokjagahfaaDoorW.PrintLast Go.Proofs.YtnifgokjagahfaaDoorW.PrintMore
open Go.Proofs.YtnifgokjagahfaaDoor.Base Go.Proofs.YtnifgokjagahfaaDoor.App Go.Proofs.YtnifgokjagahfaaDoor.Layouts Go.Proofs.YtnifgokjagahfaaDoor.Msg Go.Proofs.YtnifgokjagahfaaDoor.Put Go.Proofs.YtnifgokjagahfaaDoor.EncPure Go.Proofs.YtnifgokjagahfaaDoor.DecPure
section
variable {P : Program} {ops : Array Oper} {rest : List Oper} {o : Oper} {a : Act} {Q : Exit → Act → World → Prop}
/-- append to a full row that is only read: it grows -/
theorem list_append_full {w0 W : World} (base : Nat) (hgd : o.guard = none) (s x : Operand) (t e : TypeId) (z : Value) (bytes : Nat)
    (ho : o.op = .call { callee := .builtin .append, args := #[s, x], argTypes := #[t, t] })
    (ht : P.underlying t = some (.slice e)) (hinfo : (P.info? e).map (fun i => (i.zero, i.size, i.bytes)) = some (some z, 1, bytes)) (hz : z.cells.size = 1) (hb0 : 0 < bytes)
    (b0 n : Nat) (xs : List Value) (b m c : Nat) (ys : List Value) (hs : a.eval s = .slice (some ⟨b0, 0, none⟩) n n) (hxl : xs.length = n) (hcx : ∀ j u, xs[j]? = some u → W.cell? ⟨b0, j, none⟩ = some u)
    (hx : a.eval x = .slice (some ⟨b, 0, none⟩) m c) (hm : ys.length = m) (hm0 : 0 < m)
    (hc : ∀ j u, ys[j]? = some u → W.cell? ⟨b, j, none⟩ = some u)
    (HB : Below base w0 W) (hbase : base ≤ W.heap.size) (hl : (n + m) * bytes ≤ 140737488355328)
    (h : ∀ v1 w1, w1.ownsRow base e 1 v1 (n + m) (xs ++ ys) → Below base w0 w1 → w1.heap.size = W.heap.size + 1 → wpList P ops Q rest (a.put o.dst v1) w1) :
    wpList P ops Q (o :: rest) a W := by
  obtain ⟨i0, hi, hzz⟩ := Option.map_eq_some_iff.1 hinfo
  simp only [Prod.mk.injEq] at hzz
  obtain ⟨hz0, hz1, hz2⟩ := hzz
  have hlen : n + m ≤ 140737488355328 := Nat.le_trans (Nat.le_mul_of_pos_right _ hb0) hl
  have add : ∀ b j : Nat, (⟨b, 0, none⟩ : Addr).add j = ⟨b, j, none⟩ := by
    intro b j; unfold Addr.add; split <;> simp_all
  have hr := run_append_grow (P := P) W t o.type e i0 z ht hi hz0 ⟨b0, 0, none⟩ n n xs (by rw [hz1, Nat.mul_one]; exact hxl) (by intro j v hj; rw [add]; exact hcx j v hj) ⟨b, 0, none⟩ m c ys (by rw [hz1, Nat.mul_one]; exact hm) (by intro j v hj; rw [add]; exact hc j v hj) (by omega) (by omega) (growslice_fits (by omega) (by rw [hz2]; exact hl))
  have hge := grownCap_ge W (n + m) n e
  have hcm : grownCap W (n + m) n e ≤ maxLen := grownCap_le_maxLen W (n + m) n e (by simp only [maxLen]; omega)
  have hxy : (xs ++ ys).length = (n + m) * 1 := by rw [List.length_append, hxl, hm, Nat.mul_one]
  refine wpList_plain hgd fun K hK => ?_
  unfold Oper.wp execOp
  simp only [ho, resolve, invoke, builtin, Sem.run_bind, Sem.run_pure, Result.andThen_ok, List.map_toArray, List.map_cons, List.map_nil, hs, hx, hr]
  refine hK _ _ (h _ _ ⟨hxy, .inr ⟨W.heap.size, _, _, rfl, hbase, heap_alloc_new W.drew _, hge, hcm, ?_, ?_⟩⟩ ((HB.trans (Below.drew (Below.refl _ W) |>.mono hbase)).alloc hbase _) (by simp))
  · simp only [Array.size_append, List.size_toArray, size_zeroCells, hz, hxl, hm]; omega
  · simp only [Array.toList_append, List.append_assoc]
    rw [← List.append_assoc, ← hxy]
    exact List.take_left
end
/-- layouts, its rows told as blocks -/
theorem layouts_rows (w : World) : Calls Tryd.prog 37 #[] w fun e w' => e = .returned (.slice (some ⟨w.heap.size + 16, 0, none⟩) 17 17) ∧ Lay w' w.heap.size ∧ Below w.heap.size w w' ∧ w.heap.size + 17 ≤ w'.heap.size ∧ ∀ k, k < 16 → w'.heap[w.heap.size + k]? = some (rowOf (fieldsOf (k + 1))) := by
  refine (layouts_any w).mono ?_
  rintro e w' ⟨rfl, rfl⟩
  exact ⟨rfl, lay_of w, allocs_below _ _, by rw [allocs_size, objs_length]; exact Nat.le_refl _, fun k hk => by rw [allocs_new _ _ _ (by rw [objs_length]; omega), objs_row _ _ hk]⟩
/-- the state of Encode's loop -/
structure EInv (w w2 wr : World) (m : M) (q : Nat) (fs : List Nat) (bv : Value) (j : Nat) : Prop where mk ::
  (own : wr.ownsRow w2.heap.size 5 1 bv (20 + (bodyB m (fs.take j)).length) (nums .u8 (headB m ++ be 0 4 ++ bodyB m (fs.take j))))
  (msg : MBox wr w.heap.size m) (row : wr.heap[q]? = some (rowOf fs)) (bel : Below w2.heap.size w2 wr)
theorem rowOf_cell {w : World} {q : Nat} {fs : List Nat} (h : w.heap[q]? = some (rowOf fs)) (j n : Nat) (hj : fs[j]? = some n) : w.cell? ⟨q, j, none⟩ = some (.int .u8 (n : Nat)) := by
  rw [blk_cell h j, List.getElem?_toArray, List.getElem?_map, hj]; rfl
theorem keep_row {w w1 : World} {q : Nat} {fs : List Nat} (h : w.heap[q]? = some (rowOf fs)) (hk : KeepTy 5 w w1) : w1.heap[q]? = some (rowOf fs) := hk.2 _ _ _ _ (by decide) h
theorem keep_msg {w w1 : World} {g : Nat} {m : M} (h : MBox w g m) (hk : KeepTy 5 w w1) : MBox w1 g m := ⟨hk.2 _ _ _ _ (by decide) h.row, Nat.lt_of_lt_of_le h.lt hk.1⟩
theorem body_snoc (m : M) (fs : List Nat) (j n : Nat) (h : fs[j]? = some n) : bodyB m (fs.take (j + 1)) = bodyB m (fs.take j) ++ fieldB m n := by
  rw [List.take_add_one, h]; simp [bodyB]
theorem strCells_nums (s : ByteArray) : Lib.strCells s = nums .u8 (bytesOf s) := by
  unfold Lib.strCells nums bytesOf
  rw [List.map_map]; rfl
theorem body_take_le (m : M) (fs : List Nat) (j : Nat) : (bodyB m (fs.take j)).length ≤ (bodyB m fs).length := by
  have e : bodyB m fs = bodyB m (fs.take j) ++ bodyB m (fs.drop j) := by
    unfold bodyB
    rw [← List.flatMap_append, List.take_append_drop]
  rw [e, List.length_append]
  omega
theorem EInv.next {w w2 wr w1 : World} {m : M} {q : Nat} {fs : List Nat} {bv v1 : Value} {j n : Nat} (h : EInv w w2 wr m q fs bv j) (hs : bodyB m (fs.take (j + 1)) = bodyB m (fs.take j) ++ fieldB m n)
    (hO : w1.ownsRow w2.heap.size 5 1 v1 (20 + (bodyB m (fs.take j)).length + (fieldB m n).length) (nums .u8 (headB m ++ be 0 4 ++ bodyB m (fs.take j) ++ fieldB m n)))
    (hm : MBox w1 w.heap.size m) (hr : w1.heap[q]? = some (rowOf fs)) (hb : Below w2.heap.size w2 w1) : EInv w w2 w1 m q fs v1 (j + 1) := by
  refine ⟨?_, hm, hr, hb⟩
  rw [hs, List.length_append, ← Nat.add_assoc, ← List.append_assoc]
  exact hO
theorem setTo_head (H a b : List Int) (k : Nat) (hH : H.length = k) (c : List Int) (hc : c.length = a.length) : setTo (nums .u8 (H ++ a ++ b)) k (nums .u8 c) = nums .u8 (H ++ c ++ b) := by
  unfold setTo
  have h1 : (nums .u8 (H ++ a ++ b)).take k = nums .u8 H := by
    rw [nums_append, nums_append, List.append_assoc]
    exact List.take_left' (by rw [nums_length]; exact hH)
  have h2 : (nums .u8 (H ++ a ++ b)).drop (k + (nums .u8 c).length) = nums .u8 b := by
    rw [nums_append]
    exact List.drop_left' (by rw [nums_length, nums_length, List.length_append]; omega)
  rw [h1, h2, nums_append, nums_append]
/-- what a field lays behind the row -/
theorem field_step {w1 : World} {b0 : Nat} {m : M} {n L : Nat} {v1 : Value} {X : List Int} (ht : textOf m n = [])
    (h : w1.ownsRow b0 5 1 v1 (L + wN n) (nums .u8 X ++ nums .u8 (be (numOf m n) (wN n)))) : w1.ownsRow b0 5 1 v1 (L + (fieldB m n).length) (nums .u8 (X ++ fieldB m n)) := by
  have e : fieldB m n = be (numOf m n) (wN n) := by unfold fieldB; rw [ht, List.append_nil]
  rw [e, be_length, nums_append]
  exact h
theorem field_step_text {w1 : World} {b0 : Nat} {m : M} {n L : Nat} {v1 : Value} {X : List Int} {t : ByteArray} (ht : textOf m n = bytesOf t)
    (h : w1.ownsRow b0 5 1 v1 (L + wN n + t.size) (nums .u8 X ++ nums .u8 (be (numOf m n) (wN n)) ++ Lib.strCells t)) : w1.ownsRow b0 5 1 v1 (L + (fieldB m n).length) (nums .u8 (X ++ fieldB m n)) := by
  have e : fieldB m n = be (numOf m n) (wN n) ++ bytesOf t := by unfold fieldB; rw [ht]
  rw [e, List.length_append, be_length, bytesOf_length, nums_append, nums_append, ← strCells_nums, ← Nat.add_assoc, ← List.append_assoc]
  exact h
set_option maxRecDepth 100000 in
set_option maxHeartbeats 8000000 in
theorem enc_good (m : M) (w : World) (hk : 1 ≤ m.kind ∧ m.kind < 17) (hv : vB m = true) (hN : Crc.Nibs w) :
    Calls Tryd.prog 13 #[.agg (mL m).toArray] w fun e w' => e = .returned (.tuple #[.string (strOfNums (frameB m) ++ sumS (strOfNums (frameB m))), .int .i64 0]) ∧ Below w.heap.size w w' := by
  have HB0 := Aside0.mk ((Below.refl w.heap.size w).alloc (Nat.le_refl _) (.cells (mL m).toArray 24))
  have HM0 : Aside0 (MBox (w.alloc (.cells (mL m).toArray 24)) w.heap.size m) := ⟨⟨Go.heap_alloc_new w _, by simp⟩⟩
  have HV := Aside0.mk hv
  have HK := Aside0.mk hk
  have HN := Aside0.mk hN
  have hc0 : (w.alloc (.cells (mL m).toArray 24)).cell? ⟨w.heap.size, 0, none⟩ = some (.int .i64 m.kind) := HM0.out.c 0
  clear hv hN
  go_enter Tryd.func13, Tryd.ntmps13
  go_wp2_with fail
  refine (known_yes m.kind _ hk).mono ?_
  rintro e w1 ⟨rfl, hb⟩
  have HM1 := Aside0.mk (HM0.out.below hb (by simp))
  have HB1 := Aside0.mk (HB0.out.trans (hb.mono HB0.out.size))
  clear hb hc0 HM0 HB0
  go_wp2_with fail
  refine (valid_any w.heap.size m w1 HM1.out hk).mono ?_
  rintro e w2 ⟨rfl, hb⟩
  have HM2 := Aside0.mk (HM1.out.below hb HM1.out.lt)
  have HB2 := Aside0.mk (HB1.out.trans (hb.mono HB1.out.size))
  clear hb HM1 HB1
  rw [HV.out]
  have hc0 : w2.cell? ⟨w.heap.size, 0, none⟩ = some (.int .i64 m.kind) := HM2.out.c 0
  have HZ2 := Aside0.mk HM2.out.lt
  have hcvt := Lib.run_convert_bytes_const (P := Tryd.prog) w2 82 5 [Value.int .u8 71, .int .u8 82, .int .u8 1].toArray 3 3 Tryd.underlying82 Tryd.underlying5
  have hs1 : (w2.alloc (.cells [Value.int .u8 71, .int .u8 82, .int .u8 1].toArray 5 (3, 4))).heap.size = w2.heap.size + 1 := by simp
  have hg71 : ∀ j u, [Value.int .u8 71, .int .u8 82, .int .u8 1][j]? = some u → (w2.alloc (.cells [Value.int .u8 71, .int .u8 82, .int .u8 1].toArray 5 (3, 4))).cell? ⟨w2.heap.size, j, none⟩ = some u := by
    intro j u hj
    rw [World.cell?_alloc_mark]; simpa using hj
  generalize hwa : (w2.alloc (.cells [Value.int .u8 71, .int .u8 82, .int .u8 1].toArray 5 (3, 4))) = wa at hcvt hs1 hg71
  have hnew := news wa [.int .u8 m.kind] 5
  have hold : ∀ j u, [Value.int .u8 71, .int .u8 82, .int .u8 1][j]? = some u → (wa.alloc (.cells [Value.int .u8 m.kind].toArray 5)).cell? ⟨w2.heap.size, j, none⟩ = some u := fun j u hj => (Lib.cell?_alloc_marked _ (hg71 j u hj))
  have HHS := Aside0.mk hs1
  have HWA : Aside0 (Below w2.heap.size w2 wa) := ⟨by rw [← hwa]; exact (Below.refl _ w2).alloc (Nat.le_refl _) _⟩
  have hcell1 : wa.cell? ⟨w.heap.size, 0, none⟩ = some (.int .i64 m.kind) := (World.cell?_of_block (HWA.out.block _ HM2.out.lt)).trans hc0
  have HNEW := Aside0.mk hnew
  have HOLD := Aside0.mk hold
  have hk2 := hk.2
  have hk1 := hk.1
  clear hs1 hg71 hwa hnew hold
  go_wp2_with (at_builtin; go_loud (refine list_append_full (P := Tryd.prog) (w0 := w2) w2.heap.size rfl (.tmp 19) (.tmp 23) 82 5 (.int .u8 0) 1 rfl Tryd.underlying82 info8 rfl (by decide) w2.heap.size 3 [.int .u8 71, .int .u8 82, .int .u8 1] wa.heap.size 1 1 [.int .u8 m.kind] rfl rfl HOLD.out rfl rfl (by decide) HNEW.out (HWA.out.alloc HWA.out.size _) ?hs ?hl ?_); (case hs => have := HHS.out; simp; omega); (case hl => decide); intro v1 w3 HO1 HB3 _; have HM3 := Aside0.mk (HM2.out.below HB3 HM2.out.lt); have hc1 : w3.cell? ⟨w.heap.size, 1, none⟩ = some (.int .i64 m.from_) := HM3.out.c 1; have HO3 := Aside0.mk HO1; have HBB3 := Aside0.mk HB3; clear HO1 HB3)
  clear hcvt hcell1 HNEW HOLD HWA hc0 HHS hk1 hk2 hk HM2
  have HF := Aside0.mk (vB_facts m HV.out)
  refine (put_own w2.heap.size v1 4 _ m.from_ 2 w3 HO3.out HBB3.out.size HF.out.1.1 (by have := HF.out.1.2; omega) (by decide) (by decide) (by decide)).mono ?_
  rintro e w4 ⟨v4, rfl, hO, hb, hk⟩
  have HO4 := Aside0.mk hO
  have HB4 := Aside0.mk (HBB3.out.trans hb)
  have HM4 := Aside0.mk (keep_msg HM3.out hk)
  have hc2 : w4.cell? ⟨w.heap.size, 2, none⟩ = some (.int .i64 m.to_) := HM4.out.c 2
  clear hO hb hk HO3 HBB3 HM3 hc1
  go_wp2_with fail
  refine (put_own w2.heap.size v4 _ _ m.to_ 2 w4 HO4.out HB4.out.size HF.out.2.1.1 (by have := HF.out.2.1.2; omega) (by decide) (by decide) (by decide)).mono ?_
  rintro e w5 ⟨v5, rfl, hO, hb, hk⟩
  have HO5 := Aside0.mk hO
  have HB5 := Aside0.mk (HB4.out.trans hb)
  have HM5 := Aside0.mk (keep_msg HM4.out hk)
  have hc3 : w5.cell? ⟨w.heap.size, 3, none⟩ = some (.int .i64 m.id) := HM5.out.c 3
  clear hO hb hk HO4 HB4 HM4 hc2
  go_wp2_with fail
  refine (put_own w2.heap.size v5 _ _ m.id 8 w5 HO5.out HB5.out.size HF.out.2.2.1.1 (by have := HF.out.2.2.1.2; omega) (by decide) (by decide) (by decide)).mono ?_
  rintro e w6 ⟨v6, rfl, hO, hb, hk⟩
  obtain ⟨g6, cap6, rfl⟩ := own_slice hO (by decide)
  have HO6 := Aside0.mk hO
  have HB6 := Aside0.mk (HB5.out.trans hb)
  have HM6 := Aside0.mk (keep_msg HM5.out hk)
  clear hO hb hk HO5 HB5 HM5 hc3
  go_wp2_with fail
  refine (put_own w2.heap.size _ _ _ 0 4 w6 HO6.out HB6.out.size (by decide) (by decide) (by decide) (by decide) (by decide)).mono ?_
  rintro e w7 ⟨v7, rfl, hO, hb, hk⟩
  have HO7 : Aside0 (w7.ownsRow w2.heap.size 5 1 v7 20 (nums .u8 (headB m ++ be 0 4))) := ⟨by
    unfold headB
    simp only [nums_append]
    exact hO⟩
  have HB7 := Aside0.mk (HB6.out.trans hb)
  have HM7 := Aside0.mk (keep_msg HM6.out hk)
  clear hO hb hk HO6 HB6 HM6
  obtain ⟨kk, hkk⟩ : ∃ kk : Nat, m.kind = (kk : Int) := ⟨m.kind.toNat, by have := HK.out; omega⟩
  have hk1 : 1 ≤ (kk : Int) := by have := HK.out.1; omega
  have hk2 : (kk : Int) < 17 := by have := HK.out.2; omega
  have hkl : kk < 17 := by omega
  have hk0 : kk ≠ 0 := by omega
  have HKK := Lib.hid hkk
  have hc0 : w7.cell? ⟨w.heap.size, 0, none⟩ = some (.int .i64 (kk : Int)) := by rw [← hkk]; exact HM7.out.c 0
  clear hkk
  go_upto_region 11 with fail
  go_cut [45, 46, 47] (fun v45 v46 v47 wx => ∃ q : Nat, v45 = .slice (some ⟨q, 0, none⟩) (fieldsOf kk).length (fieldsOf kk).length ∧ v46 = .int .i64 ((fieldsOf kk).length : Int) ∧ v47 = .int .i64 0 ∧ Aside0 (wx.heap[q]? = some (rowOf (fieldsOf kk))) ∧ Aside0 (Below w7.heap.size w7 wx))
  case first =>
    have hgl := HM7.out.lt
    have hidx0 : (0 : Int) ≤ (kk : Int) := by omega
    have HSL := Aside0.mk (show ∀ b, slOf b kk = .slice (some ⟨b + (kk - 1), 0, none⟩) (fieldsOf kk).length (fieldsOf kk).length from fun b => if_neg hk0)
    go_region_with ((go_at_call 37; refine (layouts_rows _).mono ?_; rintro e w8 ⟨rfl, hL, hb, hsz, hrw⟩; have hS3 := (hb.cell (p := ⟨w.heap.size, 0, none⟩) hgl).trans hc0; have ho3 : w8.cell? ⟨w7.heap.size + 16, kk, none⟩ = some (.slice (some ⟨w7.heap.size + (kk - 1), 0, none⟩) (fieldsOf kk).length (fieldsOf kk).length) := (hL.out kk hkl).trans (congrArg some (HSL.out _)); have HL3 := Aside0.mk hrw; have HB3 := Aside0.mk hb; clear hL hb hsz hrw))
    all_goals
      go_wp2_with fail
      go_meet
      refine ⟨w7.heap.size + (kk - 1), rfl, rfl, rfl, ⟨?_⟩, ⟨⟨HB3.out.os, HB3.out.tape, HB3.out.output, HB3.out.size, HB3.out.block⟩⟩⟩
      have := HL3.out (kk - 1) (by omega)
      rw [Nat.sub_add_cancel (by omega)] at this
      exact this
  case rest =>
    obtain ⟨q, rfl, rfl, rfl, HR, HBC⟩ := hcut
    have hEI : EInv w w2 wc m q (fieldsOf kk) v7 0 := by
      have hO8 := pw_own_below HO7.out HBC.out
      refine ⟨?_, HM7.out.below HBC.out HM7.out.lt, HR.out, HB7.out.trans (HBC.out.mono HB7.out.size)⟩
      have e0 : bodyB m ((fieldsOf kk).take 0) = [] := rfl
      rw [e0, List.append_nil]
      exact hO8
    have HEI := Aside0.mk hEI
    have hfl := fields_len kk hkl
    have HFL := Aside0.mk (fields_lt kk hkl)
    have HFS : Aside0 (fieldsOf kk = fieldsOf m.kind.toNat) := ⟨by rw [HKK.out, Int.toNat_natCast]⟩
    generalize hfs : fieldsOf kk = fs at HEI hfl HFL HFS ⊢
    clear hEI HR HBC HO7 HM7 HB7 hfs hc0
    obtain ⟨i0, hi0, hzz⟩ := Option.map_eq_some_iff.1 info8
    simp only [Prod.mk.injEq] at hzz
    have HZ := Aside0.mk hzz
    clear hzz
    go_wp2
    go_loopw [4, 7, 8, 9, 10, 47] (fun bv _ _ _ _ iv wr => ∃ j : Nat, j ≤ fs.length ∧ iv = .int .i64 (j : Int) ∧ Aside0 (EInv w w2 wr m q fs bv j)) (fun _ _ _ _ _ iv _ => 7 - (intOf iv).toNat)
    case atStart => exact ⟨0, Nat.zero_le _, rfl, HEI⟩
    case round =>
      clear HEI
      obtain ⟨j, hj, rfl, HEI⟩ := hrel
      obtain ⟨wo, rfl⟩ : ∃ wo : World, wo = wr := ⟨_, rfl⟩
      by_cases hlt : j < fs.length
      · obtain ⟨n, hn⟩ : ∃ n, fs[j]? = some n := ⟨_, List.getElem?_eq_getElem hlt⟩
        have hn7 := HFL.out j n hn
        have hci := rowOf_cell HEI.out.row j n hn
        have HSN := Lib.hid (body_snoc m fs j n hn)
        have hnm := HF.out.2.2.2 n hn7
        have hwd := wN_range n hn7
        have KW := whole_any w.heap.size m n wo hn7 HEI.out.msg
        rw [wN_eq n hn7] at KW
        have hbl : 20 + (bodyB m (fs.take j)).length + 8 ≤ 5000 := by
          have h1 := body_take_le m fs j
          have h2 := body_length_le m HV.out HK.out
          rw [← HFS.out] at h2
          omega
        have hmx : mostOf n ≤ 9007199254740992 := by
          have : ∀ n, n < 7 → mostOf n ≤ 9007199254740992 := by decide
          exact this n hn7
        have KP := fun (h : (1 : Nat) ≤ 1) => Lib.hid (put_own w2.heap.size _ _ _ (numOf m n) (wN n) wo HEI.out.own HEI.out.bel.size hnm.1 (by omega) hwd.1 hwd.2 (by omega))
        replace KP := KP (Nat.le_refl _)
        have KW' := Lib.hid KW
        have htx : textOf m n = if n = 5 then bytesOf m.key else if n = 6 then bytesOf m.value else [] := rfl
        have hsz5 : n = 5 → (m.key.size : Int) ≤ 255 := by rintro rfl; have := hnm.2; exact this
        have hsz6 : n = 6 → (m.value.size : Int) ≤ 4096 := by rintro rfl; have := hnm.2; exact this
        have HTX := Lib.hid htx
        have HS5 := Aside0.mk hsz5
        have HS6 := Aside0.mk hsz6
        have HNM := Aside0.mk hnm
        have HWD := Aside0.mk hwd
        have HBL := Aside0.mk hbl
        clear hn hnm hwd KW htx hsz5 hsz6 hbl hmx
        go_wp2_with fail
        refine KW'.out.mono ?_
        rintro e w' ⟨rfl, rfl⟩
        go_wp2_with fail
        refine KP.out.mono ?_
        rintro e w9 ⟨v9, rfl, hO, hb, hk⟩
        have HO9 := Aside0.mk hO
        have HM9 := Aside0.mk (keep_msg HEI.out.msg hk)
        have HR9 := Aside0.mk (keep_row HEI.out.row hk)
        have HB9 := Aside0.mk (HEI.out.bel.trans hb)
        clear hO hb hk KP KW'
        by_cases h5 : n = 5
        · subst h5
          have hc9 : w9.cell? ⟨w.heap.size, 9, none⟩ = some (.string m.key) := HM9.out.c 9
          have hle := HS5.out rfl
          go_wp2_with (at_builtin; go_loud (refine Lib.wpList_append_own_string _ rfl (.tmp 64) (.tmp 66) 82 9 rfl w2.heap.size 5 i0 Tryd.underlying82 Tryd.underlying9 hi0 HZ.out.1 HZ.out.2.1 HZ.out.2.2 v9 _ _ rfl HO9.out m.key rfl ?h1 ?h2 HB9.out.size ?_); (case h1 => have := HBL.out; have := HWD.out; unfold maxLen; omega); (case h2 => have := HBL.out; have := HWD.out; omega); intro v1 w1 hO1 hg1 _; have HO1 := Aside0.mk (field_step_text (m := m) (n := 5) (by rw [HTX.out]; rfl) hO1); have HT1 := Aside0.mk ((KeepTy.refl 5 w9).grown HO9.out hg1); have HB1 := Aside0.mk (HB9.out.grown hg1 HB9.out.size (own_base HO9.out)); clear hO1 hg1)
          go_roundw
          case rel => exact ⟨j + 1, by omega, by go_num, ⟨HEI.out.next HSN.out HO1.out (keep_msg HM9.out HT1.out) (keep_row HR9.out HT1.out) HB1.out⟩⟩
          case measure => simp [intOf]; omega
        · by_cases h6 : n = 6
          · subst h6
            have hc9 : w9.cell? ⟨w.heap.size, 10, none⟩ = some (.string m.value) := HM9.out.c 10
            have hle := HS6.out rfl
            go_wp2_with (at_builtin; go_loud (refine Lib.wpList_append_own_string _ rfl (.tmp 70) (.tmp 72) 82 9 rfl w2.heap.size 5 i0 Tryd.underlying82 Tryd.underlying9 hi0 HZ.out.1 HZ.out.2.1 HZ.out.2.2 v9 _ _ rfl HO9.out m.value rfl ?h1 ?h2 HB9.out.size ?_); (case h1 => have := HBL.out; have := HWD.out; unfold maxLen; omega); (case h2 => have := HBL.out; have := HWD.out; omega); intro v1 w1 hO1 hg1 _; have HO1 := Aside0.mk (field_step_text (m := m) (n := 6) (by rw [HTX.out]; rfl) hO1); have HT1 := Aside0.mk ((KeepTy.refl 5 w9).grown HO9.out hg1); have HB1 := Aside0.mk (HB9.out.grown hg1 HB9.out.size (own_base HO9.out)); clear hO1 hg1)
            go_roundw
            case rel => exact ⟨j + 1, by omega, by go_num, ⟨HEI.out.next HSN.out HO1.out (keep_msg HM9.out HT1.out) (keep_row HR9.out HT1.out) HB1.out⟩⟩
            case measure => simp [intOf]; omega
          · have q5 : ((n : Int) == 5) = false := beq_eq_false_iff_ne.2 (by omega)
            have q6 : ((n : Int) == 6) = false := beq_eq_false_iff_ne.2 (by omega)
            have r5 : ¬ (n : Int) = 5 := by omega
            have r6 : ¬ (n : Int) = 6 := by omega
            have HO1 := Aside0.mk (field_step (m := m) (n := n) (by rw [HTX.out, if_neg h5, if_neg h6]) HO9.out)
            clear h5 h6
            go_wp2
            go_roundw
            case rel => exact ⟨j + 1, by omega, by go_num, ⟨HEI.out.next HSN.out HO1.out HM9.out HR9.out HB9.out⟩⟩
            case measure => simp [intOf]; omega
      · obtain rfl : j = fs.length := by omega
        have hO := HEI.out.own
        rw [List.take_length] at hO
        have hbl : (bodyB m fs).length ≤ 4383 := by
          have h2 := body_length_le m HV.out HK.out
          rw [← HFS.out] at h2
          exact h2
        obtain ⟨g, cap, rfl⟩ := own_slice hO (by omega)
        have HBW := Aside0.mk HEI.out.bel
        have hcap := own_le hO
        have hfr : frameB m = headB m ++ be (bodyB m fs).length 4 ++ bodyB m fs := by unfold frameB; rw [HFS.out]
        have HFR := Lib.hid hfr
        obtain ⟨n, hn⟩ : ∃ n, n = 20 + (bodyB m fs).length := ⟨_, rfl⟩
        rw [← hn] at hO hcap ⊢
        have hN : ((n : Int) - 20) = ((bodyB m fs).length : Int) := by omega
        have KP := put_at w2.heap.size g n cap 16 _ ((n : Int) - 20) 4 wo hO HBW.out.size (by omega) (by omega) (by decide) (by decide) (by omega) hcap (by omega)
        rw [hN, setTo_head (headB m) (be 0 4) (bodyB m fs) 16 (headB_length m) (be (bodyB m fs).length 4) (by rw [be_length, be_length]), ← hfr, ← hN] at KP
        have KP' := Lib.hid KP
        have hfl2 : (frameB m).length = n := by rw [frame_length, hn, HFS.out]
        have KSM := fun (w : World) (hN : Crc.Nibs w) => sum_any (strOfNums (frameB m)) w (by rw [strOfNums_size, hfl2]; omega) hN
        have KSM' := fun w h => Lib.hid (KSM w h)
        have n1 : (20 : Int) ≤ (n : Int) := by omega
        have n2 : (n : Int) ≤ 5000 := by omega
        have n3 : (16 : Int) ≤ (cap : Int) := by omega
        have n4 : (cap : Int) ≤ 9223372036854775807 := by
          have h := hO.2
          rcases h with h | ⟨g', c', cs, hv, _, _, _, hm, _⟩
          · cases h.1
          · cases hv; unfold maxLen at hm; omega
        have z1 : (strOfNums (frameB m)).size ≤ 5000 := by rw [strOfNums_size, hfl2]; omega
        have z2 : (sumS (strOfNums (frameB m))).size ≤ 4 := by rw [sumS_eq, strOfNums_size]; exact Nat.le_refl _
        clear hO hn KP hfr hN hbl hfl2 KSM HEI hcap
        go_wp2_with fail
        refine KP'.out.mono ?_
        rintro e w10 ⟨v10, rfl, hO10, hb10⟩
        have hcv := own_string (P := Tryd.prog) (e := 5) Tryd.underlying82 Tryd.underlying5 Tryd.underlying9 hO10
        have HB10 := Aside0.mk (HBW.out.trans hb10)
        have HBE := Aside0.mk (HB2.out.trans (HB10.out.mono HB2.out.size))
        have HN10 := Aside0.mk (HN.out.below HBE.out)
        clear hO10 hb10 KP'
        go_wp2_with fail
        refine (KSM' _ HN10.out).out.mono ?_
        rintro e w11 ⟨rfl, hb⟩
        have HB11 := Aside0.mk (HBE.out.trans (hb.mono HBE.out.size))
        clear hb
        go_wp2
        go_ret2
        exact ⟨rfl, HB11.out⟩
end Go.Proofs.YtnifgokjagahfaaDoor.Enc

/- Encode answers as encP says. -/
set_option linter.unusedVariables false
set_option linter.unusedSimpArgs false
namespace Go.Proofs.YtnifgokjagahfaaDoor.Enc
open Go.RowKit Go.Proofs.YtnifgokjagahfaaDoorW.PrintWords Go.Proofs.YtnifgokjagahfaaDoorW.PrintLast Go.Proofs.YtnifgokjagahfaaDoorW.PrintMore
open Go.Proofs.YtnifgokjagahfaaDoor.Base Go.Proofs.YtnifgokjagahfaaDoor.App Go.Proofs.YtnifgokjagahfaaDoor.Layouts Go.Proofs.YtnifgokjagahfaaDoor.Msg Go.Proofs.YtnifgokjagahfaaDoor.Put Go.Proofs.YtnifgokjagahfaaDoor.EncPure Go.Proofs.YtnifgokjagahfaaDoor.DecPure
def kB (m : M) : Bool := decide (1 ≤ m.kind ∧ m.kind < 17)
def encP (m : M) : ByteArray × Int := if kB m = true then (if vB m = true then (strOfNums (whole m), 0) else (ByteArray.empty, 50)) else (ByteArray.empty, 53)
theorem strOfNums_append (a b : List Int) : strOfNums (a ++ b) = strOfNums a ++ strOfNums b := by
  apply ByteArray.ext
  unfold strOfNums
  rw [List.map_append]
  simp [ByteArray.data_append]
set_option maxRecDepth 100000 in
set_option maxHeartbeats 4000000 in
theorem enc_kind (m : M) (w : World) (hk : ¬ (1 ≤ m.kind ∧ m.kind < 17)) : Calls Tryd.prog 13 #[.agg (mL m).toArray] w fun e w' => e = .returned (.tuple #[.string ByteArray.empty, .int .i64 53]) ∧ Below w.heap.size w w' := by
  have HB0 := Aside0.mk ((Below.refl w.heap.size w).alloc (Nat.le_refl _) (.cells (mL m).toArray 24))
  have HM0 : Aside0 (MBox (w.alloc (.cells (mL m).toArray 24)) w.heap.size m) := ⟨⟨Go.heap_alloc_new w _, by simp⟩⟩
  have hc0 : (w.alloc (.cells (mL m).toArray 24)).cell? ⟨w.heap.size, 0, none⟩ = some (.int .i64 m.kind) := HM0.out.c 0
  have K := fun w => Lib.hid (known_no m.kind w hk)
  clear hk
  go_enter Tryd.func13, Tryd.ntmps13
  go_wp2_with fail
  refine (K _).out.mono ?_
  rintro e w1 ⟨rfl, hb⟩
  have HB1 := Aside0.mk (HB0.out.trans (hb.mono HB0.out.size))
  clear hb hc0 HB0 K
  go_wp2
  go_ret2
  exact ⟨rfl, HB1.out⟩
set_option maxRecDepth 100000 in
set_option maxHeartbeats 4000000 in
theorem enc_field (m : M) (w : World) (hk : 1 ≤ m.kind ∧ m.kind < 17) (hv : vB m = false) : Calls Tryd.prog 13 #[.agg (mL m).toArray] w fun e w' => e = .returned (.tuple #[.string ByteArray.empty, .int .i64 50]) ∧ Below w.heap.size w w' := by
  have HB0 := Aside0.mk ((Below.refl w.heap.size w).alloc (Nat.le_refl _) (.cells (mL m).toArray 24))
  have HM0 : Aside0 (MBox (w.alloc (.cells (mL m).toArray 24)) w.heap.size m) := ⟨⟨Go.heap_alloc_new w _, by simp⟩⟩
  have hc0 : (w.alloc (.cells (mL m).toArray 24)).cell? ⟨w.heap.size, 0, none⟩ = some (.int .i64 m.kind) := HM0.out.c 0
  have K := fun w => Lib.hid (known_yes m.kind w hk)
  have HK := Aside0.mk hk
  have HV := Aside0.mk hv
  clear hk hv
  go_enter Tryd.func13, Tryd.ntmps13
  go_wp2_with fail
  refine (K _).out.mono ?_
  rintro e w1 ⟨rfl, hb⟩
  have HM1 := Aside0.mk (HM0.out.below hb (by simp))
  have HB1 := Aside0.mk (HB0.out.trans (hb.mono HB0.out.size))
  clear hb hc0 HB0 K
  go_wp2_with fail
  refine (valid_any w.heap.size m w1 HM1.out HK.out).mono ?_
  rintro e w2 ⟨rfl, hb⟩
  have HB2 := Aside0.mk (HB1.out.trans (hb.mono HB1.out.size))
  clear hb HM1 HB1
  rw [HV.out]
  go_wp2
  go_ret2
  exact ⟨rfl, HB2.out⟩
theorem enc_any (m : M) (w : World) (hN : Crc.Nibs w) : Calls Tryd.prog 13 #[.agg (mL m).toArray] w fun e w' => e = .returned (.tuple #[.string (encP m).1, .int .i64 (encP m).2]) ∧ Below w.heap.size w w' := by
  unfold encP kB
  by_cases hk : 1 ≤ m.kind ∧ m.kind < 17
  · rw [if_pos (decide_eq_true hk)]
    cases hv : vB m
    · rw [if_neg (by decide)]; exact enc_field m w hk hv
    · rw [if_pos rfl]
      have e : strOfNums (whole m) = strOfNums (frameB m) ++ sumS (strOfNums (frameB m)) := by
        unfold whole
        rw [strOfNums_append, sumS_eq, bytesOf_strOfNums _ (byt_frame m hk)]
      simp only [e]
      exact enc_good m w hk hv hN
  · rw [if_neg (by simpa using hk)]; exact enc_kind m w hk
end Go.Proofs.YtnifgokjagahfaaDoor.Enc

/- The cursor's number and text, read and size: of the frame package. -/
set_option linter.unusedVariables false
set_option linter.unusedSimpArgs false
namespace Go.Proofs.YtnifgokjagahfaaDoor.Num
open Go.RowKit Go.Proofs.YtnifgokjagahfaaDoorW.PrintWords Go.Proofs.YtnifgokjagahfaaDoorW.PrintLast Go.Proofs.YtnifgokjagahfaaDoorW.PrintMore
open Go.Proofs.YtnifgokjagahfaaDoor.Base Go.Proofs.YtnifgokjagahfaaDoor.Layouts Go.Proofs.YtnifgokjagahfaaDoor.Msg Go.Proofs.YtnifgokjagahfaaDoor.Put Go.Proofs.YtnifgokjagahfaaDoor.EncPure Go.Proofs.YtnifgokjagahfaaDoor.PFrameDecodes
theorem u64_or (a b : Int) (ha : 0 ≤ a) (ha1 : a < 72057594037927936) (hb : 0 ≤ b) (hb1 : b < 256) : Go.bits .or .u64 (IntKind.u64.wrap (a * 256)) (IntKind.u64.wrap b) = 256 * a + b := by
  obtain ⟨x, rfl⟩ : ∃ x : Nat, a = (x : Int) := ⟨a.toNat, by omega⟩
  obtain ⟨y, rfl⟩ : ∃ y : Nat, b = (y : Int) := ⟨b.toNat, by omega⟩
  have e1 : IntKind.u64.wrap ((x : Int) * 256) = ((256 * x : Nat) : Int) := by rw [IntKind.wrap_u64]; omega
  have e2 : IntKind.u64.wrap (y : Int) = ((y : Nat) : Int) := by rw [IntKind.wrap_u64]; omega
  rw [e1, e2, (bits_gen .u64 (256 * x) y (by show _ < 18446744073709551616; omega) (by show _ < 18446744073709551616; omega)).2.2]
  have h := Nat.two_pow_add_eq_or_of_lt (i := 8) (b := y) (by omega) x
  have h' : 256 * x + y = 256 * x ||| y := h
  rw [← h', IntKind.wrap_u64]
  omega
theorem take_bytes_next (r : ByteArray) (i : Nat) (h : i < r.size) : (bytesOf r).take (i + 1) = (bytesOf r).take i ++ [bt r (i : Int)] := by
  have hl : i < (bytesOf r).length := by rw [bytesOf_length]; exact h
  rw [List.take_add_one, List.getElem?_eq_getElem hl]
  congr 2
  rw [← rd_bytesOf]
  simp [rd, List.getD_eq_getElem?_getD, List.getElem?_eq_getElem hl]
theorem pow256_le (i : Nat) (h : i < 8) : (256 : Int) ^ i ≤ 72057594037927936 := by
  have : ∀ i, i < 8 → (256 : Int) ^ i ≤ 72057594037927936 := by decide
  exact this i h
theorem extract_tail (r : ByteArray) (k : Nat) (h : k ≤ r.size) : r.extract k r.size = strOfNums ((bytesOf r).drop k) := by
  have e : bytesOf (r.extract k r.size) = (bytesOf r).drop k := by
    unfold bytesOf
    rw [← List.map_drop]
    congr 1
    rw [ByteArray.data_extract, Array.toList_extract]
    rw [List.extract_eq_take_drop]
    rw [List.take_of_length_le]
    rw [List.length_drop, data_length]
    exact Nat.le_refl _
  rw [← strOfNums_bytesOf (r.extract k r.size), e]
theorem extract_head (r : ByteArray) (k : Nat) (h : k ≤ r.size) : r.extract 0 k = strOfNums ((bytesOf r).take k) := by
  have e : bytesOf (r.extract 0 k) = (bytesOf r).take k := by
    unfold bytesOf
    rw [← List.map_take]
    congr 1
    rw [ByteArray.data_extract, Array.toList_extract]
    simp [List.extract_eq_take_drop]
  rw [← strOfNums_bytesOf (r.extract 0 k), e]
theorem extract_mid (r : ByteArray) (i j : Nat) (h : i ≤ j) (h1 : j ≤ r.size) : r.extract i j = strOfNums (((bytesOf r).drop i).take (j - i)) := by
  have e : bytesOf (r.extract i j) = ((bytesOf r).drop i).take (j - i) := by
    unfold bytesOf
    rw [← List.map_drop, ← List.map_take]
    congr 1
    rw [ByteArray.data_extract, Array.toList_extract, List.extract_eq_take_drop]
  rw [← strOfNums_bytesOf (r.extract i j), e]
theorem number_l (r : ByteArray) (s : Bool) (wd : Nat) (most : Int) (hw : wd ≤ 8) (hr : wd ≤ r.size) (hm : 0 ≤ most) (hm1 : most ≤ 9007199254740992) (d : Nat) : ∀ (i k : Nat), i ≤ wd → wd - i = d → d < k →
    frame_cursor_number.l0 k wd most (val ((bytesOf r).take i)) i r s = some ((numC wd most ⟨bytesOf r, s⟩).1, strOfNums (numC wd most ⟨bytesOf r, s⟩).2.rest, (numC wd most ⟨bytesOf r, s⟩).2.short) := by
  have hby := byt_bytesOf r
  induction d with
  | zero =>
    intro i k hi hd hk
    obtain ⟨k, rfl⟩ : ∃ m, k = m + 1 := ⟨k - 1, by omega⟩
    obtain rfl : i = wd := by omega
    have h0 := val_nonneg _ (byt_take hby i)
    have e1 : IntKind.u64.wrap most = most := by rw [IntKind.wrap_u64]; omega
    have e2 : ((i : Nat) : Int).toNat = i := Int.toNat_natCast i
    simp only [frame_cursor_number.l0]
    rw [if_neg (by omega), if_pos (by omega), if_pos (by omega), e1, e2, extract_tail r i hr]
    have hlen : (⟨bytesOf r, s⟩ : Cur).rest.length = r.size := bytesOf_length r
    by_cases h : most < val ((bytesOf r).take i)
    · have e : numC i most ⟨bytesOf r, s⟩ = (0, ⟨(bytesOf r).drop i, true⟩) := by unfold numC; rw [if_neg (by omega), if_pos h]
      rw [if_pos h, e]
    · have e : numC i most ⟨bytesOf r, s⟩ = (val ((bytesOf r).take i), ⟨(bytesOf r).drop i, s⟩) := by unfold numC; rw [if_neg (by omega), if_neg h]
      have e3 : wrap64 (val ((bytesOf r).take i)) = val ((bytesOf r).take i) := w64 _ (by omega) (by omega)
      rw [if_neg h, e, e3]
  | succ d ih =>
    intro i k hi hd hk
    obtain ⟨k, rfl⟩ : ∃ m, k = m + 1 := ⟨k - 1, by omega⟩
    have hlt : i < r.size := by omega
    have hi := ih (i + 1) k (by omega) (by omega) (by omega)
    have c1 : (i : Int) < (wd : Int) := by omega
    have c2 : (0 : Int) ≤ (i : Int) := by omega
    have c3 : (i : Int) < (r.size : Int) := by omega
    have h0 := val_nonneg _ (byt_take hby i)
    have h1 := val_lt _ (byt_take hby i)
    have hl : ((bytesOf r).take i).length = i := by rw [List.length_take, bytesOf_length]; omega
    rw [hl] at h1
    have h2 := pow256_le i (by omega)
    have hb := bt_range r (i : Int)
    have e := take_bytes_next r i hlt
    have e3 : wrap64 ((i : Int) + 1) = ((i + 1 : Nat) : Int) := by rw [w64 _ (by omega) (by omega)]; omega
    have h3 : val ((bytesOf r).take i) < 72057594037927936 := Int.lt_of_lt_of_le h1 h2
    clear h1 h2
    have hv : 256 * val ((bytesOf r).take i) + bt r (i : Int) = val ((bytesOf r).take (i + 1)) := by rw [e, val_snoc]
    generalize val ((bytesOf r).take (i + 1)) = y at hv hi
    generalize val ((bytesOf r).take i) = x at hv h0 h3 ⊢
    generalize hbb : bt r (i : Int) = b at hv hb
    have ho := u64_or x b h0 h3 hb.1 (Int.lt_of_le_of_lt hb.2 (by decide))
    rw [hv, ← hbb] at ho
    simp only [frame_cursor_number.l0]
    rw [if_pos c1, if_pos c2, if_pos c3, ho, e3]
    exact hi
theorem number_f (r : ByteArray) (s : Bool) (wd : Nat) (most : Int) (hw : wd ≤ 8) (hm : 0 ≤ most) (hm1 : most ≤ 9007199254740992) :
    frame_cursor_number.f 9 r s wd most = some ((numC wd most ⟨bytesOf r, s⟩).1, strOfNums (numC wd most ⟨bytesOf r, s⟩).2.rest, (numC wd most ⟨bytesOf r, s⟩).2.short) := by
  unfold frame_cursor_number.f
  by_cases h : r.size < wd
  · rw [if_pos (by omega)]
    have e : numC wd most ⟨bytesOf r, s⟩ = (0, ⟨bytesOf r, true⟩) := by unfold numC; rw [if_pos (by rw [bytesOf_length]; exact h)]
    rw [e]
    simp only [strOfNums_bytesOf]
  · rw [if_neg (by omega)]
    exact number_l r s wd most hw (by omega) hm hm1 (wd - 0) 0 9 (by omega) rfl (by omega)
theorem numC_le (wd : Nat) (most : Int) (c : Cur) (hb : Byt c.rest) (hm : 0 ≤ most) : 0 ≤ (numC wd most c).1 ∧ (numC wd most c).1 ≤ most ∧ (numC wd most c).2.rest.length ≤ c.rest.length := by
  unfold numC
  split
  · exact ⟨Int.le_refl _, hm, Nat.le_refl _⟩
  · split
    · exact ⟨Int.le_refl _, hm, by simp⟩
    · exact ⟨val_nonneg _ (byt_take hb _), by simp only; omega, by simp⟩
theorem text_f (r : ByteArray) (s : Bool) (wd : Nat) (most : Int) (hw : wd ≤ 8) (hm : 0 ≤ most) (hm1 : most ≤ 9007199254740992) :
    frame_cursor_text.f 9 r s wd most = some (strOfNums (textC wd most ⟨bytesOf r, s⟩).1, strOfNums (textC wd most ⟨bytesOf r, s⟩).2.rest, (textC wd most ⟨bytesOf r, s⟩).2.short) := by
  have hb : Byt (⟨bytesOf r, s⟩ : Cur).rest := byt_bytesOf r
  have h1 := numC_le wd most ⟨bytesOf r, s⟩ hb hm
  have h2 := numC_byt wd most ⟨bytesOf r, s⟩ hb
  unfold frame_cursor_text.f
  rw [number_f r s wd most hw hm hm1]
  simp only [Option.bind_some]
  have ht : textC wd most ⟨bytesOf r, s⟩ = (if (numC wd most ⟨bytesOf r, s⟩).2.short = true ∨ ((numC wd most ⟨bytesOf r, s⟩).2.rest.length : Int) < (numC wd most ⟨bytesOf r, s⟩).1 then ([], ⟨(numC wd most ⟨bytesOf r, s⟩).2.rest, true⟩)
    else ((numC wd most ⟨bytesOf r, s⟩).2.rest.take (numC wd most ⟨bytesOf r, s⟩).1.toNat, ⟨(numC wd most ⟨bytesOf r, s⟩).2.rest.drop (numC wd most ⟨bytesOf r, s⟩).1.toNat, (numC wd most ⟨bytesOf r, s⟩).2.short⟩)) := rfl
  generalize textC wd most ⟨bytesOf r, s⟩ = y at ht ⊢
  generalize numC wd most ⟨bytesOf r, s⟩ = x at h1 h2 ht ⊢
  obtain ⟨n, c⟩ := x
  simp only at h1 h2 ht ⊢
  rw [strOfNums_size]
  by_cases hs : c.short = true
  · rw [if_pos (.inl hs)] at ht
    rw [if_pos hs, ht]
    rfl
  · by_cases hn : n > (c.rest.length : Int)
    · rw [if_pos (.inr hn)] at ht
      rw [if_neg hs, if_pos hn, ht]
      rfl
    · rw [if_neg (by simp only [not_or]; exact ⟨hs, hn⟩)] at ht
      have hsz : n.toNat ≤ (strOfNums c.rest).size := by rw [strOfNums_size]; omega
      have ht2 := extract_tail (strOfNums c.rest) n.toNat hsz
      rw [strOfNums_size] at ht2
      rw [if_neg hs, if_neg hn, if_pos h1.1, if_pos (by omega), ht, extract_head _ _ hsz, ht2, bytesOf_strOfNums _ h2]
def CBox (w0 w : World) (g : Nat) (c : Cur) : Prop := IsS95 w0 w g (strOfNums c.rest) c.short
theorem number_any (g : Nat) (c : Cur) (wd : Nat) (most : Int) (w0 w : World) (hI : CBox w0 w g c) (hB : Below w0.heap.size w0 w) (hb : Byt c.rest) (hw : wd ≤ 8) (hm : 0 ≤ most) (hm1 : most ≤ 9007199254740992) :
    Calls Tryd.prog 45 #[.pointer (some ⟨g, 0, none⟩), .int .i64 (wd : Int), .int .i64 most] w fun e w' => e = .returned (.int .i64 (numC wd most c).1) ∧ CBox w0 w' g (numC wd most c).2 ∧ Below w0.heap.size w0 w' ∧ KeepBut w w' g none := by
  refine frame_cursor_number.calls 9 g _ _ wd most _ _ _ w0 w hI hB ?_
  rw [number_f _ _ wd most hw hm hm1, bytesOf_strOfNums _ hb]
theorem text_any (g : Nat) (c : Cur) (wd : Nat) (most : Int) (w0 w : World) (hI : CBox w0 w g c) (hB : Below w0.heap.size w0 w) (hb : Byt c.rest) (hw : wd ≤ 8) (hm : 0 ≤ most) (hm1 : most ≤ 9007199254740992) :
    Calls Tryd.prog 72 #[.pointer (some ⟨g, 0, none⟩), .int .i64 (wd : Int), .int .i64 most] w fun e w' => e = .returned (.string (strOfNums (textC wd most c).1)) ∧ CBox w0 w' g (textC wd most c).2 ∧ Below w0.heap.size w0 w' ∧ KeepBut w w' g none := by
  refine frame_cursor_text.calls 9 g _ _ wd most _ _ _ w0 w hI hB ?_
  rw [text_f _ _ wd most hw hm hm1, bytesOf_strOfNums _ hb]
end Go.Proofs.YtnifgokjagahfaaDoor.Num
