/- Joined texts of this claim: RefDecPure, RefF, RefRead, Reg, RefRead2 -/
import Derived.Test.YtnifgokjagahfaaDoorJFSpl2
import Derived.Test.YtnifgokjagahfaaDoorJFSpl1
import Derived.Test.YtnifgokjagahfaaDoorJFSpl0
import Derived.Deep.DeepCutAuto
import Derived.Deep.RegionHeld3
import Derived.Test.YtnifgokjagahfaaDoorWWords
import Derived.Test.YtnifgokjagahfaaDoorWLast
import Derived.Orders
import Derived.Below
/- The document's Decode as a function of the bytes; it is decP. -/
set_option linter.unusedVariables false
set_option linter.unusedSimpArgs false
namespace Go.Proofs.YtnifgokjagahfaaDoor.RefDec
open Go.RowKit Go.Proofs.YtnifgokjagahfaaDoorW.PrintWords Go.Proofs.YtnifgokjagahfaaDoorW.PrintLast Go.Proofs.YtnifgokjagahfaaDoorW.PrintMore
open Go.Proofs.YtnifgokjagahfaaDoor.Base Go.Proofs.YtnifgokjagahfaaDoor.Layouts Go.Proofs.YtnifgokjagahfaaDoor.Msg Go.Proofs.YtnifgokjagahfaaDoor.Put Go.Proofs.YtnifgokjagahfaaDoor.EncPure Go.Proofs.YtnifgokjagahfaaDoor.DecPure Go.Proofs.YtnifgokjagahfaaDoor.Enc Go.Proofs.YtnifgokjagahfaaDoor.Num Go.Proofs.YtnifgokjagahfaaDoor.PFrameDecodes
def numR (L : List Int) (at_ w : Nat) : Int := if 9007199254740992 < val ((L.drop at_).take w) then -1 else val ((L.drop at_).take w)
def longR (L : List Int) (at_ w : Nat) : Int := if at_ + w > L.length then 0 else numR L at_ w
def pieceR (L : List Int) (at_ n : Nat) : List Int := (L.drop at_).take n
def stepR (L : List Int) (s : M × Nat) (f : Nat) : M × Nat :=
  if f < 4 then (setNum s.1 f (longR L s.2 8), s.2 + 8)
  else if f = 4 then (setNum s.1 4 (longR L s.2 2), s.2 + 2)
  else (setText s.1 f (strOfNums (pieceR L (s.2 + wN f) (longR L s.2 (wN f)).toNat)), s.2 + (wN f + (longR L s.2 (wN f)).toNat))
def readR (L : List Int) : M := ((fieldsOf (kindL L).toNat).foldl (stepR L) (blankM (kindL L) (numR L 4 2) (numR L 6 2) (numR L 8 8), 20)).1
theorem val_append_ge (a : List Int) (ha : Byt a) : ∀ b, Byt b → val a ≤ val (a ++ b) := by
  intro b
  induction b using snoc_ind with
  | nil => intro _; simp
  | snoc b x ih =>
    intro hb
    have h1 := ih (fun y hy => hb y (by simp [hy]))
    have h2 := hb x (by simp)
    have h3 := val_nonneg a ha
    rw [← List.append_assoc, val_snoc]
    omega
theorem val_take_le (l : List Int) (h : Byt l) (i : Nat) : val (l.take i) ≤ val l := by
  have := val_append_ge (l.take i) (byt_take h i) (l.drop i) (byt_drop h i)
  rwa [List.take_append_drop] at this
theorem sub_bytes (r : ByteArray) (at_ w i : Nat) (hi : i < w) (h : at_ + w ≤ r.size) : (((bytesOf r).drop at_).take w).take (i + 1) = (((bytesOf r).drop at_).take w).take i ++ [bt r ((at_ : Int) + (i : Int))] := by
  have hl : i < (((bytesOf r).drop at_).take w).length := by rw [List.length_take, List.length_drop, bytesOf_length]; omega
  rw [List.take_add_one, List.getElem?_eq_getElem hl]
  congr 2
  rw [List.getElem_take, List.getElem_drop]
  have e : ((at_ : Int) + (i : Int)) = ((at_ + i : Nat) : Int) := by omega
  rw [e, ← rd_bytesOf]
  have hl2 : at_ + i < (bytesOf r).length := by rw [bytesOf_length]; omega
  unfold rd
  rw [Int.toNat_natCast, List.getD_eq_getElem?_getD, List.getElem?_eq_getElem hl2]
  rfl
theorem rnumber_l (r : ByteArray) (at_ wd : Nat) (hw : wd ≤ 8) (h : at_ + wd ≤ r.size) (hsz : r.size ≤ 9223372036854775807) (d : Nat) : ∀ (i k : Nat), i ≤ wd → wd - i = d → d < k → val ((((bytesOf r).drop at_).take wd).take i) ≤ 9007199254740992 →
    granaryref5_number.l0 k r at_ wd (val ((((bytesOf r).drop at_).take wd).take i)) i = some (numR (bytesOf r) at_ wd) := by
  have hby : Byt (((bytesOf r).drop at_).take wd) := byt_take (byt_drop (byt_bytesOf r) _) _
  have hll : (((bytesOf r).drop at_).take wd).length = wd := by rw [List.length_take, List.length_drop, bytesOf_length]; omega
  have hR : numR (bytesOf r) at_ wd = if 9007199254740992 < val (((bytesOf r).drop at_).take wd) then -1 else val (((bytesOf r).drop at_).take wd) := rfl
  have hsub := fun i hi => sub_bytes r at_ wd i hi h
  generalize ((bytesOf r).drop at_).take wd = l at hby hll hR hsub
  generalize numR (bytesOf r) at_ wd = z at hR ⊢
  induction d with
  | zero =>
    intro i k hi hd hk hv
    obtain ⟨k, rfl⟩ : ∃ m, k = m + 1 := ⟨k - 1, by omega⟩
    obtain rfl : i = wd := by omega
    have ht : l.take i = l := List.take_of_length_le (by omega)
    rw [ht] at hv ⊢
    simp only [granaryref5_number.l0]
    rw [if_neg (by omega), hR, if_neg (by omega)]
  | succ d ih =>
    intro i k hi hd hk hv
    obtain ⟨k, rfl⟩ : ∃ m, k = m + 1 := ⟨k - 1, by omega⟩
    have c1 : (i : Int) < (wd : Int) := by omega
    have c2 : (0 : Int) ≤ (at_ : Int) + (i : Int) := by omega
    have c3 : (at_ : Int) + (i : Int) < (r.size : Int) := by omega
    have c4 : -9223372036854775808 ≤ (at_ : Int) + (i : Int) ∧ (at_ : Int) + (i : Int) ≤ 9223372036854775807 := by omega
    have c5 : (i : Int) + 1 = ((i + 1 : Nat) : Int) := by omega
    have c6 : -9223372036854775808 ≤ (i : Int) + 1 ∧ (i : Int) + 1 ≤ 9223372036854775807 := by omega
    have hs := hsub i (by omega)
    have hb := bt_range r ((at_ : Int) + (i : Int))
    have h0 := val_nonneg _ (byt_take hby i)
    have hle := val_take_le l hby (i + 1)
    have hn := ih (i + 1) k (by omega) (by omega) (by omega)
    have hval : val (l.take (i + 1)) = 256 * val (l.take i) + bt r ((at_ : Int) + (i : Int)) := by rw [hs, val_snoc]
    clear hs
    generalize hbb : bt r ((at_ : Int) + (i : Int)) = b at hb hval
    generalize val (l.take (i + 1)) = y at hle hn hval
    generalize val (l.take i) = x at hv h0 hval ⊢
    have B1 : -9223372036854775808 ≤ 256 * x ∧ 256 * x ≤ 9223372036854775807 := by omega
    have B2 : -9223372036854775808 ≤ 256 * x + b ∧ 256 * x + b ≤ 9223372036854775807 := by omega
    have B3 : -9223372036854775808 ≤ b ∧ b ≤ 9223372036854775807 := by omega
    have fin : (if 256 * x + b > 9007199254740992 then some (-1) else granaryref5_number.l0 k r at_ wd (256 * x + b) ((i + 1 : Nat) : Int)) = some z := by
      by_cases hbig : 256 * x + b > 9007199254740992
      · rw [if_pos hbig, hR, if_pos (by omega)]
      · rw [if_neg hbig, ← hval]
        exact hn (by omega)
    have e1 : wrap64 ((at_ : Int) + (i : Int)) = (at_ : Int) + (i : Int) := w64 _ c4.1 c4.2
    have e2 : wrap64 (256 * x) = 256 * x := w64 _ B1.1 B1.2
    have e3 : wrap64 b = b := w64 _ B3.1 B3.2
    have e4 : wrap64 (256 * x + b) = 256 * x + b := w64 _ B2.1 B2.2
    have e5 : wrap64 ((i : Int) + 1) = ((i + 1 : Nat) : Int) := by rw [w64 _ c6.1 c6.2]; exact c5
    simp only [granaryref5_number.l0]
    rw [if_pos c1, e1, if_pos c2, if_pos c3, hbb, e2, e3, e4, e5]
    exact fin
theorem rnumber_f (r : ByteArray) (at_ wd : Nat) (hw : wd ≤ 8) (h : at_ + wd ≤ r.size) (hsz : r.size ≤ 9223372036854775807) : granaryref5_number.f 9 r at_ wd = some (numR (bytesOf r) at_ wd) :=
  rnumber_l r at_ wd hw h hsz (wd - 0) 0 9 (by omega) rfl (by omega) (by simp [val])
theorem rlong_f (r : ByteArray) (at_ wd : Nat) (hw : wd ≤ 8) (hat : at_ ≤ 1099511627776) (hsz : r.size ≤ 9223372036854775807) : granaryref5_long.f 9 r at_ wd = some (longR (bytesOf r) at_ wd) := by
  have B : -9223372036854775808 ≤ (at_ : Int) + (wd : Int) ∧ (at_ : Int) + (wd : Int) ≤ 9223372036854775807 := by omega
  have hl : longR (bytesOf r) at_ wd = if at_ + wd > r.size then 0 else numR (bytesOf r) at_ wd := by unfold longR; rw [bytesOf_length]
  by_cases c : at_ + wd > r.size
  · have c' : (at_ : Int) + (wd : Int) > (r.size : Int) := by omega
    unfold granaryref5_long.f
    rw [w64 _ B.1 B.2, if_pos c', hl, if_pos c]
  · have c' : ¬ (at_ : Int) + (wd : Int) > (r.size : Int) := by omega
    unfold granaryref5_long.f
    rw [w64 _ B.1 B.2, if_neg c', rnumber_f r at_ wd hw (by omega) hsz, Option.bind_some, hl, if_neg c]
theorem numR_range (L : List Int) (hb : Byt L) (at_ wd : Nat) : -1 ≤ numR L at_ wd ∧ numR L at_ wd ≤ 9007199254740992 := by
  have h := val_nonneg _ (byt_take (byt_drop hb at_) wd)
  unfold numR
  split <;> omega
/-- a number of two or four bytes is not above MaxNumber -/
theorem longR_small (L : List Int) (hb : Byt L) (at_ wd : Nat) (hw : wd ≤ 4) : 0 ≤ longR L at_ wd ∧ longR L at_ wd < 4294967296 := by
  have h0 := val_nonneg _ (byt_take (byt_drop hb at_) wd)
  have h1 := val_lt _ (byt_take (byt_drop hb at_) wd)
  have hl : ((L.drop at_).take wd).length ≤ 4 := by rw [List.length_take]; omega
  have hp : ∀ n, n ≤ 4 → (256 : Int) ^ n ≤ 4294967296 := by
    intro n hn
    have : ∀ n, n < 5 → (256 : Int) ^ n ≤ 4294967296 := by decide
    exact this n (by omega)
  have h2 := Int.lt_of_lt_of_le h1 (hp _ hl)
  clear h1
  unfold longR numR
  split
  · omega
  · rw [if_neg (by omega)]; exact ⟨h0, h2⟩
/-! what is read of a whole frame is the message -/
theorem numR_be {L : List Int} {at_ wd : Nat} {n : Int} {t : List Int} (h : L.drop at_ = be n wd ++ t) (h0 : 0 ≤ n) (h1 : n ≤ 9007199254740992) (hw : n < 256 ^ wd) : numR L at_ wd = n := by
  have e : (L.drop at_).take wd = be n wd := by rw [h]; exact List.take_left' (be_length n wd)
  unfold numR
  rw [e, val_be wd n h0 hw, if_neg (by omega)]
theorem longR_be {L : List Int} {at_ wd : Nat} {n : Int} {t : List Int} (h : L.drop at_ = be n wd ++ t) (hwd : 0 < wd) (h0 : 0 ≤ n) (h1 : n ≤ 9007199254740992) (hw : n < 256 ^ wd) : longR L at_ wd = n := by
  have hl : at_ + wd ≤ L.length := by
    have := congrArg List.length h
    rw [List.length_drop, List.length_append, be_length] at this
    omega
  unfold longR
  rw [if_neg (by omega)]
  exact numR_be h h0 h1 hw
theorem step_mk (m m0 : M) (L : List Int) (at_ f : Nat) (t : List Int) (hf : f < 7) (h : 0 ≤ numOf m f ∧ numOf m f ≤ mostOf f) (hL : L.drop at_ = fieldB m f ++ t) : stepR L (m0, at_) f = (copyF m m0 f, at_ + (fieldB m f).length) := by
  have hp := pow_most f hf
  have hmx : mostOf f ≤ 9007199254740992 := by
    have : ∀ n, n < 7 → mostOf n ≤ 9007199254740992 := by decide
    exact this f hf
  have hfl := field_length m f
  unfold stepR copyF
  by_cases h4 : f < 4
  · have ht := textOf_num m f (by omega)
    have hw : wN f = 8 := by
      have : ∀ f, f < 4 → wN f = 8 := by decide
      exact this f h4
    rw [if_pos h4, if_pos (by omega)]
    unfold fieldB at hL
    rw [ht, List.append_nil, hw] at hL
    rw [hw] at hp
    simp only
    rw [longR_be hL (by decide) h.1 (by omega) (by omega), hfl, ht, hw]
    rfl
  · rw [if_neg h4]
    by_cases e4 : f = 4
    · subst e4
      have ht := textOf_num m 4 (by decide)
      have hw : wN 4 = 2 := rfl
      rw [if_pos rfl, if_pos (by decide)]
      unfold fieldB at hL
      rw [ht, List.append_nil, hw] at hL
      rw [hw] at hp
      simp only
      rw [longR_be hL (by decide) h.1 (by omega) (by omega), hfl, ht, hw]
      rfl
    · rw [if_neg e4, if_neg (by omega)]
      have e : f = 5 ∨ f = 6 := by omega
      have hpos : 0 < wN f := (wN_range f hf).1
      unfold fieldB at hL
      rw [List.append_assoc] at hL
      simp only
      rw [longR_be hL hpos h.1 (by omega) (by omega)]
      have hd : L.drop (at_ + wN f) = textOf m f ++ t := by
        rw [← List.drop_drop, hL, List.drop_left' (be_length _ _)]
      have hnt : (numOf m f).toNat = (textOf m f).length := by
        rcases e with e | e
        · subst e; rw [(num_size m).1]; rfl
        · subst e; rw [(num_size m).2]; rfl
      have hpi : pieceR L (at_ + wN f) (numOf m f).toNat = textOf m f := by
        unfold pieceR
        rw [hd, hnt]
        exact List.take_left' rfl
      rw [hpi, hfl, hnt]
      rcases e with e | e
      · subst e
        rw [if_pos rfl]
        have : strOfNums (textOf m 5) = m.key := strOfNums_bytesOf m.key
        rw [this]
      · subst e
        rw [if_neg (by decide)]
        have : strOfNums (textOf m 6) = m.value := strOfNums_bytesOf m.value
        rw [this]
theorem steps_mk (m : M) (L : List Int) : ∀ (fs : List Nat) (m0 : M) (at_ : Nat) (t : List Int), (∀ f ∈ fs, f < 7 ∧ 0 ≤ numOf m f ∧ numOf m f ≤ mostOf f) → L.drop at_ = bodyB m fs ++ t →
    (fs.foldl (stepR L) (m0, at_)).1 = fs.foldl (copyF m) m0
  | [], m0, at_, t, _, _ => rfl
  | f :: fs, m0, at_, t, h, hL => by
    have hf := h f (by simp)
    have e : bodyB m (f :: fs) ++ t = fieldB m f ++ (bodyB m fs ++ t) := by simp [bodyB]
    rw [e] at hL
    rw [List.foldl_cons, step_mk m m0 L at_ f _ hf.1 hf.2 hL, List.foldl_cons]
    refine steps_mk m L fs _ _ t (fun g hg => h g (by simp [hg])) ?_
    rw [← List.drop_drop, hL, List.drop_left' rfl]
theorem read_whole (m : M) (h : vB m = true) (hk : 1 ≤ m.kind ∧ m.kind < 17) : readR (whole m) = m := by
  obtain ⟨hf, ht, hi, h4⟩ := vB_facts m h
  have hw := whole_parts m
  obtain ⟨p1, p2, p3, p4, p5, p6, p7⟩ := parts_of (a := [71, 82, 1, m.kind]) (b := be m.from_ 2 ++ (be m.to_ 2 ++ be m.id 8)) (c := be (bodyB m (fieldsOf m.kind.toNat)).length 4) (d := bodyB m (fieldsOf m.kind.toNat)) (e := sumL (frameB m)) rfl
    (by simp only [List.length_append, be_length]) (be_length _ _) rfl hw
  obtain ⟨k1, _⟩ := kindL_of p1
  have d4 : (whole m).drop 4 = be m.from_ 2 ++ (be m.to_ 2 ++ (be m.id 8 ++ (be (bodyB m (fieldsOf m.kind.toNat)).length 4 ++ (bodyB m (fieldsOf m.kind.toNat) ++ sumL (frameB m))))) := by
    rw [hw]
    simp only [List.append_assoc]
    exact List.drop_left' rfl
  have d6 : (whole m).drop 6 = be m.to_ 2 ++ (be m.id 8 ++ (be (bodyB m (fieldsOf m.kind.toNat)).length 4 ++ (bodyB m (fieldsOf m.kind.toNat) ++ sumL (frameB m)))) := by
    rw [show 6 = 4 + 2 from rfl, ← List.drop_drop, d4, List.drop_left' (be_length _ _)]
  have d8 : (whole m).drop 8 = be m.id 8 ++ (be (bodyB m (fieldsOf m.kind.toNat)).length 4 ++ (bodyB m (fieldsOf m.kind.toNat) ++ sumL (frameB m))) := by
    rw [show 8 = 6 + 2 from rfl, ← List.drop_drop, d6, List.drop_left' (be_length _ _)]
  have d20 : (whole m).drop 20 = bodyB m (fieldsOf m.kind.toNat) ++ sumL (frameB m) := by
    have d16 : (whole m).drop 16 = be (bodyB m (fieldsOf m.kind.toNat)).length 4 ++ (bodyB m (fieldsOf m.kind.toNat) ++ sumL (frameB m)) := by
      rw [show 16 = 8 + 8 from rfl, ← List.drop_drop, d8, List.drop_left' (be_length _ _)]
    rw [show 20 = 16 + 4 from rfl, ← List.drop_drop, d16, List.drop_left' (be_length _ _)]
  have n1 : numR (whole m) 4 2 = m.from_ := numR_be d4 hf.1 (by omega) (by omega)
  have n2 : numR (whole m) 6 2 = m.to_ := numR_be d6 ht.1 (by omega) (by omega)
  have n3 : numR (whole m) 8 8 = m.id := numR_be d8 hi.1 hi.2 (by omega)
  have hk' : m.kind.toNat < 17 := by omega
  unfold readR
  rw [k1, n1, n2, n3, steps_mk m (whole m) _ _ 20 _ (fun f hf => ⟨fieldsOf_lt _ hk' f hf, h4 f (fieldsOf_lt _ hk' f hf)⟩) d20, copy_all m h hk]
/-- the document's Decode -/
def decR (L : List Int) : M × Int :=
  if L.length < 24 then (zeroM, 51)
  else if L.take 3 ≠ [71, 82, 1] then (zeroM, 52)
  else if ¬ (1 ≤ kindL L ∧ kindL L < 17) then (zeroM, 53)
  else if 4383 < bodyN L ∨ 24 + bodyN L ≠ L.length then (zeroM, 54)
  else if sumL (L.take (L.length - 4)) ≠ L.drop (L.length - 4) then (zeroM, 55)
  else if (encP (readR L)).2 ≠ 0 ∨ bytesOf (encP (readR L)).1 ≠ L then (zeroM, 56)
  else (readR L, 0)
theorem encP_ok (m : M) (h : (encP m).2 = 0) : kB m = true ∧ vB m = true ∧ (encP m).1 = strOfNums (whole m) := by
  unfold encP at h ⊢
  cases h1 : kB m
  · rw [h1] at h; simp at h
  · cases h2 : vB m
    · rw [h1, h2] at h; simp at h
    · simp
theorem encP_of (m : M) (hk : 1 ≤ m.kind ∧ m.kind < 17) (hv : vB m = true) : encP m = (strOfNums (whole m), 0) := by
  unfold encP kB
  rw [if_pos (decide_eq_true hk), if_pos hv]
theorem dec_same (L : List Int) (hb : Byt L) : decR L = decP L := by
  unfold decR decP
  split
  · rfl
  rename_i g1
  split
  · rfl
  rename_i g2
  split
  · rfl
  rename_i g3
  split
  · rfl
  rename_i g4
  split
  · rfl
  rename_i g5
  by_cases hbad : badL L = true
  · rw [if_pos hbad]
    by_cases hc : (encP (readR L)).2 ≠ 0 ∨ bytesOf (encP (readR L)).1 ≠ L
    · rw [if_pos hc]
    · exfalso
      simp only [not_or, ne_eq, Decidable.not_not] at hc
      obtain ⟨hk, hv, he⟩ := encP_ok _ hc.1
      have hk' : 1 ≤ (readR L).kind ∧ (readR L).kind < 17 := of_decide_eq_true hk
      have hL : whole (readR L) = L := by
        have h2 := hc.2
        rw [he, bytesOf_strOfNums _ (byt_whole _ hk')] at h2
        exact h2
      have hd := dec_whole (readR L) hv hk'
      rw [hL] at hd
      have h56 : decP L = (zeroM, 56) := by
        unfold decP
        rw [if_neg g1, if_neg g2, if_neg g3, if_neg g4, if_neg g5, if_pos hbad]
      rw [h56] at hd
      have h2 : (56 : Int) = 0 := congrArg Prod.snd hd
      omega
  · rw [if_neg hbad]
    have hok : decP L = ((pL L).1, 0) := by
      unfold decP
      rw [if_neg g1, if_neg g2, if_neg g3, if_neg g4, if_neg g5, if_neg hbad]
    obtain ⟨hv, hk, hL⟩ := dec_ok hb hok
    generalize (pL L).1 = m at hv hk hL ⊢
    subst hL
    rw [read_whole m hv hk, encP_of m hk hv, if_neg]
    simp only [bytesOf_strOfNums _ (byt_whole m hk)]
    simp
end Go.Proofs.YtnifgokjagahfaaDoor.RefDec

/- The document's fields: has, fits, valid. -/
set_option linter.unusedVariables false
set_option linter.unusedSimpArgs false
namespace Go.Proofs.YtnifgokjagahfaaDoor.RefF
open Go.RowKit Go.Proofs.YtnifgokjagahfaaDoorW.PrintWords Go.Proofs.YtnifgokjagahfaaDoorW.PrintLast Go.Proofs.YtnifgokjagahfaaDoorW.PrintMore
open Go.Proofs.YtnifgokjagahfaaDoor.Base Go.Proofs.YtnifgokjagahfaaDoor.App Go.Proofs.YtnifgokjagahfaaDoor.Layouts Go.Proofs.YtnifgokjagahfaaDoor.Msg Go.Proofs.YtnifgokjagahfaaDoor.Put Go.Proofs.YtnifgokjagahfaaDoor.EncPure
/-- the letters: E S V P C K W -/
def chOf : Nat → Nat
  | 0 => 69
  | 1 => 83
  | 2 => 86
  | 3 => 80
  | 4 => 67
  | 5 => 75
  | _ => 87
theorem chOf_inj : ∀ f, f < 7 → ∀ g, g < 7 → chOf f = chOf g → f = g := by decide
def fstr (k : Nat) : ByteArray := ⟨((fieldsOf k).map fun f => UInt8.ofNat (chOf f)).toArray⟩
theorem fstr_size (k : Nat) : (fstr k).size = (fieldsOf k).length := by simp [fstr, ByteArray.size]
theorem fstr_at (k j n : Nat) (hk : k < 17) (hn : (fieldsOf k)[j]? = some n) (h : j < (fstr k).size) : ((fstr k)[j]'h).toNat = chOf n := by
  have hn7 : n < 7 := fields_lt k hk j n hn
  have e : (fstr k)[j]'h = UInt8.ofNat (chOf n) := by
    have hj : j < (fieldsOf k).length := by rw [← fstr_size]; exact h
    have h2 : (fieldsOf k)[j] = n := by rw [List.getElem?_eq_getElem hj] at hn; exact Option.some.inj hn
    show (fstr k).data[j]'_ = _
    simp only [fstr, List.getElem_toArray, List.getElem_map, h2]
  rw [e]
  have : ∀ n, n < 7 → (UInt8.ofNat (chOf n)).toNat = chOf n := by decide
  exact this n hn7
/-- the table lies where it was laid -/
structure RTab (w : World) : Prop where mk :: (cell : ∀ i, i < 17 → w.cell? ⟨1, i, none⟩ = some (.string (fstr i))) (lt : 1 < w.heap.size)
theorem RTab.below {w w1 : World} (h : RTab w) (hb : Below w.heap.size w w1) : RTab w1 :=
  ⟨fun i hi => (hb.cell (p := ⟨1, i, none⟩) h.lt).trans (h.cell i hi), Nat.lt_of_lt_of_le h.lt hb.size⟩
def hasB (k f : Nat) : Bool := (fieldsOf k).contains f
set_option maxRecDepth 100000 in
set_option maxHeartbeats 4000000 in
theorem has_any (k f : Nat) (w : World) (hk : k < 17) (hf : f < 7) (hR : RTab w) : Calls Tryd.prog 83 #[.int .i64 (k : Nat), .int .u8 (chOf f : Nat)] w fun e w' => e = .returned (.bool (hasB k f)) ∧ w = w' := by
  have hc := hR.cell k hk
  have hsz := fstr_size k
  have hat := fun j n hn h => fstr_at k j n hk hn h
  have HI := Aside0.mk (fun j n => fields_lt k hk j n)
  have hB : hasB k f = (fieldsOf k).contains f := rfl
  have h6 := fields_len k hk
  have hkk : (k : Int) < 17 := by omega
  generalize fieldsOf k = fs at hsz hat hB h6 HI
  generalize fstr k = S at hc hsz hat
  generalize hasB k f = r at hB ⊢
  have HS := Aside0.mk hsz
  have HA := Aside0.mk hat
  have HBB := Lib.hid hB
  have h6' : S.size ≤ 6 := by omega
  clear hsz hat hB hR h6
  go_enter Tryd.func83, Tryd.ntmps83
  go_wp2
  go_loop [6] (fun iv => ∃ j : Nat, j ≤ S.size ∧ iv = .int .i64 (j : Int) ∧ Aside0 ((fs.take j).contains f = false)) (fun iv => 7 - (intOf iv).toNat)
  case atStart => exact ⟨0, Nat.zero_le _, rfl, ⟨by simp⟩⟩
  case round =>
    obtain ⟨j, hj, rfl, HN⟩ := hrel
    by_cases hlt : j < S.size
    · obtain ⟨n, hn⟩ : ∃ n, fs[j]? = some n := ⟨_, List.getElem?_eq_getElem (by rw [← HS.out]; exact hlt)⟩
      have ha := HA.out j n hn hlt
      have hn7 := HI.out j n hn
      have HX := Aside0.mk hn
      by_cases he : n = f
      · subst he
        have HT : Aside0 (r = true) := ⟨by rw [HBB.out]; simpa using List.mem_of_getElem? hn⟩
        clear hn
        go_wp2
        go_ret
        exact ⟨by rw [HT.out]; rfl, rfl⟩
      · have hne : ¬ (chOf n : Int) = (chOf f : Int) := fun h => he (chOf_inj n hn7 f hf (by omega))
        have hne2 : ((chOf n : Int) == (chOf f : Int)) = false := beq_eq_false_iff_ne.2 hne
        have HT : Aside0 ((fs.take (j + 1)).contains f = false) := ⟨by
          rw [List.take_add_one, hn, Option.toList_some, List.contains_append]
          rw [HN.out]
          simp
          exact fun h => he h.symm⟩
        clear hn
        generalize chOf n = cn at ha hne hne2
        generalize chOf f = cf at hne hne2
        go_wp2
        go_round
        case rel => exact ⟨j + 1, by omega, by go_num, HT⟩
        case measure => simp [intOf]; omega
    · obtain rfl : j = S.size := by omega
      have HT : Aside0 (r = false) := ⟨by
        rw [HBB.out, ← HN.out, List.take_of_length_le (by rw [HS.out]; exact Nat.le_refl _)]⟩
      go_wp2
      go_ret
      exact ⟨by rw [HT.out]; rfl, rfl⟩
def fitB (k f : Nat) (n most : Int) : Bool := wi n (if hasB k f = true then most else 0)
set_option maxRecDepth 100000 in
set_option maxHeartbeats 4000000 in
theorem fits_any (k f : Nat) (n most : Int) (w : World) (hk : k < 17) (hf : f < 7) (hR : RTab w) : Calls Tryd.prog 69 #[.int .i64 (k : Nat), .int .u8 (chOf f : Nat), .int .i64 n, .int .i64 most] w fun e w' => e = .returned (.bool (fitB k f n most)) ∧ w = w' := by
  have K := Lib.hid (has_any k f w hk hf hR)
  have hB : fitB k f n most = wi n (if hasB k f = true then most else 0) := rfl
  generalize hasB k f = b at K hB
  generalize fitB k f n most = r at hB ⊢
  cases b
  · rw [if_neg (by decide)] at hB
    have hB2 : r = decide (n = 0) := by
      rw [hB, Bool.eq_iff_iff]
      simp only [decide_eq_true_iff]
      constructor
      · intro h; have := wi_of h; omega
      · rintro rfl; rfl
    have HB := Lib.hid hB2
    clear hB hB2 hR
    go_enter Tryd.func69, Tryd.ntmps69
    go_wp2_with fail
    refine K.out.mono ?_
    rintro e w' ⟨rfl, rfl⟩
    go_wp2
    go_ret
    refine ⟨?_, rfl⟩
    rw [HB.out]
    simp [Bool.beq_eq_decide_eq]
  · rw [if_pos rfl] at hB
    have HB := Lib.hid hB
    clear hB hR
    by_cases h0 : 0 ≤ n
    · by_cases h1 : n ≤ most
      · have HW := Aside0.mk (wi_mk ⟨h0, h1⟩)
        go_enter Tryd.func69, Tryd.ntmps69
        go_wp2_with fail
        refine K.out.mono ?_
        rintro e w' ⟨rfl, rfl⟩
        go_wp2
        go_ret
        exact ⟨by rw [HB.out, HW.out]; rfl, rfl⟩
      · have HW : Aside0 (wi n most = false) := ⟨by cases h : wi n most; rfl; exact absurd (wi_of h).2 h1⟩
        go_enter Tryd.func69, Tryd.ntmps69
        go_wp2_with fail
        refine K.out.mono ?_
        rintro e w' ⟨rfl, rfl⟩
        go_wp2
        go_ret
        exact ⟨by rw [HB.out, HW.out]; simp <;> omega, rfl⟩
    · have HW : Aside0 (wi n most = false) := ⟨by cases h : wi n most; rfl; exact absurd (wi_of h).1 h0⟩
      go_enter Tryd.func69, Tryd.ntmps69
      go_wp2_with fail
      refine K.out.mono ?_
      rintro e w' ⟨rfl, rfl⟩
      go_wp2
      go_ret
      exact ⟨by rw [HB.out, HW.out]; rfl, rfl⟩
set_option maxRecDepth 100000 in
set_option maxHeartbeats 4000000 in
theorem textFits_any (k f : Nat) (t : ByteArray) (most : Nat) (w : World) (hk : k < 17) (hf : f < 7) (hR : RTab w) (hmx : t.size ≤ 9223372036854775807) : Calls Tryd.prog 70 #[.int .i64 (k : Nat), .int .u8 (chOf f : Nat), .string t, .int .i64 (most : Nat)] w fun e w' => e = .returned (.bool (fitB k f t.size most)) ∧ w = w' := by
  have K := Lib.hid (has_any k f w hk hf hR)
  have hB : fitB k f t.size most = wi t.size (if hasB k f = true then (most : Int) else 0) := rfl
  generalize hasB k f = b at K hB
  generalize fitB k f t.size most = r at hB ⊢
  cases b
  · rw [if_neg (by decide)] at hB
    have hB2 : r = t.toList.isEmpty := by
      rw [hB, Bool.eq_iff_iff, ByteArray.toList_eq, List.isEmpty_iff]
      have hl := data_length t
      constructor
      · intro h; have := wi_of h; exact List.eq_nil_of_length_eq_zero (by omega)
      · intro h; rw [h] at hl; have : t.size = 0 := hl.symm; rw [this]; rfl
    have HB := Lib.hid hB2
    clear hB hB2 hR
    go_enter Tryd.func70, Tryd.ntmps70
    go_wp2_with fail
    refine K.out.mono ?_
    rintro e w' ⟨rfl, rfl⟩
    go_wp2
    go_ret
    refine ⟨?_, rfl⟩
    rw [HB.out]
    simp
  · rw [if_pos rfl] at hB
    have HB := Lib.hid hB
    clear hB hR
    by_cases h1 : (t.size : Int) ≤ (most : Int)
    · have HW := Aside0.mk (wi_mk (n := t.size) ⟨by omega, h1⟩)
      go_enter Tryd.func70, Tryd.ntmps70
      go_wp2_with fail
      refine K.out.mono ?_
      rintro e w' ⟨rfl, rfl⟩
      go_wp2
      go_ret
      refine ⟨?_, rfl⟩
      rw [HB.out, HW.out]
      simp <;> omega
    · have HW : Aside0 (wi t.size most = false) := ⟨by cases h : wi (t.size : Int) most; rfl; exact absurd (wi_of h).2 h1⟩
      go_enter Tryd.func70, Tryd.ntmps70
      go_wp2_with fail
      refine K.out.mono ?_
      rintro e w' ⟨rfl, rfl⟩
      go_wp2
      go_ret
      refine ⟨?_, rfl⟩
      rw [HB.out, HW.out]
      simp <;> omega
end Go.Proofs.YtnifgokjagahfaaDoor.RefF

/- The document's read. -/
set_option linter.unusedVariables false
set_option linter.unusedSimpArgs false
namespace Go.Proofs.YtnifgokjagahfaaDoor.RefDec
open Go.RowKit Go.Proofs.YtnifgokjagahfaaDoorW.PrintWords Go.Proofs.YtnifgokjagahfaaDoorW.PrintLast Go.Proofs.YtnifgokjagahfaaDoorW.PrintMore
open Go.Proofs.YtnifgokjagahfaaDoor.Base Go.Proofs.YtnifgokjagahfaaDoor.Layouts Go.Proofs.YtnifgokjagahfaaDoor.Msg Go.Proofs.YtnifgokjagahfaaDoor.Put Go.Proofs.YtnifgokjagahfaaDoor.EncPure Go.Proofs.YtnifgokjagahfaaDoor.DecPure Go.Proofs.YtnifgokjagahfaaDoor.Enc Go.Proofs.YtnifgokjagahfaaDoor.Num Go.Proofs.YtnifgokjagahfaaDoor.PFrameDecodes Go.Proofs.YtnifgokjagahfaaDoor.RefF Go.Proofs.YtnifgokjagahfaaDoor.Mids
theorem rnumber_any (s : ByteArray) (at_ wd : Nat) (w : World) (hw : wd ≤ 8) (h : at_ + wd ≤ s.size) (hsz : s.size ≤ 9223372036854775807) : Calls Tryd.prog 47 #[.string s, .int .i64 (at_ : Nat), .int .i64 (wd : Nat)] w fun e w' => e = .returned (.int .i64 (numR (bytesOf s) at_ wd)) ∧ Drawn0 w w' :=
  granaryref5_number.calls 9 s at_ wd _ w (rnumber_f s at_ wd hw h hsz)
theorem rlong_any (s : ByteArray) (at_ wd : Nat) (w : World) (hw : wd ≤ 8) (hat : at_ ≤ 1099511627776) (hsz : s.size ≤ 9223372036854775807) : Calls Tryd.prog 73 #[.string s, .int .i64 (at_ : Nat), .int .i64 (wd : Nat)] w fun e w' => e = .returned (.int .i64 (longR (bytesOf s) at_ wd)) ∧ Drawn0 w w' :=
  granaryref5_long.calls 9 s at_ wd _ w (rlong_f s at_ wd hw hat hsz)
theorem piece_eq (s : ByteArray) (a b n : Nat) (h1 : a ≤ b) (h2 : b ≤ s.size) (h : b - a = min n (s.size - a)) : s.extract a b = strOfNums (pieceR (bytesOf s) a n) := by
  rw [extract_mid s a b h1 h2, h]
  unfold pieceR
  congr 1
  have hl : ((bytesOf s).drop a).length = s.size - a := by rw [List.length_drop, bytesOf_length]
  by_cases c : n ≤ s.size - a
  · rw [Nat.min_eq_left c]
  · rw [Nat.min_eq_right (by omega), List.take_of_length_le (by omega), List.take_of_length_le (by omega)]
set_option maxRecDepth 100000 in
set_option maxHeartbeats 4000000 in
theorem piece_any (s : ByteArray) (at_ n : Nat) (w : World) (hat : at_ ≤ 1099511627776) (hn : n ≤ 1099511627776) (hsz : s.size ≤ 9223372036854775807) : Calls Tryd.prog 74 #[.string s, .int .i64 (at_ : Nat), .int .i64 (n : Nat)] w fun e w' => e = .returned (.string (strOfNums (pieceR (bytesOf s) at_ n))) ∧ Drawn0 w w' := by
  have HD := Drawn0.refl w
  have HE := fun a b h1 h2 h => piece_eq s a b n h1 h2 h
  by_cases c1 : at_ > s.size
  · have hp : strOfNums (pieceR (bytesOf s) at_ n) = ByteArray.empty := by
      unfold pieceR
      rw [List.drop_of_length_le (by rw [bytesOf_length]; omega), List.take_nil]
      rfl
    have c1' : (at_ : Int) > (s.size : Int) := by omega
    have HP := Lib.hid hp
    clear hp HE c1
    by_cases c2 : n > 0
    · have c2' : (n : Int) > 0 := by omega
      go_enter Tryd.func74, Tryd.ntmps74
      go_wp2
      go_ret
      exact ⟨by rw [HP.out]; rfl, HD⟩
    · obtain rfl : n = 0 := by omega
      go_enter Tryd.func74, Tryd.ntmps74
      go_wp2
      go_ret
      exact ⟨by rw [HP.out]; rfl, HD⟩
  · have c1' : ¬ (at_ : Int) > (s.size : Int) := by omega
    have b1 : (at_ : Int) ≤ (s.size : Int) := by omega
    by_cases c2 : n > s.size - at_
    · have c2' : (n : Int) > (s.size : Int) - (at_ : Int) := by omega
      have HP := Lib.hid (piece_eq s at_ s.size n (by omega) (Nat.le_refl _) (by omega))
      have b2 : (at_ : Int) + ((s.size : Int) - (at_ : Int)) = (s.size : Int) := by omega
      clear HE c1 c2
      go_enter Tryd.func74, Tryd.ntmps74
      go_wp2
      go_ret
      exact ⟨by rw [← HP.out]; rfl, HD⟩
    · have c2' : ¬ (n : Int) > (s.size : Int) - (at_ : Int) := by omega
      have HP := Lib.hid (piece_eq s at_ (at_ + n) n (by omega) (by omega) (by omega))
      have b3 : (at_ : Int) + (n : Int) ≤ (s.size : Int) := by omega
      clear HE c1 c2
      go_enter Tryd.func74, Tryd.ntmps74
      go_wp2
      go_ret
      exact ⟨by rw [← HP.out]; rfl, HD⟩
end Go.Proofs.YtnifgokjagahfaaDoor.RefDec

/- A region that draws its order, walked without its order: each operation gives a value that stands in a relation to the world. -/
set_option linter.unusedVariables false
set_option linter.unusedSimpArgs false
namespace Go.Proofs.YtnifgokjagahfaaDoor.Reg
open Go.RowKit Go.Proofs.YtnifgokjagahfaaDoorW.PrintWords Go.Proofs.YtnifgokjagahfaaDoorW.PrintLast
def srcFrom : List Oper → Nat → Tmp → Option Nat
  | [], _, _ => none
  | o :: l, k, t => if o.dst = some t then some k else srcFrom l (k + 1) t
theorem srcFrom_spec : ∀ (l : List Oper) (k : Nat) (t : Tmp) (j : Nat), srcFrom l k t = some j → ∃ i o, j = k + i ∧ l[i]? = some o ∧ o.dst = some t
  | [], _, _, _, h => by cases h
  | o :: l, k, t, j, h => by
    unfold srcFrom at h
    split at h
    · cases h; exact ⟨0, o, rfl, rfl, by assumption⟩
    · obtain ⟨i, o', hj, hi, hd⟩ := srcFrom_spec l (k + 1) t j h
      exact ⟨i + 1, o', by omega, hi, hd⟩
def predB (o : Oper) (j : Nat) : Bool := o.after.toList.any fun e => Region.binds .any e && (e.on == j)
def okOne (L : List Oper) (N : Nat) (o : Oper) (i : Nat) : Bool :=
  o.guard.isNone && (match o.op with | .select .. => false | _ => true) && (match o.dst with | some d => decide (d < N) && (srcFrom L 0 d == some i) | none => true) &&
  o.op.operands.all (fun x => match x with
    | .tmp t => decide (t < N) && (match srcFrom L 0 t with | some j => predB o j || (match L[j]? with | some oj => predB oj i | none => false) | none => true)
    | _ => true) && o.after.all fun e => !Region.binds .any e || decide (e.on < i)
def okFrom (L : List Oper) (N : Nat) : List Oper → Nat → Bool
  | [], _ => true
  | o :: r, i => okOne L N o i && okFrom L N r (i + 1)
theorem okFrom_spec (L : List Oper) (N : Nat) : ∀ (r : List Oper) (k j : Nat) (o : Oper), okFrom L N r k = true → r[j]? = some o → okOne L N o (k + j) = true
  | [], _, _, _, _, h => by simp at h
  | o :: r, k, 0, o', h, hj => by
    simp only [okFrom, Bool.and_eq_true] at h
    simp at hj
    subst hj
    exact h.1
  | o :: r, k, j + 1, o', h, hj => by
    simp only [okFrom, Bool.and_eq_true] at h
    have := okFrom_spec L N r (k + 1) j o' h.2 (by simpa using hj)
    rw [show k + (j + 1) = k + 1 + j by omega]
    exact this
/-- an operation's operands, out of what those ahead of it gave -/
def envOf (L : List Oper) (a0 : Act) (vs : Nat → Value) (o : Oper) : Operand → Value
  | .tmp t => match srcFrom L 0 t with
    | some j => if predB o j = true then vs j else a0.tmps.getD t undef
    | none => a0.tmps.getD t undef
  | x => a0.eval x
def slotV (L : List Oper) (a0 : Act) (listed : Array Bool) (vs : Nat → Value) (t : Tmp) : Value :=
  match srcFrom L 0 t with
  | some j => if listed.getD j false = true then vs j else a0.tmps.getD t undef
  | none => a0.tmps.getD t undef
def Framed (L : List Oper) (a0 : Act) (listed : Array Bool) (vs : Nat → Value) (a : Act) : Prop :=
  a.defers = a0.defers ∧ a.tmps.size = a0.tmps.size ∧ ∀ t, t < a0.tmps.size → a.tmps[t]? = some (slotV L a0 listed vs t)
def Closed (L : List Oper) (listed : Array Bool) : Prop := ∀ i o j, L[i]? = some o → listed.getD i false = true → predB o j = true → listed.getD j false = true
def upd (vs : Nat → Value) (i : Nat) (v : Value) : Nat → Value := fun j => if j = i then v else vs j
theorem getD_set (listed : Array Bool) (i j : Nat) (hi : i < listed.size) : (listed.setIfInBounds i true).getD j false = if j = i then true else listed.getD j false := by
  simp only [Array.getD_eq_getD_getElem?, Array.getElem?_setIfInBounds]
  by_cases h : j = i
  · subst h; simp [hi]
  · rw [if_neg (fun e => h e.symm), if_neg h]
theorem framed_put {L : List Oper} {a0 a : Act} {listed : Array Bool} {vs : Nat → Value} {i : Nat} {o : Oper} (v : Value) (hok : okOne L a0.tmps.size o i = true) (hi : L[i]? = some o) (hil : i < listed.size) (hun : listed.getD i false = false)
    (h : Framed L a0 listed vs a) : Framed L a0 (listed.setIfInBounds i true) (upd vs i v) (a.put o.dst v) := by
  obtain ⟨hd, hs, hv⟩ := h
  unfold okOne at hok
  simp only [Bool.and_eq_true] at hok
  obtain ⟨⟨⟨⟨_, _⟩, hdst⟩, _⟩, _⟩ := hok
  refine ⟨?_, ?_, ?_⟩
  · cases o.dst <;> exact hd
  · cases o.dst with
    | none => exact hs
    | some d => simp only [Act.put, Array.size_setIfInBounds]; exact hs
  · intro t ht
    have hsl : ∀ (hne : srcFrom L 0 t ≠ some i), slotV L a0 (listed.setIfInBounds i true) (upd vs i v) t = slotV L a0 listed vs t := by
      intro hne
      unfold slotV
      cases hsrc : srcFrom L 0 t with
      | none => rfl
      | some j =>
        have hji : j ≠ i := fun e => hne (by rw [hsrc, e])
        simp only
        rw [getD_set _ _ _ hil, if_neg hji]
        unfold upd
        rw [if_neg hji]
    cases hod : o.dst with
    | none =>
      have hne : srcFrom L 0 t ≠ some i := by
        intro he
        obtain ⟨k, o', hk, hk2, hk3⟩ := srcFrom_spec _ _ _ _ he
        rw [Nat.zero_add] at hk
        subst hk
        rw [hi] at hk2
        cases hk2
        rw [hod] at hk3
        cases hk3
      rw [hsl hne]
      exact hv t ht
    | some d =>
      rw [hod] at hdst
      simp only [Bool.and_eq_true, decide_eq_true_eq, beq_iff_eq] at hdst
      simp only [Act.put, Array.getElem?_setIfInBounds]
      by_cases hdt : d = t
      · subst hdt
        rw [if_pos rfl, if_pos (by rw [hs]; exact ht)]
        unfold slotV
        rw [hdst.2]
        simp only
        rw [getD_set _ _ _ hil, if_pos rfl, if_pos rfl]
        unfold upd
        rw [if_pos rfl]
      · rw [if_neg hdt]
        have hne : srcFrom L 0 t ≠ some i := by
          intro he
          obtain ⟨k, o', hk, hk2, hk3⟩ := srcFrom_spec _ _ _ _ he
          rw [Nat.zero_add] at hk
          subst hk
          rw [hi] at hk2
          cases hk2
          rw [hod] at hk3
          cases hk3
          exact hdt rfl
        rw [hsl hne]
        exact hv t ht
/-- what the region leaves, in the text's order -/
def fillFrom : List Oper → Nat → Act → (Nat → Value) → Act
  | [], _, a, _ => a
  | o :: l, k, a, vs => fillFrom l (k + 1) (a.put o.dst (vs k)) vs
theorem upd_self (vs : Nat → Value) (i : Nat) : upd vs i (vs i) = vs := by
  funext j; unfold upd; split
  · subst_vars; rfl
  · rfl
def firstK (n k : Nat) : Array Bool := ((List.range n).map fun j => decide (j < k)).toArray
theorem firstK_size (n k : Nat) : (firstK n k).size = n := by simp [firstK]
theorem firstK_getD (n k j : Nat) : (firstK n k).getD j false = (decide (j < n) && decide (j < k)) := by
  unfold firstK
  simp only [Array.getD_eq_getD_getElem?, List.getElem?_toArray, List.getElem?_map]
  by_cases h : j < n
  · rw [List.getElem?_range h]; simp [h]
  · rw [List.getElem?_eq_none (by simpa using h)]; simp [h]
theorem framed_congr {L : List Oper} {a0 a : Act} {l1 l2 : Array Bool} {vs : Nat → Value} (h : Framed L a0 l1 vs a) (e : ∀ j, j < L.length → l1.getD j false = l2.getD j false) : Framed L a0 l2 vs a := by
  refine ⟨h.1, h.2.1, fun t ht => ?_⟩
  rw [h.2.2 t ht]
  unfold slotV
  cases hs : srcFrom L 0 t with
  | none => rfl
  | some j =>
    obtain ⟨k, o', hk, hk2, hk3⟩ := srcFrom_spec _ _ _ _ hs
    have : j < L.length := by rw [hk, Nat.zero_add]; exact (List.getElem?_eq_some_iff.1 hk2).1
    simp only
    rw [e j this]
theorem framed_fill {L : List Oper} {a0 : Act} (hok : okFrom L a0.tmps.size L 0 = true) (vs : Nat → Value) : ∀ (r pre : List Oper) (a : Act), L = pre ++ r → Framed L a0 (firstK L.length pre.length) vs a → Framed L a0 (firstK L.length L.length) vs (fillFrom r pre.length a vs)
  | [], pre, a, hL, h => by
    have : L.length = pre.length := by rw [hL]; simp
    rw [← this] at h
    exact h
  | o :: r, pre, a, hL, h => by
    have hi : L[pre.length]? = some o := by rw [hL]; simp
    have ho := okFrom_spec L _ L 0 pre.length o hok hi
    rw [Nat.zero_add] at ho
    have hlt : pre.length < L.length := (List.getElem?_eq_some_iff.1 hi).1
    have h2 := framed_put (vs pre.length) ho hi (by rw [firstK_size]; exact hlt) (by rw [firstK_getD]; simp) h
    rw [upd_self] at h2
    have h3 := framed_congr (l2 := firstK L.length (pre ++ [o]).length) h2 (fun j hj => by
      rw [getD_set _ _ _ (by rw [firstK_size]; exact hlt), firstK_getD, firstK_getD]
      by_cases e : j = pre.length
      · subst e; simp [hlt]
      · rw [if_neg e]
        congr 1
        rw [Bool.eq_iff_iff]
        simp only [decide_eq_true_iff, List.length_append, List.length_singleton]
        omega)
    have h4 := framed_fill hok vs r (pre ++ [o]) _ (by rw [hL]; simp) h3
    have e : (pre ++ [o]).length = pre.length + 1 := by simp
    rw [e] at h4
    exact h4
theorem framed_unique {L : List Oper} {a0 a b : Act} {listed : Array Bool} {vs : Nat → Value} (ha : Framed L a0 listed vs a) (hb : Framed L a0 listed vs b) : a = b := by
  obtain ⟨a1, a2, a3⟩ := ha
  obtain ⟨b1, b2, b3⟩ := hb
  cases a with | mk at_ ad =>
  cases b with | mk bt_ bd =>
  simp only at a1 a2 a3 b1 b2 b3
  have e : at_ = bt_ := by
    apply Array.ext_getElem?
    intro t
    by_cases ht : t < a0.tmps.size
    · rw [a3 t ht, b3 t ht]
    · rw [Array.getElem?_eq_none (by omega), Array.getElem?_eq_none (by omega)]
  subst e
  rw [a1, b1]
def cnt (f : Nat → Bool) : Nat → Nat
  | 0 => 0
  | n + 1 => cnt f n + (if f n = true then 1 else 0)
theorem cnt_congr {f g : Nat → Bool} : ∀ n, (∀ j, j < n → f j = g j) → cnt f n = cnt g n
  | 0, _ => rfl
  | n + 1, h => by
    simp only [cnt]
    rw [cnt_congr n (fun j hj => h j (by omega)), h n (by omega)]
theorem cnt_upd {f g : Nat → Bool} {i : Nat} (hf : f i = true) (hg : g i = false) (h : ∀ j, j ≠ i → f j = g j) : ∀ n, i < n → cnt g n + 1 = cnt f n
  | 0, hi => by omega
  | n + 1, hi => by
    simp only [cnt]
    by_cases e : i = n
    · subst e
      rw [cnt_congr i (fun j hj => h j (by omega)), hf, hg]
      simp
    · have := cnt_upd hf hg h n (by omega)
      rw [h n (fun e2 => e e2.symm)]
      omega
theorem cnt_zero {f : Nat → Bool} : ∀ n, cnt f n = 0 → ∀ j, j < n → f j = false
  | 0, _, j, hj => by omega
  | n + 1, h, j, hj => by
    simp only [cnt] at h
    by_cases e : j = n
    · subst e
      cases hf : f j
      · rfl
      · rw [hf] at h; simp at h
    · exact cnt_zero n (by omega) j (by omega)
/-- what an operation does: it yields a value, or calls -/
def OpRel (P : Program) (S : World → World → Prop) (ρ : Operand → Value) (o : Oper) (w : World) (K : Value → World → Prop) : Prop :=
  (∃ v w', (execOp ρ o).run P w = .ok (.value v) w' ∧ S w w' ∧ K v w') ∨
  (∃ w', (execOp ρ o).run P w = .ok .skip w' ∧ S w w' ∧ K undef w') ∨
  (∃ f args, (execOp ρ o).run P w = .ok (.enter f args) w ∧ Calls P f args w fun e w' => ∃ v, e = .returned v ∧ S w w' ∧ K v w')
section
variable {P : Program} {Q : Exit → Act → World → Prop}
theorem wpAny_rel (L : List Oper) (a0 : Act) (hok : okFrom L a0.tmps.size L 0 = true) (Inv : World → Prop) (S : Nat → World → World → Prop) (R : Nat → (Nat → Value) → World → Prop)
    (hst : ∀ i j vs w w', i ≠ j → Inv w → R j vs w → S i w w' → R j vs w')
    (hcg : ∀ j o vs vs' w, L[j]? = some o → vs' j = vs j → (∀ k, predB o k = true → vs' k = vs k) → R j vs w → R j vs' w)
    (step : ∀ i o, L[i]? = some o → ∀ (vs : Nat → Value) (w : World), Inv w → (∀ j, predB o j = true → R j vs w) → OpRel P (S i) (envOf L a0 vs o) o w (fun v w' => Inv w' ∧ R i (upd vs i v) w'))
    (done : ∀ vs w, Inv w → (∀ j, j < L.length → R j vs w) → Q .normal (fillFrom L 0 a0 vs) w) :
    ∀ (fuel : Nat) (listed : Array Bool) (vs : Nat → Value) (a : Act) (w : World), listed.size = L.length → Closed L listed → Framed L a0 listed vs a → Inv w → (∀ j, listed.getD j false = true → R j vs w) →
      cnt (fun j => !listed.getD j false) L.length ≤ fuel → wpAny P .any L.toArray Q fuel listed a w := by
  have hall : ∀ (listed : Array Bool) (vs : Nat → Value) (a : Act) (w : World), listed.size = L.length → Framed L a0 listed vs a → Inv w → (∀ j, listed.getD j false = true → R j vs w) → (∀ j, j < L.length → listed.getD j false = true) → Q .normal a w := by
    intro listed vs a w hsz hF hI hR hl
    have h1 := framed_congr (l2 := firstK L.length L.length) hF (fun j hj => by rw [hl j hj, firstK_getD]; simp [hj])
    have h0 : Framed L a0 (firstK L.length ([] : List Oper).length) vs a0 := by
      refine ⟨rfl, rfl, fun t ht => ?_⟩
      have e : slotV L a0 (firstK L.length ([] : List Oper).length) vs t = a0.tmps.getD t undef := by
        unfold slotV
        cases srcFrom L 0 t with
        | none => rfl
        | some j => simp only; rw [firstK_getD]; simp
      rw [e]
      simp [Array.getD_eq_getD_getElem?, Array.getElem?_eq_getElem ht]
    have h2 := framed_fill hok vs L [] a0 rfl h0
    rw [framed_unique h1 h2]
    exact done vs w hI (fun j hj => hR j (hl j hj))
  have hready : ∀ (listed : Array Bool) (i : Nat), listed.size = L.length → i ∈ Region.ready .any L.toArray listed → ∃ o, L[i]? = some o ∧ i < L.length ∧ listed.getD i false = false ∧ ∀ j, predB o j = true → listed.getD j false = true := by
    intro listed i hsz hi
    unfold Region.ready at hi
    rw [List.mem_filter] at hi
    obtain ⟨hi1, hi2⟩ := hi
    have hlt : i < L.length := by simpa using hi1
    obtain ⟨o, ho⟩ : ∃ o, L[i]? = some o := ⟨_, List.getElem?_eq_getElem hlt⟩
    simp only [List.getElem?_toArray, ho, Option.map_some, Option.getD_some, Bool.and_eq_true, Bool.not_eq_true'] at hi2
    refine ⟨o, ho, hlt, ?_, fun j hj => ?_⟩
    · have := hi2.1
      simp only [Array.getD_eq_getD_getElem?] at this ⊢
      rw [Array.getElem?_eq_getElem (by omega)] at this ⊢
      simpa using this
    · unfold predB at hj
      obtain ⟨e, he, hj⟩ := List.any_eq_true.1 hj
      simp only [Bool.and_eq_true, beq_iff_eq] at hj
      have h3 := Array.all_eq_true'.1 hi2.2 e (by simpa using he)
      rw [hj.1] at h3
      simp only [Bool.not_true, Bool.false_or] at h3
      rw [← hj.2]
      exact h3
  have hnone : ∀ (listed : Array Bool), listed.size = L.length → Region.ready .any L.toArray listed = [] → ∀ j, j < L.length → listed.getD j false = true := by
    intro listed hsz hr
    have hs : ∀ n j, j < n → j < L.length → listed.getD j false = true := by
      intro n
      induction n with
      | zero => intro j hj; omega
      | succ n ih =>
        intro j hj hjl
        by_cases e : j < n
        · exact ih j e hjl
        · obtain rfl : j = n := by omega
          cases hb : listed.getD j false
          · exfalso
            obtain ⟨o, ho⟩ : ∃ o, L[j]? = some o := ⟨_, List.getElem?_eq_getElem hjl⟩
            have ho1 := okFrom_spec L _ L 0 j o hok ho
            rw [Nat.zero_add] at ho1
            unfold okOne at ho1
            simp only [Bool.and_eq_true] at ho1
            have haf := ho1.2
            have hm : j ∈ Region.ready .any L.toArray listed := by
              unfold Region.ready
              rw [List.mem_filter]
              refine ⟨by simpa using hjl, ?_⟩
              simp only [List.getElem?_toArray, ho, Option.map_some, Option.getD_some, Bool.and_eq_true, Bool.not_eq_true']
              refine ⟨?_, ?_⟩
              · simp only [Array.getD_eq_getD_getElem?] at hb ⊢
                rw [Array.getElem?_eq_getElem (by omega)] at hb ⊢
                simpa using hb
              · rw [Array.all_eq_true]
                intro k hk
                have h3 := Array.all_eq_true.1 haf k hk
                simp only [Bool.or_eq_true, decide_eq_true_eq] at h3 ⊢
                rcases h3 with h3 | h3
                · exact .inl h3
                · exact .inr (ih _ h3 (by omega))
            rw [hr] at hm
            cases hm
          · rfl
    intro j hj
    exact hs (j + 1) j (by omega) hj
  intro fuel
  induction fuel with
  | zero =>
    intro listed vs a w hsz hC hF hI hR hc
    have hz := cnt_zero (f := fun j => !listed.getD j false) L.length (by omega)
    have hl : ∀ j, j < L.length → listed.getD j false = true := fun j hj => by simpa using hz j hj
    refine ⟨?_, hall listed vs a w hsz hF hI hR hl⟩
    cases hr : Region.ready .any L.toArray listed with
    | nil => rfl
    | cons i r =>
      obtain ⟨o, _, hi, hun, _⟩ := hready listed i hsz (by rw [hr]; simp)
      rw [hl i hi] at hun
      cases hun
  | succ fuel ih =>
    intro listed vs a w hsz hC hF hI hR hc
    refine ⟨fun hr => hall listed vs a w hsz hF hI hR (hnone listed hsz hr), fun i hi => ?_⟩
    obtain ⟨o, ho, hil, hun, hp⟩ := hready listed i hsz hi
    have ho1 := okFrom_spec L _ L 0 i o hok ho
    rw [Nat.zero_add] at ho1
    have hok1 := ho1
    unfold okOne at ho1
    simp only [Bool.and_eq_true] at ho1
    obtain ⟨⟨⟨⟨hg, hsel⟩, hdst⟩, hops⟩, haf⟩ := ho1
    have hgn : o.guard = none := by simpa using hg
    have hns : ∀ cs b, o.op ≠ .select cs b := by
      intro cs b he
      rw [he] at hsel
      cases hsel
    have hev : ∀ x ∈ o.op.operands, a.eval x = envOf L a0 vs o x := by
      intro x hx
      have hx2 := Array.all_eq_true'.1 hops x hx
      cases x with
      | tmp t =>
        simp only [Bool.and_eq_true, decide_eq_true_eq] at hx2
        have hv := hF.2.2 t hx2.1
        have he : a.eval (.tmp t) = slotV L a0 listed vs t := by
          simp [Act.eval, Array.getD_eq_getD_getElem?, hv]
        have henv : envOf L a0 vs o (.tmp t) = (match srcFrom L 0 t with | some j => if predB o j = true then vs j else a0.tmps.getD t undef | none => a0.tmps.getD t undef) := rfl
        rw [he, henv]
        unfold slotV
        have hx3 := hx2.2
        cases hs : srcFrom L 0 t with
        | none => rfl
        | some j =>
          rw [hs] at hx3
          simp only at hx3 ⊢
          by_cases hpj : predB o j = true
          · rw [if_pos hpj, if_pos (hp j hpj)]
          · rw [if_neg hpj]
            have hpf : predB o j = false := by simpa using hpj
            rw [hpf, Bool.false_or] at hx3
            rw [if_neg]
            intro hlj
            cases hoj : L[j]? with
            | none => rw [hoj] at hx3; cases hx3
            | some oj =>
              rw [hoj] at hx3
              have := hC j oj i hoj hlj hx3
              rw [hun] at this
              cases this
      | const v => rfl
      | global g => rfl
      | func f => rfl
    have hw : Region.wanted o (yielded L.toArray a.tmps) = true := by unfold Region.wanted; rw [hgn]
    have hnext : ∀ v w', S i w w' → Inv w' → R i (upd vs i v) w' → wpAny P .any L.toArray Q fuel (listed.setIfInBounds i true) (a.put o.dst v) w' := by
      intro v w' hb hI' hRi
      refine ih (listed.setIfInBounds i true) (upd vs i v) (a.put o.dst v) w' (by simpa using hsz) ?_ (framed_put v hok1 ho (by omega) hun hF) hI' ?_ ?_
      · intro i' o' j' ho' hl' hp'
        rw [getD_set _ _ _ (by omega)] at hl' ⊢
        by_cases e : i' = i
        · subst e
          rw [ho] at ho'
          cases ho'
          split
          · rfl
          · exact hp j' hp'
        · rw [if_neg e] at hl'
          split
          · rfl
          · exact hC i' o' j' ho' hl' hp'
      · intro j hj
        rw [getD_set _ _ _ (by omega)] at hj
        by_cases e : j = i
        · subst e; exact hRi
        · rw [if_neg e] at hj
          have hjl : j < L.length := by
            rcases Nat.lt_or_ge j L.length with h | h
            · exact h
            · rw [Array.getD_eq_getD_getElem?, Array.getElem?_eq_none (by omega)] at hj; cases hj
          have hoj : L[j]? = some L[j] := List.getElem?_eq_getElem hjl
          refine hcg j _ vs _ w' hoj (by unfold upd; rw [if_neg e]) (fun k hk => ?_) (hst i j vs w w' (fun e2 => e e2.symm) hI (hR j hj) hb)
          have hkl := hC j _ k hoj hj hk
          unfold upd
          rw [if_neg]
          intro e2
          rw [e2, hun] at hkl
          cases hkl
      · have := cnt_upd (f := fun j => !listed.getD j false) (g := fun j => !(listed.setIfInBounds i true).getD j false) (i := i) (by simp [hun]) (by show (!(listed.setIfInBounds i true).getD i false) = false; rw [getD_set _ _ _ (by omega), if_pos rfl]; rfl) (fun j hj => by show (!listed.getD j false) = !(listed.setIfInBounds i true).getD j false; rw [getD_set _ _ _ (by omega), if_neg hj]) L.length hil
        omega
    unfold wpOp
    rw [List.getElem?_toArray, ho]
    simp only
    rw [if_pos hw]
    left
    have hex : execOp a.eval o = execOp (envOf L a0 vs o) o := execOp_congr o hns hev
    unfold Oper.wp
    rw [hex]
    rcases step i o ho vs w hI (fun j hj => hR j (hp j hj)) with ⟨v, w', hrun, hb, hI', hRi⟩ | ⟨w', hrun, hb, hI', hRi⟩ | ⟨f, args, hrun, hcall⟩
    · rw [hrun]
      exact hnext v w' hb hI' hRi
    · rw [hrun]
      exact hnext undef w' hb hI' hRi
    · rw [hrun, Oper.upon_enter]
      refine hcall.mono ?_
      rintro e w' ⟨v, rfl, hb, hI', hRi⟩
      exact hnext v w' hb hI' hRi
def AllOps (F : Nat → Oper → Prop) : List Oper → Nat → Prop
  | [], _ => True
  | o :: l, k => F k o ∧ AllOps F l (k + 1)
theorem allOps_nil {F : Nat → Oper → Prop} {k : Nat} : AllOps F [] k := trivial
theorem allOps_cons {F : Nat → Oper → Prop} {o : Oper} {l : List Oper} {k : Nat} (h : F k o) (t : AllOps F l (k + 1)) : AllOps F (o :: l) k := ⟨h, t⟩
theorem allOps_spec {F : Nat → Oper → Prop} : ∀ {L : List Oper} {k : Nat}, AllOps F L k → ∀ i o, L[i]? = some o → F (k + i) o
  | [], _, _, i, o, h => by simp at h
  | o :: l, k, hA, 0, o', h => by
    simp at h
    subst h
    exact hA.1
  | o :: l, k, hA, i + 1, o', h => by
    have := allOps_spec hA.2 i o' (by simpa using h)
    rw [show k + (i + 1) = k + 1 + i by omega]
    exact this
/-- what is to be shown of one operation -/
def OneOp (P : Program) (L : List Oper) (a0 : Act) (Inv : World → Prop) (S : Nat → World → World → Prop) (R : Nat → (Nat → Value) → World → Prop) (i : Nat) (o : Oper) : Prop :=
  ∀ (vs : Nat → Value) (w : World) (ρ : Operand → Value), (∀ x, ρ x = envOf L a0 vs o x) → (∀ c, ρ (.const c) = c) → (∀ g, ρ (.global g) = .pointer (some ⟨g, 0, none⟩)) → (∀ f, ρ (.func f) = .func (.func f) #[] #[]) →
    Inv w → (∀ j, predB o j = true → R j vs w) → OpRel P (S i) ρ o w (fun v w' => Inv w' ∧ R i (upd vs i v) w')
theorem rel_value {S : World → World → Prop} {ρ : Operand → Value} {o : Oper} {w : World} {K : Value → World → Prop} (v : Value) (h : (execOp ρ o).run P w = .ok (.value v) w) (hk : K v w) (hs : S w w := by exact Below.refl _ _) : OpRel P S ρ o w K := .inl ⟨v, w, h, hs, hk⟩
theorem rel_made {S : World → World → Prop} {ρ : Operand → Value} {o : Oper} {w w' : World} {K : Value → World → Prop} (v : Value) (h : (execOp ρ o).run P w = .ok (.value v) w') (hb : S w w') (hk : K v w') : OpRel P S ρ o w K := .inl ⟨v, w', h, hb, hk⟩
theorem rel_skip {S : World → World → Prop} {ρ : Operand → Value} {o : Oper} {w w' : World} {K : Value → World → Prop} (h : (execOp ρ o).run P w = .ok .skip w') (hb : S w w') (hk : K undef w') : OpRel P S ρ o w K := .inr (.inl ⟨w', h, hb, hk⟩)
theorem rel_call {S : World → World → Prop} {ρ : Operand → Value} {oi : Oper} {w : World} {K : Value → World → Prop} {f : FuncId} {fn : Func} {ars : Array Operand} {ts : Array TypeId} (hf : P.funcs[f]? = some fn) (hname : (fn.name == "runtime.NumGoroutine") = false) (hb : fn.body.isSome = true) (args : Array Value)
    (hop : oi.op = .call { callee := .value (.func f), args := ars, argTypes := ts }) (hfun : ρ (.func f) = .func (.func f) #[] #[]) (hargs : ars.map ρ = args)
    (h : Calls P f args w fun e w' => ∃ v, e = .returned v ∧ S w w' ∧ K v w') : OpRel P S ρ oi w K := by
  refine .inr (.inr ⟨f, args, ?_, h⟩)
  have he := enters_ hf hname hb args w
  unfold execOp
  simp [hop, resolve, Deferred.ofValue, invoke, hfun, hargs, he]
/-- the law: a region that draws its order -/
theorem wp_region_rel {id : Nat} (L : List Oper) (hm : P.follows .mixedOrders = true) (N : Nat) (a0 : Act) (w0 : World) (hN : a0.tmps.size = N) (hok : okFrom L N L 0 = true) (Inv : World → Prop) (S : Nat → World → World → Prop) (R : Nat → (Nat → Value) → World → Prop) (hI : Inv w0.drew)
    (hst : ∀ i j vs w w', i ≠ j → Inv w → R j vs w → S i w w' → R j vs w')
    (hcg : ∀ j o vs vs' w, L[j]? = some o → vs' j = vs j → (∀ k, predB o k = true → vs' k = vs k) → R j vs w → R j vs' w)
    (step : AllOps (OneOp P L a0 Inv S R) L 0)
    (done : ∀ vs w, Inv w → (∀ j, j < L.length → R j vs w) → Q .normal (fillFrom L 0 a0 vs) w) :
    (Code.region id L.toArray true).wp P Q a0 w0 := by
  subst hN
  have step' : ∀ i o, L[i]? = some o → ∀ (vs : Nat → Value) (w : World), Inv w → (∀ j, predB o j = true → R j vs w) → OpRel P (S i) (envOf L a0 vs o) o w (fun v w' => Inv w' ∧ R i (upd vs i v) w') := by
    intro i o ho vs w hI hp
    have h := allOps_spec step i o ho
    rw [Nat.zero_add] at h
    exact h vs w (envOf L a0 vs o) (fun _ => rfl) (fun _ => rfl) (fun _ => rfl) (fun _ => rfl) hI hp
  refine wp_region_any hm ?_
  refine wpAny_rel L a0 hok Inv S R hst hcg step' done L.toArray.size (Array.replicate L.toArray.size false) (fun _ => undef) a0 _ (by simp) ?_ ?_ hI ?_ ?_
  · intro i o j _ h
    simp [Array.getD_eq_getD_getElem?, Array.getElem?_replicate] at h
    split at h <;> simp at h
  · refine ⟨rfl, rfl, fun t ht => ?_⟩
    have e : slotV L a0 (Array.replicate L.toArray.size false) (fun _ => undef) t = a0.tmps.getD t undef := by
      unfold slotV
      cases srcFrom L 0 t with
      | none => rfl
      | some j =>
        simp only
        rw [if_neg]
        simp [Array.getD_eq_getD_getElem?, Array.getElem?_replicate]
        split <;> simp
    rw [e]
    simp [Array.getD_eq_getD_getElem?, Array.getElem?_eq_getElem ht]
  · intro j h
    simp [Array.getD_eq_getD_getElem?, Array.getElem?_replicate] at h
    split at h <;> simp at h
  · have : ∀ (f : Nat → Bool) n, cnt f n ≤ n := by
      intro f n
      induction n with
      | zero => exact Nat.le_refl _
      | succ n ih => simp only [cnt]; split <;> omega
    exact Nat.le_trans (this _ _) (by simp)
end
end Go.Proofs.YtnifgokjagahfaaDoor.Reg

/- The document's read, walked. -/
set_option linter.unusedVariables false
set_option linter.unusedSimpArgs false
namespace Go.Proofs.YtnifgokjagahfaaDoor.RefDec
open Go.RowKit Go.Proofs.YtnifgokjagahfaaDoorW.PrintWords Go.Proofs.YtnifgokjagahfaaDoorW.PrintLast Go.Proofs.YtnifgokjagahfaaDoorW.PrintMore
open Go.Proofs.YtnifgokjagahfaaDoor.Base Go.Proofs.YtnifgokjagahfaaDoor.Layouts Go.Proofs.YtnifgokjagahfaaDoor.Msg Go.Proofs.YtnifgokjagahfaaDoor.Put Go.Proofs.YtnifgokjagahfaaDoor.EncPure Go.Proofs.YtnifgokjagahfaaDoor.DecPure Go.Proofs.YtnifgokjagahfaaDoor.Enc Go.Proofs.YtnifgokjagahfaaDoor.Num Go.Proofs.YtnifgokjagahfaaDoor.PFrameDecodes Go.Proofs.YtnifgokjagahfaaDoor.RefF Go.Proofs.YtnifgokjagahfaaDoor.Mids
open Go.Proofs.YtnifgokjagahfaaDoor.Dec (infoM mL_one)
def mR (L : List Int) : M := blankM (kindL L) (numR L 4 2) (numR L 6 2) (numR L 8 8)
/-- the state of read's loop -/
def RSt (L : List Int) (fs : List Nat) (j : Nat) : M × Nat := (fs.take j).foldl (stepR L) (mR L, 20)
theorem RSt_next (L : List Int) (fs : List Nat) (j n : Nat) (h : fs[j]? = some n) : RSt L fs (j + 1) = stepR L (RSt L fs j) n := by
  unfold RSt
  rw [List.take_add_one, h]
  simp
theorem step_at (L : List Int) (hb : Byt L) (s : M × Nat) (f : Nat) (hf : f < 7) : s.2 ≤ (stepR L s f).2 ∧ (stepR L s f).2 ≤ s.2 + 4294967304 := by
  unfold stepR
  by_cases h4 : f < 4
  · rw [if_pos h4]; simp only; omega
  · rw [if_neg h4]
    by_cases e : f = 4
    · rw [if_pos e]; simp only; omega
    · rw [if_neg e]
      have hw : wN f ≤ 4 := by
        have : ∀ f, f < 7 → ¬ f < 4 → wN f ≤ 4 := by decide
        exact this f hf h4
      have := longR_small L hb s.2 (wN f) hw
      simp only
      omega
theorem RSt_at (L : List Int) (hb : Byt L) (fs : List Nat) (hf : ∀ (j n : Nat), fs[j]? = some n → n < 7) : ∀ j, j ≤ fs.length → (RSt L fs j).2 ≤ 20 + j * 4294967304
  | 0, _ => by unfold RSt; simp
  | j + 1, h => by
    have hj : j < fs.length := by omega
    have hn : fs[j]? = some fs[j] := List.getElem?_eq_getElem hj
    rw [RSt_next L fs j _ hn]
    have h1 := RSt_at L hb fs hf j (by omega)
    have h2 := step_at L hb (RSt L fs j) fs[j] (hf j _ hn)
    omega
set_option maxRecDepth 100000 in
set_option maxHeartbeats 16000000 in
theorem rread_any (s : ByteArray) (w : World) (h : 24 ≤ s.size) (hsz : s.size ≤ 9223372036854775807) (hk : 1 ≤ kindL (bytesOf s) ∧ kindL (bytesOf s) < 17) (hR : RTab w) :
    Calls Tryd.prog 48 #[.string s] w fun e w' => e = .returned (.agg (mL (readR (bytesOf s))).toArray) ∧ Below w.heap.size w w' := by
  have h4 : (3 : Int) < (s.size : Int) := by omega
  have hN3 : 3 < s.size := by omega
  obtain ⟨kk, hkk, hke, hk1, hk2⟩ := Dec.kind_yes s h hk
  have hkl : kk < 17 := by omega
  have K4 := fun (w : World) => Lib.hid (show Calls Tryd.prog 47 #[.string s, .int .i64 4, .int .i64 2] w _ from rnumber_any s 4 2 w (by decide) (by omega) hsz)
  have K6 := fun (w : World) => Lib.hid (show Calls Tryd.prog 47 #[.string s, .int .i64 6, .int .i64 2] w _ from rnumber_any s 6 2 w (by decide) (by omega) hsz)
  have K8 := fun (w : World) => Lib.hid (show Calls Tryd.prog 47 #[.string s, .int .i64 8, .int .i64 8] w _ from rnumber_any s 8 8 w (by decide) (by omega) hsz)
  have hct := (hR.below ((Below.refl w.heap.size w).alloc (Nat.le_refl _) (.cells (mL zeroM).toArray 24))).cell kk hkl
  have hgl := (hR.below ((Below.refl w.heap.size w).alloc (Nat.le_refl _) (.cells (mL zeroM).toArray 24))).lt
  have HB0 := Aside0.mk ((Below.refl w.heap.size w).alloc (Nat.le_refl _) (.cells (mL zeroM).toArray 24))
  have HM0 : Aside0 (MBox (w.alloc (.cells (mL zeroM).toArray 24)) w.heap.size zeroM) := ⟨⟨Go.heap_alloc_new w _, by simp⟩⟩
  have hwz : w.alloc (.cells #[.int .i64 0, .int .i64 0, .int .i64 0, .int .i64 0, .int .i64 0, .int .i64 0, .int .i64 0, .int .i64 0, .int .i64 0, .string { data := #[] }, .string { data := #[] }] 24) = w.alloc (.cells (mL zeroM).toArray 24) := rfl
  generalize w.alloc (.cells (mL zeroM).toArray 24) = wz at hwz HB0 HM0 hct hgl
  have hrd : readR (bytesOf s) = (RSt (bytesOf s) (fieldsOf kk) (fieldsOf kk).length).1 := by
    unfold readR RSt mR
    rw [List.take_length, hke, Int.toNat_natCast]
  have hat := RSt_at (bytesOf s) (byt_bytesOf s) (fieldsOf kk) (fields_lt kk hkl)
  have hm0 : RSt (bytesOf s) (fieldsOf kk) 0 = (blankM (kk : Int) (numR (bytesOf s) 4 2) (numR (bytesOf s) 6 2) (numR (bytesOf s) 8 8), 20) := by
    unfold RSt mR; rw [hke]; rfl
  have hnx := RSt_next (bytesOf s) (fieldsOf kk)
  rw [hrd]
  have hfs := fstr_size kk
  have hfa := fun j n hn h => fstr_at kk j n hkl hn h
  have HI := Aside0.mk (fun j n => fields_lt kk hkl j n)
  have h6 := fields_len kk hkl
  have HLs := Aside0.mk (longR_small (bytesOf s) (byt_bytesOf s))
  have KL8 := fun (a : Nat) (ha : a ≤ 1099511627776) (w : World) => Lib.hid (show Calls Tryd.prog 73 #[.string s, .int .i64 (a : Nat), .int .i64 8] w _ from rlong_any s a 8 w (by decide) ha hsz)
  have KL2 := fun (a : Nat) (ha : a ≤ 1099511627776) (w : World) => Lib.hid (show Calls Tryd.prog 73 #[.string s, .int .i64 (a : Nat), .int .i64 2] w _ from rlong_any s a 2 w (by decide) ha hsz)
  have KL4 := fun (a : Nat) (ha : a ≤ 1099511627776) (w : World) => Lib.hid (show Calls Tryd.prog 73 #[.string s, .int .i64 (a : Nat), .int .i64 4] w _ from rlong_any s a 4 w (by decide) ha hsz)
  have KP := fun (a n : Nat) (ha : a ≤ 1099511627776) (hn : n ≤ 1099511627776) (w : World) => Lib.hid (piece_any s a n w ha hn hsz)
  have HAT := Aside0.mk hat
  have HM00 := Lib.hid hm0
  have HNX := Aside0.mk hnx
  clear hrd hat hm0 hnx hke hk hR
  go_enter Tryd.func48, Tryd.ntmps48
  go_upto_region 1 with fail
  have hwk : IntKind.i64.wrap (kk : Int) = (kk : Int) := by rw [IntKind.wrap_i64]; omega
  go_cut [3] (fun v wx => ∃ g : Nat, v = .pointer (some ⟨g, 0, none⟩) ∧ Aside0 (wz.heap.size ≤ g) ∧ Aside0 (MBox wx g (RSt (bytesOf s) (fieldsOf kk) 0).1) ∧ Aside0 (Below wz.heap.size wz wx))
  case first =>
    refine Reg.wp_region_rel _ (by kernel_rfl) _ _ _ rfl (by kernel_rfl) (fun w' => Below wz.heap.size wz w') (fun i w w' => match i with | 11 => w.heap.size ≤ w'.heap.size ∧ ∀ (g : Nat) (cs : List Value), w.heap[g]? = some (.cells cs.toArray 24 (0, 0)) → ∃ cs1 : List Value, cs1.length = cs.length ∧ w'.heap[g]? = some (.cells cs1.toArray 24 (0, 0)) | _ => Below w.heap.size w w') (fun j vs w' => match j with
      | 0 => vs 0 = .string s
      | 1 => vs 1 = .int .u8 (kk : Nat)
      | 2 => vs 2 = .int .i64 (kk : Nat)
      | 3 => vs 3 = .string s
      | 4 => vs 4 = .int .i64 (numR (bytesOf s) 4 2)
      | 5 => vs 5 = .string s
      | 6 => vs 6 = .int .i64 (numR (bytesOf s) 6 2)
      | 7 => vs 7 = .string s
      | 8 => vs 8 = .int .i64 (numR (bytesOf s) 8 8)
      | 9 => vs 9 = .agg #[.int .i64 (kk : Nat), .int .i64 (numR (bytesOf s) 4 2), .int .i64 (numR (bytesOf s) 6 2), .int .i64 (numR (bytesOf s) 8 8), .int .i64 0, .int .i64 0, .int .i64 0, .int .i64 0, .int .i64 0, .string { data := #[] }, .string { data := #[] }]
      | 10 => ∃ (g : Nat) (cs : List Value), (vs 10) = .pointer (some ⟨g, 0, none⟩) ∧ wz.heap.size ≤ g ∧ cs.length = 11 ∧ w'.heap[g]? = some (.cells cs.toArray 24 (0, 0))
      | 11 => ∃ g : Nat, vs 10 = .pointer (some ⟨g, 0, none⟩) ∧ wz.heap.size ≤ g ∧ w'.heap[g]? = some (.cells (mL (blankM (kk : Int) (numR (bytesOf s) 4 2) (numR (bytesOf s) 6 2) (numR (bytesOf s) 8 8))).toArray 24 (0, 0)) ∧ g < w'.heap.size
      | _ => True) (below_drew (Below.refl _ _)) ?_ ?_ ?_ ?_
    · intro i j vs w0 w' hij hI hR hb
      rcases j with _ | j
      · exact hR
      rcases j with _ | j
      · exact hR
      rcases j with _ | j
      · exact hR
      rcases j with _ | j
      · exact hR
      rcases j with _ | j
      · exact hR
      rcases j with _ | j
      · exact hR
      rcases j with _ | j
      · exact hR
      rcases j with _ | j
      · exact hR
      rcases j with _ | j
      · exact hR
      rcases j with _ | j
      · exact hR
      rcases j with _ | j
      · obtain ⟨g, cs, hv, hg, hl, hblk⟩ := hR
        by_cases e : i = 11
        · subst e
          obtain ⟨_, h2⟩ := hb
          obtain ⟨cs1, h3, h4⟩ := h2 g cs hblk
          exact ⟨g, cs1, hv, hg, h3.trans hl, h4⟩
        · have hb2 : Below w0.heap.size w0 w' := by
            match i, e, hb with
            | 0, _, hb | 1, _, hb | 2, _, hb | 3, _, hb | 4, _, hb | 5, _, hb | 6, _, hb | 7, _, hb | 8, _, hb | 9, _, hb | 10, _, hb => exact hb
            | n + 12, _, hb => exact hb
          exact ⟨g, cs, hv, hg, hl, (hb2.block g (blk_lt hblk)).trans hblk⟩
      rcases j with _ | j
      · obtain ⟨g, hv, hg, hblk, hlt⟩ := hR
        have hb2 : Below w0.heap.size w0 w' := by
          match i, hij, hb with
          | 0, _, hb | 1, _, hb | 2, _, hb | 3, _, hb | 4, _, hb | 5, _, hb | 6, _, hb | 7, _, hb | 8, _, hb | 9, _, hb | 10, _, hb => exact hb
          | 11, hij, _ => exact absurd rfl hij
          | n + 12, _, hb => exact hb
        exact ⟨g, hv, hg, (hb2.block g hlt).trans hblk, Nat.lt_of_lt_of_le hlt hb2.size⟩
      exact trivial
    · intro j o vs vs1 w0 ho he hp hR
      rcases j with _ | j
      · exact he.trans hR
      rcases j with _ | j
      · exact he.trans hR
      rcases j with _ | j
      · exact he.trans hR
      rcases j with _ | j
      · exact he.trans hR
      rcases j with _ | j
      · exact he.trans hR
      rcases j with _ | j
      · exact he.trans hR
      rcases j with _ | j
      · exact he.trans hR
      rcases j with _ | j
      · exact he.trans hR
      rcases j with _ | j
      · exact he.trans hR
      rcases j with _ | j
      · exact he.trans hR
      rcases j with _ | j
      · show ∃ (g : Nat) (cs : List Value), (vs1 10) = .pointer (some ⟨g, 0, none⟩) ∧ wz.heap.size ≤ g ∧ cs.length = 11 ∧ w0.heap[g]? = some (.cells cs.toArray 24 (0, 0))
        rw [he]; exact hR
      rcases j with _ | j
      · obtain ⟨g, hv, hg, hblk⟩ := hR
        obtain rfl := Option.some.inj ho
        exact ⟨g, (hp 10 rfl).trans hv, hg, hblk⟩
      exact trivial
    · skip
      refine Reg.allOps_cons ?_ ?_
      · intro vs w0 ρ hρ hcst hglb hfun hI hp
        have e0 : ρ (.tmp 0) = .string s := hρ (.tmp 0)
        clear hρ hp
        refine Reg.rel_value (.string s) ?_ ⟨hI, rfl⟩
        go_simp
      refine Reg.allOps_cons ?_ ?_
      · intro vs w0 ρ hρ hcst hglb hfun hI hp
        have e9 : ρ (.tmp 9) = .string s := (hρ (.tmp 9)).trans (show vs 0 = .string s from hp 0 rfl)
        clear hρ hp
        refine Reg.rel_value (.int .u8 (kk : Nat)) ?_ ⟨hI, rfl⟩
        go_simp
      refine Reg.allOps_cons ?_ ?_
      · intro vs w0 ρ hρ hcst hglb hfun hI hp
        have e10 : ρ (.tmp 10) = .int .u8 (kk : Nat) := (hρ (.tmp 10)).trans (show vs 1 = .int .u8 (kk : Nat) from hp 1 rfl)
        clear hρ hp
        refine Reg.rel_value (.int .i64 (kk : Nat)) ?_ ⟨hI, rfl⟩
        go_simp
      refine Reg.allOps_cons ?_ ?_
      · intro vs w0 ρ hρ hcst hglb hfun hI hp
        have e0 : ρ (.tmp 0) = .string s := hρ (.tmp 0)
        clear hρ hp
        refine Reg.rel_value (.string s) ?_ ⟨hI, rfl⟩
        go_simp
      refine Reg.allOps_cons ?_ ?_
      · intro vs w0 ρ hρ hcst hglb hfun hI hp
        have e12 : ρ (.tmp 12) = .string s := (hρ (.tmp 12)).trans (show vs 3 = .string s from hp 3 rfl)
        clear hρ hp
        refine Reg.rel_call Tryd.func47 (by kernel_rfl) rfl #[.string s, .int .i64 4, .int .i64 2] rfl (hfun _) (by simp [e12, hcst]) ?_
        refine (K4 w0).out.mono ?_
        rintro e w3 ⟨rfl, ⟨⟨n3, rfl⟩⟩⟩
        exact ⟨_, rfl, pw_below_drewN (Below.refl _ _) n3, pw_below_drewN hI n3, rfl⟩
      refine Reg.allOps_cons ?_ ?_
      · intro vs w0 ρ hρ hcst hglb hfun hI hp
        have e0 : ρ (.tmp 0) = .string s := hρ (.tmp 0)
        clear hρ hp
        refine Reg.rel_value (.string s) ?_ ⟨hI, rfl⟩
        go_simp
      refine Reg.allOps_cons ?_ ?_
      · intro vs w0 ρ hρ hcst hglb hfun hI hp
        have e14 : ρ (.tmp 14) = .string s := (hρ (.tmp 14)).trans (show vs 5 = .string s from hp 5 rfl)
        clear hρ hp
        refine Reg.rel_call Tryd.func47 (by kernel_rfl) rfl #[.string s, .int .i64 6, .int .i64 2] rfl (hfun _) (by simp [e14, hcst]) ?_
        refine (K6 w0).out.mono ?_
        rintro e w3 ⟨rfl, ⟨⟨n3, rfl⟩⟩⟩
        exact ⟨_, rfl, pw_below_drewN (Below.refl _ _) n3, pw_below_drewN hI n3, rfl⟩
      refine Reg.allOps_cons ?_ ?_
      · intro vs w0 ρ hρ hcst hglb hfun hI hp
        have e0 : ρ (.tmp 0) = .string s := hρ (.tmp 0)
        clear hρ hp
        refine Reg.rel_value (.string s) ?_ ⟨hI, rfl⟩
        go_simp
      refine Reg.allOps_cons ?_ ?_
      · intro vs w0 ρ hρ hcst hglb hfun hI hp
        have e16 : ρ (.tmp 16) = .string s := (hρ (.tmp 16)).trans (show vs 7 = .string s from hp 7 rfl)
        clear hρ hp
        refine Reg.rel_call Tryd.func47 (by kernel_rfl) rfl #[.string s, .int .i64 8, .int .i64 8] rfl (hfun _) (by simp [e16, hcst]) ?_
        refine (K8 w0).out.mono ?_
        rintro e w3 ⟨rfl, ⟨⟨n3, rfl⟩⟩⟩
        exact ⟨_, rfl, pw_below_drewN (Below.refl _ _) n3, pw_below_drewN hI n3, rfl⟩
      refine Reg.allOps_cons ?_ ?_
      · intro vs w0 ρ hρ hcst hglb hfun hI hp
        have e11 : ρ (.tmp 11) = .int .i64 (kk : Nat) := (hρ (.tmp 11)).trans (show vs 2 = .int .i64 (kk : Nat) from hp 2 rfl)
        have e13 : ρ (.tmp 13) = .int .i64 (numR (bytesOf s) 4 2) := (hρ (.tmp 13)).trans (show vs 4 = .int .i64 (numR (bytesOf s) 4 2) from hp 4 rfl)
        have e15 : ρ (.tmp 15) = .int .i64 (numR (bytesOf s) 6 2) := (hρ (.tmp 15)).trans (show vs 6 = .int .i64 (numR (bytesOf s) 6 2) from hp 6 rfl)
        have e17 : ρ (.tmp 17) = .int .i64 (numR (bytesOf s) 8 8) := (hρ (.tmp 17)).trans (show vs 8 = .int .i64 (numR (bytesOf s) 8 8) from hp 8 rfl)
        clear hρ hp
        refine Reg.rel_value (.agg #[.int .i64 (kk : Nat), .int .i64 (numR (bytesOf s) 4 2), .int .i64 (numR (bytesOf s) 6 2), .int .i64 (numR (bytesOf s) 8 8), .int .i64 0, .int .i64 0, .int .i64 0, .int .i64 0, .int .i64 0, .string { data := #[] }, .string { data := #[] }]) ?_ ⟨hI, rfl⟩
        go_simp
      refine Reg.allOps_cons ?_ ?_
      · intro vs w0 ρ hρ hcst hglb hfun hI hp
        clear hρ hp
        refine Reg.rel_made (.pointer (some ⟨w0.heap.size, 0, none⟩)) (w' := w0.alloc (.cells (mL zeroM).toArray 24)) ?_ ((Below.refl _ _).alloc (Nat.le_refl _) _) ⟨hI.alloc hI.size _, ⟨w0.heap.size, mL zeroM, rfl, hI.size, rfl, heap_alloc_new w0 _⟩⟩
        go_simp
        rfl
      refine Reg.allOps_cons ?_ ?_
      · intro vs w0 ρ hρ hcst hglb hfun hI hp
        have r10 : ∃ (g : Nat) (cs : List Value), (vs 10) = .pointer (some ⟨g, 0, none⟩) ∧ wz.heap.size ≤ g ∧ cs.length = 11 ∧ w0.heap[g]? = some (.cells cs.toArray 24 (0, 0)) := hp 10 rfl
        have e3 : ρ (.tmp 3) = vs 10 := hρ (.tmp 3)
        obtain ⟨g, cs, hv, hg, hl, hblk⟩ := r10
        have e18 : ρ (.tmp 18) = .agg #[.int .i64 (kk : Nat), .int .i64 (numR (bytesOf s) 4 2), .int .i64 (numR (bytesOf s) 6 2), .int .i64 (numR (bytesOf s) 8 8), .int .i64 0, .int .i64 0, .int .i64 0, .int .i64 0, .int .i64 0, .string { data := #[] }, .string { data := #[] }] := (hρ (.tmp 18)).trans (show vs 9 = .agg #[.int .i64 (kk : Nat), .int .i64 (numR (bytesOf s) 4 2), .int .i64 (numR (bytesOf s) 6 2), .int .i64 (numR (bytesOf s) 8 8), .int .i64 0, .int .i64 0, .int .i64 0, .int .i64 0, .int .i64 0, .string { data := #[] }, .string { data := #[] }] from hp 9 rfl)
        clear hρ hp
        have hth := blk_there hblk
        rw [hl] at hth
        refine Reg.rel_skip (w' := w0.setCells g 0 (mL (blankM (kk : Int) (numR (bytesOf s) 4 2) (numR (bytesOf s) 6 2) (numR (bytesOf s) 8 8)))) ?_ ⟨by rw [setCells_size]; exact Nat.le_refl _, fun g2 cs2 h2 => ?_⟩ ⟨below_setCells hI hg _ _, ⟨g, hv, hg, setCells_whole hblk hl, by rw [setCells_size]; exact blk_lt hblk⟩⟩
        · have hrun := run_storeAt_mid (P := Tryd.prog) w0 g 0 24 (mL (blankM (kk : Int) (numR (bytesOf s) 4 2) (numR (bytesOf s) 6 2) (numR (bytesOf s) 8 8))).toArray hth infoM (mL_one _)
          have e18b : ρ (.tmp 18) = .agg (mL (blankM (kk : Int) (numR (bytesOf s) 4 2) (numR (bytesOf s) 6 2) (numR (bytesOf s) 8 8))).toArray := e18
          clear e18
          rw [hv] at e3
          unfold execOp
          simp only [e3, e18b, Sem.run_bind, hrun, Result.andThen_ok, Sem.run_pure]
        · by_cases e : g2 = g
          · subst e
            rw [hblk] at h2
            simp only [Option.some.injEq, Obj.cells.injEq, and_true, Array.mk.injEq] at h2
            obtain ⟨rfl, _⟩ := h2
            exact ⟨(mL (blankM (kk : Int) (numR (bytesOf s) 4 2) (numR (bytesOf s) 6 2) (numR (bytesOf s) 8 8))), hl.symm, setCells_whole hblk hl⟩
          · exact ⟨cs2, rfl, (setCells_other g e _ _ _).trans h2⟩
      exact Reg.allOps_nil
    intro vs w0 hI hR
    have r0 : vs 0 = .string s := hR 0 (by decide)
    have r1 : vs 1 = .int .u8 (kk : Nat) := hR 1 (by decide)
    have r2 : vs 2 = .int .i64 (kk : Nat) := hR 2 (by decide)
    have r3 : vs 3 = .string s := hR 3 (by decide)
    have r4 : vs 4 = .int .i64 (numR (bytesOf s) 4 2) := hR 4 (by decide)
    have r5 : vs 5 = .string s := hR 5 (by decide)
    have r6 : vs 6 = .int .i64 (numR (bytesOf s) 6 2) := hR 6 (by decide)
    have r7 : vs 7 = .string s := hR 7 (by decide)
    have r8 : vs 8 = .int .i64 (numR (bytesOf s) 8 8) := hR 8 (by decide)
    have r9 : vs 9 = .agg #[.int .i64 (kk : Nat), .int .i64 (numR (bytesOf s) 4 2), .int .i64 (numR (bytesOf s) 6 2), .int .i64 (numR (bytesOf s) 8 8), .int .i64 0, .int .i64 0, .int .i64 0, .int .i64 0, .int .i64 0, .string { data := #[] }, .string { data := #[] }] := hR 9 (by decide)
    obtain ⟨g, hv10, hg, hblk, hlt⟩ : ∃ g : Nat, vs 10 = .pointer (some ⟨g, 0, none⟩) ∧ wz.heap.size ≤ g ∧ w0.heap[g]? = some (.cells (mL (blankM (kk : Int) (numR (bytesOf s) 4 2) (numR (bytesOf s) 6 2) (numR (bytesOf s) 8 8))).toArray 24 (0, 0)) ∧ g < w0.heap.size := hR 11 (by decide)
    simp only [Reg.fillFrom, Act.put, List.setIfInBounds_toArray, List.set_cons_zero, List.set_cons_succ, r0, r1, r2, r3, r4, r5, r6, r7, r8, r9]
    clear hR r0 r1 r2 r3 r4 r5 r6 r7 r8 r9
    rw [hv10]
    go_wp2_with fail
    go_meet
    exact ⟨g, rfl, ⟨hg⟩, ⟨by rw [HM00.out]; exact ⟨hblk, hlt⟩⟩, ⟨hI⟩⟩
  case rest =>
    obtain ⟨g, rfl, HG, HM, HB⟩ := hcut
    have hB := HB.out
    have hc0 : wc.cell? ⟨g, 0, none⟩ = some (.int .i64 (kk : Int)) := by
      have := HM.out.c 0
      rw [HM00.out] at this
      exact this
    have hct2 := (hB.cell (p := ⟨1, kk, none⟩) hgl).trans hct
    have hwl : wz.heap.size ≤ wc.heap.size := hB.size
    have HGL := Aside0.mk HM0.out.lt
    have hkx : (kk : Int) < 17 := by omega
    clear hB hct hgl K4 K6 K8 hwk
    generalize fstr kk = S at hct2 hfs hfa
    generalize hfe : fieldsOf kk = fs at HM HM00 hfs hfa HI h6 HAT HNX ⊢
    have HFE := Lib.hid hfe
    clear hfe
    have HS := Aside0.mk hfs
    have HA := Aside0.mk hfa
    have h6' : S.size ≤ 6 := by omega
    have HBW := HB
    clear hfs hfa h6 HB
    go_wp2
    clear hct2 hc0
    go_loopw [5, 6, 7, 8] (fun av iv _ _ wr => ∃ j : Nat, j ≤ S.size ∧ iv = .int .i64 (j : Int) ∧ av = .int .i64 ((RSt (bytesOf s) fs j).2 : Nat) ∧ Aside0 (MBox wr g (RSt (bytesOf s) fs j).1) ∧ Aside0 (Below wz.heap.size wz wr)) (fun _ iv _ _ _ => 7 - (intOf iv).toNat)
    case atStart => exact ⟨0, Nat.zero_le _, rfl, by rw [HM00.out]; rfl, HM, HBW⟩
    case round =>
      clear HM HBW
      obtain ⟨j, hj, rfl, rfl, HM, HBW⟩ := hrel
      obtain ⟨wo, rfl⟩ : ∃ wo : World, wo = wr := ⟨_, rfl⟩
      by_cases hlt : j < S.size
      · obtain ⟨n, hn⟩ : ∃ n, fs[j]? = some n := ⟨_, List.getElem?_eq_getElem (by rw [← HS.out]; exact hlt)⟩
        have ha := HA.out j n hn hlt
        have hn7 := HI.out j n hn
        have hax := HAT.out j (by rw [← HS.out]; exact hj)
        have hnx := HNX.out j n hn
        have HJ := Lib.hid hnx
        generalize RSt (bytesOf s) fs j = st at HM hax HJ ⊢
        obtain ⟨mj, aj⟩ := st
        simp only at HM hax HJ ⊢
        have haj : aj ≤ 25769803844 := by omega
        have haj0 : (0 : Int) ≤ (aj : Int) := by omega
        have haj1 : (aj : Int) ≤ 25769803844 := by omega
        have KA := fun (w : World) => KL8 aj (by omega) w
        have KB := fun (w : World) => KL2 aj (by omega) w
        have KC := fun (w : World) => KL4 aj (by omega) w
        clear hn hnx hax KL8 KL2 KL4
        have e : n = 0 ∨ n = 1 ∨ n = 2 ∨ n = 3 ∨ n = 4 ∨ n = 5 ∨ n = 6 := by omega
        rcases e with e | e | e | e | e | e | e <;> subst e
        · have ha' : (S[j]'hlt).toNat = 69 := ha
          have hc : wo.cell? ⟨g, 4, none⟩ = some (.int .i64 mj.epoch) := HM.out.c 4
          have hfr : wo.frozen? ⟨g, 4, none⟩ = false := blk_frozen HM.out.row 4
          clear ha
          go_wp2_with fail
          refine (KA _).out.mono ?_
          rintro e w2 ⟨rfl, ⟨⟨n2, rfl⟩⟩⟩
          go_wp2
          have hB2 : Below wz.heap.size wz (wo.setCell ⟨g, 4, none⟩ (.int .i64 (longR (bytesOf s) aj 8))) := HBW.out.setCell HG.out _
          have hM2 := mbox_num HM.out 0 (by decide) (longR (bytesOf s) aj 8)
          have hst : RSt (bytesOf s) fs (j + 1) = (setNum mj 0 (longR (bytesOf s) aj 8), aj + 8) := by rw [HJ.out]; rfl
          go_roundw
          case rel => exact ⟨j + 1, by omega, by go_num, by rw [hst]; go_num, ⟨by rw [hst]; exact ⟨hM2.row, hM2.lt⟩⟩, ⟨hB2.os, hB2.tape, hB2.output, hB2.size, hB2.block⟩⟩
          case measure => simp [intOf]; omega
        · have ha' : (S[j]'hlt).toNat = 83 := ha
          have hc : wo.cell? ⟨g, 5, none⟩ = some (.int .i64 mj.seq) := HM.out.c 5
          have hfr : wo.frozen? ⟨g, 5, none⟩ = false := blk_frozen HM.out.row 5
          clear ha
          go_wp2_with fail
          refine (KA _).out.mono ?_
          rintro e w2 ⟨rfl, ⟨⟨n2, rfl⟩⟩⟩
          go_wp2
          have hB2 : Below wz.heap.size wz (wo.setCell ⟨g, 5, none⟩ (.int .i64 (longR (bytesOf s) aj 8))) := HBW.out.setCell HG.out _
          have hM2 := mbox_num HM.out 1 (by decide) (longR (bytesOf s) aj 8)
          have hst : RSt (bytesOf s) fs (j + 1) = (setNum mj 1 (longR (bytesOf s) aj 8), aj + 8) := by rw [HJ.out]; rfl
          go_roundw
          case rel => exact ⟨j + 1, by omega, by go_num, by rw [hst]; go_num, ⟨by rw [hst]; exact ⟨hM2.row, hM2.lt⟩⟩, ⟨hB2.os, hB2.tape, hB2.output, hB2.size, hB2.block⟩⟩
          case measure => simp [intOf]; omega
        · have ha' : (S[j]'hlt).toNat = 86 := ha
          have hc : wo.cell? ⟨g, 6, none⟩ = some (.int .i64 mj.version) := HM.out.c 6
          have hfr : wo.frozen? ⟨g, 6, none⟩ = false := blk_frozen HM.out.row 6
          clear ha
          go_wp2_with fail
          refine (KA _).out.mono ?_
          rintro e w2 ⟨rfl, ⟨⟨n2, rfl⟩⟩⟩
          go_wp2
          have hB2 : Below wz.heap.size wz (wo.setCell ⟨g, 6, none⟩ (.int .i64 (longR (bytesOf s) aj 8))) := HBW.out.setCell HG.out _
          have hM2 := mbox_num HM.out 2 (by decide) (longR (bytesOf s) aj 8)
          have hst : RSt (bytesOf s) fs (j + 1) = (setNum mj 2 (longR (bytesOf s) aj 8), aj + 8) := by rw [HJ.out]; rfl
          go_roundw
          case rel => exact ⟨j + 1, by omega, by go_num, by rw [hst]; go_num, ⟨by rw [hst]; exact ⟨hM2.row, hM2.lt⟩⟩, ⟨hB2.os, hB2.tape, hB2.output, hB2.size, hB2.block⟩⟩
          case measure => simp [intOf]; omega
        · have ha' : (S[j]'hlt).toNat = 80 := ha
          have hc : wo.cell? ⟨g, 7, none⟩ = some (.int .i64 mj.prev) := HM.out.c 7
          have hfr : wo.frozen? ⟨g, 7, none⟩ = false := blk_frozen HM.out.row 7
          clear ha
          go_wp2_with fail
          refine (KA _).out.mono ?_
          rintro e w2 ⟨rfl, ⟨⟨n2, rfl⟩⟩⟩
          go_wp2
          have hB2 : Below wz.heap.size wz (wo.setCell ⟨g, 7, none⟩ (.int .i64 (longR (bytesOf s) aj 8))) := HBW.out.setCell HG.out _
          have hM2 := mbox_num HM.out 3 (by decide) (longR (bytesOf s) aj 8)
          have hst : RSt (bytesOf s) fs (j + 1) = (setNum mj 3 (longR (bytesOf s) aj 8), aj + 8) := by rw [HJ.out]; rfl
          go_roundw
          case rel => exact ⟨j + 1, by omega, by go_num, by rw [hst]; go_num, ⟨by rw [hst]; exact ⟨hM2.row, hM2.lt⟩⟩, ⟨hB2.os, hB2.tape, hB2.output, hB2.size, hB2.block⟩⟩
          case measure => simp [intOf]; omega
        · have ha' : (S[j]'hlt).toNat = 67 := ha
          have hc : wo.cell? ⟨g, 8, none⟩ = some (.int .i64 mj.code) := HM.out.c 8
          have hfr : wo.frozen? ⟨g, 8, none⟩ = false := blk_frozen HM.out.row 8
          clear ha
          go_wp2_with fail
          refine (KA _).out.mono ?_
          rintro e w2 ⟨rfl, ⟨⟨n2, rfl⟩⟩⟩
          go_wp2_with fail
          refine (KB _).out.mono ?_
          rintro e w2 ⟨rfl, ⟨⟨n3, rfl⟩⟩⟩
          go_wp2
          have hB2 : Below wz.heap.size wz (wo.setCell ⟨g, 8, none⟩ (.int .i64 (longR (bytesOf s) aj 2))) := HBW.out.setCell HG.out _
          have hM2 := mbox_num HM.out 4 (by decide) (longR (bytesOf s) aj 2)
          have hst : RSt (bytesOf s) fs (j + 1) = (setNum mj 4 (longR (bytesOf s) aj 2), aj + 2) := by rw [HJ.out]; rfl
          go_roundw
          case rel => exact ⟨j + 1, by omega, by go_num, by rw [hst]; go_num, ⟨by rw [hst]; exact ⟨hM2.row, hM2.lt⟩⟩, ⟨hB2.os, hB2.tape, hB2.output, hB2.size, hB2.block⟩⟩
          case measure => simp [intOf]; omega
        · have ha' : (S[j]'hlt).toNat = 75 := ha
          have hc : wo.cell? ⟨g, 9, none⟩ = some (.string mj.key) := HM.out.c 9
          have hfr : wo.frozen? ⟨g, 9, none⟩ = false := blk_frozen HM.out.row 9
          obtain ⟨hx0, hx1⟩ := HLs.out aj 2 (by decide)
          obtain ⟨x, hx⟩ : ∃ x : Nat, longR (bytesOf s) aj 2 = (x : Int) := ⟨(longR (bytesOf s) aj 2).toNat, by omega⟩
          have hxl : x < 4294967296 := by omega
          have hst : RSt (bytesOf s) fs (j + 1) = (setText mj 5 (strOfNums (pieceR (bytesOf s) (aj + 2) x)), aj + (2 + x)) := by
            rw [HJ.out]
            show (setText mj 5 (strOfNums (pieceR (bytesOf s) (aj + 2) (longR (bytesOf s) aj 2).toNat)), aj + (2 + (longR (bytesOf s) aj 2).toNat)) = _
            rw [hx, Int.toNat_natCast]
          have HST := Lib.hid hst
          simp only [hx] at KB
          have KQ := fun (w : World) => (KP (aj + 2) x (by omega) (by omega) w).out
          have eq1 : ((aj + 2 : Nat) : Int) = (aj : Int) + 2 := by omega
          rw [eq1] at KQ
          have KQ' := fun w => Lib.hid (KQ w)
          have hx2 : (0 : Int) ≤ (x : Int) := by omega
          have hx3 : (x : Int) ≤ 4294967295 := by omega
          clear ha hx0 hx1 hx hst KQ eq1
          generalize strOfNums (pieceR (bytesOf s) (aj + 2) x) = tx at KQ' HST
          go_wp2_with fail
          refine (KA _).out.mono ?_
          rintro e w2 ⟨rfl, ⟨⟨n2, rfl⟩⟩⟩
          go_wp2_with fail
          refine (KB _).out.mono ?_
          rintro e w2 ⟨rfl, ⟨⟨n3, rfl⟩⟩⟩
          go_wp2_with fail
          refine (KQ' _).out.mono ?_
          rintro e w2 ⟨rfl, ⟨⟨n4, rfl⟩⟩⟩
          go_wp2
          have hB2 : Below wz.heap.size wz (wo.setCell ⟨g, 9, none⟩ (.string tx)) := HBW.out.setCell HG.out _
          have hM2 := mbox_text HM.out 5 (by decide) tx
          go_roundw
          case rel => exact ⟨j + 1, by omega, by go_num, by rw [HST.out]; go_num, ⟨by rw [HST.out]; exact ⟨hM2.row, hM2.lt⟩⟩, ⟨hB2.os, hB2.tape, hB2.output, hB2.size, hB2.block⟩⟩
          case measure => simp [intOf]; omega
        · have ha' : (S[j]'hlt).toNat = 87 := ha
          have hc : wo.cell? ⟨g, 10, none⟩ = some (.string mj.value) := HM.out.c 10
          have hfr : wo.frozen? ⟨g, 10, none⟩ = false := blk_frozen HM.out.row 10
          obtain ⟨hx0, hx1⟩ := HLs.out aj 4 (by decide)
          obtain ⟨x, hx⟩ : ∃ x : Nat, longR (bytesOf s) aj 4 = (x : Int) := ⟨(longR (bytesOf s) aj 4).toNat, by omega⟩
          have hxl : x < 4294967296 := by omega
          have hst : RSt (bytesOf s) fs (j + 1) = (setText mj 6 (strOfNums (pieceR (bytesOf s) (aj + 4) x)), aj + (4 + x)) := by
            rw [HJ.out]
            show (setText mj 6 (strOfNums (pieceR (bytesOf s) (aj + 4) (longR (bytesOf s) aj 4).toNat)), aj + (4 + (longR (bytesOf s) aj 4).toNat)) = _
            rw [hx, Int.toNat_natCast]
          have HST := Lib.hid hst
          simp only [hx] at KC
          have KQ := fun (w : World) => (KP (aj + 4) x (by omega) (by omega) w).out
          have eq1 : ((aj + 4 : Nat) : Int) = (aj : Int) + 4 := by omega
          rw [eq1] at KQ
          have KQ' := fun w => Lib.hid (KQ w)
          have hx2 : (0 : Int) ≤ (x : Int) := by omega
          have hx3 : (x : Int) ≤ 4294967295 := by omega
          clear ha hx0 hx1 hx hst KQ eq1
          generalize strOfNums (pieceR (bytesOf s) (aj + 4) x) = tx at KQ' HST
          go_wp2_with fail
          refine (KA _).out.mono ?_
          rintro e w2 ⟨rfl, ⟨⟨n2, rfl⟩⟩⟩
          go_wp2_with fail
          refine (KC _).out.mono ?_
          rintro e w2 ⟨rfl, ⟨⟨n3, rfl⟩⟩⟩
          go_wp2_with fail
          refine (KQ' _).out.mono ?_
          rintro e w2 ⟨rfl, ⟨⟨n4, rfl⟩⟩⟩
          go_wp2
          have hB2 : Below wz.heap.size wz (wo.setCell ⟨g, 10, none⟩ (.string tx)) := HBW.out.setCell HG.out _
          have hM2 := mbox_text HM.out 6 (by decide) tx
          go_roundw
          case rel => exact ⟨j + 1, by omega, by go_num, by rw [HST.out]; go_num, ⟨by rw [HST.out]; exact ⟨hM2.row, hM2.lt⟩⟩, ⟨hB2.os, hB2.tape, hB2.output, hB2.size, hB2.block⟩⟩
          case measure => simp [intOf]; omega
      · obtain rfl : j = S.size := by omega
        rw [HS.out] at HM
        have hrg := blk_range HM.out.row
        have HRS := HM0.out.below HBW.out HM0.out.lt
        have hth := blk_there HRS.row
        have HBF := Aside0.mk (HB0.out.trans (HBW.out.mono HB0.out.size))
        have HRW := Aside0.mk HRS
        generalize hmf : (RSt (bytesOf s) fs fs.length).1 = mf at HM hrg ⊢
        have HMF := Lib.hid hmf
        clear HRS hmf
        go_wp2_with (first | ((with_reducible refine gate_load (ty := 24) (x := .tmp 3) rfl ?_); refine wpList_load_mid rfl 24 (.tmp 3) rfl g 0 rfl (mL mf) _ hrg Tryd.underlying24 rfl infoM ?_) | ((with_reducible refine gate_store (ty := 24) (x := .tmp 2) (y := .tmp 86) rfl ?_); refine wpList_store_mid rfl 24 (.tmp 2) (.tmp 86) rfl w.heap.size 0 (mL mf).toArray rfl rfl hth infoM (mL_one mf) ?_))
        refine bodyPost_ret (v := .agg (mL mf).toArray) ?_ rfl ⟨by rw [HFE.out, HMF.out], below_setCells HBF.out (Nat.le_refl _) _ _⟩
        exact results_c_mid rfl _ _ w.heap.size 0 (mL mf) _ rfl (blk_range (setCells_whole HRW.out.row rfl)) Tryd.underlying24 rfl infoM
end Go.Proofs.YtnifgokjagahfaaDoor.RefDec
