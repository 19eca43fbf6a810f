/- Joined texts of this claim: RefDecPure, RefF, Read, Mids, RefRead, Dec, Reg -/
import Derived.Test.YtnifgokjagahfaaDoorJFBurst1
import Derived.Deep.DeepCutAuto
import Derived.Test.YtnifgokjagahfaaDoorJFBurst0
import Derived.Deep.MidRow
import Derived.Deep.RegionHeld3
import Derived.Test.YtnifgokjagahfaaDoorWWords
import Derived.Test.YtnifgokjagahfaaDoorWLast
import Derived.Orders
import Derived.Below
/- The document's Decode as a function of the bytes; it is decP. -/
set_option linter.unusedVariables false
set_option linter.unusedSimpArgs false
namespace Go.Proofs.YtnifgokjagahfaaDoor.RefDec
open Go.RowKit Go.Proofs.YtnifgokjagahfaaDoorW.PrintWords Go.Proofs.YtnifgokjagahfaaDoorW.PrintLast Go.Proofs.YtnifgokjagahfaaDoorW.PrintMore
open Go.Proofs.YtnifgokjagahfaaDoor.Base Go.Proofs.YtnifgokjagahfaaDoor.Layouts Go.Proofs.YtnifgokjagahfaaDoor.Msg Go.Proofs.YtnifgokjagahfaaDoor.Put Go.Proofs.YtnifgokjagahfaaDoor.EncPure Go.Proofs.YtnifgokjagahfaaDoor.DecPure Go.Proofs.YtnifgokjagahfaaDoor.Enc Go.Proofs.YtnifgokjagahfaaDoor.Num Go.Proofs.YtnifgokjagahfaaDoor.PFrameDecodes
def numR (L : List Int) (at_ w : Nat) : Int := if 9007199254740992 < val ((L.drop at_).take w) then -1 else val ((L.drop at_).take w)
def longR (L : List Int) (at_ w : Nat) : Int := if at_ + w > L.length then 0 else numR L at_ w
def pieceR (L : List Int) (at_ n : Nat) : List Int := (L.drop at_).take n
def stepR (L : List Int) (s : M × Nat) (f : Nat) : M × Nat :=
  if f < 4 then (setNum s.1 f (longR L s.2 8), s.2 + 8)
  else if f = 4 then (setNum s.1 4 (longR L s.2 2), s.2 + 2)
  else (setText s.1 f (strOfNums (pieceR L (s.2 + wN f) (longR L s.2 (wN f)).toNat)), s.2 + (wN f + (longR L s.2 (wN f)).toNat))
def readR (L : List Int) : M := ((fieldsOf (kindL L).toNat).foldl (stepR L) (blankM (kindL L) (numR L 4 2) (numR L 6 2) (numR L 8 8), 20)).1
theorem val_append_ge (a : List Int) (ha : Byt a) : ∀ b, Byt b → val a ≤ val (a ++ b) := by
  intro b
  induction b using snoc_ind with
  | nil => intro _; simp
  | snoc b x ih =>
    intro hb
    have h1 := ih (fun y hy => hb y (by simp [hy]))
    have h2 := hb x (by simp)
    have h3 := val_nonneg a ha
    rw [← List.append_assoc, val_snoc]
    omega
theorem val_take_le (l : List Int) (h : Byt l) (i : Nat) : val (l.take i) ≤ val l := by
  have := val_append_ge (l.take i) (byt_take h i) (l.drop i) (byt_drop h i)
  rwa [List.take_append_drop] at this
theorem sub_bytes (r : ByteArray) (at_ w i : Nat) (hi : i < w) (h : at_ + w ≤ r.size) : (((bytesOf r).drop at_).take w).take (i + 1) = (((bytesOf r).drop at_).take w).take i ++ [bt r ((at_ : Int) + (i : Int))] := by
  have hl : i < (((bytesOf r).drop at_).take w).length := by rw [List.length_take, List.length_drop, bytesOf_length]; omega
  rw [List.take_add_one, List.getElem?_eq_getElem hl]
  congr 2
  rw [List.getElem_take, List.getElem_drop]
  have e : ((at_ : Int) + (i : Int)) = ((at_ + i : Nat) : Int) := by omega
  rw [e, ← rd_bytesOf]
  have hl2 : at_ + i < (bytesOf r).length := by rw [bytesOf_length]; omega
  unfold rd
  rw [Int.toNat_natCast, List.getD_eq_getElem?_getD, List.getElem?_eq_getElem hl2]
  rfl
theorem rnumber_l (r : ByteArray) (at_ wd : Nat) (hw : wd ≤ 8) (h : at_ + wd ≤ r.size) (hsz : r.size ≤ 9223372036854775807) (d : Nat) : ∀ (i k : Nat), i ≤ wd → wd - i = d → d < k → val ((((bytesOf r).drop at_).take wd).take i) ≤ 9007199254740992 →
    granaryref5_number.l0 k r at_ wd (val ((((bytesOf r).drop at_).take wd).take i)) i = some (numR (bytesOf r) at_ wd) := by
  have hby : Byt (((bytesOf r).drop at_).take wd) := byt_take (byt_drop (byt_bytesOf r) _) _
  have hll : (((bytesOf r).drop at_).take wd).length = wd := by rw [List.length_take, List.length_drop, bytesOf_length]; omega
  have hR : numR (bytesOf r) at_ wd = if 9007199254740992 < val (((bytesOf r).drop at_).take wd) then -1 else val (((bytesOf r).drop at_).take wd) := rfl
  have hsub := fun i hi => sub_bytes r at_ wd i hi h
  generalize ((bytesOf r).drop at_).take wd = l at hby hll hR hsub
  generalize numR (bytesOf r) at_ wd = z at hR ⊢
  induction d with
  | zero =>
    intro i k hi hd hk hv
    obtain ⟨k, rfl⟩ : ∃ m, k = m + 1 := ⟨k - 1, by omega⟩
    obtain rfl : i = wd := by omega
    have ht : l.take i = l := List.take_of_length_le (by omega)
    rw [ht] at hv ⊢
    simp only [granaryref5_number.l0]
    rw [if_neg (by omega), hR, if_neg (by omega)]
  | succ d ih =>
    intro i k hi hd hk hv
    obtain ⟨k, rfl⟩ : ∃ m, k = m + 1 := ⟨k - 1, by omega⟩
    have c1 : (i : Int) < (wd : Int) := by omega
    have c2 : (0 : Int) ≤ (at_ : Int) + (i : Int) := by omega
    have c3 : (at_ : Int) + (i : Int) < (r.size : Int) := by omega
    have c4 : -9223372036854775808 ≤ (at_ : Int) + (i : Int) ∧ (at_ : Int) + (i : Int) ≤ 9223372036854775807 := by omega
    have c5 : (i : Int) + 1 = ((i + 1 : Nat) : Int) := by omega
    have c6 : -9223372036854775808 ≤ (i : Int) + 1 ∧ (i : Int) + 1 ≤ 9223372036854775807 := by omega
    have hs := hsub i (by omega)
    have hb := bt_range r ((at_ : Int) + (i : Int))
    have h0 := val_nonneg _ (byt_take hby i)
    have hle := val_take_le l hby (i + 1)
    have hn := ih (i + 1) k (by omega) (by omega) (by omega)
    have hval : val (l.take (i + 1)) = 256 * val (l.take i) + bt r ((at_ : Int) + (i : Int)) := by rw [hs, val_snoc]
    clear hs
    generalize hbb : bt r ((at_ : Int) + (i : Int)) = b at hb hval
    generalize val (l.take (i + 1)) = y at hle hn hval
    generalize val (l.take i) = x at hv h0 hval ⊢
    have B1 : -9223372036854775808 ≤ 256 * x ∧ 256 * x ≤ 9223372036854775807 := by omega
    have B2 : -9223372036854775808 ≤ 256 * x + b ∧ 256 * x + b ≤ 9223372036854775807 := by omega
    have B3 : -9223372036854775808 ≤ b ∧ b ≤ 9223372036854775807 := by omega
    have fin : (if 256 * x + b > 9007199254740992 then some (-1) else granaryref5_number.l0 k r at_ wd (256 * x + b) ((i + 1 : Nat) : Int)) = some z := by
      by_cases hbig : 256 * x + b > 9007199254740992
      · rw [if_pos hbig, hR, if_pos (by omega)]
      · rw [if_neg hbig, ← hval]
        exact hn (by omega)
    have e1 : wrap64 ((at_ : Int) + (i : Int)) = (at_ : Int) + (i : Int) := w64 _ c4.1 c4.2
    have e2 : wrap64 (256 * x) = 256 * x := w64 _ B1.1 B1.2
    have e3 : wrap64 b = b := w64 _ B3.1 B3.2
    have e4 : wrap64 (256 * x + b) = 256 * x + b := w64 _ B2.1 B2.2
    have e5 : wrap64 ((i : Int) + 1) = ((i + 1 : Nat) : Int) := by rw [w64 _ c6.1 c6.2]; exact c5
    simp only [granaryref5_number.l0]
    rw [if_pos c1, e1, if_pos c2, if_pos c3, hbb, e2, e3, e4, e5]
    exact fin
theorem rnumber_f (r : ByteArray) (at_ wd : Nat) (hw : wd ≤ 8) (h : at_ + wd ≤ r.size) (hsz : r.size ≤ 9223372036854775807) : granaryref5_number.f 9 r at_ wd = some (numR (bytesOf r) at_ wd) :=
  rnumber_l r at_ wd hw h hsz (wd - 0) 0 9 (by omega) rfl (by omega) (by simp [val])
theorem rlong_f (r : ByteArray) (at_ wd : Nat) (hw : wd ≤ 8) (hat : at_ ≤ 1099511627776) (hsz : r.size ≤ 9223372036854775807) : granaryref5_long.f 9 r at_ wd = some (longR (bytesOf r) at_ wd) := by
  have B : -9223372036854775808 ≤ (at_ : Int) + (wd : Int) ∧ (at_ : Int) + (wd : Int) ≤ 9223372036854775807 := by omega
  have hl : longR (bytesOf r) at_ wd = if at_ + wd > r.size then 0 else numR (bytesOf r) at_ wd := by unfold longR; rw [bytesOf_length]
  by_cases c : at_ + wd > r.size
  · have c' : (at_ : Int) + (wd : Int) > (r.size : Int) := by omega
    unfold granaryref5_long.f
    rw [w64 _ B.1 B.2, if_pos c', hl, if_pos c]
  · have c' : ¬ (at_ : Int) + (wd : Int) > (r.size : Int) := by omega
    unfold granaryref5_long.f
    rw [w64 _ B.1 B.2, if_neg c', rnumber_f r at_ wd hw (by omega) hsz, Option.bind_some, hl, if_neg c]
theorem numR_range (L : List Int) (hb : Byt L) (at_ wd : Nat) : -1 ≤ numR L at_ wd ∧ numR L at_ wd ≤ 9007199254740992 := by
  have h := val_nonneg _ (byt_take (byt_drop hb at_) wd)
  unfold numR
  split <;> omega
/-- a number of two or four bytes is not above MaxNumber -/
theorem longR_small (L : List Int) (hb : Byt L) (at_ wd : Nat) (hw : wd ≤ 4) : 0 ≤ longR L at_ wd ∧ longR L at_ wd < 4294967296 := by
  have h0 := val_nonneg _ (byt_take (byt_drop hb at_) wd)
  have h1 := val_lt _ (byt_take (byt_drop hb at_) wd)
  have hl : ((L.drop at_).take wd).length ≤ 4 := by rw [List.length_take]; omega
  have hp : ∀ n, n ≤ 4 → (256 : Int) ^ n ≤ 4294967296 := by
    intro n hn
    have : ∀ n, n < 5 → (256 : Int) ^ n ≤ 4294967296 := by decide
    exact this n (by omega)
  have h2 := Int.lt_of_lt_of_le h1 (hp _ hl)
  clear h1
  unfold longR numR
  split
  · omega
  · rw [if_neg (by omega)]; exact ⟨h0, h2⟩
/-! what is read of a whole frame is the message -/
theorem numR_be {L : List Int} {at_ wd : Nat} {n : Int} {t : List Int} (h : L.drop at_ = be n wd ++ t) (h0 : 0 ≤ n) (h1 : n ≤ 9007199254740992) (hw : n < 256 ^ wd) : numR L at_ wd = n := by
  have e : (L.drop at_).take wd = be n wd := by rw [h]; exact List.take_left' (be_length n wd)
  unfold numR
  rw [e, val_be wd n h0 hw, if_neg (by omega)]
theorem longR_be {L : List Int} {at_ wd : Nat} {n : Int} {t : List Int} (h : L.drop at_ = be n wd ++ t) (hwd : 0 < wd) (h0 : 0 ≤ n) (h1 : n ≤ 9007199254740992) (hw : n < 256 ^ wd) : longR L at_ wd = n := by
  have hl : at_ + wd ≤ L.length := by
    have := congrArg List.length h
    rw [List.length_drop, List.length_append, be_length] at this
    omega
  unfold longR
  rw [if_neg (by omega)]
  exact numR_be h h0 h1 hw
theorem step_mk (m m0 : M) (L : List Int) (at_ f : Nat) (t : List Int) (hf : f < 7) (h : 0 ≤ numOf m f ∧ numOf m f ≤ mostOf f) (hL : L.drop at_ = fieldB m f ++ t) : stepR L (m0, at_) f = (copyF m m0 f, at_ + (fieldB m f).length) := by
  have hp := pow_most f hf
  have hmx : mostOf f ≤ 9007199254740992 := by
    have : ∀ n, n < 7 → mostOf n ≤ 9007199254740992 := by decide
    exact this f hf
  have hfl := field_length m f
  unfold stepR copyF
  by_cases h4 : f < 4
  · have ht := textOf_num m f (by omega)
    have hw : wN f = 8 := by
      have : ∀ f, f < 4 → wN f = 8 := by decide
      exact this f h4
    rw [if_pos h4, if_pos (by omega)]
    unfold fieldB at hL
    rw [ht, List.append_nil, hw] at hL
    rw [hw] at hp
    simp only
    rw [longR_be hL (by decide) h.1 (by omega) (by omega), hfl, ht, hw]
    rfl
  · rw [if_neg h4]
    by_cases e4 : f = 4
    · subst e4
      have ht := textOf_num m 4 (by decide)
      have hw : wN 4 = 2 := rfl
      rw [if_pos rfl, if_pos (by decide)]
      unfold fieldB at hL
      rw [ht, List.append_nil, hw] at hL
      rw [hw] at hp
      simp only
      rw [longR_be hL (by decide) h.1 (by omega) (by omega), hfl, ht, hw]
      rfl
    · rw [if_neg e4, if_neg (by omega)]
      have e : f = 5 ∨ f = 6 := by omega
      have hpos : 0 < wN f := (wN_range f hf).1
      unfold fieldB at hL
      rw [List.append_assoc] at hL
      simp only
      rw [longR_be hL hpos h.1 (by omega) (by omega)]
      have hd : L.drop (at_ + wN f) = textOf m f ++ t := by
        rw [← List.drop_drop, hL, List.drop_left' (be_length _ _)]
      have hnt : (numOf m f).toNat = (textOf m f).length := by
        rcases e with e | e
        · subst e; rw [(num_size m).1]; rfl
        · subst e; rw [(num_size m).2]; rfl
      have hpi : pieceR L (at_ + wN f) (numOf m f).toNat = textOf m f := by
        unfold pieceR
        rw [hd, hnt]
        exact List.take_left' rfl
      rw [hpi, hfl, hnt]
      rcases e with e | e
      · subst e
        rw [if_pos rfl]
        have : strOfNums (textOf m 5) = m.key := strOfNums_bytesOf m.key
        rw [this]
      · subst e
        rw [if_neg (by decide)]
        have : strOfNums (textOf m 6) = m.value := strOfNums_bytesOf m.value
        rw [this]
theorem steps_mk (m : M) (L : List Int) : ∀ (fs : List Nat) (m0 : M) (at_ : Nat) (t : List Int), (∀ f ∈ fs, f < 7 ∧ 0 ≤ numOf m f ∧ numOf m f ≤ mostOf f) → L.drop at_ = bodyB m fs ++ t →
    (fs.foldl (stepR L) (m0, at_)).1 = fs.foldl (copyF m) m0
  | [], m0, at_, t, _, _ => rfl
  | f :: fs, m0, at_, t, h, hL => by
    have hf := h f (by simp)
    have e : bodyB m (f :: fs) ++ t = fieldB m f ++ (bodyB m fs ++ t) := by simp [bodyB]
    rw [e] at hL
    rw [List.foldl_cons, step_mk m m0 L at_ f _ hf.1 hf.2 hL, List.foldl_cons]
    refine steps_mk m L fs _ _ t (fun g hg => h g (by simp [hg])) ?_
    rw [← List.drop_drop, hL, List.drop_left' rfl]
theorem read_whole (m : M) (h : vB m = true) (hk : 1 ≤ m.kind ∧ m.kind < 17) : readR (whole m) = m := by
  obtain ⟨hf, ht, hi, h4⟩ := vB_facts m h
  have hw := whole_parts m
  obtain ⟨p1, p2, p3, p4, p5, p6, p7⟩ := parts_of (a := [71, 82, 1, m.kind]) (b := be m.from_ 2 ++ (be m.to_ 2 ++ be m.id 8)) (c := be (bodyB m (fieldsOf m.kind.toNat)).length 4) (d := bodyB m (fieldsOf m.kind.toNat)) (e := sumL (frameB m)) rfl
    (by simp only [List.length_append, be_length]) (be_length _ _) rfl hw
  obtain ⟨k1, _⟩ := kindL_of p1
  have d4 : (whole m).drop 4 = be m.from_ 2 ++ (be m.to_ 2 ++ (be m.id 8 ++ (be (bodyB m (fieldsOf m.kind.toNat)).length 4 ++ (bodyB m (fieldsOf m.kind.toNat) ++ sumL (frameB m))))) := by
    rw [hw]
    simp only [List.append_assoc]
    exact List.drop_left' rfl
  have d6 : (whole m).drop 6 = be m.to_ 2 ++ (be m.id 8 ++ (be (bodyB m (fieldsOf m.kind.toNat)).length 4 ++ (bodyB m (fieldsOf m.kind.toNat) ++ sumL (frameB m)))) := by
    rw [show 6 = 4 + 2 from rfl, ← List.drop_drop, d4, List.drop_left' (be_length _ _)]
  have d8 : (whole m).drop 8 = be m.id 8 ++ (be (bodyB m (fieldsOf m.kind.toNat)).length 4 ++ (bodyB m (fieldsOf m.kind.toNat) ++ sumL (frameB m))) := by
    rw [show 8 = 6 + 2 from rfl, ← List.drop_drop, d6, List.drop_left' (be_length _ _)]
  have d20 : (whole m).drop 20 = bodyB m (fieldsOf m.kind.toNat) ++ sumL (frameB m) := by
    have d16 : (whole m).drop 16 = be (bodyB m (fieldsOf m.kind.toNat)).length 4 ++ (bodyB m (fieldsOf m.kind.toNat) ++ sumL (frameB m)) := by
      rw [show 16 = 8 + 8 from rfl, ← List.drop_drop, d8, List.drop_left' (be_length _ _)]
    rw [show 20 = 16 + 4 from rfl, ← List.drop_drop, d16, List.drop_left' (be_length _ _)]
  have n1 : numR (whole m) 4 2 = m.from_ := numR_be d4 hf.1 (by omega) (by omega)
  have n2 : numR (whole m) 6 2 = m.to_ := numR_be d6 ht.1 (by omega) (by omega)
  have n3 : numR (whole m) 8 8 = m.id := numR_be d8 hi.1 hi.2 (by omega)
  have hk' : m.kind.toNat < 17 := by omega
  unfold readR
  rw [k1, n1, n2, n3, steps_mk m (whole m) _ _ 20 _ (fun f hf => ⟨fieldsOf_lt _ hk' f hf, h4 f (fieldsOf_lt _ hk' f hf)⟩) d20, copy_all m h hk]
/-- the document's Decode -/
def decR (L : List Int) : M × Int :=
  if L.length < 24 then (zeroM, 51)
  else if L.take 3 ≠ [71, 82, 1] then (zeroM, 52)
  else if ¬ (1 ≤ kindL L ∧ kindL L < 17) then (zeroM, 53)
  else if 4383 < bodyN L ∨ 24 + bodyN L ≠ L.length then (zeroM, 54)
  else if sumL (L.take (L.length - 4)) ≠ L.drop (L.length - 4) then (zeroM, 55)
  else if (encP (readR L)).2 ≠ 0 ∨ bytesOf (encP (readR L)).1 ≠ L then (zeroM, 56)
  else (readR L, 0)
theorem encP_ok (m : M) (h : (encP m).2 = 0) : kB m = true ∧ vB m = true ∧ (encP m).1 = strOfNums (whole m) := by
  unfold encP at h ⊢
  cases h1 : kB m
  · rw [h1] at h; simp at h
  · cases h2 : vB m
    · rw [h1, h2] at h; simp at h
    · simp
theorem encP_of (m : M) (hk : 1 ≤ m.kind ∧ m.kind < 17) (hv : vB m = true) : encP m = (strOfNums (whole m), 0) := by
  unfold encP kB
  rw [if_pos (decide_eq_true hk), if_pos hv]
theorem dec_same (L : List Int) (hb : Byt L) : decR L = decP L := by
  unfold decR decP
  split
  · rfl
  rename_i g1
  split
  · rfl
  rename_i g2
  split
  · rfl
  rename_i g3
  split
  · rfl
  rename_i g4
  split
  · rfl
  rename_i g5
  by_cases hbad : badL L = true
  · rw [if_pos hbad]
    by_cases hc : (encP (readR L)).2 ≠ 0 ∨ bytesOf (encP (readR L)).1 ≠ L
    · rw [if_pos hc]
    · exfalso
      simp only [not_or, ne_eq, Decidable.not_not] at hc
      obtain ⟨hk, hv, he⟩ := encP_ok _ hc.1
      have hk' : 1 ≤ (readR L).kind ∧ (readR L).kind < 17 := of_decide_eq_true hk
      have hL : whole (readR L) = L := by
        have h2 := hc.2
        rw [he, bytesOf_strOfNums _ (byt_whole _ hk')] at h2
        exact h2
      have hd := dec_whole (readR L) hv hk'
      rw [hL] at hd
      have h56 : decP L = (zeroM, 56) := by
        unfold decP
        rw [if_neg g1, if_neg g2, if_neg g3, if_neg g4, if_neg g5, if_pos hbad]
      rw [h56] at hd
      have h2 : (56 : Int) = 0 := congrArg Prod.snd hd
      omega
  · rw [if_neg hbad]
    have hok : decP L = ((pL L).1, 0) := by
      unfold decP
      rw [if_neg g1, if_neg g2, if_neg g3, if_neg g4, if_neg g5, if_neg hbad]
    obtain ⟨hv, hk, hL⟩ := dec_ok hb hok
    generalize (pL L).1 = m at hv hk hL ⊢
    subst hL
    rw [read_whole m hv hk, encP_of m hk hv, if_neg]
    simp only [bytesOf_strOfNums _ (byt_whole m hk)]
    simp
end Go.Proofs.YtnifgokjagahfaaDoor.RefDec

/- The document's fields: has, fits, valid. -/
set_option linter.unusedVariables false
set_option linter.unusedSimpArgs false
namespace Go.Proofs.YtnifgokjagahfaaDoor.RefF
open Go.RowKit Go.Proofs.YtnifgokjagahfaaDoorW.PrintWords Go.Proofs.YtnifgokjagahfaaDoorW.PrintLast Go.Proofs.YtnifgokjagahfaaDoorW.PrintMore
open Go.Proofs.YtnifgokjagahfaaDoor.Base Go.Proofs.YtnifgokjagahfaaDoor.App Go.Proofs.YtnifgokjagahfaaDoor.Layouts Go.Proofs.YtnifgokjagahfaaDoor.Msg Go.Proofs.YtnifgokjagahfaaDoor.Put Go.Proofs.YtnifgokjagahfaaDoor.EncPure
/-- the letters: E S V P C K W -/
def chOf : Nat → Nat
  | 0 => 69
  | 1 => 83
  | 2 => 86
  | 3 => 80
  | 4 => 67
  | 5 => 75
  | _ => 87
theorem chOf_inj : ∀ f, f < 7 → ∀ g, g < 7 → chOf f = chOf g → f = g := by decide
def fstr (k : Nat) : ByteArray := ⟨((fieldsOf k).map fun f => UInt8.ofNat (chOf f)).toArray⟩
theorem fstr_size (k : Nat) : (fstr k).size = (fieldsOf k).length := by simp [fstr, ByteArray.size]
theorem fstr_at (k j n : Nat) (hk : k < 17) (hn : (fieldsOf k)[j]? = some n) (h : j < (fstr k).size) : ((fstr k)[j]'h).toNat = chOf n := by
  have hn7 : n < 7 := fields_lt k hk j n hn
  have e : (fstr k)[j]'h = UInt8.ofNat (chOf n) := by
    have hj : j < (fieldsOf k).length := by rw [← fstr_size]; exact h
    have h2 : (fieldsOf k)[j] = n := by rw [List.getElem?_eq_getElem hj] at hn; exact Option.some.inj hn
    show (fstr k).data[j]'_ = _
    simp only [fstr, List.getElem_toArray, List.getElem_map, h2]
  rw [e]
  have : ∀ n, n < 7 → (UInt8.ofNat (chOf n)).toNat = chOf n := by decide
  exact this n hn7
/-- the table lies where it was laid -/
structure RTab (w : World) : Prop where mk :: (cell : ∀ i, i < 17 → w.cell? ⟨1, i, none⟩ = some (.string (fstr i))) (lt : 1 < w.heap.size)
theorem RTab.below {w w1 : World} (h : RTab w) (hb : Below w.heap.size w w1) : RTab w1 :=
  ⟨fun i hi => (hb.cell (p := ⟨1, i, none⟩) h.lt).trans (h.cell i hi), Nat.lt_of_lt_of_le h.lt hb.size⟩
def hasB (k f : Nat) : Bool := (fieldsOf k).contains f
set_option maxRecDepth 100000 in
set_option maxHeartbeats 4000000 in
theorem has_any (k f : Nat) (w : World) (hk : k < 17) (hf : f < 7) (hR : RTab w) : Calls Tryd.prog 83 #[.int .i64 (k : Nat), .int .u8 (chOf f : Nat)] w fun e w' => e = .returned (.bool (hasB k f)) ∧ w = w' := by
  have hc := hR.cell k hk
  have hsz := fstr_size k
  have hat := fun j n hn h => fstr_at k j n hk hn h
  have HI := Aside0.mk (fun j n => fields_lt k hk j n)
  have hB : hasB k f = (fieldsOf k).contains f := rfl
  have h6 := fields_len k hk
  have hkk : (k : Int) < 17 := by omega
  generalize fieldsOf k = fs at hsz hat hB h6 HI
  generalize fstr k = S at hc hsz hat
  generalize hasB k f = r at hB ⊢
  have HS := Aside0.mk hsz
  have HA := Aside0.mk hat
  have HBB := Lib.hid hB
  have h6' : S.size ≤ 6 := by omega
  clear hsz hat hB hR h6
  go_enter Tryd.func83, Tryd.ntmps83
  go_wp2
  go_loop [6] (fun iv => ∃ j : Nat, j ≤ S.size ∧ iv = .int .i64 (j : Int) ∧ Aside0 ((fs.take j).contains f = false)) (fun iv => 7 - (intOf iv).toNat)
  case atStart => exact ⟨0, Nat.zero_le _, rfl, ⟨by simp⟩⟩
  case round =>
    obtain ⟨j, hj, rfl, HN⟩ := hrel
    by_cases hlt : j < S.size
    · obtain ⟨n, hn⟩ : ∃ n, fs[j]? = some n := ⟨_, List.getElem?_eq_getElem (by rw [← HS.out]; exact hlt)⟩
      have ha := HA.out j n hn hlt
      have hn7 := HI.out j n hn
      have HX := Aside0.mk hn
      by_cases he : n = f
      · subst he
        have HT : Aside0 (r = true) := ⟨by rw [HBB.out]; simpa using List.mem_of_getElem? hn⟩
        clear hn
        go_wp2
        go_ret
        exact ⟨by rw [HT.out]; rfl, rfl⟩
      · have hne : ¬ (chOf n : Int) = (chOf f : Int) := fun h => he (chOf_inj n hn7 f hf (by omega))
        have hne2 : ((chOf n : Int) == (chOf f : Int)) = false := beq_eq_false_iff_ne.2 hne
        have HT : Aside0 ((fs.take (j + 1)).contains f = false) := ⟨by
          rw [List.take_add_one, hn, Option.toList_some, List.contains_append]
          rw [HN.out]
          simp
          exact fun h => he h.symm⟩
        clear hn
        generalize chOf n = cn at ha hne hne2
        generalize chOf f = cf at hne hne2
        go_wp2
        go_round
        case rel => exact ⟨j + 1, by omega, by go_num, HT⟩
        case measure => simp [intOf]; omega
    · obtain rfl : j = S.size := by omega
      have HT : Aside0 (r = false) := ⟨by
        rw [HBB.out, ← HN.out, List.take_of_length_le (by rw [HS.out]; exact Nat.le_refl _)]⟩
      go_wp2
      go_ret
      exact ⟨by rw [HT.out]; rfl, rfl⟩
def fitB (k f : Nat) (n most : Int) : Bool := wi n (if hasB k f = true then most else 0)
set_option maxRecDepth 100000 in
set_option maxHeartbeats 4000000 in
theorem fits_any (k f : Nat) (n most : Int) (w : World) (hk : k < 17) (hf : f < 7) (hR : RTab w) : Calls Tryd.prog 69 #[.int .i64 (k : Nat), .int .u8 (chOf f : Nat), .int .i64 n, .int .i64 most] w fun e w' => e = .returned (.bool (fitB k f n most)) ∧ w = w' := by
  have K := Lib.hid (has_any k f w hk hf hR)
  have hB : fitB k f n most = wi n (if hasB k f = true then most else 0) := rfl
  generalize hasB k f = b at K hB
  generalize fitB k f n most = r at hB ⊢
  cases b
  · rw [if_neg (by decide)] at hB
    have hB2 : r = decide (n = 0) := by
      rw [hB, Bool.eq_iff_iff]
      simp only [decide_eq_true_iff]
      constructor
      · intro h; have := wi_of h; omega
      · rintro rfl; rfl
    have HB := Lib.hid hB2
    clear hB hB2 hR
    go_enter Tryd.func69, Tryd.ntmps69
    go_wp2_with fail
    refine K.out.mono ?_
    rintro e w' ⟨rfl, rfl⟩
    go_wp2
    go_ret
    refine ⟨?_, rfl⟩
    rw [HB.out]
    simp [Bool.beq_eq_decide_eq]
  · rw [if_pos rfl] at hB
    have HB := Lib.hid hB
    clear hB hR
    by_cases h0 : 0 ≤ n
    · by_cases h1 : n ≤ most
      · have HW := Aside0.mk (wi_mk ⟨h0, h1⟩)
        go_enter Tryd.func69, Tryd.ntmps69
        go_wp2_with fail
        refine K.out.mono ?_
        rintro e w' ⟨rfl, rfl⟩
        go_wp2
        go_ret
        exact ⟨by rw [HB.out, HW.out]; rfl, rfl⟩
      · have HW : Aside0 (wi n most = false) := ⟨by cases h : wi n most; rfl; exact absurd (wi_of h).2 h1⟩
        go_enter Tryd.func69, Tryd.ntmps69
        go_wp2_with fail
        refine K.out.mono ?_
        rintro e w' ⟨rfl, rfl⟩
        go_wp2
        go_ret
        exact ⟨by rw [HB.out, HW.out]; simp <;> omega, rfl⟩
    · have HW : Aside0 (wi n most = false) := ⟨by cases h : wi n most; rfl; exact absurd (wi_of h).1 h0⟩
      go_enter Tryd.func69, Tryd.ntmps69
      go_wp2_with fail
      refine K.out.mono ?_
      rintro e w' ⟨rfl, rfl⟩
      go_wp2
      go_ret
      exact ⟨by rw [HB.out, HW.out]; rfl, rfl⟩
set_option maxRecDepth 100000 in
set_option maxHeartbeats 4000000 in
theorem textFits_any (k f : Nat) (t : ByteArray) (most : Nat) (w : World) (hk : k < 17) (hf : f < 7) (hR : RTab w) (hmx : t.size ≤ 9223372036854775807) : Calls Tryd.prog 70 #[.int .i64 (k : Nat), .int .u8 (chOf f : Nat), .string t, .int .i64 (most : Nat)] w fun e w' => e = .returned (.bool (fitB k f t.size most)) ∧ w = w' := by
  have K := Lib.hid (has_any k f w hk hf hR)
  have hB : fitB k f t.size most = wi t.size (if hasB k f = true then (most : Int) else 0) := rfl
  generalize hasB k f = b at K hB
  generalize fitB k f t.size most = r at hB ⊢
  cases b
  · rw [if_neg (by decide)] at hB
    have hB2 : r = t.toList.isEmpty := by
      rw [hB, Bool.eq_iff_iff, ByteArray.toList_eq, List.isEmpty_iff]
      have hl := data_length t
      constructor
      · intro h; have := wi_of h; exact List.eq_nil_of_length_eq_zero (by omega)
      · intro h; rw [h] at hl; have : t.size = 0 := hl.symm; rw [this]; rfl
    have HB := Lib.hid hB2
    clear hB hB2 hR
    go_enter Tryd.func70, Tryd.ntmps70
    go_wp2_with fail
    refine K.out.mono ?_
    rintro e w' ⟨rfl, rfl⟩
    go_wp2
    go_ret
    refine ⟨?_, rfl⟩
    rw [HB.out]
    simp
  · rw [if_pos rfl] at hB
    have HB := Lib.hid hB
    clear hB hR
    by_cases h1 : (t.size : Int) ≤ (most : Int)
    · have HW := Aside0.mk (wi_mk (n := t.size) ⟨by omega, h1⟩)
      go_enter Tryd.func70, Tryd.ntmps70
      go_wp2_with fail
      refine K.out.mono ?_
      rintro e w' ⟨rfl, rfl⟩
      go_wp2
      go_ret
      refine ⟨?_, rfl⟩
      rw [HB.out, HW.out]
      simp <;> omega
    · have HW : Aside0 (wi t.size most = false) := ⟨by cases h : wi (t.size : Int) most; rfl; exact absurd (wi_of h).2 h1⟩
      go_enter Tryd.func70, Tryd.ntmps70
      go_wp2_with fail
      refine K.out.mono ?_
      rintro e w' ⟨rfl, rfl⟩
      go_wp2
      go_ret
      refine ⟨?_, rfl⟩
      rw [HB.out, HW.out]
      simp <;> omega
end Go.Proofs.YtnifgokjagahfaaDoor.RefF

/- read and size of the frame package. -/
set_option linter.unusedVariables false
set_option linter.unusedSimpArgs false
namespace Go.Proofs.YtnifgokjagahfaaDoor.Num
open Go.RowKit Go.Proofs.YtnifgokjagahfaaDoorW.PrintWords Go.Proofs.YtnifgokjagahfaaDoorW.PrintLast Go.Proofs.YtnifgokjagahfaaDoorW.PrintMore
open Go.Proofs.YtnifgokjagahfaaDoor.Base Go.Proofs.YtnifgokjagahfaaDoor.Layouts Go.Proofs.YtnifgokjagahfaaDoor.Msg Go.Proofs.YtnifgokjagahfaaDoor.Put Go.Proofs.YtnifgokjagahfaaDoor.EncPure Go.Proofs.YtnifgokjagahfaaDoor.PFrameDecodes
/-- all but two blocks are as they were -/
def Kept2 (w w' : World) (a b : Nat) : Prop := w.heap.size ≤ w'.heap.size ∧ ∀ i, i < w.heap.size → i ≠ a → i ≠ b → w'.heap[i]? = w.heap[i]?
theorem Kept2.refl (w : World) (a b : Nat) : Kept2 w w a b := ⟨Nat.le_refl _, fun _ _ _ _ => rfl⟩
theorem Kept2.trans {w w1 w2 : World} {a b : Nat} (h : Kept2 w w1 a b) (k : Kept2 w1 w2 a b) : Kept2 w w2 a b :=
  ⟨Nat.le_trans h.1 k.1, fun i hi ha hb => (k.2 i (Nat.lt_of_lt_of_le hi h.1) ha hb).trans (h.2 i hi ha hb)⟩
theorem Kept2.of_but {w w1 : World} {a b : Nat} (h : KeepBut w w1 b none) : Kept2 w w1 a b := ⟨h.1, fun i hi ha hb => h.2 i hi hb (by simp)⟩
theorem Kept2.set {w w1 : World} {a b : Nat} (h : Kept2 w w1 a b) (i : Nat) (v : Value) : Kept2 w (w1.setCell ⟨a, i, none⟩ v) a b :=
  ⟨by simpa using h.1, fun j hj ha hb => (Below.heap_setCell w1 ⟨a, i, none⟩ v j (by simpa using ha)).trans (h.2 j hj ha hb)⟩
theorem mbox_num {w : World} {g : Nat} {m : M} (h : MBox w g m) (f : Nat) (hf : f < 5) (n : Int) : MBox (w.setCell ⟨g, 4 + f, none⟩ (.int .i64 n)) g (setNum m f n) := by
  have e1 : f = 0 ∨ f = 1 ∨ f = 2 ∨ f = 3 ∨ f = 4 := by omega
  have hl : g < (w.setCell ⟨g, 4 + f, none⟩ (.int .i64 n)).heap.size := by simpa using h.lt
  refine ⟨(blk_set h.row _ _).trans ?_, hl⟩
  rcases e1 with e | e | e | e | e <;> subst e <;> simp [mL, setNum]
theorem mbox_text {w : World} {g : Nat} {m : M} (h : MBox w g m) (f : Nat) (hf : f = 5 ∨ f = 6) (t : ByteArray) : MBox (w.setCell ⟨g, 4 + f, none⟩ (.string t)) g (setText m f t) := by
  have hl : g < (w.setCell ⟨g, 4 + f, none⟩ (.string t)).heap.size := by simpa using h.lt
  refine ⟨(blk_set h.row _ _).trans ?_, hl⟩
  rcases hf with e | e <;> subst e <;> simp [mL, setText]
theorem mbox_kept {w w1 : World} {g b : Nat} {m : M} (h : MBox w g m) (hk : KeepBut w w1 b none) (hne : g ≠ b) : MBox w1 g m := ⟨(hk.2 g h.lt hne (by simp)).trans h.row, Nat.lt_of_lt_of_le h.lt hk.1⟩
theorem readC_num (m : M) (f : Nat) (c : Cur) (hf : f < 5) : readC m f c = (setNum m f (numC (wN f) (mostOf f) c).1, (numC (wN f) (mostOf f) c).2) := by unfold readC; rw [if_pos hf]
theorem readC_text (m : M) (f : Nat) (c : Cur) (hf : ¬ f < 5) : readC m f c = (setText m f (strOfNums (textC (wN f) (mostOf f) c).1), (textC (wN f) (mostOf f) c).2) := by unfold readC; rw [if_neg hf]
set_option maxRecDepth 100000 in
set_option maxHeartbeats 4000000 in
theorem read_any (g1 g2 : Nat) (m : M) (c : Cur) (f : Nat) (w0 w : World) (hf : f < 7) (hM : MBox w g1 m) (hM0 : w0.heap.size ≤ g1) (hI : CBox w0 w g2 c) (hB : Below w0.heap.size w0 w) (hb : Byt c.rest) (hne : g1 ≠ g2) :
    Calls Tryd.prog 46 #[.pointer (some ⟨g1, 0, none⟩), .int .u8 (f : Nat), .pointer (some ⟨g2, 0, none⟩)] w fun e w' =>
      e = .returned (.tuple #[]) ∧ MBox w' g1 (readC m f c).1 ∧ CBox w0 w' g2 (readC m f c).2 ∧ Below w0.heap.size w0 w' ∧ Kept2 w w' g1 g2 := by
  have e : f = 0 ∨ f = 1 ∨ f = 2 ∨ f = 3 ∨ f = 4 ∨ f = 5 ∨ f = 6 := by omega
  have HR5 := fun h => Lib.hid (readC_num m f c h)
  have HR6 := fun h => Lib.hid (readC_text m f c h)
  have K8 := fun h => Lib.hid (number_any g2 c 8 9007199254740992 w0 w hI hB hb h (by decide) (by decide))
  have K2 := fun h => Lib.hid (number_any g2 c 2 65535 w0 w hI hB hb h (by decide) (by decide))
  have T2 := fun h => Lib.hid (text_any g2 c 2 255 w0 w hI hB hb h (by decide) (by decide))
  have T4 := fun h => Lib.hid (text_any g2 c 4 4096 w0 w hI hB hb h (by decide) (by decide))
  have HM := Aside0.mk hM
  have HM0 := Aside0.mk hM0
  have HNE := Aside0.mk hne
  clear hM hI hB hb hf hM0 hne
  rcases e with e | e | e | e | e | e | e <;> subst e
  · replace HR5 := HR5 (by decide)
    replace K8 := K8 (by decide)
    clear HR6 K2 T2 T4
    go_enter Tryd.func46, Tryd.ntmps46
    go_wp2_with fail
    refine K8.out.mono ?_
    rintro e w1 ⟨rfl, hI1, hB1, hK1⟩
    have HM1 := Aside0.mk (mbox_kept HM.out hK1 HNE.out)
    have hc : w1.cell? ⟨g1, 4, none⟩ = some (.int .i64 m.epoch) := HM1.out.c 4
    have hfr : w1.frozen? ⟨g1, 4, none⟩ = false := blk_frozen HM1.out.row 4
    have HI1 := Aside0.mk hI1
    have HB1 := Aside0.mk hB1
    have HK1 := Aside0.mk (Kept2.of_but (a := g1) hK1)
    clear hI1 hB1 hK1 K8
    go_wp2
    go_end0
    refine ⟨rfl, ?_, ?_, HB1.out.setCell HM0.out _, HK1.out.set _ _⟩
    · rw [HR5.out]; exact mbox_num HM1.out 0 (by decide) _
    · rw [HR5.out]; exact HI1.out.far (fun e => HNE.out e.symm) _
  · replace HR5 := HR5 (by decide)
    replace K8 := K8 (by decide)
    clear HR6 K2 T2 T4
    go_enter Tryd.func46, Tryd.ntmps46
    go_wp2_with fail
    refine K8.out.mono ?_
    rintro e w1 ⟨rfl, hI1, hB1, hK1⟩
    have HM1 := Aside0.mk (mbox_kept HM.out hK1 HNE.out)
    have hc : w1.cell? ⟨g1, 5, none⟩ = some (.int .i64 m.seq) := HM1.out.c 5
    have hfr : w1.frozen? ⟨g1, 5, none⟩ = false := blk_frozen HM1.out.row 5
    have HI1 := Aside0.mk hI1
    have HB1 := Aside0.mk hB1
    have HK1 := Aside0.mk (Kept2.of_but (a := g1) hK1)
    clear hI1 hB1 hK1 K8
    go_wp2
    go_end0
    refine ⟨rfl, ?_, ?_, HB1.out.setCell HM0.out _, HK1.out.set _ _⟩
    · rw [HR5.out]; exact mbox_num HM1.out 1 (by decide) _
    · rw [HR5.out]; exact HI1.out.far (fun e => HNE.out e.symm) _
  · replace HR5 := HR5 (by decide)
    replace K8 := K8 (by decide)
    clear HR6 K2 T2 T4
    go_enter Tryd.func46, Tryd.ntmps46
    go_wp2_with fail
    refine K8.out.mono ?_
    rintro e w1 ⟨rfl, hI1, hB1, hK1⟩
    have HM1 := Aside0.mk (mbox_kept HM.out hK1 HNE.out)
    have hc : w1.cell? ⟨g1, 6, none⟩ = some (.int .i64 m.version) := HM1.out.c 6
    have hfr : w1.frozen? ⟨g1, 6, none⟩ = false := blk_frozen HM1.out.row 6
    have HI1 := Aside0.mk hI1
    have HB1 := Aside0.mk hB1
    have HK1 := Aside0.mk (Kept2.of_but (a := g1) hK1)
    clear hI1 hB1 hK1 K8
    go_wp2
    go_end0
    refine ⟨rfl, ?_, ?_, HB1.out.setCell HM0.out _, HK1.out.set _ _⟩
    · rw [HR5.out]; exact mbox_num HM1.out 2 (by decide) _
    · rw [HR5.out]; exact HI1.out.far (fun e => HNE.out e.symm) _
  · replace HR5 := HR5 (by decide)
    replace K8 := K8 (by decide)
    clear HR6 K2 T2 T4
    go_enter Tryd.func46, Tryd.ntmps46
    go_wp2_with fail
    refine K8.out.mono ?_
    rintro e w1 ⟨rfl, hI1, hB1, hK1⟩
    have HM1 := Aside0.mk (mbox_kept HM.out hK1 HNE.out)
    have hc : w1.cell? ⟨g1, 7, none⟩ = some (.int .i64 m.prev) := HM1.out.c 7
    have hfr : w1.frozen? ⟨g1, 7, none⟩ = false := blk_frozen HM1.out.row 7
    have HI1 := Aside0.mk hI1
    have HB1 := Aside0.mk hB1
    have HK1 := Aside0.mk (Kept2.of_but (a := g1) hK1)
    clear hI1 hB1 hK1 K8
    go_wp2
    go_end0
    refine ⟨rfl, ?_, ?_, HB1.out.setCell HM0.out _, HK1.out.set _ _⟩
    · rw [HR5.out]; exact mbox_num HM1.out 3 (by decide) _
    · rw [HR5.out]; exact HI1.out.far (fun e => HNE.out e.symm) _
  · replace HR5 := HR5 (by decide)
    replace K2 := K2 (by decide)
    clear HR6 K8 T2 T4
    go_enter Tryd.func46, Tryd.ntmps46
    go_wp2_with fail
    refine K2.out.mono ?_
    rintro e w1 ⟨rfl, hI1, hB1, hK1⟩
    have HM1 := Aside0.mk (mbox_kept HM.out hK1 HNE.out)
    have hc : w1.cell? ⟨g1, 8, none⟩ = some (.int .i64 m.code) := HM1.out.c 8
    have hfr : w1.frozen? ⟨g1, 8, none⟩ = false := blk_frozen HM1.out.row 8
    have HI1 := Aside0.mk hI1
    have HB1 := Aside0.mk hB1
    have HK1 := Aside0.mk (Kept2.of_but (a := g1) hK1)
    clear hI1 hB1 hK1 K2
    go_wp2
    go_end0
    refine ⟨rfl, ?_, ?_, HB1.out.setCell HM0.out _, HK1.out.set _ _⟩
    · rw [HR5.out]; exact mbox_num HM1.out 4 (by decide) _
    · rw [HR5.out]; exact HI1.out.far (fun e => HNE.out e.symm) _
  · replace HR6 := HR6 (by decide)
    replace T2 := T2 (by decide)
    clear HR5 K8 K2 T4
    go_enter Tryd.func46, Tryd.ntmps46
    go_wp2_with fail
    refine T2.out.mono ?_
    rintro e w1 ⟨rfl, hI1, hB1, hK1⟩
    have HM1 := Aside0.mk (mbox_kept HM.out hK1 HNE.out)
    have hc : w1.cell? ⟨g1, 9, none⟩ = some (.string m.key) := HM1.out.c 9
    have hfr : w1.frozen? ⟨g1, 9, none⟩ = false := blk_frozen HM1.out.row 9
    have HI1 := Aside0.mk hI1
    have HB1 := Aside0.mk hB1
    have HK1 := Aside0.mk (Kept2.of_but (a := g1) hK1)
    clear hI1 hB1 hK1 T2
    go_wp2
    go_end0
    refine ⟨rfl, ?_, ?_, HB1.out.setCell HM0.out _, HK1.out.set _ _⟩
    · rw [HR6.out]; exact mbox_text HM1.out 5 (by decide) _
    · rw [HR6.out]; exact HI1.out.far (fun e => HNE.out e.symm) _
  · replace HR6 := HR6 (by decide)
    replace T4 := T4 (by decide)
    clear HR5 K8 K2 T2
    go_enter Tryd.func46, Tryd.ntmps46
    go_wp2_with fail
    refine T4.out.mono ?_
    rintro e w1 ⟨rfl, hI1, hB1, hK1⟩
    have HM1 := Aside0.mk (mbox_kept HM.out hK1 HNE.out)
    have hc : w1.cell? ⟨g1, 10, none⟩ = some (.string m.value) := HM1.out.c 10
    have hfr : w1.frozen? ⟨g1, 10, none⟩ = false := blk_frozen HM1.out.row 10
    have HI1 := Aside0.mk hI1
    have HB1 := Aside0.mk hB1
    have HK1 := Aside0.mk (Kept2.of_but (a := g1) hK1)
    clear hI1 hB1 hK1 T4
    go_wp2
    go_end0
    refine ⟨rfl, ?_, ?_, HB1.out.setCell HM0.out _, HK1.out.set _ _⟩
    · rw [HR6.out]; exact mbox_text HM1.out 6 (by decide) _
    · rw [HR6.out]; exact HI1.out.far (fun e => HNE.out e.symm) _
def sizeL (L : List Int) : Int := if 4383 < val ((L.drop 16).take 4) then -1 else 24 + val ((L.drop 16).take 4)
theorem numC_full {w : Nat} {most : Int} {c : Cur} (h : c.rest.length = w) (hs : c.short = false) : (numC w most c).1 = (if most < val c.rest then 0 else val c.rest) ∧ (numC w most c).2.short = decide (most < val c.rest) := by
  unfold numC
  rw [if_neg (by omega), List.take_of_length_le (by omega)]
  by_cases h1 : most < val c.rest
  · simp [h1]
  · simp [h1, hs]
set_option maxRecDepth 100000 in
set_option maxHeartbeats 4000000 in
theorem size_any (s : ByteArray) (w : World) (hs : 20 ≤ s.size) (hmx : s.size ≤ 9223372036854775807) : Calls Tryd.prog 44 #[.string s] w fun e w' => e = .returned (.int .i64 (sizeL (bytesOf s))) ∧ Below w.heap.size w w' := by
  have hbs := byt_bytesOf s
  have hL : ((bytesOf s).drop 16).take 4 = ((bytesOf s).drop 16).take (20 - 16) := rfl
  have hx := extract_mid s 16 20 (by decide) hs
  have hby : Byt (((bytesOf s).drop 16).take (20 - 16)) := byt_take (byt_drop hbs _) _
  have hlen : (((bytesOf s).drop 16).take (20 - 16)).length = 4 := by rw [List.length_take, List.length_drop, bytesOf_length]; omega
  obtain ⟨hn1, hn2⟩ := numC_full (w := 4) (most := 4383) (c := ⟨((bytesOf s).drop 16).take (20 - 16), false⟩) hlen rfl
  have hv0 := val_nonneg _ hby
  have hSZ : sizeL (bytesOf s) = if 4383 < val (((bytesOf s).drop 16).take (20 - 16)) then -1 else 24 + val (((bytesOf s).drop 16).take (20 - 16)) := rfl
  have hsl := fun wx => run_slice_string (P := Tryd.prog) (w := wx) 9 s .i64 .i64 16 20 Tryd.underlying9 (by decide) (by decide) (by omega)
  have e16 : (16 : Int).toNat = 16 := rfl
  have e20 : (20 : Int).toNat = 20 := rfl
  rw [e16, e20, hx] at hsl
  generalize ((bytesOf s).drop 16).take (20 - 16) = l at hn1 hn2 hSZ hsl hby hv0
  have HI : CBox w (w.alloc (.cells #[.string (strOfNums l), .bool false] 95)) w.heap.size ⟨l, false⟩ := IsS95.new w w (strOfNums l) false (Below.refl _ _)
  have hB := (Below.refl w.heap.size w).alloc (Nat.le_refl _) (.cells #[.string (strOfNums l), .bool false] 95)
  have K := Lib.hid (number_any w.heap.size ⟨l, false⟩ 4 4383 w _ HI hB hby (by decide) (by decide) (by decide))
  generalize numC 4 4383 ⟨l, false⟩ = r at hn1 hn2 K
  obtain ⟨n, c⟩ := r
  simp only at hn1 hn2
  have HN1 := Lib.hid hn1
  have HN2 := Lib.hid hn2
  have HSZ := Lib.hid hSZ
  have HV := Aside0.mk hv0
  clear hn1 hn2 hSZ HI hB hx hL hlen hby hbs hv0 e16 e20
  go_enter Tryd.func44, Tryd.ntmps44
  go_wp2_with fail
  refine K.out.mono ?_
  rintro e w1 ⟨rfl, hI1, hB1, hK1⟩
  have hc : w1.cell? ⟨w.heap.size, 1, none⟩ = some (.bool c.short) := cellS95_1 hI1.1
  have HB1 := Aside0.mk hB1
  clear hI1 hB1 hK1 K
  by_cases hbig : 4383 < val l
  · have h2 : c.short = true := by rw [HN2.out]; exact decide_eq_true hbig
    rw [h2] at hc
    have HBIG := Aside0.mk hbig
    clear hbig h2
    go_wp2
    go_ret
    exact ⟨by rw [HSZ.out, if_pos HBIG.out]; rfl, HB1.out⟩
  · have h2 : c.short = false := by rw [HN2.out]; exact decide_eq_false hbig
    rw [h2] at hc
    rw [if_neg hbig] at HN1
    have HN0 := HN1.out
    have hn0 : 0 ≤ n := by rw [HN0]; exact HV.out
    have hn4 : n ≤ 4383 := by rw [HN0]; omega
    have HBIG := Aside0.mk hbig
    clear hbig h2 HN0
    go_wp2
    go_ret
    exact ⟨by rw [HSZ.out, if_neg (by have := HBIG.out; omega), HN1.out]; rfl, HB1.out⟩
end Go.Proofs.YtnifgokjagahfaaDoor.Num

/- Whole structs in memory: stored, loaded, answered. -/
set_option linter.unusedVariables false
set_option linter.unusedSimpArgs false
namespace Go.Proofs.YtnifgokjagahfaaDoor.Mids
open Go.RowKit Go.Proofs.YtnifgokjagahfaaDoorW.PrintWords Go.Proofs.YtnifgokjagahfaaDoorW.PrintLast Go.Proofs.YtnifgokjagahfaaDoorW.PrintMore
open Go.Proofs.YtnifgokjagahfaaDoor.Base
theorem below_setCells {B : Nat} {w W : World} (h : Below B w W) {b : Nat} (hb : B ≤ b) : ∀ (vs : List Value) (o : Nat), Below B w (W.setCells b o vs)
  | vs, o => by
    induction vs generalizing W o with
    | nil => exact h
    | cons v r ih => exact ih (h.setCell hb v) _
theorem setCells_all {g : Nat} {t : TypeId} : ∀ (vs : List Value) (w : World) (pre old : List Value), old.length = vs.length → w.heap[g]? = some (.cells (pre ++ old).toArray t (0, 0)) → (w.setCells g pre.length vs).heap[g]? = some (.cells (pre ++ vs).toArray t (0, 0))
  | [], w, pre, old, hl, h => by
    have : old = [] := List.eq_nil_of_length_eq_zero (by simpa using hl)
    subst this
    exact h
  | v :: r, w, pre, [], hl, h => by simp at hl
  | v :: r, w, pre, o :: old, hl, h => by
    have e : (w.setCell ⟨g, pre.length, none⟩ v).heap[g]? = some (.cells ((pre ++ [v]) ++ old).toArray t (0, 0)) := by
      refine (blk_set h _ _).trans ?_
      congr 2
      apply Array.ext'
      simp
    have ih := setCells_all r (w.setCell ⟨g, pre.length, none⟩ v) (pre ++ [v]) old (by simpa using hl) e
    have e2 : (pre ++ [v]).length = pre.length + 1 := by simp
    rw [e2] at ih
    show ((w.setCell ⟨g, pre.length, none⟩ v).setCells g (pre.length + 1) r).heap[g]? = _
    rw [ih]
    simp
theorem setCells_whole {w : World} {g : Nat} {t : TypeId} {old vs : List Value} (h : w.heap[g]? = some (.cells old.toArray t (0, 0))) (hl : old.length = vs.length) : (w.setCells g 0 vs).heap[g]? = some (.cells vs.toArray t (0, 0)) := by
  have := setCells_all vs w [] old hl (by simpa using h)
  simpa using this
theorem setCells_size (g : Nat) : ∀ (vs : List Value) (o : Nat) (w : World), (w.setCells g o vs).heap.size = w.heap.size
  | [], _, _ => rfl
  | v :: r, o, w => by
    show ((w.setCell ⟨g, o, none⟩ v).setCells g (o + 1) r).heap.size = _
    rw [setCells_size g r]; simp
theorem setCells_other (g : Nat) {i : Nat} (hi : i ≠ g) : ∀ (vs : List Value) (o : Nat) (w : World), (w.setCells g o vs).heap[i]? = w.heap[i]?
  | [], _, _ => rfl
  | v :: r, o, w => by
    show ((w.setCell ⟨g, o, none⟩ v).setCells g (o + 1) r).heap[i]? = _
    rw [setCells_other g hi r]
    exact Below.heap_setCell w ⟨g, o, none⟩ v i hi
theorem blk_range {w : World} {g : Nat} {t : TypeId} {cs : List Value} (h : w.heap[g]? = some (.cells cs.toArray t (0, 0))) : w.rangeAt g 0 cs := fun j v hv => by
  rw [Nat.zero_add, blk_cell h j, List.getElem?_toArray]; exact hv
theorem blk_there {w : World} {g : Nat} {t : TypeId} {cs : List Value} (h : w.heap[g]? = some (.cells cs.toArray t (0, 0))) : w.there g 0 cs.length := fun j hj => by
  rw [Nat.zero_add, blk_cell h j, List.getElem?_toArray, List.getElem?_eq_getElem hj]
  exact ⟨rfl, blk_frozen h j⟩
theorem results_ct_mid {P : Program} {fn : Func} {p u : Tmp} {ty : TypeId} (h : fn.results = #[.cell p ty, .tmp u]) (tmps : Array Value) (w : World) (g o : Nat) (cs : List Value) (d : TypeDesc)
    (hp : tmps.getD p undef = .pointer (some ⟨g, o, none⟩)) (hg : w.rangeAt g o cs) (hu : P.underlying ty = some d) (hd : d.isRow = true) (hi : (P.info? ty).map (·.size) = some cs.length) :
    (results fn tmps).run P w = .ok (.tuple #[.agg cs.toArray, tmps.getD u undef]) w := by
  have hp' : tmps[p]?.getD undef = .pointer (some ⟨g, o, none⟩) := by simpa using hp
  simp [results, h, hp', asAddr, run_loadVar_mid w g o ty cs d hg hu hd hi]
theorem results_c_mid {P : Program} {fn : Func} {p : Tmp} {ty : TypeId} (h : fn.results = #[.cell p ty]) (tmps : Array Value) (w : World) (g o : Nat) (cs : List Value) (d : TypeDesc)
    (hp : tmps.getD p undef = .pointer (some ⟨g, o, none⟩)) (hg : w.rangeAt g o cs) (hu : P.underlying ty = some d) (hd : d.isRow = true) (hi : (P.info? ty).map (·.size) = some cs.length) :
    (results fn tmps).run P w = .ok (.agg cs.toArray) w := by
  have hp' : tmps[p]?.getD undef = .pointer (some ⟨g, o, none⟩) := by simpa using hp
  simp [results, h, hp', asAddr, run_loadVar_mid w g o ty cs d hg hu hd hi]
end Go.Proofs.YtnifgokjagahfaaDoor.Mids

/- The document's read. -/
set_option linter.unusedVariables false
set_option linter.unusedSimpArgs false
namespace Go.Proofs.YtnifgokjagahfaaDoor.RefDec
open Go.RowKit Go.Proofs.YtnifgokjagahfaaDoorW.PrintWords Go.Proofs.YtnifgokjagahfaaDoorW.PrintLast Go.Proofs.YtnifgokjagahfaaDoorW.PrintMore
open Go.Proofs.YtnifgokjagahfaaDoor.Base Go.Proofs.YtnifgokjagahfaaDoor.Layouts Go.Proofs.YtnifgokjagahfaaDoor.Msg Go.Proofs.YtnifgokjagahfaaDoor.Put Go.Proofs.YtnifgokjagahfaaDoor.EncPure Go.Proofs.YtnifgokjagahfaaDoor.DecPure Go.Proofs.YtnifgokjagahfaaDoor.Enc Go.Proofs.YtnifgokjagahfaaDoor.Num Go.Proofs.YtnifgokjagahfaaDoor.PFrameDecodes Go.Proofs.YtnifgokjagahfaaDoor.RefF Go.Proofs.YtnifgokjagahfaaDoor.Mids
theorem rnumber_any (s : ByteArray) (at_ wd : Nat) (w : World) (hw : wd ≤ 8) (h : at_ + wd ≤ s.size) (hsz : s.size ≤ 9223372036854775807) : Calls Tryd.prog 47 #[.string s, .int .i64 (at_ : Nat), .int .i64 (wd : Nat)] w fun e w' => e = .returned (.int .i64 (numR (bytesOf s) at_ wd)) ∧ Drawn0 w w' :=
  granaryref5_number.calls 9 s at_ wd _ w (rnumber_f s at_ wd hw h hsz)
theorem rlong_any (s : ByteArray) (at_ wd : Nat) (w : World) (hw : wd ≤ 8) (hat : at_ ≤ 1099511627776) (hsz : s.size ≤ 9223372036854775807) : Calls Tryd.prog 73 #[.string s, .int .i64 (at_ : Nat), .int .i64 (wd : Nat)] w fun e w' => e = .returned (.int .i64 (longR (bytesOf s) at_ wd)) ∧ Drawn0 w w' :=
  granaryref5_long.calls 9 s at_ wd _ w (rlong_f s at_ wd hw hat hsz)
theorem piece_eq (s : ByteArray) (a b n : Nat) (h1 : a ≤ b) (h2 : b ≤ s.size) (h : b - a = min n (s.size - a)) : s.extract a b = strOfNums (pieceR (bytesOf s) a n) := by
  rw [extract_mid s a b h1 h2, h]
  unfold pieceR
  congr 1
  have hl : ((bytesOf s).drop a).length = s.size - a := by rw [List.length_drop, bytesOf_length]
  by_cases c : n ≤ s.size - a
  · rw [Nat.min_eq_left c]
  · rw [Nat.min_eq_right (by omega), List.take_of_length_le (by omega), List.take_of_length_le (by omega)]
set_option maxRecDepth 100000 in
set_option maxHeartbeats 4000000 in
theorem piece_any (s : ByteArray) (at_ n : Nat) (w : World) (hat : at_ ≤ 1099511627776) (hn : n ≤ 1099511627776) (hsz : s.size ≤ 9223372036854775807) : Calls Tryd.prog 74 #[.string s, .int .i64 (at_ : Nat), .int .i64 (n : Nat)] w fun e w' => e = .returned (.string (strOfNums (pieceR (bytesOf s) at_ n))) ∧ Drawn0 w w' := by
  have HD := Drawn0.refl w
  have HE := fun a b h1 h2 h => piece_eq s a b n h1 h2 h
  by_cases c1 : at_ > s.size
  · have hp : strOfNums (pieceR (bytesOf s) at_ n) = ByteArray.empty := by
      unfold pieceR
      rw [List.drop_of_length_le (by rw [bytesOf_length]; omega), List.take_nil]
      rfl
    have c1' : (at_ : Int) > (s.size : Int) := by omega
    have HP := Lib.hid hp
    clear hp HE c1
    by_cases c2 : n > 0
    · have c2' : (n : Int) > 0 := by omega
      go_enter Tryd.func74, Tryd.ntmps74
      go_wp2
      go_ret
      exact ⟨by rw [HP.out]; rfl, HD⟩
    · obtain rfl : n = 0 := by omega
      go_enter Tryd.func74, Tryd.ntmps74
      go_wp2
      go_ret
      exact ⟨by rw [HP.out]; rfl, HD⟩
  · have c1' : ¬ (at_ : Int) > (s.size : Int) := by omega
    have b1 : (at_ : Int) ≤ (s.size : Int) := by omega
    by_cases c2 : n > s.size - at_
    · have c2' : (n : Int) > (s.size : Int) - (at_ : Int) := by omega
      have HP := Lib.hid (piece_eq s at_ s.size n (by omega) (Nat.le_refl _) (by omega))
      have b2 : (at_ : Int) + ((s.size : Int) - (at_ : Int)) = (s.size : Int) := by omega
      clear HE c1 c2
      go_enter Tryd.func74, Tryd.ntmps74
      go_wp2
      go_ret
      exact ⟨by rw [← HP.out]; rfl, HD⟩
    · have c2' : ¬ (n : Int) > (s.size : Int) - (at_ : Int) := by omega
      have HP := Lib.hid (piece_eq s at_ (at_ + n) n (by omega) (by omega) (by omega))
      have b3 : (at_ : Int) + (n : Int) ≤ (s.size : Int) := by omega
      clear HE c1 c2
      go_enter Tryd.func74, Tryd.ntmps74
      go_wp2
      go_ret
      exact ⟨by rw [← HP.out]; rfl, HD⟩
end Go.Proofs.YtnifgokjagahfaaDoor.RefDec

/- Decode of the frame package. -/
set_option linter.unusedVariables false
set_option linter.unusedSimpArgs false
namespace Go.Proofs.YtnifgokjagahfaaDoor.Dec
open Go.RowKit Go.Proofs.YtnifgokjagahfaaDoorW.PrintWords Go.Proofs.YtnifgokjagahfaaDoorW.PrintLast Go.Proofs.YtnifgokjagahfaaDoorW.PrintMore
open Go.Proofs.YtnifgokjagahfaaDoor.Base Go.Proofs.YtnifgokjagahfaaDoor.Layouts Go.Proofs.YtnifgokjagahfaaDoor.Msg Go.Proofs.YtnifgokjagahfaaDoor.Put Go.Proofs.YtnifgokjagahfaaDoor.EncPure Go.Proofs.YtnifgokjagahfaaDoor.DecPure Go.Proofs.YtnifgokjagahfaaDoor.Num Go.Proofs.YtnifgokjagahfaaDoor.Mids
/-- what a call leaves that answers an error -/
def ErrW (k : Int) (w : World) (e : Ending) (w' : World) : Prop := e = .returned (.tuple #[.agg (mL zeroM).toArray, .int .i64 k]) ∧ Below w.heap.size w w'
theorem infoM : (Tryd.prog.info? 24).map (·.size) = some 11 := by kernel_rfl
theorem mL_length (m : M) : (mL m).length = 11 := rfl
theorem mL_one (m : M) : (mL m).toArray.all (·.oneCell') = true := all_oneCell_toArray (by simp [mL, Value.oneCell'])
/-- the message box that answers -/
theorem err_ret {W : World} {w : World} {m : M} {tmps : Array Value} {k : Int} (hp : tmps.getD 2 undef = .pointer (some ⟨w.heap.size, 0, none⟩)) (hk : tmps.getD 3 undef = .int .i64 k) (h : MBox W w.heap.size m) (hB : Below w.heap.size w W) {d : List _} (hd : d = []) :
    bodyPost Tryd.prog Tryd.f16 (fun e w' => e = .returned (.tuple #[.agg (mL m).toArray, .int .i64 k]) ∧ Below w.heap.size w w') Exit.ret ⟨tmps, d⟩ W := by
  subst hd
  refine bodyPost_ret (v := .tuple #[.agg (mL m).toArray, .int .i64 k]) ?_ rfl ⟨rfl, hB⟩
  rw [← hk]
  exact results_ct_mid rfl tmps W w.heap.size 0 (mL m) _ hp (blk_range h.row) Tryd.underlying24 rfl infoM
set_option maxRecDepth 100000 in
set_option maxHeartbeats 4000000 in
theorem dec_short (s : ByteArray) (w : World) (h : s.size < 24) : Calls Tryd.prog 16 #[.string s] w (ErrW 51 w) := by
  have h' : (s.size : Int) < 24 := by omega
  have HB := Aside0.mk ((Below.refl w.heap.size w).alloc (Nat.le_refl _) (.cells (mL zeroM).toArray 24))
  have HM : Aside0 (MBox (w.alloc (.cells (mL zeroM).toArray 24)) w.heap.size zeroM) := ⟨⟨Go.heap_alloc_new w _, by simp⟩⟩
  clear h
  go_enter Tryd.func16, Tryd.ntmps16
  go_wp2
  exact err_ret (k := 51) (m := zeroM) rfl rfl HM.out HB.out rfl
theorem str_eq (l : List Int) (h : Byt l) (k : List UInt8) : ((strOfNums l).toList == k) = decide (l = k.map fun b => (b.toNat : Int)) := by
  have e : (strOfNums l).toList = l.map fun n => UInt8.ofNat n.toNat := by rw [ByteArray.toList_eq]; exact strOfNums_data l
  have hb := bytesOf_strOfNums l h
  rw [e, Bool.eq_iff_iff, beq_iff_eq, decide_eq_true_iff]
  constructor
  · intro hk
    rw [← hb]
    unfold bytesOf
    rw [strOfNums_data, hk]
  · intro hk
    subst hk
    rw [List.map_map]
    conv => rhs; rw [← List.map_id k]
    apply List.map_congr_left
    intro b _
    simp
theorem kindL_byte (s : ByteArray) (h : 3 < s.size) : kindL (bytesOf s) = ((s[3]'h).toNat : Int) := by
  unfold kindL
  have hl : 3 < (bytesOf s).length := by rw [bytesOf_length]; exact h
  rw [List.getD_eq_getElem?_getD, List.getElem?_eq_getElem hl]
  simp [bytesOf]
  rfl
set_option maxRecDepth 100000 in
set_option maxHeartbeats 4000000 in
theorem dec_magic (s : ByteArray) (w : World) (h : 24 ≤ s.size) (hm : (bytesOf s).take 3 ≠ [71, 82, 1]) : Calls Tryd.prog 16 #[.string s] w (ErrW 52 w) := by
  have h' : ¬ (s.size : Int) < 24 := by omega
  have h3 : (3 : Int) ≤ (s.size : Int) := by omega
  have hx := extract_head s 3 (by omega)
  have hq := str_eq ((bytesOf s).take 3) (byt_take (byt_bytesOf s) 3) [71, 82, 1]
  rw [decide_eq_false (by exact hm)] at hq
  have HB := Aside0.mk ((Below.refl w.heap.size w).alloc (Nat.le_refl _) (.cells (mL zeroM).toArray 24))
  have HM : Aside0 (MBox (w.alloc (.cells (mL zeroM).toArray 24)) w.heap.size zeroM) := ⟨⟨Go.heap_alloc_new w _, by simp⟩⟩
  clear h hm
  go_enter Tryd.func16, Tryd.ntmps16
  go_wp2
  exact err_ret (k := 52) (m := zeroM) rfl rfl HM.out HB.out rfl
set_option maxRecDepth 100000 in
set_option maxHeartbeats 4000000 in
theorem dec_kind (s : ByteArray) (w : World) (h : 24 ≤ s.size) (hm : (bytesOf s).take 3 = [71, 82, 1]) (hk : ¬ (1 ≤ kindL (bytesOf s) ∧ kindL (bytesOf s) < 17)) : Calls Tryd.prog 16 #[.string s] w (ErrW 53 w) := by
  have h' : ¬ (s.size : Int) < 24 := by omega
  have h3 : (3 : Int) ≤ (s.size : Int) := by omega
  have h4 : (3 : Int) < (s.size : Int) := by omega
  have hx := extract_head s 3 (by omega)
  have hq := str_eq ((bytesOf s).take 3) (byt_take (byt_bytesOf s) 3) [71, 82, 1]
  rw [decide_eq_true (by exact hm)] at hq
  have hN3 : 3 < s.size := by omega
  rw [kindL_byte s hN3] at hk
  obtain ⟨kk, hkk⟩ : ∃ kk : Nat, (s[3]'hN3).toNat = kk := ⟨_, rfl⟩
  have hk2 : kk ≤ 255 := by have := (s[3]'hN3).toNat_lt; omega
  rw [hkk] at hk
  have HB := Aside0.mk ((Below.refl w.heap.size w).alloc (Nat.le_refl _) (.cells (mL zeroM).toArray 24))
  have HM : Aside0 (MBox (w.alloc (.cells (mL zeroM).toArray 24)) w.heap.size zeroM) := ⟨⟨Go.heap_alloc_new w _, by simp⟩⟩
  have KN := fun w => Lib.hid (known_no (kk : Int) w hk)
  clear h hm hk
  go_enter Tryd.func16, Tryd.ntmps16
  go_wp2_with fail
  refine (KN _).out.mono ?_
  rintro e w1 ⟨rfl, hb⟩
  have HM1 := Aside0.mk (HM.out.below hb (by simp))
  have HB1 := Aside0.mk (HB.out.trans (hb.mono HB.out.size))
  have hth := blk_there HM1.out.row
  clear hb HM HB
  go_wp2_with ((with_reducible refine gate_store (ty := 24) (x := .tmp 2) (y := .tmp 27) rfl ?_); refine wpList_store_mid rfl 24 (.tmp 2) (.tmp 27) rfl w.heap.size 0 (mL zeroM).toArray rfl rfl hth infoM (mL_one zeroM) ?_)
  exact err_ret (k := 53) (m := zeroM) rfl rfl ⟨setCells_whole HM1.out.row rfl, by rw [setCells_size]; exact HM1.out.lt⟩ (below_setCells HB1.out (Nat.le_refl _) _ _) rfl
theorem str_eq2 (a b : List Int) (ha : Byt a) (hb : Byt b) : ((strOfNums a).toList == (strOfNums b).toList) = decide (a = b) := by
  rw [str_eq a ha, ByteArray.toList_eq]
  have e : ((strOfNums b).data.toList.map fun b => (b.toNat : Int)) = b := bytesOf_strOfNums b hb
  rw [e]
/-- what stands at the third byte, told -/
theorem kind_yes (s : ByteArray) (h : 24 ≤ s.size) (hk : 1 ≤ kindL (bytesOf s) ∧ kindL (bytesOf s) < 17) : ∃ kk : Nat, (s[3]'(by omega)).toNat = kk ∧ kindL (bytesOf s) = (kk : Int) ∧ 1 ≤ (kk : Int) ∧ (kk : Int) < 17 := by
  have e := kindL_byte s (by omega)
  exact ⟨_, rfl, e, by rw [← e]; exact hk.1, by rw [← e]; exact hk.2⟩
set_option maxRecDepth 100000 in
set_option maxHeartbeats 4000000 in
theorem dec_length (s : ByteArray) (w : World) (h : 24 ≤ s.size) (hmx : s.size ≤ 9223372036854775807) (hm : (bytesOf s).take 3 = [71, 82, 1]) (hk : 1 ≤ kindL (bytesOf s) ∧ kindL (bytesOf s) < 17) (hz : sizeL (bytesOf s) < 0 ∨ sizeL (bytesOf s) ≠ s.size) : Calls Tryd.prog 16 #[.string s] w (ErrW 54 w) := by
  have h' : ¬ (s.size : Int) < 24 := by omega
  have h3 : (3 : Int) ≤ (s.size : Int) := by omega
  have h4 : (3 : Int) < (s.size : Int) := by omega
  have hN3 : 3 < s.size := by omega
  have hx := extract_head s 3 (by omega)
  have hq := str_eq ((bytesOf s).take 3) (byt_take (byt_bytesOf s) 3) [71, 82, 1]
  rw [decide_eq_true (by exact hm)] at hq
  obtain ⟨kk, hkk, hke, hk1, hk2⟩ := kind_yes s h hk
  have HB := Aside0.mk ((Below.refl w.heap.size w).alloc (Nat.le_refl _) (.cells (mL zeroM).toArray 24))
  have HM : Aside0 (MBox (w.alloc (.cells (mL zeroM).toArray 24)) w.heap.size zeroM) := ⟨⟨Go.heap_alloc_new w _, by simp⟩⟩
  have KN := fun w => Lib.hid (known_yes (kk : Int) w ⟨hk1, hk2⟩)
  have KS := fun w => size_any s w (by omega) hmx
  generalize sizeL (bytesOf s) = n at KS hz
  have KS' := fun w => Lib.hid (KS w)
  clear hm hk hke KS
  have hz' : n < 0 ∨ (¬ n < 0 ∧ (n != (s.size : Int)) = true) := by
    by_cases hn : n < 0
    · exact .inl hn
    · exact .inr ⟨hn, bne_iff_ne.2 (by omega)⟩
  clear hz
  rcases hz' with hn | ⟨hn, hne⟩
  all_goals
    go_enter Tryd.func16, Tryd.ntmps16
    go_wp2_with fail
    refine (KN _).out.mono ?_
    rintro e w1 ⟨rfl, hb⟩
    have HM1 := Aside0.mk (HM.out.below hb (by simp))
    have HB1 := Aside0.mk (HB.out.trans (hb.mono HB.out.size))
    clear hb
    go_wp2_with fail
    refine (KS' _).out.mono ?_
    rintro e w2 ⟨rfl, hb⟩
    have HM2 := Aside0.mk (HM1.out.below hb HM1.out.lt)
    have HB2 := Aside0.mk (HB1.out.trans (hb.mono HB1.out.size))
    clear hb
    have hth := blk_there HM2.out.row
    go_wp2_with ((with_reducible refine gate_store (ty := 24) (x := .tmp 2) (y := .tmp 38) rfl ?_); refine wpList_store_mid rfl 24 (.tmp 2) (.tmp 38) rfl w.heap.size 0 (mL zeroM).toArray rfl rfl hth infoM (mL_one zeroM) ?_)
    exact err_ret (k := 54) (m := zeroM) rfl rfl ⟨setCells_whole HM2.out.row rfl, by rw [setCells_size]; exact HM2.out.lt⟩ (below_setCells HB2.out (Nat.le_refl _) _ _) rfl
set_option maxRecDepth 100000 in
set_option maxHeartbeats 4000000 in
theorem dec_sum (s : ByteArray) (w : World) (h : 24 ≤ s.size) (hmx : s.size ≤ 9223372036854775807) (hm : (bytesOf s).take 3 = [71, 82, 1]) (hk : 1 ≤ kindL (bytesOf s) ∧ kindL (bytesOf s) < 17) (hz : sizeL (bytesOf s) = s.size) (hN : Crc.Nibs w)
    (hs : sumL ((bytesOf s).take (s.size - 4)) ≠ (bytesOf s).drop (s.size - 4)) : Calls Tryd.prog 16 #[.string s] w (ErrW 55 w) := by
  have h' : ¬ (s.size : Int) < 24 := by omega
  have hz0 := hz
  have h3 : (3 : Int) ≤ (s.size : Int) := by omega
  have h4 : (3 : Int) < (s.size : Int) := by omega
  have hN3 : 3 < s.size := by omega
  have hx := extract_head s 3 (by omega)
  have hq := str_eq ((bytesOf s).take 3) (byt_take (byt_bytesOf s) 3) [71, 82, 1]
  rw [decide_eq_true (by exact hm)] at hq
  obtain ⟨kk, hkk, hke, hk1, hk2⟩ := kind_yes s h hk
  have HB := Aside0.mk ((Below.refl w.heap.size w).alloc (Nat.le_refl _) (.cells (mL zeroM).toArray 24))
  have HM : Aside0 (MBox (w.alloc (.cells (mL zeroM).toArray 24)) w.heap.size zeroM) := ⟨⟨Go.heap_alloc_new w _, by simp⟩⟩
  have HN := Aside0.mk hN
  have KN := fun w => Lib.hid (known_yes (kk : Int) w ⟨hk1, hk2⟩)
  have KS := fun w => size_any s w (by omega) hmx
  rw [hz] at KS
  have KS' := fun w => Lib.hid (KS w)
  have hby := byt_bytesOf s
  have hq2 := str_eq2 (sumL ((bytesOf s).take (s.size - 4))) ((bytesOf s).drop (s.size - 4)) (byt_sumL _) (byt_drop hby _)
  rw [decide_eq_false (by exact hs)] at hq2
  have hS : sumS (strOfNums ((bytesOf s).take (s.size - 4))) = strOfNums (sumL ((bytesOf s).take (s.size - 4))) := by rw [sumS_eq, bytesOf_strOfNums _ (byt_take hby _)]
  have hsm : s.size ≤ 4407 := by
    have hz' := hz0
    unfold sizeL at hz'
    split at hz' <;> omega
  have KU := fun (w : World) (hN : Crc.Nibs w) => sum_any (strOfNums ((bytesOf s).take (s.size - 4))) w (by rw [strOfNums_size, List.length_take]; omega) hN
  rw [hS] at KU
  have hx1 := extract_head s (s.size - 4) (by omega)
  have hx2 := extract_tail s (s.size - 4) (by omega)
  generalize strOfNums ((bytesOf s).take (s.size - 4)) = S1 at KU hx1
  generalize strOfNums (sumL ((bytesOf s).take (s.size - 4))) = S2 at KU hq2
  generalize strOfNums ((bytesOf s).drop (s.size - 4)) = S3 at hx2 hq2
  have hw4 : (0 : Int) ≤ (s.size : Int) - 4 ∧ (s.size : Int) - 4 ≤ s.size ∧ ((s.size : Int) - 4).toNat = s.size - 4 := by omega
  obtain ⟨hw1, hw2, hw3⟩ := hw4
  have hs1 := fun wx => run_slice_string_h (P := Tryd.prog) wx 9 s Tryd.underlying9 .i64 ((s.size : Int) - 4) hw1 hw2
  have hs2 := fun wx => run_slice_string_l (P := Tryd.prog) wx 9 s Tryd.underlying9 .i64 ((s.size : Int) - 4) hw1 hw2
  rw [hw3, hx1] at hs1
  rw [hw3, hx2] at hs2
  have KU' := fun w h => Lib.hid (KU w h)
  clear hm hk hke KS hN hS hby hs hz hz0 hsm KU hx1 hx2 hw3
  go_enter Tryd.func16, Tryd.ntmps16
  go_wp2_with fail
  refine (KN _).out.mono ?_
  rintro e w1 ⟨rfl, hb⟩
  have HM1 := Aside0.mk (HM.out.below hb (by simp))
  have HB1 := Aside0.mk (HB.out.trans (hb.mono HB.out.size))
  clear hb HM HB
  go_wp2_with fail
  refine (KS' _).out.mono ?_
  rintro e w2 ⟨rfl, hb⟩
  have HM2 := Aside0.mk (HM1.out.below hb HM1.out.lt)
  have HB2 := Aside0.mk (HB1.out.trans (hb.mono HB1.out.size))
  have HN2 := Aside0.mk (HN.out.below HB2.out)
  clear hb HM1 HB1
  go_wp2_with fail
  go_region_with ((go_at_call 39; refine (KU' _ (by exact ⟨HN2.out.cell, HN2.out.lt⟩)).out.mono ?_; rintro e w3 ⟨rfl, hb⟩; have HB3 := Aside0.mk hb; clear hb))
  all_goals
    have hb3 : Below w2.heap.size w2 w3 := ⟨HB3.out.os, HB3.out.tape, HB3.out.output, HB3.out.size, HB3.out.block⟩
    have HM3 := Aside0.mk (HM2.out.below hb3 HM2.out.lt)
    have HB4 := Aside0.mk (HB2.out.trans (hb3.mono HB2.out.size))
    clear hb3 HB3 HM2 HB2 HN2 KU' KN KS'
    have hth := blk_there HM3.out.row
    go_wp2_with ((with_reducible refine gate_store (ty := 24) (x := .tmp 2) (y := .tmp 50) rfl ?_); refine wpList_store_mid rfl 24 (.tmp 2) (.tmp 50) rfl w.heap.size 0 (mL zeroM).toArray rfl rfl hth infoM (mL_one zeroM) ?_)
    exact err_ret (k := 55) (m := zeroM) rfl rfl ⟨setCells_whole HM3.out.row rfl, by rw [setCells_size]; exact HM3.out.lt⟩ (below_setCells ⟨HB4.out.os, HB4.out.tape, HB4.out.output, HB4.out.size, HB4.out.block⟩ (Nat.le_refl _) _ _) rfl
end Go.Proofs.YtnifgokjagahfaaDoor.Dec

/- A region that draws its order, walked without its order: each operation gives a value that stands in a relation to the world. -/
set_option linter.unusedVariables false
set_option linter.unusedSimpArgs false
namespace Go.Proofs.YtnifgokjagahfaaDoor.Reg
open Go.RowKit Go.Proofs.YtnifgokjagahfaaDoorW.PrintWords Go.Proofs.YtnifgokjagahfaaDoorW.PrintLast
def srcFrom : List Oper → Nat → Tmp → Option Nat
  | [], _, _ => none
  | o :: l, k, t => if o.dst = some t then some k else srcFrom l (k + 1) t
theorem srcFrom_spec : ∀ (l : List Oper) (k : Nat) (t : Tmp) (j : Nat), srcFrom l k t = some j → ∃ i o, j = k + i ∧ l[i]? = some o ∧ o.dst = some t
  | [], _, _, _, h => by cases h
  | o :: l, k, t, j, h => by
    unfold srcFrom at h
    split at h
    · cases h; exact ⟨0, o, rfl, rfl, by assumption⟩
    · obtain ⟨i, o', hj, hi, hd⟩ := srcFrom_spec l (k + 1) t j h
      exact ⟨i + 1, o', by omega, hi, hd⟩
def predB (o : Oper) (j : Nat) : Bool := o.after.toList.any fun e => Region.binds .any e && (e.on == j)
def okOne (L : List Oper) (N : Nat) (o : Oper) (i : Nat) : Bool :=
  o.guard.isNone && (match o.op with | .select .. => false | _ => true) && (match o.dst with | some d => decide (d < N) && (srcFrom L 0 d == some i) | none => true) &&
  o.op.operands.all (fun x => match x with
    | .tmp t => decide (t < N) && (match srcFrom L 0 t with | some j => predB o j || (match L[j]? with | some oj => predB oj i | none => false) | none => true)
    | _ => true) && o.after.all fun e => !Region.binds .any e || decide (e.on < i)
def okFrom (L : List Oper) (N : Nat) : List Oper → Nat → Bool
  | [], _ => true
  | o :: r, i => okOne L N o i && okFrom L N r (i + 1)
theorem okFrom_spec (L : List Oper) (N : Nat) : ∀ (r : List Oper) (k j : Nat) (o : Oper), okFrom L N r k = true → r[j]? = some o → okOne L N o (k + j) = true
  | [], _, _, _, _, h => by simp at h
  | o :: r, k, 0, o', h, hj => by
    simp only [okFrom, Bool.and_eq_true] at h
    simp at hj
    subst hj
    exact h.1
  | o :: r, k, j + 1, o', h, hj => by
    simp only [okFrom, Bool.and_eq_true] at h
    have := okFrom_spec L N r (k + 1) j o' h.2 (by simpa using hj)
    rw [show k + (j + 1) = k + 1 + j by omega]
    exact this
/-- an operation's operands, out of what those ahead of it gave -/
def envOf (L : List Oper) (a0 : Act) (vs : Nat → Value) (o : Oper) : Operand → Value
  | .tmp t => match srcFrom L 0 t with
    | some j => if predB o j = true then vs j else a0.tmps.getD t undef
    | none => a0.tmps.getD t undef
  | x => a0.eval x
def slotV (L : List Oper) (a0 : Act) (listed : Array Bool) (vs : Nat → Value) (t : Tmp) : Value :=
  match srcFrom L 0 t with
  | some j => if listed.getD j false = true then vs j else a0.tmps.getD t undef
  | none => a0.tmps.getD t undef
def Framed (L : List Oper) (a0 : Act) (listed : Array Bool) (vs : Nat → Value) (a : Act) : Prop :=
  a.defers = a0.defers ∧ a.tmps.size = a0.tmps.size ∧ ∀ t, t < a0.tmps.size → a.tmps[t]? = some (slotV L a0 listed vs t)
def Closed (L : List Oper) (listed : Array Bool) : Prop := ∀ i o j, L[i]? = some o → listed.getD i false = true → predB o j = true → listed.getD j false = true
def upd (vs : Nat → Value) (i : Nat) (v : Value) : Nat → Value := fun j => if j = i then v else vs j
theorem getD_set (listed : Array Bool) (i j : Nat) (hi : i < listed.size) : (listed.setIfInBounds i true).getD j false = if j = i then true else listed.getD j false := by
  simp only [Array.getD_eq_getD_getElem?, Array.getElem?_setIfInBounds]
  by_cases h : j = i
  · subst h; simp [hi]
  · rw [if_neg (fun e => h e.symm), if_neg h]
theorem framed_put {L : List Oper} {a0 a : Act} {listed : Array Bool} {vs : Nat → Value} {i : Nat} {o : Oper} (v : Value) (hok : okOne L a0.tmps.size o i = true) (hi : L[i]? = some o) (hil : i < listed.size) (hun : listed.getD i false = false)
    (h : Framed L a0 listed vs a) : Framed L a0 (listed.setIfInBounds i true) (upd vs i v) (a.put o.dst v) := by
  obtain ⟨hd, hs, hv⟩ := h
  unfold okOne at hok
  simp only [Bool.and_eq_true] at hok
  obtain ⟨⟨⟨⟨_, _⟩, hdst⟩, _⟩, _⟩ := hok
  refine ⟨?_, ?_, ?_⟩
  · cases o.dst <;> exact hd
  · cases o.dst with
    | none => exact hs
    | some d => simp only [Act.put, Array.size_setIfInBounds]; exact hs
  · intro t ht
    have hsl : ∀ (hne : srcFrom L 0 t ≠ some i), slotV L a0 (listed.setIfInBounds i true) (upd vs i v) t = slotV L a0 listed vs t := by
      intro hne
      unfold slotV
      cases hsrc : srcFrom L 0 t with
      | none => rfl
      | some j =>
        have hji : j ≠ i := fun e => hne (by rw [hsrc, e])
        simp only
        rw [getD_set _ _ _ hil, if_neg hji]
        unfold upd
        rw [if_neg hji]
    cases hod : o.dst with
    | none =>
      have hne : srcFrom L 0 t ≠ some i := by
        intro he
        obtain ⟨k, o', hk, hk2, hk3⟩ := srcFrom_spec _ _ _ _ he
        rw [Nat.zero_add] at hk
        subst hk
        rw [hi] at hk2
        cases hk2
        rw [hod] at hk3
        cases hk3
      rw [hsl hne]
      exact hv t ht
    | some d =>
      rw [hod] at hdst
      simp only [Bool.and_eq_true, decide_eq_true_eq, beq_iff_eq] at hdst
      simp only [Act.put, Array.getElem?_setIfInBounds]
      by_cases hdt : d = t
      · subst hdt
        rw [if_pos rfl, if_pos (by rw [hs]; exact ht)]
        unfold slotV
        rw [hdst.2]
        simp only
        rw [getD_set _ _ _ hil, if_pos rfl, if_pos rfl]
        unfold upd
        rw [if_pos rfl]
      · rw [if_neg hdt]
        have hne : srcFrom L 0 t ≠ some i := by
          intro he
          obtain ⟨k, o', hk, hk2, hk3⟩ := srcFrom_spec _ _ _ _ he
          rw [Nat.zero_add] at hk
          subst hk
          rw [hi] at hk2
          cases hk2
          rw [hod] at hk3
          cases hk3
          exact hdt rfl
        rw [hsl hne]
        exact hv t ht
/-- what the region leaves, in the text's order -/
def fillFrom : List Oper → Nat → Act → (Nat → Value) → Act
  | [], _, a, _ => a
  | o :: l, k, a, vs => fillFrom l (k + 1) (a.put o.dst (vs k)) vs
theorem upd_self (vs : Nat → Value) (i : Nat) : upd vs i (vs i) = vs := by
  funext j; unfold upd; split
  · subst_vars; rfl
  · rfl
def firstK (n k : Nat) : Array Bool := ((List.range n).map fun j => decide (j < k)).toArray
theorem firstK_size (n k : Nat) : (firstK n k).size = n := by simp [firstK]
theorem firstK_getD (n k j : Nat) : (firstK n k).getD j false = (decide (j < n) && decide (j < k)) := by
  unfold firstK
  simp only [Array.getD_eq_getD_getElem?, List.getElem?_toArray, List.getElem?_map]
  by_cases h : j < n
  · rw [List.getElem?_range h]; simp [h]
  · rw [List.getElem?_eq_none (by simpa using h)]; simp [h]
theorem framed_congr {L : List Oper} {a0 a : Act} {l1 l2 : Array Bool} {vs : Nat → Value} (h : Framed L a0 l1 vs a) (e : ∀ j, j < L.length → l1.getD j false = l2.getD j false) : Framed L a0 l2 vs a := by
  refine ⟨h.1, h.2.1, fun t ht => ?_⟩
  rw [h.2.2 t ht]
  unfold slotV
  cases hs : srcFrom L 0 t with
  | none => rfl
  | some j =>
    obtain ⟨k, o', hk, hk2, hk3⟩ := srcFrom_spec _ _ _ _ hs
    have : j < L.length := by rw [hk, Nat.zero_add]; exact (List.getElem?_eq_some_iff.1 hk2).1
    simp only
    rw [e j this]
theorem framed_fill {L : List Oper} {a0 : Act} (hok : okFrom L a0.tmps.size L 0 = true) (vs : Nat → Value) : ∀ (r pre : List Oper) (a : Act), L = pre ++ r → Framed L a0 (firstK L.length pre.length) vs a → Framed L a0 (firstK L.length L.length) vs (fillFrom r pre.length a vs)
  | [], pre, a, hL, h => by
    have : L.length = pre.length := by rw [hL]; simp
    rw [← this] at h
    exact h
  | o :: r, pre, a, hL, h => by
    have hi : L[pre.length]? = some o := by rw [hL]; simp
    have ho := okFrom_spec L _ L 0 pre.length o hok hi
    rw [Nat.zero_add] at ho
    have hlt : pre.length < L.length := (List.getElem?_eq_some_iff.1 hi).1
    have h2 := framed_put (vs pre.length) ho hi (by rw [firstK_size]; exact hlt) (by rw [firstK_getD]; simp) h
    rw [upd_self] at h2
    have h3 := framed_congr (l2 := firstK L.length (pre ++ [o]).length) h2 (fun j hj => by
      rw [getD_set _ _ _ (by rw [firstK_size]; exact hlt), firstK_getD, firstK_getD]
      by_cases e : j = pre.length
      · subst e; simp [hlt]
      · rw [if_neg e]
        congr 1
        rw [Bool.eq_iff_iff]
        simp only [decide_eq_true_iff, List.length_append, List.length_singleton]
        omega)
    have h4 := framed_fill hok vs r (pre ++ [o]) _ (by rw [hL]; simp) h3
    have e : (pre ++ [o]).length = pre.length + 1 := by simp
    rw [e] at h4
    exact h4
theorem framed_unique {L : List Oper} {a0 a b : Act} {listed : Array Bool} {vs : Nat → Value} (ha : Framed L a0 listed vs a) (hb : Framed L a0 listed vs b) : a = b := by
  obtain ⟨a1, a2, a3⟩ := ha
  obtain ⟨b1, b2, b3⟩ := hb
  cases a with | mk at_ ad =>
  cases b with | mk bt_ bd =>
  simp only at a1 a2 a3 b1 b2 b3
  have e : at_ = bt_ := by
    apply Array.ext_getElem?
    intro t
    by_cases ht : t < a0.tmps.size
    · rw [a3 t ht, b3 t ht]
    · rw [Array.getElem?_eq_none (by omega), Array.getElem?_eq_none (by omega)]
  subst e
  rw [a1, b1]
def cnt (f : Nat → Bool) : Nat → Nat
  | 0 => 0
  | n + 1 => cnt f n + (if f n = true then 1 else 0)
theorem cnt_congr {f g : Nat → Bool} : ∀ n, (∀ j, j < n → f j = g j) → cnt f n = cnt g n
  | 0, _ => rfl
  | n + 1, h => by
    simp only [cnt]
    rw [cnt_congr n (fun j hj => h j (by omega)), h n (by omega)]
theorem cnt_upd {f g : Nat → Bool} {i : Nat} (hf : f i = true) (hg : g i = false) (h : ∀ j, j ≠ i → f j = g j) : ∀ n, i < n → cnt g n + 1 = cnt f n
  | 0, hi => by omega
  | n + 1, hi => by
    simp only [cnt]
    by_cases e : i = n
    · subst e
      rw [cnt_congr i (fun j hj => h j (by omega)), hf, hg]
      simp
    · have := cnt_upd hf hg h n (by omega)
      rw [h n (fun e2 => e e2.symm)]
      omega
theorem cnt_zero {f : Nat → Bool} : ∀ n, cnt f n = 0 → ∀ j, j < n → f j = false
  | 0, _, j, hj => by omega
  | n + 1, h, j, hj => by
    simp only [cnt] at h
    by_cases e : j = n
    · subst e
      cases hf : f j
      · rfl
      · rw [hf] at h; simp at h
    · exact cnt_zero n (by omega) j (by omega)
/-- what an operation does: it yields a value, or calls -/
def OpRel (P : Program) (S : World → World → Prop) (ρ : Operand → Value) (o : Oper) (w : World) (K : Value → World → Prop) : Prop :=
  (∃ v w', (execOp ρ o).run P w = .ok (.value v) w' ∧ S w w' ∧ K v w') ∨
  (∃ w', (execOp ρ o).run P w = .ok .skip w' ∧ S w w' ∧ K undef w') ∨
  (∃ f args, (execOp ρ o).run P w = .ok (.enter f args) w ∧ Calls P f args w fun e w' => ∃ v, e = .returned v ∧ S w w' ∧ K v w')
section
variable {P : Program} {Q : Exit → Act → World → Prop}
theorem wpAny_rel (L : List Oper) (a0 : Act) (hok : okFrom L a0.tmps.size L 0 = true) (Inv : World → Prop) (S : Nat → World → World → Prop) (R : Nat → (Nat → Value) → World → Prop)
    (hst : ∀ i j vs w w', i ≠ j → Inv w → R j vs w → S i w w' → R j vs w')
    (hcg : ∀ j o vs vs' w, L[j]? = some o → vs' j = vs j → (∀ k, predB o k = true → vs' k = vs k) → R j vs w → R j vs' w)
    (step : ∀ i o, L[i]? = some o → ∀ (vs : Nat → Value) (w : World), Inv w → (∀ j, predB o j = true → R j vs w) → OpRel P (S i) (envOf L a0 vs o) o w (fun v w' => Inv w' ∧ R i (upd vs i v) w'))
    (done : ∀ vs w, Inv w → (∀ j, j < L.length → R j vs w) → Q .normal (fillFrom L 0 a0 vs) w) :
    ∀ (fuel : Nat) (listed : Array Bool) (vs : Nat → Value) (a : Act) (w : World), listed.size = L.length → Closed L listed → Framed L a0 listed vs a → Inv w → (∀ j, listed.getD j false = true → R j vs w) →
      cnt (fun j => !listed.getD j false) L.length ≤ fuel → wpAny P .any L.toArray Q fuel listed a w := by
  have hall : ∀ (listed : Array Bool) (vs : Nat → Value) (a : Act) (w : World), listed.size = L.length → Framed L a0 listed vs a → Inv w → (∀ j, listed.getD j false = true → R j vs w) → (∀ j, j < L.length → listed.getD j false = true) → Q .normal a w := by
    intro listed vs a w hsz hF hI hR hl
    have h1 := framed_congr (l2 := firstK L.length L.length) hF (fun j hj => by rw [hl j hj, firstK_getD]; simp [hj])
    have h0 : Framed L a0 (firstK L.length ([] : List Oper).length) vs a0 := by
      refine ⟨rfl, rfl, fun t ht => ?_⟩
      have e : slotV L a0 (firstK L.length ([] : List Oper).length) vs t = a0.tmps.getD t undef := by
        unfold slotV
        cases srcFrom L 0 t with
        | none => rfl
        | some j => simp only; rw [firstK_getD]; simp
      rw [e]
      simp [Array.getD_eq_getD_getElem?, Array.getElem?_eq_getElem ht]
    have h2 := framed_fill hok vs L [] a0 rfl h0
    rw [framed_unique h1 h2]
    exact done vs w hI (fun j hj => hR j (hl j hj))
  have hready : ∀ (listed : Array Bool) (i : Nat), listed.size = L.length → i ∈ Region.ready .any L.toArray listed → ∃ o, L[i]? = some o ∧ i < L.length ∧ listed.getD i false = false ∧ ∀ j, predB o j = true → listed.getD j false = true := by
    intro listed i hsz hi
    unfold Region.ready at hi
    rw [List.mem_filter] at hi
    obtain ⟨hi1, hi2⟩ := hi
    have hlt : i < L.length := by simpa using hi1
    obtain ⟨o, ho⟩ : ∃ o, L[i]? = some o := ⟨_, List.getElem?_eq_getElem hlt⟩
    simp only [List.getElem?_toArray, ho, Option.map_some, Option.getD_some, Bool.and_eq_true, Bool.not_eq_true'] at hi2
    refine ⟨o, ho, hlt, ?_, fun j hj => ?_⟩
    · have := hi2.1
      simp only [Array.getD_eq_getD_getElem?] at this ⊢
      rw [Array.getElem?_eq_getElem (by omega)] at this ⊢
      simpa using this
    · unfold predB at hj
      obtain ⟨e, he, hj⟩ := List.any_eq_true.1 hj
      simp only [Bool.and_eq_true, beq_iff_eq] at hj
      have h3 := Array.all_eq_true'.1 hi2.2 e (by simpa using he)
      rw [hj.1] at h3
      simp only [Bool.not_true, Bool.false_or] at h3
      rw [← hj.2]
      exact h3
  have hnone : ∀ (listed : Array Bool), listed.size = L.length → Region.ready .any L.toArray listed = [] → ∀ j, j < L.length → listed.getD j false = true := by
    intro listed hsz hr
    have hs : ∀ n j, j < n → j < L.length → listed.getD j false = true := by
      intro n
      induction n with
      | zero => intro j hj; omega
      | succ n ih =>
        intro j hj hjl
        by_cases e : j < n
        · exact ih j e hjl
        · obtain rfl : j = n := by omega
          cases hb : listed.getD j false
          · exfalso
            obtain ⟨o, ho⟩ : ∃ o, L[j]? = some o := ⟨_, List.getElem?_eq_getElem hjl⟩
            have ho1 := okFrom_spec L _ L 0 j o hok ho
            rw [Nat.zero_add] at ho1
            unfold okOne at ho1
            simp only [Bool.and_eq_true] at ho1
            have haf := ho1.2
            have hm : j ∈ Region.ready .any L.toArray listed := by
              unfold Region.ready
              rw [List.mem_filter]
              refine ⟨by simpa using hjl, ?_⟩
              simp only [List.getElem?_toArray, ho, Option.map_some, Option.getD_some, Bool.and_eq_true, Bool.not_eq_true']
              refine ⟨?_, ?_⟩
              · simp only [Array.getD_eq_getD_getElem?] at hb ⊢
                rw [Array.getElem?_eq_getElem (by omega)] at hb ⊢
                simpa using hb
              · rw [Array.all_eq_true]
                intro k hk
                have h3 := Array.all_eq_true.1 haf k hk
                simp only [Bool.or_eq_true, decide_eq_true_eq] at h3 ⊢
                rcases h3 with h3 | h3
                · exact .inl h3
                · exact .inr (ih _ h3 (by omega))
            rw [hr] at hm
            cases hm
          · rfl
    intro j hj
    exact hs (j + 1) j (by omega) hj
  intro fuel
  induction fuel with
  | zero =>
    intro listed vs a w hsz hC hF hI hR hc
    have hz := cnt_zero (f := fun j => !listed.getD j false) L.length (by omega)
    have hl : ∀ j, j < L.length → listed.getD j false = true := fun j hj => by simpa using hz j hj
    refine ⟨?_, hall listed vs a w hsz hF hI hR hl⟩
    cases hr : Region.ready .any L.toArray listed with
    | nil => rfl
    | cons i r =>
      obtain ⟨o, _, hi, hun, _⟩ := hready listed i hsz (by rw [hr]; simp)
      rw [hl i hi] at hun
      cases hun
  | succ fuel ih =>
    intro listed vs a w hsz hC hF hI hR hc
    refine ⟨fun hr => hall listed vs a w hsz hF hI hR (hnone listed hsz hr), fun i hi => ?_⟩
    obtain ⟨o, ho, hil, hun, hp⟩ := hready listed i hsz hi
    have ho1 := okFrom_spec L _ L 0 i o hok ho
    rw [Nat.zero_add] at ho1
    have hok1 := ho1
    unfold okOne at ho1
    simp only [Bool.and_eq_true] at ho1
    obtain ⟨⟨⟨⟨hg, hsel⟩, hdst⟩, hops⟩, haf⟩ := ho1
    have hgn : o.guard = none := by simpa using hg
    have hns : ∀ cs b, o.op ≠ .select cs b := by
      intro cs b he
      rw [he] at hsel
      cases hsel
    have hev : ∀ x ∈ o.op.operands, a.eval x = envOf L a0 vs o x := by
      intro x hx
      have hx2 := Array.all_eq_true'.1 hops x hx
      cases x with
      | tmp t =>
        simp only [Bool.and_eq_true, decide_eq_true_eq] at hx2
        have hv := hF.2.2 t hx2.1
        have he : a.eval (.tmp t) = slotV L a0 listed vs t := by
          simp [Act.eval, Array.getD_eq_getD_getElem?, hv]
        have henv : envOf L a0 vs o (.tmp t) = (match srcFrom L 0 t with | some j => if predB o j = true then vs j else a0.tmps.getD t undef | none => a0.tmps.getD t undef) := rfl
        rw [he, henv]
        unfold slotV
        have hx3 := hx2.2
        cases hs : srcFrom L 0 t with
        | none => rfl
        | some j =>
          rw [hs] at hx3
          simp only at hx3 ⊢
          by_cases hpj : predB o j = true
          · rw [if_pos hpj, if_pos (hp j hpj)]
          · rw [if_neg hpj]
            have hpf : predB o j = false := by simpa using hpj
            rw [hpf, Bool.false_or] at hx3
            rw [if_neg]
            intro hlj
            cases hoj : L[j]? with
            | none => rw [hoj] at hx3; cases hx3
            | some oj =>
              rw [hoj] at hx3
              have := hC j oj i hoj hlj hx3
              rw [hun] at this
              cases this
      | const v => rfl
      | global g => rfl
      | func f => rfl
    have hw : Region.wanted o (yielded L.toArray a.tmps) = true := by unfold Region.wanted; rw [hgn]
    have hnext : ∀ v w', S i w w' → Inv w' → R i (upd vs i v) w' → wpAny P .any L.toArray Q fuel (listed.setIfInBounds i true) (a.put o.dst v) w' := by
      intro v w' hb hI' hRi
      refine ih (listed.setIfInBounds i true) (upd vs i v) (a.put o.dst v) w' (by simpa using hsz) ?_ (framed_put v hok1 ho (by omega) hun hF) hI' ?_ ?_
      · intro i' o' j' ho' hl' hp'
        rw [getD_set _ _ _ (by omega)] at hl' ⊢
        by_cases e : i' = i
        · subst e
          rw [ho] at ho'
          cases ho'
          split
          · rfl
          · exact hp j' hp'
        · rw [if_neg e] at hl'
          split
          · rfl
          · exact hC i' o' j' ho' hl' hp'
      · intro j hj
        rw [getD_set _ _ _ (by omega)] at hj
        by_cases e : j = i
        · subst e; exact hRi
        · rw [if_neg e] at hj
          have hjl : j < L.length := by
            rcases Nat.lt_or_ge j L.length with h | h
            · exact h
            · rw [Array.getD_eq_getD_getElem?, Array.getElem?_eq_none (by omega)] at hj; cases hj
          have hoj : L[j]? = some L[j] := List.getElem?_eq_getElem hjl
          refine hcg j _ vs _ w' hoj (by unfold upd; rw [if_neg e]) (fun k hk => ?_) (hst i j vs w w' (fun e2 => e e2.symm) hI (hR j hj) hb)
          have hkl := hC j _ k hoj hj hk
          unfold upd
          rw [if_neg]
          intro e2
          rw [e2, hun] at hkl
          cases hkl
      · have := cnt_upd (f := fun j => !listed.getD j false) (g := fun j => !(listed.setIfInBounds i true).getD j false) (i := i) (by simp [hun]) (by show (!(listed.setIfInBounds i true).getD i false) = false; rw [getD_set _ _ _ (by omega), if_pos rfl]; rfl) (fun j hj => by show (!listed.getD j false) = !(listed.setIfInBounds i true).getD j false; rw [getD_set _ _ _ (by omega), if_neg hj]) L.length hil
        omega
    unfold wpOp
    rw [List.getElem?_toArray, ho]
    simp only
    rw [if_pos hw]
    left
    have hex : execOp a.eval o = execOp (envOf L a0 vs o) o := execOp_congr o hns hev
    unfold Oper.wp
    rw [hex]
    rcases step i o ho vs w hI (fun j hj => hR j (hp j hj)) with ⟨v, w', hrun, hb, hI', hRi⟩ | ⟨w', hrun, hb, hI', hRi⟩ | ⟨f, args, hrun, hcall⟩
    · rw [hrun]
      exact hnext v w' hb hI' hRi
    · rw [hrun]
      exact hnext undef w' hb hI' hRi
    · rw [hrun, Oper.upon_enter]
      refine hcall.mono ?_
      rintro e w' ⟨v, rfl, hb, hI', hRi⟩
      exact hnext v w' hb hI' hRi
def AllOps (F : Nat → Oper → Prop) : List Oper → Nat → Prop
  | [], _ => True
  | o :: l, k => F k o ∧ AllOps F l (k + 1)
theorem allOps_nil {F : Nat → Oper → Prop} {k : Nat} : AllOps F [] k := trivial
theorem allOps_cons {F : Nat → Oper → Prop} {o : Oper} {l : List Oper} {k : Nat} (h : F k o) (t : AllOps F l (k + 1)) : AllOps F (o :: l) k := ⟨h, t⟩
theorem allOps_spec {F : Nat → Oper → Prop} : ∀ {L : List Oper} {k : Nat}, AllOps F L k → ∀ i o, L[i]? = some o → F (k + i) o
  | [], _, _, i, o, h => by simp at h
  | o :: l, k, hA, 0, o', h => by
    simp at h
    subst h
    exact hA.1
  | o :: l, k, hA, i + 1, o', h => by
    have := allOps_spec hA.2 i o' (by simpa using h)
    rw [show k + (i + 1) = k + 1 + i by omega]
    exact this
/-- what is to be shown of one operation -/
def OneOp (P : Program) (L : List Oper) (a0 : Act) (Inv : World → Prop) (S : Nat → World → World → Prop) (R : Nat → (Nat → Value) → World → Prop) (i : Nat) (o : Oper) : Prop :=
  ∀ (vs : Nat → Value) (w : World) (ρ : Operand → Value), (∀ x, ρ x = envOf L a0 vs o x) → (∀ c, ρ (.const c) = c) → (∀ g, ρ (.global g) = .pointer (some ⟨g, 0, none⟩)) → (∀ f, ρ (.func f) = .func (.func f) #[] #[]) →
    Inv w → (∀ j, predB o j = true → R j vs w) → OpRel P (S i) ρ o w (fun v w' => Inv w' ∧ R i (upd vs i v) w')
theorem rel_value {S : World → World → Prop} {ρ : Operand → Value} {o : Oper} {w : World} {K : Value → World → Prop} (v : Value) (h : (execOp ρ o).run P w = .ok (.value v) w) (hk : K v w) (hs : S w w := by exact Below.refl _ _) : OpRel P S ρ o w K := .inl ⟨v, w, h, hs, hk⟩
theorem rel_made {S : World → World → Prop} {ρ : Operand → Value} {o : Oper} {w w' : World} {K : Value → World → Prop} (v : Value) (h : (execOp ρ o).run P w = .ok (.value v) w') (hb : S w w') (hk : K v w') : OpRel P S ρ o w K := .inl ⟨v, w', h, hb, hk⟩
theorem rel_skip {S : World → World → Prop} {ρ : Operand → Value} {o : Oper} {w w' : World} {K : Value → World → Prop} (h : (execOp ρ o).run P w = .ok .skip w') (hb : S w w') (hk : K undef w') : OpRel P S ρ o w K := .inr (.inl ⟨w', h, hb, hk⟩)
theorem rel_call {S : World → World → Prop} {ρ : Operand → Value} {oi : Oper} {w : World} {K : Value → World → Prop} {f : FuncId} {fn : Func} {ars : Array Operand} {ts : Array TypeId} (hf : P.funcs[f]? = some fn) (hname : (fn.name == "runtime.NumGoroutine") = false) (hb : fn.body.isSome = true) (args : Array Value)
    (hop : oi.op = .call { callee := .value (.func f), args := ars, argTypes := ts }) (hfun : ρ (.func f) = .func (.func f) #[] #[]) (hargs : ars.map ρ = args)
    (h : Calls P f args w fun e w' => ∃ v, e = .returned v ∧ S w w' ∧ K v w') : OpRel P S ρ oi w K := by
  refine .inr (.inr ⟨f, args, ?_, h⟩)
  have he := enters_ hf hname hb args w
  unfold execOp
  simp [hop, resolve, Deferred.ofValue, invoke, hfun, hargs, he]
/-- the law: a region that draws its order -/
theorem wp_region_rel {id : Nat} (L : List Oper) (hm : P.follows .mixedOrders = true) (N : Nat) (a0 : Act) (w0 : World) (hN : a0.tmps.size = N) (hok : okFrom L N L 0 = true) (Inv : World → Prop) (S : Nat → World → World → Prop) (R : Nat → (Nat → Value) → World → Prop) (hI : Inv w0.drew)
    (hst : ∀ i j vs w w', i ≠ j → Inv w → R j vs w → S i w w' → R j vs w')
    (hcg : ∀ j o vs vs' w, L[j]? = some o → vs' j = vs j → (∀ k, predB o k = true → vs' k = vs k) → R j vs w → R j vs' w)
    (step : AllOps (OneOp P L a0 Inv S R) L 0)
    (done : ∀ vs w, Inv w → (∀ j, j < L.length → R j vs w) → Q .normal (fillFrom L 0 a0 vs) w) :
    (Code.region id L.toArray true).wp P Q a0 w0 := by
  subst hN
  have step' : ∀ i o, L[i]? = some o → ∀ (vs : Nat → Value) (w : World), Inv w → (∀ j, predB o j = true → R j vs w) → OpRel P (S i) (envOf L a0 vs o) o w (fun v w' => Inv w' ∧ R i (upd vs i v) w') := by
    intro i o ho vs w hI hp
    have h := allOps_spec step i o ho
    rw [Nat.zero_add] at h
    exact h vs w (envOf L a0 vs o) (fun _ => rfl) (fun _ => rfl) (fun _ => rfl) (fun _ => rfl) hI hp
  refine wp_region_any hm ?_
  refine wpAny_rel L a0 hok Inv S R hst hcg step' done L.toArray.size (Array.replicate L.toArray.size false) (fun _ => undef) a0 _ (by simp) ?_ ?_ hI ?_ ?_
  · intro i o j _ h
    simp [Array.getD_eq_getD_getElem?, Array.getElem?_replicate] at h
    split at h <;> simp at h
  · refine ⟨rfl, rfl, fun t ht => ?_⟩
    have e : slotV L a0 (Array.replicate L.toArray.size false) (fun _ => undef) t = a0.tmps.getD t undef := by
      unfold slotV
      cases srcFrom L 0 t with
      | none => rfl
      | some j =>
        simp only
        rw [if_neg]
        simp [Array.getD_eq_getD_getElem?, Array.getElem?_replicate]
        split <;> simp
    rw [e]
    simp [Array.getD_eq_getD_getElem?, Array.getElem?_eq_getElem ht]
  · intro j h
    simp [Array.getD_eq_getD_getElem?, Array.getElem?_replicate] at h
    split at h <;> simp at h
  · have : ∀ (f : Nat → Bool) n, cnt f n ≤ n := by
      intro f n
      induction n with
      | zero => exact Nat.le_refl _
      | succ n ih => simp only [cnt]; split <;> omega
    exact Nat.le_trans (this _ _) (by simp)
end
end Go.Proofs.YtnifgokjagahfaaDoor.Reg
