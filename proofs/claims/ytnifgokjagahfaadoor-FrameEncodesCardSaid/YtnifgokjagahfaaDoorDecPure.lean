/- What Decode answers, as a function of the bytes; and its laws. -/
import Derived.Test.YtnifgokjagahfaaDoorEncPure
set_option linter.unusedVariables false
set_option linter.unusedSimpArgs false
namespace Go.Proofs.YtnifgokjagahfaaDoor.DecPure
open Go.RowKit Go.Proofs.YtnifgokjagahfaaDoorW.PrintWords Go.Proofs.YtnifgokjagahfaaDoorW.PrintLast Go.Proofs.YtnifgokjagahfaaDoorW.PrintMore
open Go.Proofs.YtnifgokjagahfaaDoor.Base Go.Proofs.YtnifgokjagahfaaDoor.Layouts Go.Proofs.YtnifgokjagahfaaDoor.Msg Go.Proofs.YtnifgokjagahfaaDoor.Put Go.Proofs.YtnifgokjagahfaaDoor.EncPure
def zeroM : M := blankM 0 0 0 0
/-- the four bytes at the end, of a list -/
def sumL (l : List Int) : List Int := le4 (CrcPure.crc (strOfNums l).data.toList)
theorem sumL_length (l : List Int) : (sumL l).length = 4 := rfl
theorem byt_sumL (l : List Int) : Byt (sumL l) := by
  intro x hx
  unfold sumL le4 at hx
  simp only [List.mem_cons, List.not_mem_nil, or_false] at hx
  rcases hx with h | h | h | h <;> subst h <;> omega
theorem sumS_eq (s : ByteArray) : sumS s = strOfNums (sumL (bytesOf s)) := by
  unfold sumS sumL
  rw [strOfNums_bytesOf]
/-- the whole frame -/
def whole (m : M) : List Int := frameB m ++ sumL (frameB m)
def kindL (L : List Int) : Int := L.getD 3 0
def bodyN (L : List Int) : Int := val ((L.drop 16).take 4)
def h1 (L : List Int) : Int × Cur := numC 2 65535 ⟨(L.drop 4).take 12, false⟩
def h2 (L : List Int) : Int × Cur := numC 2 65535 (h1 L).2
def h3 (L : List Int) : Int × Cur := numC 8 9007199254740992 (h2 L).2
def m0 (L : List Int) : M := blankM (kindL L) (h1 L).1 (h2 L).1 (h3 L).1
def pL (L : List Int) : M × Cur := parseC (fieldsOf (kindL L).toNat) (m0 L) ⟨(L.drop 20).take (L.length - 24), false⟩
def badL (L : List Int) : Bool := (h3 L).2.short || ((pL L).2.short || !(pL L).2.rest.isEmpty)
def decP (L : List Int) : M × Int :=
  if L.length < 24 then (zeroM, 51)
  else if L.take 3 ≠ [71, 82, 1] then (zeroM, 52)
  else if ¬ (1 ≤ kindL L ∧ kindL L < 17) then (zeroM, 53)
  else if 4383 < bodyN L ∨ 24 + bodyN L ≠ L.length then (zeroM, 54)
  else if sumL (L.take (L.length - 4)) ≠ L.drop (L.length - 4) then (zeroM, 55)
  else if badL L = true then (zeroM, 56)
  else ((pL L).1, 0)
/-! a frame's parts -/
theorem body_length_le (m : M) (h : vB m = true) (hk : 1 ≤ m.kind ∧ m.kind < 17) : (bodyB m (fieldsOf m.kind.toNat)).length ≤ 4383 := by
  obtain ⟨_, _, _, h4⟩ := vB_facts m h
  have hf : ∀ f, f < 7 → (fieldB m f).length ≤ wN f + (if f = 5 then 255 else if f = 6 then 4096 else 0) := by
    intro f hf
    rw [field_length]
    unfold textOf
    split
    · rename_i e; subst e
      have := (h4 5 (by decide)).2
      rw [(num_size m).1] at this
      have e : mostOf 5 = 255 := rfl
      rw [e] at this
      simp; omega
    · split
      · rename_i e; subst e
        have := (h4 6 (by decide)).2
        rw [(num_size m).2] at this
        have e : mostOf 6 = 4096 := rfl
        rw [e] at this
        simp; omega
      · simp
  have hs : ∀ fs : List Nat, (∀ f ∈ fs, f < 7) → (bodyB m fs).length ≤ (fs.map fun f => wN f + (if f = 5 then 255 else if f = 6 then 4096 else 0)).sum := by
    intro fs
    induction fs with
    | nil => intro _; simp [bodyB]
    | cons f fs ih =>
      intro h
      have h1 := ih (fun g hg => h g (by simp [hg]))
      have h2 := hf f (h f (by simp))
      have e : (bodyB m (f :: fs)).length = (fieldB m f).length + (bodyB m fs).length := by simp [bodyB]
      rw [e]
      simp only [List.map_cons, List.sum_cons]
      omega
  have hk' : m.kind.toNat < 17 := by omega
  refine Nat.le_trans (hs _ (fieldsOf_lt _ hk')) ?_
  have : ∀ k, k < 17 → ((fieldsOf k).map fun f => wN f + (if f = 5 then 255 else if f = 6 then 4096 else 0)).sum ≤ 4383 := by decide
  exact this _ hk'
theorem byt_head (m : M) (hk : 1 ≤ m.kind ∧ m.kind < 17) : Byt (headB m) := by
  unfold headB
  refine byt_append.2 ⟨byt_append.2 ⟨byt_append.2 ⟨?_, be_byt _ _⟩, be_byt _ _⟩, be_byt _ _⟩
  intro x hx
  simp only [List.mem_cons, List.not_mem_nil, or_false] at hx
  rcases hx with h | h | h | h <;> subst h <;> omega
theorem byt_frame (m : M) (hk : 1 ≤ m.kind ∧ m.kind < 17) : Byt (frameB m) := by
  unfold frameB
  exact byt_append.2 ⟨byt_append.2 ⟨byt_head m hk, be_byt _ _⟩, byt_body _ _⟩
theorem byt_whole (m : M) (hk : 1 ≤ m.kind ∧ m.kind < 17) : Byt (whole m) := byt_append.2 ⟨byt_frame m hk, byt_sumL _⟩
theorem frame_length (m : M) : (frameB m).length = 20 + (bodyB m (fieldsOf m.kind.toNat)).length := by
  unfold frameB
  rw [List.length_append, List.length_append, headB_length, be_length]
theorem whole_length (m : M) : (whole m).length = 24 + (bodyB m (fieldsOf m.kind.toNat)).length := by
  unfold whole
  rw [List.length_append, frame_length, sumL_length]
  omega
/-- the parts of a whole frame -/
theorem whole_parts (m : M) : whole m = [71, 82, 1, m.kind] ++ (be m.from_ 2 ++ (be m.to_ 2 ++ be m.id 8)) ++ be (bodyB m (fieldsOf m.kind.toNat)).length 4 ++ bodyB m (fieldsOf m.kind.toNat) ++ sumL (frameB m) := by
  unfold whole frameB headB
  simp only [List.append_assoc]
theorem parts_of {a b c d e : List Int} (ha : a.length = 4) (hb : b.length = 12) (hc : c.length = 4) (he : e.length = 4) {L : List Int} (hL : L = a ++ b ++ c ++ d ++ e) :
    L.take 4 = a ∧ (L.drop 4).take 12 = b ∧ (L.drop 16).take 4 = c ∧ (L.drop 20).take (L.length - 24) = d ∧ L.take (L.length - 4) = a ++ b ++ c ++ d ∧ L.drop (L.length - 4) = e ∧ L.length = 24 + d.length := by
  subst hL
  have hl : (a ++ b ++ c ++ d ++ e).length = 24 + d.length := by simp only [List.length_append]; omega
  have hl2 : (a ++ b ++ c ++ d ++ e).length - 4 = (a ++ b ++ c ++ d).length := by simp only [List.length_append]; omega
  have d4 : (a ++ b ++ c ++ d ++ e).drop 4 = b ++ c ++ d ++ e := by
    simp only [List.append_assoc]; exact List.drop_left' ha
  have d16 : (a ++ b ++ c ++ d ++ e).drop 16 = c ++ d ++ e := by
    have : a ++ b ++ c ++ d ++ e = (a ++ b) ++ (c ++ d ++ e) := by simp only [List.append_assoc]
    rw [this]; exact List.drop_left' (by rw [List.length_append]; omega)
  have d20 : (a ++ b ++ c ++ d ++ e).drop 20 = d ++ e := by
    have : a ++ b ++ c ++ d ++ e = (a ++ b ++ c) ++ (d ++ e) := by simp only [List.append_assoc]
    rw [this]; exact List.drop_left' (by simp only [List.length_append]; omega)
  refine ⟨?_, ?_, ?_, ?_, ?_, ?_, hl⟩
  · simp only [List.append_assoc]; exact List.take_left' ha
  · rw [d4]; simp only [List.append_assoc]; exact List.take_left' hb
  · rw [d16]; simp only [List.append_assoc]; exact List.take_left' hc
  · rw [d20]; exact List.take_left' (by omega)
  · rw [hl2]; exact List.take_left' rfl
  · rw [hl2]; exact List.drop_left' rfl
theorem split_parts (L : List Int) (h : 24 ≤ L.length) : L = L.take 4 ++ (L.drop 4).take 12 ++ (L.drop 16).take 4 ++ (L.drop 20).take (L.length - 24) ++ L.drop (L.length - 4) := by
  have e1 : L.drop (L.length - 4) = (L.drop 20).drop (L.length - 24) := by rw [List.drop_drop]; congr 1; omega
  have e2 : L.drop 20 = (L.drop 16).drop 4 := by rw [List.drop_drop]
  have e3 : L.drop 16 = (L.drop 4).drop 12 := by rw [List.drop_drop]
  rw [List.append_assoc, e1, List.take_append_drop, List.append_assoc, e2, List.take_append_drop, List.append_assoc, e3, List.take_append_drop, List.take_append_drop]
/-- the message's number fields ahead of the body -/
theorem heads_mk {L : List Int} {f t i : Int} (hf : 0 ≤ f ∧ f ≤ 65535) (ht : 0 ≤ t ∧ t ≤ 65535) (hi : 0 ≤ i ∧ i ≤ 9007199254740992) (h : (L.drop 4).take 12 = be f 2 ++ (be t 2 ++ be i 8)) :
    (h1 L).1 = f ∧ (h2 L).1 = t ∧ (h3 L).1 = i ∧ (h3 L).2.short = false := by
  have e1 : h1 L = (f, ⟨be t 2 ++ be i 8, false⟩) := by unfold h1; rw [h]; exact numC_mk _ hf.1 hf.2 (by omega)
  have e2 : h2 L = (t, ⟨be i 8, false⟩) := by unfold h2; rw [e1]; exact numC_mk _ ht.1 ht.2 (by omega)
  have e3 : h3 L = (i, ⟨[], false⟩) := by
    unfold h3; rw [e2]
    have := numC_mk (w := 8) (most := 9007199254740992) (n := i) [] hi.1 hi.2 (by omega)
    rw [List.append_nil] at this
    exact this
  rw [e1, e2, e3]
  exact ⟨rfl, rfl, rfl, rfl⟩
/-- what is laid over a blank message is the message -/
theorem copy_all (m : M) (h : vB m = true) (hk : 1 ≤ m.kind ∧ m.kind < 17) : (fieldsOf m.kind.toNat).foldl (copyF m) (blankM m.kind m.from_ m.to_ m.id) = m := by
  have hh : ∀ (fs : List Nat) (a : M), SameHead (fs.foldl (copyF m) a) a := by
    intro fs
    induction fs with
    | nil => intro a; exact ⟨rfl, rfl, rfl, rfl⟩
    | cons f fs ih =>
      intro a
      refine (ih _).trans ?_
      unfold copyF
      split
      · exact setNum_head _ _ _
      · exact setText_head _ _ _
  have hin : ∀ (a : M) (f : Nat), f < 7 → AgreeF (copyF m a f) m f := by
    intro a f hf
    have e : f = 0 ∨ f = 1 ∨ f = 2 ∨ f = 3 ∨ f = 4 ∨ f = 5 ∨ f = 6 := by omega
    rcases e with e | e | e | e | e | e | e <;> subst e <;> exact ⟨rfl, rfl⟩
  have hout : ∀ (a : M) (f g : Nat), f < 7 → g < 7 → g ≠ f → AgreeF (copyF m a f) a g := by
    intro a f g hf hg hne
    unfold copyF
    split
    · exact agree_set _ _ _ _ (by assumption) hg hne
    · exact agree_text _ _ _ _ (by omega) hg hne
  have ha : ∀ (fs : List Nat) (a : M), (∀ f ∈ fs, f < 7) → ∀ g, g < 7 → (g ∈ fs ∨ AgreeF a m g) → AgreeF (fs.foldl (copyF m) a) m g := by
    intro fs
    induction fs with
    | nil => intro a _ g _ h; rcases h with h | h; cases h; exact h
    | cons f fs ih =>
      intro a hfs g hg h
      refine ih (copyF m a f) (fun x hx => hfs x (by simp [hx])) g hg ?_
      by_cases e : g = f
      · subst e; exact .inr (hin a g hg)
      · rcases h with h | h
        · rcases List.mem_cons.1 h with h | h
          · exact absurd h e
          · exact .inl h
        · exact .inr ((hout a f g (hfs f (by simp)) hg e).trans h)
  have hk' : m.kind.toNat < 17 := by omega
  refine M_ext ((hh _ _).trans ⟨rfl, rfl, rfl, rfl⟩) fun g hg => ha _ _ (fieldsOf_lt _ hk') g hg ?_
  by_cases hm : g ∈ fieldsOf m.kind.toNat
  · exact .inl hm
  · refine .inr ?_
    have h4 := ((vB_iff m).1 h).2.2.2 g hg
    rw [need_not_mem m g hm] at h4
    have z1 := zero_of_num m g (by omega)
    have z2 := zero_blank m.kind m.from_ m.to_ m.id g hg
    exact ⟨z2.1.trans z1.1.symm, z2.2.trans z1.2.symm⟩
theorem kindL_of {L : List Int} {k : Int} (h : L.take 4 = [71, 82, 1, k]) : kindL L = k ∧ L.take 3 = [71, 82, 1] := by
  have e : L.take 3 = (L.take 4).take 3 := by rw [List.take_take]; rfl
  constructor
  · unfold kindL
    have hl : 3 < L.length := by
      have := congrArg List.length h
      rw [List.length_take] at this
      simp at this
      omega
    have h2 : (L.take 4)[3]? = L[3]? := by rw [List.getElem?_take]; rfl
    rw [h] at h2
    simp only [List.getD_eq_getElem?_getD, ← h2]
    rfl
  · rw [e, h]; rfl
/-- a whole frame is read back -/
theorem dec_whole (m : M) (h : vB m = true) (hk : 1 ≤ m.kind ∧ m.kind < 17) : decP (whole m) = (m, 0) := by
  obtain ⟨hf, ht, hi, h4⟩ := vB_facts m h
  have hbl := body_length_le m h hk
  obtain ⟨p1, p2, p3, p4, p5, p6, p7⟩ := parts_of (a := [71, 82, 1, m.kind]) (b := be m.from_ 2 ++ (be m.to_ 2 ++ be m.id 8)) (c := be (bodyB m (fieldsOf m.kind.toNat)).length 4) (d := bodyB m (fieldsOf m.kind.toNat)) (e := sumL (frameB m)) rfl
    (by simp only [List.length_append, be_length]) (be_length _ _) rfl (whole_parts m)
  obtain ⟨k1, k2⟩ := kindL_of p1
  obtain ⟨q1, q2, q3, q4⟩ := heads_mk hf ht hi p2
  have hb : bodyN (whole m) = ((bodyB m (fieldsOf m.kind.toNat)).length : Int) := by
    unfold bodyN; rw [p3]; exact val_be 4 _ (by omega) (by omega)
  have hk' : m.kind.toNat < 17 := by omega
  have hp : pL (whole m) = (m, ⟨[], false⟩) := by
    unfold pL m0
    rw [p4, k1, q1, q2, q3]
    have := parse_mk m (fieldsOf m.kind.toNat) (blankM m.kind m.from_ m.to_ m.id) [] (fun f hf => ⟨fieldsOf_lt _ hk' f hf, h4 f (fieldsOf_lt _ hk' f hf)⟩)
    rw [List.append_nil] at this
    rw [this, copy_all m h hk]
  unfold decP
  rw [if_neg (by omega), if_neg (by simp [k2]), if_neg (by rw [k1]; simp only [Decidable.not_not]; exact hk), if_neg (by rw [hb]; omega), if_neg ?_, if_neg ?_, hp]
  · unfold badL; rw [hp, q4]; simp
  · rw [p5, p6]
    simp only [ne_eq, Decidable.not_not]
    have e : [71, 82, 1, m.kind] ++ (be m.from_ 2 ++ (be m.to_ 2 ++ be m.id 8)) ++ be (bodyB m (fieldsOf m.kind.toNat)).length 4 ++ bodyB m (fieldsOf m.kind.toNat) = frameB m := by
      unfold frameB headB; simp only [List.append_assoc]
    rw [e]
/-- what is read is a whole frame of a valid message -/
theorem dec_ok {L : List Int} {m : M} (hb : Byt L) (h : decP L = (m, 0)) : vB m = true ∧ (1 ≤ m.kind ∧ m.kind < 17) ∧ L = whole m := by
  unfold decP at h
  split at h
  · cases h
  rename_i g1
  split at h
  · cases h
  rename_i g2
  split at h
  · cases h
  rename_i g3
  split at h
  · cases h
  rename_i g4
  split at h
  · cases h
  rename_i g5
  split at h
  · cases h
  rename_i g6
  simp only [ne_eq, Decidable.not_not] at g2 g3 g5
  simp only [not_or, Int.not_lt, ne_eq, Decidable.not_not] at g4
  have hm : (pL L).1 = m := by cases h; rfl
  have hbad : badL L = false := by simpa using g6
  unfold badL at hbad
  simp only [Bool.or_eq_false_iff, Bool.not_eq_false', List.isEmpty_iff] at hbad
  obtain ⟨b1, b2, b3⟩ := hbad
  -- the three numbers
  have hd12 : Byt ((L.drop 4).take 12) := byt_take (byt_drop hb _) _
  generalize e1 : h1 L = r1
  obtain ⟨n1, c1⟩ := r1
  generalize e2 : h2 L = r2
  obtain ⟨n2, c2⟩ := r2
  generalize e3 : h3 L = r3
  obtain ⟨n3, c3⟩ := r3
  have e2' : numC 2 65535 c1 = (n2, c2) := by have := e2; unfold h2 at this; rw [e1] at this; exact this
  have e3' : numC 8 9007199254740992 c2 = (n3, c3) := by have := e3; unfold h3 at this; rw [e2] at this; exact this
  have e1' : numC 2 65535 ⟨(L.drop 4).take 12, false⟩ = (n1, c1) := e1
  rw [e3] at b1
  have hb1 := numC_byt 2 65535 ⟨(L.drop 4).take 12, false⟩ hd12
  rw [e1'] at hb1
  have hb2 := numC_byt 2 65535 c1 hb1
  rw [e2'] at hb2
  obtain ⟨s2, r2, l2, u2, y2⟩ := numC_ok e3' b1 hb2
  obtain ⟨s1, r1, l1, u1, y1⟩ := numC_ok e2' s2 hb1
  obtain ⟨s0, r0, l0, u0, y0⟩ := numC_ok e1' s1 hd12
  have hc3 : c3.rest = [] := by
    have hl : ((L.drop 4).take 12).length = 12 := by rw [List.length_take, List.length_drop]; omega
    have r0' : (L.drop 4).take 12 = be n1 2 ++ c1.rest := r0
    rw [r0', r1, r2] at hl
    simp only [List.length_append, be_length] at hl
    exact List.eq_nil_of_length_eq_zero (by omega)
  have hk' : (kindL L).toNat < 17 := by omega
  have hm0 : m0 L = blankM (kindL L) n1 n2 n3 := by unfold m0; rw [e1, e2, e3]
  have hbody : Byt ((L.drop 20).take (L.length - 24)) := byt_take (byt_drop hb _) _
  generalize ep : pL L = rp at b2 b3 hm
  obtain ⟨mp, cp⟩ := rp
  simp only at b2 b3 hm
  subst hm
  have ep' : parseC (fieldsOf (kindL L).toNat) (m0 L) ⟨(L.drop 20).take (L.length - 24), false⟩ = (mp, cp) := ep
  obtain ⟨_, q2, q3, _, q5⟩ := parse_ok _ _ _ _ _ (fieldsOf_nodup _ hk') (fieldsOf_lt _ hk') ep' b2 hbody
  have hhd := parseC_head (fieldsOf (kindL L).toNat) (m0 L) ⟨(L.drop 20).take (L.length - 24), false⟩
  rw [ep', hm0] at hhd
  obtain ⟨k1, k2, k3, k4⟩ := hhd
  have k1 : mp.kind = kindL L := k1
  have k2 : mp.from_ = n1 := k2
  have k3 : mp.to_ = n2 := k3
  have k4 : mp.id = n3 := k4
  have q2 : (L.drop 20).take (L.length - 24) = bodyB mp (fieldsOf (kindL L).toNat) := by
    have : (L.drop 20).take (L.length - 24) = bodyB mp (fieldsOf (kindL L).toNat) ++ cp.rest := q2
    rw [this, b3, List.append_nil]
  have hv : vB mp = true := by
    refine (vB_iff mp).2 ⟨by rw [k2]; exact ⟨l0, u0⟩, by rw [k3]; exact ⟨l1, u1⟩, by rw [k4]; exact ⟨l2, u2⟩, fun f hf => ?_⟩
    by_cases hmem : f ∈ fieldsOf mp.kind.toNat
    · rw [need_of_mem mp f hmem]
      exact q3 f (by rw [← k1]; exact hmem)
    · rw [need_not_mem mp f hmem]
      have ha := q5 f hf (by rw [← k1]; exact hmem)
      rw [ha.1, hm0, (zero_blank _ _ _ _ f hf).1]
      exact ⟨Int.le_refl _, Int.le_refl _⟩
  refine ⟨hv, by rw [k1]; exact g3, ?_⟩
  have ht4 : L.take 4 = [71, 82, 1, kindL L] := by
    have hl : 3 < L.length := by omega
    have : L.take (3 + 1) = L.take 3 ++ [kindL L] := by
      rw [List.take_add_one, List.getElem?_eq_getElem hl]
      congr 1
      unfold kindL
      simp [List.getD_eq_getElem?_getD, List.getElem?_eq_getElem hl]
    rw [this, g2]; rfl
  have hN : (L.drop 16).take 4 = be (bodyB mp (fieldsOf mp.kind.toNat)).length 4 := by
    have hl : ((L.drop 16).take 4).length = 4 := by rw [List.length_take, List.length_drop]; omega
    have h5 := be_val ((L.drop 16).take 4) (byt_take (byt_drop hb _) _)
    rw [hl] at h5
    have hlen : ((bodyB mp (fieldsOf mp.kind.toNat)).length : Int) = bodyN L := by
      have := congrArg List.length q2
      rw [List.length_take, List.length_drop, k1.symm] at this
      omega
    rw [hlen]
    exact h5.symm
  have h12 : (L.drop 4).take 12 = be mp.from_ 2 ++ (be mp.to_ 2 ++ be mp.id 8) := by
    have r0' : (L.drop 4).take 12 = be n1 2 ++ c1.rest := r0
    rw [r0', r1, r2, hc3, List.append_nil, k2, k3, k4]
  have hL := split_parts L (by omega)
  have hfr : L.take (L.length - 4) = frameB mp := by
    have h20 : L.take (L.length - 4) = L.take 4 ++ (L.drop 4).take 12 ++ (L.drop 16).take 4 ++ (L.drop 20).take (L.length - 24) := by
      have := (parts_of (a := L.take 4) (b := (L.drop 4).take 12) (c := (L.drop 16).take 4) (d := (L.drop 20).take (L.length - 24)) (e := L.drop (L.length - 4)) (by rw [List.length_take]; omega) (by rw [List.length_take, List.length_drop]; omega)
        (by rw [List.length_take, List.length_drop]; omega) (by rw [List.length_drop]; omega) hL).2.2.2.2.1
      exact this
    rw [h20, ht4, h12, hN, q2, ← k1]
    unfold frameB headB
    simp only [List.append_assoc]
  have hsum : L.drop (L.length - 4) = sumL (frameB mp) := by rw [← g5, hfr]
  rw [← List.take_append_drop (L.length - 4) L, hsum, hfr]
  rfl
end Go.Proofs.YtnifgokjagahfaaDoor.DecPure
