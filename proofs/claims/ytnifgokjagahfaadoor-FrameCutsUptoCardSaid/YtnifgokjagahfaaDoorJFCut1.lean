/- Joined texts of this claim: Num, Read, DecPure, Mids, Dec, Dec2, DecAny -/
import Derived.Test.YtnifgokjagahfaaDoorJFCut0
import Derived.Test.YtnifgokjagahfaaDoorPFrameDecodesx1
import Derived.Deep.MidRow
import Derived.Deep.DeepCutAuto
/- The cursor's number and text, read and size: of the frame package. -/
set_option linter.unusedVariables false
set_option linter.unusedSimpArgs false
namespace Go.Proofs.YtnifgokjagahfaaDoor.Num
open Go.RowKit Go.Proofs.YtnifgokjagahfaaDoorW.PrintWords Go.Proofs.YtnifgokjagahfaaDoorW.PrintLast Go.Proofs.YtnifgokjagahfaaDoorW.PrintMore
open Go.Proofs.YtnifgokjagahfaaDoor.Base Go.Proofs.YtnifgokjagahfaaDoor.Layouts Go.Proofs.YtnifgokjagahfaaDoor.Msg Go.Proofs.YtnifgokjagahfaaDoor.Put Go.Proofs.YtnifgokjagahfaaDoor.EncPure Go.Proofs.YtnifgokjagahfaaDoor.PFrameDecodes
theorem u64_or (a b : Int) (ha : 0 ≤ a) (ha1 : a < 72057594037927936) (hb : 0 ≤ b) (hb1 : b < 256) : Go.bits .or .u64 (IntKind.u64.wrap (a * 256)) (IntKind.u64.wrap b) = 256 * a + b := by
  obtain ⟨x, rfl⟩ : ∃ x : Nat, a = (x : Int) := ⟨a.toNat, by omega⟩
  obtain ⟨y, rfl⟩ : ∃ y : Nat, b = (y : Int) := ⟨b.toNat, by omega⟩
  have e1 : IntKind.u64.wrap ((x : Int) * 256) = ((256 * x : Nat) : Int) := by rw [IntKind.wrap_u64]; omega
  have e2 : IntKind.u64.wrap (y : Int) = ((y : Nat) : Int) := by rw [IntKind.wrap_u64]; omega
  rw [e1, e2, (bits_gen .u64 (256 * x) y (by show _ < 18446744073709551616; omega) (by show _ < 18446744073709551616; omega)).2.2]
  have h := Nat.two_pow_add_eq_or_of_lt (i := 8) (b := y) (by omega) x
  have h' : 256 * x + y = 256 * x ||| y := h
  rw [← h', IntKind.wrap_u64]
  omega
theorem take_bytes_next (r : ByteArray) (i : Nat) (h : i < r.size) : (bytesOf r).take (i + 1) = (bytesOf r).take i ++ [bt r (i : Int)] := by
  have hl : i < (bytesOf r).length := by rw [bytesOf_length]; exact h
  rw [List.take_add_one, List.getElem?_eq_getElem hl]
  congr 2
  rw [← rd_bytesOf]
  simp [rd, List.getD_eq_getElem?_getD, List.getElem?_eq_getElem hl]
theorem pow256_le (i : Nat) (h : i < 8) : (256 : Int) ^ i ≤ 72057594037927936 := by
  have : ∀ i, i < 8 → (256 : Int) ^ i ≤ 72057594037927936 := by decide
  exact this i h
theorem extract_tail (r : ByteArray) (k : Nat) (h : k ≤ r.size) : r.extract k r.size = strOfNums ((bytesOf r).drop k) := by
  have e : bytesOf (r.extract k r.size) = (bytesOf r).drop k := by
    unfold bytesOf
    rw [← List.map_drop]
    congr 1
    rw [ByteArray.data_extract, Array.toList_extract]
    rw [List.extract_eq_take_drop]
    rw [List.take_of_length_le]
    rw [List.length_drop, data_length]
    exact Nat.le_refl _
  rw [← strOfNums_bytesOf (r.extract k r.size), e]
theorem extract_head (r : ByteArray) (k : Nat) (h : k ≤ r.size) : r.extract 0 k = strOfNums ((bytesOf r).take k) := by
  have e : bytesOf (r.extract 0 k) = (bytesOf r).take k := by
    unfold bytesOf
    rw [← List.map_take]
    congr 1
    rw [ByteArray.data_extract, Array.toList_extract]
    simp [List.extract_eq_take_drop]
  rw [← strOfNums_bytesOf (r.extract 0 k), e]
theorem extract_mid (r : ByteArray) (i j : Nat) (h : i ≤ j) (h1 : j ≤ r.size) : r.extract i j = strOfNums (((bytesOf r).drop i).take (j - i)) := by
  have e : bytesOf (r.extract i j) = ((bytesOf r).drop i).take (j - i) := by
    unfold bytesOf
    rw [← List.map_drop, ← List.map_take]
    congr 1
    rw [ByteArray.data_extract, Array.toList_extract, List.extract_eq_take_drop]
  rw [← strOfNums_bytesOf (r.extract i j), e]
theorem number_l (r : ByteArray) (s : Bool) (wd : Nat) (most : Int) (hw : wd ≤ 8) (hr : wd ≤ r.size) (hm : 0 ≤ most) (hm1 : most ≤ 9007199254740992) (d : Nat) : ∀ (i k : Nat), i ≤ wd → wd - i = d → d < k →
    frame_cursor_number.l0 k wd most (val ((bytesOf r).take i)) i r s = some ((numC wd most ⟨bytesOf r, s⟩).1, strOfNums (numC wd most ⟨bytesOf r, s⟩).2.rest, (numC wd most ⟨bytesOf r, s⟩).2.short) := by
  have hby := byt_bytesOf r
  induction d with
  | zero =>
    intro i k hi hd hk
    obtain ⟨k, rfl⟩ : ∃ m, k = m + 1 := ⟨k - 1, by omega⟩
    obtain rfl : i = wd := by omega
    have h0 := val_nonneg _ (byt_take hby i)
    have e1 : IntKind.u64.wrap most = most := by rw [IntKind.wrap_u64]; omega
    have e2 : ((i : Nat) : Int).toNat = i := Int.toNat_natCast i
    simp only [frame_cursor_number.l0]
    rw [if_neg (by omega), if_pos (by omega), if_pos (by omega), e1, e2, extract_tail r i hr]
    have hlen : (⟨bytesOf r, s⟩ : Cur).rest.length = r.size := bytesOf_length r
    by_cases h : most < val ((bytesOf r).take i)
    · have e : numC i most ⟨bytesOf r, s⟩ = (0, ⟨(bytesOf r).drop i, true⟩) := by unfold numC; rw [if_neg (by omega), if_pos h]
      rw [if_pos h, e]
    · have e : numC i most ⟨bytesOf r, s⟩ = (val ((bytesOf r).take i), ⟨(bytesOf r).drop i, s⟩) := by unfold numC; rw [if_neg (by omega), if_neg h]
      have e3 : wrap64 (val ((bytesOf r).take i)) = val ((bytesOf r).take i) := w64 _ (by omega) (by omega)
      rw [if_neg h, e, e3]
  | succ d ih =>
    intro i k hi hd hk
    obtain ⟨k, rfl⟩ : ∃ m, k = m + 1 := ⟨k - 1, by omega⟩
    have hlt : i < r.size := by omega
    have hi := ih (i + 1) k (by omega) (by omega) (by omega)
    have c1 : (i : Int) < (wd : Int) := by omega
    have c2 : (0 : Int) ≤ (i : Int) := by omega
    have c3 : (i : Int) < (r.size : Int) := by omega
    have h0 := val_nonneg _ (byt_take hby i)
    have h1 := val_lt _ (byt_take hby i)
    have hl : ((bytesOf r).take i).length = i := by rw [List.length_take, bytesOf_length]; omega
    rw [hl] at h1
    have h2 := pow256_le i (by omega)
    have hb := bt_range r (i : Int)
    have e := take_bytes_next r i hlt
    have e3 : wrap64 ((i : Int) + 1) = ((i + 1 : Nat) : Int) := by rw [w64 _ (by omega) (by omega)]; omega
    have h3 : val ((bytesOf r).take i) < 72057594037927936 := Int.lt_of_lt_of_le h1 h2
    clear h1 h2
    have hv : 256 * val ((bytesOf r).take i) + bt r (i : Int) = val ((bytesOf r).take (i + 1)) := by rw [e, val_snoc]
    generalize val ((bytesOf r).take (i + 1)) = y at hv hi
    generalize val ((bytesOf r).take i) = x at hv h0 h3 ⊢
    generalize hbb : bt r (i : Int) = b at hv hb
    have ho := u64_or x b h0 h3 hb.1 (Int.lt_of_le_of_lt hb.2 (by decide))
    rw [hv, ← hbb] at ho
    simp only [frame_cursor_number.l0]
    rw [if_pos c1, if_pos c2, if_pos c3, ho, e3]
    exact hi
theorem number_f (r : ByteArray) (s : Bool) (wd : Nat) (most : Int) (hw : wd ≤ 8) (hm : 0 ≤ most) (hm1 : most ≤ 9007199254740992) :
    frame_cursor_number.f 9 r s wd most = some ((numC wd most ⟨bytesOf r, s⟩).1, strOfNums (numC wd most ⟨bytesOf r, s⟩).2.rest, (numC wd most ⟨bytesOf r, s⟩).2.short) := by
  unfold frame_cursor_number.f
  by_cases h : r.size < wd
  · rw [if_pos (by omega)]
    have e : numC wd most ⟨bytesOf r, s⟩ = (0, ⟨bytesOf r, true⟩) := by unfold numC; rw [if_pos (by rw [bytesOf_length]; exact h)]
    rw [e]
    simp only [strOfNums_bytesOf]
  · rw [if_neg (by omega)]
    exact number_l r s wd most hw (by omega) hm hm1 (wd - 0) 0 9 (by omega) rfl (by omega)
theorem numC_le (wd : Nat) (most : Int) (c : Cur) (hb : Byt c.rest) (hm : 0 ≤ most) : 0 ≤ (numC wd most c).1 ∧ (numC wd most c).1 ≤ most ∧ (numC wd most c).2.rest.length ≤ c.rest.length := by
  unfold numC
  split
  · exact ⟨Int.le_refl _, hm, Nat.le_refl _⟩
  · split
    · exact ⟨Int.le_refl _, hm, by simp⟩
    · exact ⟨val_nonneg _ (byt_take hb _), by simp only; omega, by simp⟩
theorem text_f (r : ByteArray) (s : Bool) (wd : Nat) (most : Int) (hw : wd ≤ 8) (hm : 0 ≤ most) (hm1 : most ≤ 9007199254740992) :
    frame_cursor_text.f 9 r s wd most = some (strOfNums (textC wd most ⟨bytesOf r, s⟩).1, strOfNums (textC wd most ⟨bytesOf r, s⟩).2.rest, (textC wd most ⟨bytesOf r, s⟩).2.short) := by
  have hb : Byt (⟨bytesOf r, s⟩ : Cur).rest := byt_bytesOf r
  have h1 := numC_le wd most ⟨bytesOf r, s⟩ hb hm
  have h2 := numC_byt wd most ⟨bytesOf r, s⟩ hb
  unfold frame_cursor_text.f
  rw [number_f r s wd most hw hm hm1]
  simp only [Option.bind_some]
  have ht : textC wd most ⟨bytesOf r, s⟩ = (if (numC wd most ⟨bytesOf r, s⟩).2.short = true ∨ ((numC wd most ⟨bytesOf r, s⟩).2.rest.length : Int) < (numC wd most ⟨bytesOf r, s⟩).1 then ([], ⟨(numC wd most ⟨bytesOf r, s⟩).2.rest, true⟩)
    else ((numC wd most ⟨bytesOf r, s⟩).2.rest.take (numC wd most ⟨bytesOf r, s⟩).1.toNat, ⟨(numC wd most ⟨bytesOf r, s⟩).2.rest.drop (numC wd most ⟨bytesOf r, s⟩).1.toNat, (numC wd most ⟨bytesOf r, s⟩).2.short⟩)) := rfl
  generalize textC wd most ⟨bytesOf r, s⟩ = y at ht ⊢
  generalize numC wd most ⟨bytesOf r, s⟩ = x at h1 h2 ht ⊢
  obtain ⟨n, c⟩ := x
  simp only at h1 h2 ht ⊢
  rw [strOfNums_size]
  by_cases hs : c.short = true
  · rw [if_pos (.inl hs)] at ht
    rw [if_pos hs, ht]
    rfl
  · by_cases hn : n > (c.rest.length : Int)
    · rw [if_pos (.inr hn)] at ht
      rw [if_neg hs, if_pos hn, ht]
      rfl
    · rw [if_neg (by simp only [not_or]; exact ⟨hs, hn⟩)] at ht
      have hsz : n.toNat ≤ (strOfNums c.rest).size := by rw [strOfNums_size]; omega
      have ht2 := extract_tail (strOfNums c.rest) n.toNat hsz
      rw [strOfNums_size] at ht2
      rw [if_neg hs, if_neg hn, if_pos h1.1, if_pos (by omega), ht, extract_head _ _ hsz, ht2, bytesOf_strOfNums _ h2]
def CBox (w0 w : World) (g : Nat) (c : Cur) : Prop := IsS95 w0 w g (strOfNums c.rest) c.short
theorem number_any (g : Nat) (c : Cur) (wd : Nat) (most : Int) (w0 w : World) (hI : CBox w0 w g c) (hB : Below w0.heap.size w0 w) (hb : Byt c.rest) (hw : wd ≤ 8) (hm : 0 ≤ most) (hm1 : most ≤ 9007199254740992) :
    Calls Tryd.prog 45 #[.pointer (some ⟨g, 0, none⟩), .int .i64 (wd : Int), .int .i64 most] w fun e w' => e = .returned (.int .i64 (numC wd most c).1) ∧ CBox w0 w' g (numC wd most c).2 ∧ Below w0.heap.size w0 w' ∧ KeepBut w w' g none := by
  refine frame_cursor_number.calls 9 g _ _ wd most _ _ _ w0 w hI hB ?_
  rw [number_f _ _ wd most hw hm hm1, bytesOf_strOfNums _ hb]
theorem text_any (g : Nat) (c : Cur) (wd : Nat) (most : Int) (w0 w : World) (hI : CBox w0 w g c) (hB : Below w0.heap.size w0 w) (hb : Byt c.rest) (hw : wd ≤ 8) (hm : 0 ≤ most) (hm1 : most ≤ 9007199254740992) :
    Calls Tryd.prog 72 #[.pointer (some ⟨g, 0, none⟩), .int .i64 (wd : Int), .int .i64 most] w fun e w' => e = .returned (.string (strOfNums (textC wd most c).1)) ∧ CBox w0 w' g (textC wd most c).2 ∧ Below w0.heap.size w0 w' ∧ KeepBut w w' g none := by
  refine frame_cursor_text.calls 9 g _ _ wd most _ _ _ w0 w hI hB ?_
  rw [text_f _ _ wd most hw hm hm1, bytesOf_strOfNums _ hb]
end Go.Proofs.YtnifgokjagahfaaDoor.Num

/- read and size of the frame package. -/
set_option linter.unusedVariables false
set_option linter.unusedSimpArgs false
namespace Go.Proofs.YtnifgokjagahfaaDoor.Num
open Go.RowKit Go.Proofs.YtnifgokjagahfaaDoorW.PrintWords Go.Proofs.YtnifgokjagahfaaDoorW.PrintLast Go.Proofs.YtnifgokjagahfaaDoorW.PrintMore
open Go.Proofs.YtnifgokjagahfaaDoor.Base Go.Proofs.YtnifgokjagahfaaDoor.Layouts Go.Proofs.YtnifgokjagahfaaDoor.Msg Go.Proofs.YtnifgokjagahfaaDoor.Put Go.Proofs.YtnifgokjagahfaaDoor.EncPure Go.Proofs.YtnifgokjagahfaaDoor.PFrameDecodes
/-- all but two blocks are as they were -/
def Kept2 (w w' : World) (a b : Nat) : Prop := w.heap.size ≤ w'.heap.size ∧ ∀ i, i < w.heap.size → i ≠ a → i ≠ b → w'.heap[i]? = w.heap[i]?
theorem Kept2.refl (w : World) (a b : Nat) : Kept2 w w a b := ⟨Nat.le_refl _, fun _ _ _ _ => rfl⟩
theorem Kept2.trans {w w1 w2 : World} {a b : Nat} (h : Kept2 w w1 a b) (k : Kept2 w1 w2 a b) : Kept2 w w2 a b :=
  ⟨Nat.le_trans h.1 k.1, fun i hi ha hb => (k.2 i (Nat.lt_of_lt_of_le hi h.1) ha hb).trans (h.2 i hi ha hb)⟩
theorem Kept2.of_but {w w1 : World} {a b : Nat} (h : KeepBut w w1 b none) : Kept2 w w1 a b := ⟨h.1, fun i hi ha hb => h.2 i hi hb (by simp)⟩
theorem Kept2.set {w w1 : World} {a b : Nat} (h : Kept2 w w1 a b) (i : Nat) (v : Value) : Kept2 w (w1.setCell ⟨a, i, none⟩ v) a b :=
  ⟨by simpa using h.1, fun j hj ha hb => (Below.heap_setCell w1 ⟨a, i, none⟩ v j (by simpa using ha)).trans (h.2 j hj ha hb)⟩
theorem mbox_num {w : World} {g : Nat} {m : M} (h : MBox w g m) (f : Nat) (hf : f < 5) (n : Int) : MBox (w.setCell ⟨g, 4 + f, none⟩ (.int .i64 n)) g (setNum m f n) := by
  have e1 : f = 0 ∨ f = 1 ∨ f = 2 ∨ f = 3 ∨ f = 4 := by omega
  have hl : g < (w.setCell ⟨g, 4 + f, none⟩ (.int .i64 n)).heap.size := by simpa using h.lt
  refine ⟨(blk_set h.row _ _).trans ?_, hl⟩
  rcases e1 with e | e | e | e | e <;> subst e <;> simp [mL, setNum]
theorem mbox_text {w : World} {g : Nat} {m : M} (h : MBox w g m) (f : Nat) (hf : f = 5 ∨ f = 6) (t : ByteArray) : MBox (w.setCell ⟨g, 4 + f, none⟩ (.string t)) g (setText m f t) := by
  have hl : g < (w.setCell ⟨g, 4 + f, none⟩ (.string t)).heap.size := by simpa using h.lt
  refine ⟨(blk_set h.row _ _).trans ?_, hl⟩
  rcases hf with e | e <;> subst e <;> simp [mL, setText]
theorem mbox_kept {w w1 : World} {g b : Nat} {m : M} (h : MBox w g m) (hk : KeepBut w w1 b none) (hne : g ≠ b) : MBox w1 g m := ⟨(hk.2 g h.lt hne (by simp)).trans h.row, Nat.lt_of_lt_of_le h.lt hk.1⟩
theorem readC_num (m : M) (f : Nat) (c : Cur) (hf : f < 5) : readC m f c = (setNum m f (numC (wN f) (mostOf f) c).1, (numC (wN f) (mostOf f) c).2) := by unfold readC; rw [if_pos hf]
theorem readC_text (m : M) (f : Nat) (c : Cur) (hf : ¬ f < 5) : readC m f c = (setText m f (strOfNums (textC (wN f) (mostOf f) c).1), (textC (wN f) (mostOf f) c).2) := by unfold readC; rw [if_neg hf]
set_option maxRecDepth 100000 in
set_option maxHeartbeats 4000000 in
theorem read_any (g1 g2 : Nat) (m : M) (c : Cur) (f : Nat) (w0 w : World) (hf : f < 7) (hM : MBox w g1 m) (hM0 : w0.heap.size ≤ g1) (hI : CBox w0 w g2 c) (hB : Below w0.heap.size w0 w) (hb : Byt c.rest) (hne : g1 ≠ g2) :
    Calls Tryd.prog 46 #[.pointer (some ⟨g1, 0, none⟩), .int .u8 (f : Nat), .pointer (some ⟨g2, 0, none⟩)] w fun e w' =>
      e = .returned (.tuple #[]) ∧ MBox w' g1 (readC m f c).1 ∧ CBox w0 w' g2 (readC m f c).2 ∧ Below w0.heap.size w0 w' ∧ Kept2 w w' g1 g2 := by
  have e : f = 0 ∨ f = 1 ∨ f = 2 ∨ f = 3 ∨ f = 4 ∨ f = 5 ∨ f = 6 := by omega
  have HR5 := fun h => Lib.hid (readC_num m f c h)
  have HR6 := fun h => Lib.hid (readC_text m f c h)
  have K8 := fun h => Lib.hid (number_any g2 c 8 9007199254740992 w0 w hI hB hb h (by decide) (by decide))
  have K2 := fun h => Lib.hid (number_any g2 c 2 65535 w0 w hI hB hb h (by decide) (by decide))
  have T2 := fun h => Lib.hid (text_any g2 c 2 255 w0 w hI hB hb h (by decide) (by decide))
  have T4 := fun h => Lib.hid (text_any g2 c 4 4096 w0 w hI hB hb h (by decide) (by decide))
  have HM := Aside0.mk hM
  have HM0 := Aside0.mk hM0
  have HNE := Aside0.mk hne
  clear hM hI hB hb hf hM0 hne
  rcases e with e | e | e | e | e | e | e <;> subst e
  · replace HR5 := HR5 (by decide)
    replace K8 := K8 (by decide)
    clear HR6 K2 T2 T4
    go_enter Tryd.func46, Tryd.ntmps46
    go_wp2_with fail
    refine K8.out.mono ?_
    rintro e w1 ⟨rfl, hI1, hB1, hK1⟩
    have HM1 := Aside0.mk (mbox_kept HM.out hK1 HNE.out)
    have hc : w1.cell? ⟨g1, 4, none⟩ = some (.int .i64 m.epoch) := HM1.out.c 4
    have hfr : w1.frozen? ⟨g1, 4, none⟩ = false := blk_frozen HM1.out.row 4
    have HI1 := Aside0.mk hI1
    have HB1 := Aside0.mk hB1
    have HK1 := Aside0.mk (Kept2.of_but (a := g1) hK1)
    clear hI1 hB1 hK1 K8
    go_wp2
    go_end0
    refine ⟨rfl, ?_, ?_, HB1.out.setCell HM0.out _, HK1.out.set _ _⟩
    · rw [HR5.out]; exact mbox_num HM1.out 0 (by decide) _
    · rw [HR5.out]; exact HI1.out.far (fun e => HNE.out e.symm) _
  · replace HR5 := HR5 (by decide)
    replace K8 := K8 (by decide)
    clear HR6 K2 T2 T4
    go_enter Tryd.func46, Tryd.ntmps46
    go_wp2_with fail
    refine K8.out.mono ?_
    rintro e w1 ⟨rfl, hI1, hB1, hK1⟩
    have HM1 := Aside0.mk (mbox_kept HM.out hK1 HNE.out)
    have hc : w1.cell? ⟨g1, 5, none⟩ = some (.int .i64 m.seq) := HM1.out.c 5
    have hfr : w1.frozen? ⟨g1, 5, none⟩ = false := blk_frozen HM1.out.row 5
    have HI1 := Aside0.mk hI1
    have HB1 := Aside0.mk hB1
    have HK1 := Aside0.mk (Kept2.of_but (a := g1) hK1)
    clear hI1 hB1 hK1 K8
    go_wp2
    go_end0
    refine ⟨rfl, ?_, ?_, HB1.out.setCell HM0.out _, HK1.out.set _ _⟩
    · rw [HR5.out]; exact mbox_num HM1.out 1 (by decide) _
    · rw [HR5.out]; exact HI1.out.far (fun e => HNE.out e.symm) _
  · replace HR5 := HR5 (by decide)
    replace K8 := K8 (by decide)
    clear HR6 K2 T2 T4
    go_enter Tryd.func46, Tryd.ntmps46
    go_wp2_with fail
    refine K8.out.mono ?_
    rintro e w1 ⟨rfl, hI1, hB1, hK1⟩
    have HM1 := Aside0.mk (mbox_kept HM.out hK1 HNE.out)
    have hc : w1.cell? ⟨g1, 6, none⟩ = some (.int .i64 m.version) := HM1.out.c 6
    have hfr : w1.frozen? ⟨g1, 6, none⟩ = false := blk_frozen HM1.out.row 6
    have HI1 := Aside0.mk hI1
    have HB1 := Aside0.mk hB1
    have HK1 := Aside0.mk (Kept2.of_but (a := g1) hK1)
    clear hI1 hB1 hK1 K8
    go_wp2
    go_end0
    refine ⟨rfl, ?_, ?_, HB1.out.setCell HM0.out _, HK1.out.set _ _⟩
    · rw [HR5.out]; exact mbox_num HM1.out 2 (by decide) _
    · rw [HR5.out]; exact HI1.out.far (fun e => HNE.out e.symm) _
  · replace HR5 := HR5 (by decide)
    replace K8 := K8 (by decide)
    clear HR6 K2 T2 T4
    go_enter Tryd.func46, Tryd.ntmps46
    go_wp2_with fail
    refine K8.out.mono ?_
    rintro e w1 ⟨rfl, hI1, hB1, hK1⟩
    have HM1 := Aside0.mk (mbox_kept HM.out hK1 HNE.out)
    have hc : w1.cell? ⟨g1, 7, none⟩ = some (.int .i64 m.prev) := HM1.out.c 7
    have hfr : w1.frozen? ⟨g1, 7, none⟩ = false := blk_frozen HM1.out.row 7
    have HI1 := Aside0.mk hI1
    have HB1 := Aside0.mk hB1
    have HK1 := Aside0.mk (Kept2.of_but (a := g1) hK1)
    clear hI1 hB1 hK1 K8
    go_wp2
    go_end0
    refine ⟨rfl, ?_, ?_, HB1.out.setCell HM0.out _, HK1.out.set _ _⟩
    · rw [HR5.out]; exact mbox_num HM1.out 3 (by decide) _
    · rw [HR5.out]; exact HI1.out.far (fun e => HNE.out e.symm) _
  · replace HR5 := HR5 (by decide)
    replace K2 := K2 (by decide)
    clear HR6 K8 T2 T4
    go_enter Tryd.func46, Tryd.ntmps46
    go_wp2_with fail
    refine K2.out.mono ?_
    rintro e w1 ⟨rfl, hI1, hB1, hK1⟩
    have HM1 := Aside0.mk (mbox_kept HM.out hK1 HNE.out)
    have hc : w1.cell? ⟨g1, 8, none⟩ = some (.int .i64 m.code) := HM1.out.c 8
    have hfr : w1.frozen? ⟨g1, 8, none⟩ = false := blk_frozen HM1.out.row 8
    have HI1 := Aside0.mk hI1
    have HB1 := Aside0.mk hB1
    have HK1 := Aside0.mk (Kept2.of_but (a := g1) hK1)
    clear hI1 hB1 hK1 K2
    go_wp2
    go_end0
    refine ⟨rfl, ?_, ?_, HB1.out.setCell HM0.out _, HK1.out.set _ _⟩
    · rw [HR5.out]; exact mbox_num HM1.out 4 (by decide) _
    · rw [HR5.out]; exact HI1.out.far (fun e => HNE.out e.symm) _
  · replace HR6 := HR6 (by decide)
    replace T2 := T2 (by decide)
    clear HR5 K8 K2 T4
    go_enter Tryd.func46, Tryd.ntmps46
    go_wp2_with fail
    refine T2.out.mono ?_
    rintro e w1 ⟨rfl, hI1, hB1, hK1⟩
    have HM1 := Aside0.mk (mbox_kept HM.out hK1 HNE.out)
    have hc : w1.cell? ⟨g1, 9, none⟩ = some (.string m.key) := HM1.out.c 9
    have hfr : w1.frozen? ⟨g1, 9, none⟩ = false := blk_frozen HM1.out.row 9
    have HI1 := Aside0.mk hI1
    have HB1 := Aside0.mk hB1
    have HK1 := Aside0.mk (Kept2.of_but (a := g1) hK1)
    clear hI1 hB1 hK1 T2
    go_wp2
    go_end0
    refine ⟨rfl, ?_, ?_, HB1.out.setCell HM0.out _, HK1.out.set _ _⟩
    · rw [HR6.out]; exact mbox_text HM1.out 5 (by decide) _
    · rw [HR6.out]; exact HI1.out.far (fun e => HNE.out e.symm) _
  · replace HR6 := HR6 (by decide)
    replace T4 := T4 (by decide)
    clear HR5 K8 K2 T2
    go_enter Tryd.func46, Tryd.ntmps46
    go_wp2_with fail
    refine T4.out.mono ?_
    rintro e w1 ⟨rfl, hI1, hB1, hK1⟩
    have HM1 := Aside0.mk (mbox_kept HM.out hK1 HNE.out)
    have hc : w1.cell? ⟨g1, 10, none⟩ = some (.string m.value) := HM1.out.c 10
    have hfr : w1.frozen? ⟨g1, 10, none⟩ = false := blk_frozen HM1.out.row 10
    have HI1 := Aside0.mk hI1
    have HB1 := Aside0.mk hB1
    have HK1 := Aside0.mk (Kept2.of_but (a := g1) hK1)
    clear hI1 hB1 hK1 T4
    go_wp2
    go_end0
    refine ⟨rfl, ?_, ?_, HB1.out.setCell HM0.out _, HK1.out.set _ _⟩
    · rw [HR6.out]; exact mbox_text HM1.out 6 (by decide) _
    · rw [HR6.out]; exact HI1.out.far (fun e => HNE.out e.symm) _
def sizeL (L : List Int) : Int := if 4383 < val ((L.drop 16).take 4) then -1 else 24 + val ((L.drop 16).take 4)
theorem numC_full {w : Nat} {most : Int} {c : Cur} (h : c.rest.length = w) (hs : c.short = false) : (numC w most c).1 = (if most < val c.rest then 0 else val c.rest) ∧ (numC w most c).2.short = decide (most < val c.rest) := by
  unfold numC
  rw [if_neg (by omega), List.take_of_length_le (by omega)]
  by_cases h1 : most < val c.rest
  · simp [h1]
  · simp [h1, hs]
set_option maxRecDepth 100000 in
set_option maxHeartbeats 4000000 in
theorem size_any (s : ByteArray) (w : World) (hs : 20 ≤ s.size) (hmx : s.size ≤ 9223372036854775807) : Calls Tryd.prog 44 #[.string s] w fun e w' => e = .returned (.int .i64 (sizeL (bytesOf s))) ∧ Below w.heap.size w w' := by
  have hbs := byt_bytesOf s
  have hL : ((bytesOf s).drop 16).take 4 = ((bytesOf s).drop 16).take (20 - 16) := rfl
  have hx := extract_mid s 16 20 (by decide) hs
  have hby : Byt (((bytesOf s).drop 16).take (20 - 16)) := byt_take (byt_drop hbs _) _
  have hlen : (((bytesOf s).drop 16).take (20 - 16)).length = 4 := by rw [List.length_take, List.length_drop, bytesOf_length]; omega
  obtain ⟨hn1, hn2⟩ := numC_full (w := 4) (most := 4383) (c := ⟨((bytesOf s).drop 16).take (20 - 16), false⟩) hlen rfl
  have hv0 := val_nonneg _ hby
  have hSZ : sizeL (bytesOf s) = if 4383 < val (((bytesOf s).drop 16).take (20 - 16)) then -1 else 24 + val (((bytesOf s).drop 16).take (20 - 16)) := rfl
  have hsl := fun wx => run_slice_string (P := Tryd.prog) (w := wx) 9 s .i64 .i64 16 20 Tryd.underlying9 (by decide) (by decide) (by omega)
  have e16 : (16 : Int).toNat = 16 := rfl
  have e20 : (20 : Int).toNat = 20 := rfl
  rw [e16, e20, hx] at hsl
  generalize ((bytesOf s).drop 16).take (20 - 16) = l at hn1 hn2 hSZ hsl hby hv0
  have HI : CBox w (w.alloc (.cells #[.string (strOfNums l), .bool false] 95)) w.heap.size ⟨l, false⟩ := IsS95.new w w (strOfNums l) false (Below.refl _ _)
  have hB := (Below.refl w.heap.size w).alloc (Nat.le_refl _) (.cells #[.string (strOfNums l), .bool false] 95)
  have K := Lib.hid (number_any w.heap.size ⟨l, false⟩ 4 4383 w _ HI hB hby (by decide) (by decide) (by decide))
  generalize numC 4 4383 ⟨l, false⟩ = r at hn1 hn2 K
  obtain ⟨n, c⟩ := r
  simp only at hn1 hn2
  have HN1 := Lib.hid hn1
  have HN2 := Lib.hid hn2
  have HSZ := Lib.hid hSZ
  have HV := Aside0.mk hv0
  clear hn1 hn2 hSZ HI hB hx hL hlen hby hbs hv0 e16 e20
  go_enter Tryd.func44, Tryd.ntmps44
  go_wp2_with fail
  refine K.out.mono ?_
  rintro e w1 ⟨rfl, hI1, hB1, hK1⟩
  have hc : w1.cell? ⟨w.heap.size, 1, none⟩ = some (.bool c.short) := cellS95_1 hI1.1
  have HB1 := Aside0.mk hB1
  clear hI1 hB1 hK1 K
  by_cases hbig : 4383 < val l
  · have h2 : c.short = true := by rw [HN2.out]; exact decide_eq_true hbig
    rw [h2] at hc
    have HBIG := Aside0.mk hbig
    clear hbig h2
    go_wp2
    go_ret
    exact ⟨by rw [HSZ.out, if_pos HBIG.out]; rfl, HB1.out⟩
  · have h2 : c.short = false := by rw [HN2.out]; exact decide_eq_false hbig
    rw [h2] at hc
    rw [if_neg hbig] at HN1
    have HN0 := HN1.out
    have hn0 : 0 ≤ n := by rw [HN0]; exact HV.out
    have hn4 : n ≤ 4383 := by rw [HN0]; omega
    have HBIG := Aside0.mk hbig
    clear hbig h2 HN0
    go_wp2
    go_ret
    exact ⟨by rw [HSZ.out, if_neg (by have := HBIG.out; omega), HN1.out]; rfl, HB1.out⟩
end Go.Proofs.YtnifgokjagahfaaDoor.Num

/- What Decode answers, as a function of the bytes; and its laws. -/
set_option linter.unusedVariables false
set_option linter.unusedSimpArgs false
namespace Go.Proofs.YtnifgokjagahfaaDoor.DecPure
open Go.RowKit Go.Proofs.YtnifgokjagahfaaDoorW.PrintWords Go.Proofs.YtnifgokjagahfaaDoorW.PrintLast Go.Proofs.YtnifgokjagahfaaDoorW.PrintMore
open Go.Proofs.YtnifgokjagahfaaDoor.Base Go.Proofs.YtnifgokjagahfaaDoor.Layouts Go.Proofs.YtnifgokjagahfaaDoor.Msg Go.Proofs.YtnifgokjagahfaaDoor.Put Go.Proofs.YtnifgokjagahfaaDoor.EncPure
def zeroM : M := blankM 0 0 0 0
/-- the four bytes at the end, of a list -/
def sumL (l : List Int) : List Int := le4 (CrcPure.crc (strOfNums l).data.toList)
theorem sumL_length (l : List Int) : (sumL l).length = 4 := rfl
theorem byt_sumL (l : List Int) : Byt (sumL l) := by
  intro x hx
  unfold sumL le4 at hx
  simp only [List.mem_cons, List.not_mem_nil, or_false] at hx
  rcases hx with h | h | h | h <;> subst h <;> omega
theorem sumS_eq (s : ByteArray) : sumS s = strOfNums (sumL (bytesOf s)) := by
  unfold sumS sumL
  rw [strOfNums_bytesOf]
/-- the whole frame -/
def whole (m : M) : List Int := frameB m ++ sumL (frameB m)
def kindL (L : List Int) : Int := L.getD 3 0
def bodyN (L : List Int) : Int := val ((L.drop 16).take 4)
def h1 (L : List Int) : Int × Cur := numC 2 65535 ⟨(L.drop 4).take 12, false⟩
def h2 (L : List Int) : Int × Cur := numC 2 65535 (h1 L).2
def h3 (L : List Int) : Int × Cur := numC 8 9007199254740992 (h2 L).2
def m0 (L : List Int) : M := blankM (kindL L) (h1 L).1 (h2 L).1 (h3 L).1
def pL (L : List Int) : M × Cur := parseC (fieldsOf (kindL L).toNat) (m0 L) ⟨(L.drop 20).take (L.length - 24), false⟩
def badL (L : List Int) : Bool := (h3 L).2.short || ((pL L).2.short || !(pL L).2.rest.isEmpty)
def decP (L : List Int) : M × Int :=
  if L.length < 24 then (zeroM, 51)
  else if L.take 3 ≠ [71, 82, 1] then (zeroM, 52)
  else if ¬ (1 ≤ kindL L ∧ kindL L < 17) then (zeroM, 53)
  else if 4383 < bodyN L ∨ 24 + bodyN L ≠ L.length then (zeroM, 54)
  else if sumL (L.take (L.length - 4)) ≠ L.drop (L.length - 4) then (zeroM, 55)
  else if badL L = true then (zeroM, 56)
  else ((pL L).1, 0)
/-! a frame's parts -/
theorem body_length_le (m : M) (h : vB m = true) (hk : 1 ≤ m.kind ∧ m.kind < 17) : (bodyB m (fieldsOf m.kind.toNat)).length ≤ 4383 := by
  obtain ⟨_, _, _, h4⟩ := vB_facts m h
  have hf : ∀ f, f < 7 → (fieldB m f).length ≤ wN f + (if f = 5 then 255 else if f = 6 then 4096 else 0) := by
    intro f hf
    rw [field_length]
    unfold textOf
    split
    · rename_i e; subst e
      have := (h4 5 (by decide)).2
      rw [(num_size m).1] at this
      have e : mostOf 5 = 255 := rfl
      rw [e] at this
      simp; omega
    · split
      · rename_i e; subst e
        have := (h4 6 (by decide)).2
        rw [(num_size m).2] at this
        have e : mostOf 6 = 4096 := rfl
        rw [e] at this
        simp; omega
      · simp
  have hs : ∀ fs : List Nat, (∀ f ∈ fs, f < 7) → (bodyB m fs).length ≤ (fs.map fun f => wN f + (if f = 5 then 255 else if f = 6 then 4096 else 0)).sum := by
    intro fs
    induction fs with
    | nil => intro _; simp [bodyB]
    | cons f fs ih =>
      intro h
      have h1 := ih (fun g hg => h g (by simp [hg]))
      have h2 := hf f (h f (by simp))
      have e : (bodyB m (f :: fs)).length = (fieldB m f).length + (bodyB m fs).length := by simp [bodyB]
      rw [e]
      simp only [List.map_cons, List.sum_cons]
      omega
  have hk' : m.kind.toNat < 17 := by omega
  refine Nat.le_trans (hs _ (fieldsOf_lt _ hk')) ?_
  have : ∀ k, k < 17 → ((fieldsOf k).map fun f => wN f + (if f = 5 then 255 else if f = 6 then 4096 else 0)).sum ≤ 4383 := by decide
  exact this _ hk'
theorem byt_head (m : M) (hk : 1 ≤ m.kind ∧ m.kind < 17) : Byt (headB m) := by
  unfold headB
  refine byt_append.2 ⟨byt_append.2 ⟨byt_append.2 ⟨?_, be_byt _ _⟩, be_byt _ _⟩, be_byt _ _⟩
  intro x hx
  simp only [List.mem_cons, List.not_mem_nil, or_false] at hx
  rcases hx with h | h | h | h <;> subst h <;> omega
theorem byt_frame (m : M) (hk : 1 ≤ m.kind ∧ m.kind < 17) : Byt (frameB m) := by
  unfold frameB
  exact byt_append.2 ⟨byt_append.2 ⟨byt_head m hk, be_byt _ _⟩, byt_body _ _⟩
theorem byt_whole (m : M) (hk : 1 ≤ m.kind ∧ m.kind < 17) : Byt (whole m) := byt_append.2 ⟨byt_frame m hk, byt_sumL _⟩
theorem frame_length (m : M) : (frameB m).length = 20 + (bodyB m (fieldsOf m.kind.toNat)).length := by
  unfold frameB
  rw [List.length_append, List.length_append, headB_length, be_length]
theorem whole_length (m : M) : (whole m).length = 24 + (bodyB m (fieldsOf m.kind.toNat)).length := by
  unfold whole
  rw [List.length_append, frame_length, sumL_length]
  omega
/-- the parts of a whole frame -/
theorem whole_parts (m : M) : whole m = [71, 82, 1, m.kind] ++ (be m.from_ 2 ++ (be m.to_ 2 ++ be m.id 8)) ++ be (bodyB m (fieldsOf m.kind.toNat)).length 4 ++ bodyB m (fieldsOf m.kind.toNat) ++ sumL (frameB m) := by
  unfold whole frameB headB
  simp only [List.append_assoc]
theorem parts_of {a b c d e : List Int} (ha : a.length = 4) (hb : b.length = 12) (hc : c.length = 4) (he : e.length = 4) {L : List Int} (hL : L = a ++ b ++ c ++ d ++ e) :
    L.take 4 = a ∧ (L.drop 4).take 12 = b ∧ (L.drop 16).take 4 = c ∧ (L.drop 20).take (L.length - 24) = d ∧ L.take (L.length - 4) = a ++ b ++ c ++ d ∧ L.drop (L.length - 4) = e ∧ L.length = 24 + d.length := by
  subst hL
  have hl : (a ++ b ++ c ++ d ++ e).length = 24 + d.length := by simp only [List.length_append]; omega
  have hl2 : (a ++ b ++ c ++ d ++ e).length - 4 = (a ++ b ++ c ++ d).length := by simp only [List.length_append]; omega
  have d4 : (a ++ b ++ c ++ d ++ e).drop 4 = b ++ c ++ d ++ e := by
    simp only [List.append_assoc]; exact List.drop_left' ha
  have d16 : (a ++ b ++ c ++ d ++ e).drop 16 = c ++ d ++ e := by
    have : a ++ b ++ c ++ d ++ e = (a ++ b) ++ (c ++ d ++ e) := by simp only [List.append_assoc]
    rw [this]; exact List.drop_left' (by rw [List.length_append]; omega)
  have d20 : (a ++ b ++ c ++ d ++ e).drop 20 = d ++ e := by
    have : a ++ b ++ c ++ d ++ e = (a ++ b ++ c) ++ (d ++ e) := by simp only [List.append_assoc]
    rw [this]; exact List.drop_left' (by simp only [List.length_append]; omega)
  refine ⟨?_, ?_, ?_, ?_, ?_, ?_, hl⟩
  · simp only [List.append_assoc]; exact List.take_left' ha
  · rw [d4]; simp only [List.append_assoc]; exact List.take_left' hb
  · rw [d16]; simp only [List.append_assoc]; exact List.take_left' hc
  · rw [d20]; exact List.take_left' (by omega)
  · rw [hl2]; exact List.take_left' rfl
  · rw [hl2]; exact List.drop_left' rfl
theorem split_parts (L : List Int) (h : 24 ≤ L.length) : L = L.take 4 ++ (L.drop 4).take 12 ++ (L.drop 16).take 4 ++ (L.drop 20).take (L.length - 24) ++ L.drop (L.length - 4) := by
  have e1 : L.drop (L.length - 4) = (L.drop 20).drop (L.length - 24) := by rw [List.drop_drop]; congr 1; omega
  have e2 : L.drop 20 = (L.drop 16).drop 4 := by rw [List.drop_drop]
  have e3 : L.drop 16 = (L.drop 4).drop 12 := by rw [List.drop_drop]
  rw [List.append_assoc, e1, List.take_append_drop, List.append_assoc, e2, List.take_append_drop, List.append_assoc, e3, List.take_append_drop, List.take_append_drop]
/-- the message's number fields ahead of the body -/
theorem heads_mk {L : List Int} {f t i : Int} (hf : 0 ≤ f ∧ f ≤ 65535) (ht : 0 ≤ t ∧ t ≤ 65535) (hi : 0 ≤ i ∧ i ≤ 9007199254740992) (h : (L.drop 4).take 12 = be f 2 ++ (be t 2 ++ be i 8)) :
    (h1 L).1 = f ∧ (h2 L).1 = t ∧ (h3 L).1 = i ∧ (h3 L).2.short = false := by
  have e1 : h1 L = (f, ⟨be t 2 ++ be i 8, false⟩) := by unfold h1; rw [h]; exact numC_mk _ hf.1 hf.2 (by omega)
  have e2 : h2 L = (t, ⟨be i 8, false⟩) := by unfold h2; rw [e1]; exact numC_mk _ ht.1 ht.2 (by omega)
  have e3 : h3 L = (i, ⟨[], false⟩) := by
    unfold h3; rw [e2]
    have := numC_mk (w := 8) (most := 9007199254740992) (n := i) [] hi.1 hi.2 (by omega)
    rw [List.append_nil] at this
    exact this
  rw [e1, e2, e3]
  exact ⟨rfl, rfl, rfl, rfl⟩
/-- what is laid over a blank message is the message -/
theorem copy_all (m : M) (h : vB m = true) (hk : 1 ≤ m.kind ∧ m.kind < 17) : (fieldsOf m.kind.toNat).foldl (copyF m) (blankM m.kind m.from_ m.to_ m.id) = m := by
  have hh : ∀ (fs : List Nat) (a : M), SameHead (fs.foldl (copyF m) a) a := by
    intro fs
    induction fs with
    | nil => intro a; exact ⟨rfl, rfl, rfl, rfl⟩
    | cons f fs ih =>
      intro a
      refine (ih _).trans ?_
      unfold copyF
      split
      · exact setNum_head _ _ _
      · exact setText_head _ _ _
  have hin : ∀ (a : M) (f : Nat), f < 7 → AgreeF (copyF m a f) m f := by
    intro a f hf
    have e : f = 0 ∨ f = 1 ∨ f = 2 ∨ f = 3 ∨ f = 4 ∨ f = 5 ∨ f = 6 := by omega
    rcases e with e | e | e | e | e | e | e <;> subst e <;> exact ⟨rfl, rfl⟩
  have hout : ∀ (a : M) (f g : Nat), f < 7 → g < 7 → g ≠ f → AgreeF (copyF m a f) a g := by
    intro a f g hf hg hne
    unfold copyF
    split
    · exact agree_set _ _ _ _ (by assumption) hg hne
    · exact agree_text _ _ _ _ (by omega) hg hne
  have ha : ∀ (fs : List Nat) (a : M), (∀ f ∈ fs, f < 7) → ∀ g, g < 7 → (g ∈ fs ∨ AgreeF a m g) → AgreeF (fs.foldl (copyF m) a) m g := by
    intro fs
    induction fs with
    | nil => intro a _ g _ h; rcases h with h | h; cases h; exact h
    | cons f fs ih =>
      intro a hfs g hg h
      refine ih (copyF m a f) (fun x hx => hfs x (by simp [hx])) g hg ?_
      by_cases e : g = f
      · subst e; exact .inr (hin a g hg)
      · rcases h with h | h
        · rcases List.mem_cons.1 h with h | h
          · exact absurd h e
          · exact .inl h
        · exact .inr ((hout a f g (hfs f (by simp)) hg e).trans h)
  have hk' : m.kind.toNat < 17 := by omega
  refine M_ext ((hh _ _).trans ⟨rfl, rfl, rfl, rfl⟩) fun g hg => ha _ _ (fieldsOf_lt _ hk') g hg ?_
  by_cases hm : g ∈ fieldsOf m.kind.toNat
  · exact .inl hm
  · refine .inr ?_
    have h4 := ((vB_iff m).1 h).2.2.2 g hg
    rw [need_not_mem m g hm] at h4
    have z1 := zero_of_num m g (by omega)
    have z2 := zero_blank m.kind m.from_ m.to_ m.id g hg
    exact ⟨z2.1.trans z1.1.symm, z2.2.trans z1.2.symm⟩
theorem kindL_of {L : List Int} {k : Int} (h : L.take 4 = [71, 82, 1, k]) : kindL L = k ∧ L.take 3 = [71, 82, 1] := by
  have e : L.take 3 = (L.take 4).take 3 := by rw [List.take_take]; rfl
  constructor
  · unfold kindL
    have hl : 3 < L.length := by
      have := congrArg List.length h
      rw [List.length_take] at this
      simp at this
      omega
    have h2 : (L.take 4)[3]? = L[3]? := by rw [List.getElem?_take]; rfl
    rw [h] at h2
    simp only [List.getD_eq_getElem?_getD, ← h2]
    rfl
  · rw [e, h]; rfl
/-- a whole frame is read back -/
theorem dec_whole (m : M) (h : vB m = true) (hk : 1 ≤ m.kind ∧ m.kind < 17) : decP (whole m) = (m, 0) := by
  obtain ⟨hf, ht, hi, h4⟩ := vB_facts m h
  have hbl := body_length_le m h hk
  obtain ⟨p1, p2, p3, p4, p5, p6, p7⟩ := parts_of (a := [71, 82, 1, m.kind]) (b := be m.from_ 2 ++ (be m.to_ 2 ++ be m.id 8)) (c := be (bodyB m (fieldsOf m.kind.toNat)).length 4) (d := bodyB m (fieldsOf m.kind.toNat)) (e := sumL (frameB m)) rfl
    (by simp only [List.length_append, be_length]) (be_length _ _) rfl (whole_parts m)
  obtain ⟨k1, k2⟩ := kindL_of p1
  obtain ⟨q1, q2, q3, q4⟩ := heads_mk hf ht hi p2
  have hb : bodyN (whole m) = ((bodyB m (fieldsOf m.kind.toNat)).length : Int) := by
    unfold bodyN; rw [p3]; exact val_be 4 _ (by omega) (by omega)
  have hk' : m.kind.toNat < 17 := by omega
  have hp : pL (whole m) = (m, ⟨[], false⟩) := by
    unfold pL m0
    rw [p4, k1, q1, q2, q3]
    have := parse_mk m (fieldsOf m.kind.toNat) (blankM m.kind m.from_ m.to_ m.id) [] (fun f hf => ⟨fieldsOf_lt _ hk' f hf, h4 f (fieldsOf_lt _ hk' f hf)⟩)
    rw [List.append_nil] at this
    rw [this, copy_all m h hk]
  unfold decP
  rw [if_neg (by omega), if_neg (by simp [k2]), if_neg (by rw [k1]; simp only [Decidable.not_not]; exact hk), if_neg (by rw [hb]; omega), if_neg ?_, if_neg ?_, hp]
  · unfold badL; rw [hp, q4]; simp
  · rw [p5, p6]
    simp only [ne_eq, Decidable.not_not]
    have e : [71, 82, 1, m.kind] ++ (be m.from_ 2 ++ (be m.to_ 2 ++ be m.id 8)) ++ be (bodyB m (fieldsOf m.kind.toNat)).length 4 ++ bodyB m (fieldsOf m.kind.toNat) = frameB m := by
      unfold frameB headB; simp only [List.append_assoc]
    rw [e]
/-- what is read is a whole frame of a valid message -/
theorem dec_ok {L : List Int} {m : M} (hb : Byt L) (h : decP L = (m, 0)) : vB m = true ∧ (1 ≤ m.kind ∧ m.kind < 17) ∧ L = whole m := by
  unfold decP at h
  split at h
  · cases h
  rename_i g1
  split at h
  · cases h
  rename_i g2
  split at h
  · cases h
  rename_i g3
  split at h
  · cases h
  rename_i g4
  split at h
  · cases h
  rename_i g5
  split at h
  · cases h
  rename_i g6
  simp only [ne_eq, Decidable.not_not] at g2 g3 g5
  simp only [not_or, Int.not_lt, ne_eq, Decidable.not_not] at g4
  have hm : (pL L).1 = m := by cases h; rfl
  have hbad : badL L = false := by simpa using g6
  unfold badL at hbad
  simp only [Bool.or_eq_false_iff, Bool.not_eq_false', List.isEmpty_iff] at hbad
  obtain ⟨b1, b2, b3⟩ := hbad
  -- the three numbers
  have hd12 : Byt ((L.drop 4).take 12) := byt_take (byt_drop hb _) _
  generalize e1 : h1 L = r1
  obtain ⟨n1, c1⟩ := r1
  generalize e2 : h2 L = r2
  obtain ⟨n2, c2⟩ := r2
  generalize e3 : h3 L = r3
  obtain ⟨n3, c3⟩ := r3
  have e2' : numC 2 65535 c1 = (n2, c2) := by have := e2; unfold h2 at this; rw [e1] at this; exact this
  have e3' : numC 8 9007199254740992 c2 = (n3, c3) := by have := e3; unfold h3 at this; rw [e2] at this; exact this
  have e1' : numC 2 65535 ⟨(L.drop 4).take 12, false⟩ = (n1, c1) := e1
  rw [e3] at b1
  have hb1 := numC_byt 2 65535 ⟨(L.drop 4).take 12, false⟩ hd12
  rw [e1'] at hb1
  have hb2 := numC_byt 2 65535 c1 hb1
  rw [e2'] at hb2
  obtain ⟨s2, r2, l2, u2, y2⟩ := numC_ok e3' b1 hb2
  obtain ⟨s1, r1, l1, u1, y1⟩ := numC_ok e2' s2 hb1
  obtain ⟨s0, r0, l0, u0, y0⟩ := numC_ok e1' s1 hd12
  have hc3 : c3.rest = [] := by
    have hl : ((L.drop 4).take 12).length = 12 := by rw [List.length_take, List.length_drop]; omega
    have r0' : (L.drop 4).take 12 = be n1 2 ++ c1.rest := r0
    rw [r0', r1, r2] at hl
    simp only [List.length_append, be_length] at hl
    exact List.eq_nil_of_length_eq_zero (by omega)
  have hk' : (kindL L).toNat < 17 := by omega
  have hm0 : m0 L = blankM (kindL L) n1 n2 n3 := by unfold m0; rw [e1, e2, e3]
  have hbody : Byt ((L.drop 20).take (L.length - 24)) := byt_take (byt_drop hb _) _
  generalize ep : pL L = rp at b2 b3 hm
  obtain ⟨mp, cp⟩ := rp
  simp only at b2 b3 hm
  subst hm
  have ep' : parseC (fieldsOf (kindL L).toNat) (m0 L) ⟨(L.drop 20).take (L.length - 24), false⟩ = (mp, cp) := ep
  obtain ⟨_, q2, q3, _, q5⟩ := parse_ok _ _ _ _ _ (fieldsOf_nodup _ hk') (fieldsOf_lt _ hk') ep' b2 hbody
  have hhd := parseC_head (fieldsOf (kindL L).toNat) (m0 L) ⟨(L.drop 20).take (L.length - 24), false⟩
  rw [ep', hm0] at hhd
  obtain ⟨k1, k2, k3, k4⟩ := hhd
  have k1 : mp.kind = kindL L := k1
  have k2 : mp.from_ = n1 := k2
  have k3 : mp.to_ = n2 := k3
  have k4 : mp.id = n3 := k4
  have q2 : (L.drop 20).take (L.length - 24) = bodyB mp (fieldsOf (kindL L).toNat) := by
    have : (L.drop 20).take (L.length - 24) = bodyB mp (fieldsOf (kindL L).toNat) ++ cp.rest := q2
    rw [this, b3, List.append_nil]
  have hv : vB mp = true := by
    refine (vB_iff mp).2 ⟨by rw [k2]; exact ⟨l0, u0⟩, by rw [k3]; exact ⟨l1, u1⟩, by rw [k4]; exact ⟨l2, u2⟩, fun f hf => ?_⟩
    by_cases hmem : f ∈ fieldsOf mp.kind.toNat
    · rw [need_of_mem mp f hmem]
      exact q3 f (by rw [← k1]; exact hmem)
    · rw [need_not_mem mp f hmem]
      have ha := q5 f hf (by rw [← k1]; exact hmem)
      rw [ha.1, hm0, (zero_blank _ _ _ _ f hf).1]
      exact ⟨Int.le_refl _, Int.le_refl _⟩
  refine ⟨hv, by rw [k1]; exact g3, ?_⟩
  have ht4 : L.take 4 = [71, 82, 1, kindL L] := by
    have hl : 3 < L.length := by omega
    have : L.take (3 + 1) = L.take 3 ++ [kindL L] := by
      rw [List.take_add_one, List.getElem?_eq_getElem hl]
      congr 1
      unfold kindL
      simp [List.getD_eq_getElem?_getD, List.getElem?_eq_getElem hl]
    rw [this, g2]; rfl
  have hN : (L.drop 16).take 4 = be (bodyB mp (fieldsOf mp.kind.toNat)).length 4 := by
    have hl : ((L.drop 16).take 4).length = 4 := by rw [List.length_take, List.length_drop]; omega
    have h5 := be_val ((L.drop 16).take 4) (byt_take (byt_drop hb _) _)
    rw [hl] at h5
    have hlen : ((bodyB mp (fieldsOf mp.kind.toNat)).length : Int) = bodyN L := by
      have := congrArg List.length q2
      rw [List.length_take, List.length_drop, k1.symm] at this
      omega
    rw [hlen]
    exact h5.symm
  have h12 : (L.drop 4).take 12 = be mp.from_ 2 ++ (be mp.to_ 2 ++ be mp.id 8) := by
    have r0' : (L.drop 4).take 12 = be n1 2 ++ c1.rest := r0
    rw [r0', r1, r2, hc3, List.append_nil, k2, k3, k4]
  have hL := split_parts L (by omega)
  have hfr : L.take (L.length - 4) = frameB mp := by
    have h20 : L.take (L.length - 4) = L.take 4 ++ (L.drop 4).take 12 ++ (L.drop 16).take 4 ++ (L.drop 20).take (L.length - 24) := by
      have := (parts_of (a := L.take 4) (b := (L.drop 4).take 12) (c := (L.drop 16).take 4) (d := (L.drop 20).take (L.length - 24)) (e := L.drop (L.length - 4)) (by rw [List.length_take]; omega) (by rw [List.length_take, List.length_drop]; omega)
        (by rw [List.length_take, List.length_drop]; omega) (by rw [List.length_drop]; omega) hL).2.2.2.2.1
      exact this
    rw [h20, ht4, h12, hN, q2, ← k1]
    unfold frameB headB
    simp only [List.append_assoc]
  have hsum : L.drop (L.length - 4) = sumL (frameB mp) := by rw [← g5, hfr]
  rw [← List.take_append_drop (L.length - 4) L, hsum, hfr]
  rfl
end Go.Proofs.YtnifgokjagahfaaDoor.DecPure

/- Whole structs in memory: stored, loaded, answered. -/
set_option linter.unusedVariables false
set_option linter.unusedSimpArgs false
namespace Go.Proofs.YtnifgokjagahfaaDoor.Mids
open Go.RowKit Go.Proofs.YtnifgokjagahfaaDoorW.PrintWords Go.Proofs.YtnifgokjagahfaaDoorW.PrintLast Go.Proofs.YtnifgokjagahfaaDoorW.PrintMore
open Go.Proofs.YtnifgokjagahfaaDoor.Base
theorem below_setCells {B : Nat} {w W : World} (h : Below B w W) {b : Nat} (hb : B ≤ b) : ∀ (vs : List Value) (o : Nat), Below B w (W.setCells b o vs)
  | vs, o => by
    induction vs generalizing W o with
    | nil => exact h
    | cons v r ih => exact ih (h.setCell hb v) _
theorem setCells_all {g : Nat} {t : TypeId} : ∀ (vs : List Value) (w : World) (pre old : List Value), old.length = vs.length → w.heap[g]? = some (.cells (pre ++ old).toArray t (0, 0)) → (w.setCells g pre.length vs).heap[g]? = some (.cells (pre ++ vs).toArray t (0, 0))
  | [], w, pre, old, hl, h => by
    have : old = [] := List.eq_nil_of_length_eq_zero (by simpa using hl)
    subst this
    exact h
  | v :: r, w, pre, [], hl, h => by simp at hl
  | v :: r, w, pre, o :: old, hl, h => by
    have e : (w.setCell ⟨g, pre.length, none⟩ v).heap[g]? = some (.cells ((pre ++ [v]) ++ old).toArray t (0, 0)) := by
      refine (blk_set h _ _).trans ?_
      congr 2
      apply Array.ext'
      simp
    have ih := setCells_all r (w.setCell ⟨g, pre.length, none⟩ v) (pre ++ [v]) old (by simpa using hl) e
    have e2 : (pre ++ [v]).length = pre.length + 1 := by simp
    rw [e2] at ih
    show ((w.setCell ⟨g, pre.length, none⟩ v).setCells g (pre.length + 1) r).heap[g]? = _
    rw [ih]
    simp
theorem setCells_whole {w : World} {g : Nat} {t : TypeId} {old vs : List Value} (h : w.heap[g]? = some (.cells old.toArray t (0, 0))) (hl : old.length = vs.length) : (w.setCells g 0 vs).heap[g]? = some (.cells vs.toArray t (0, 0)) := by
  have := setCells_all vs w [] old hl (by simpa using h)
  simpa using this
theorem setCells_size (g : Nat) : ∀ (vs : List Value) (o : Nat) (w : World), (w.setCells g o vs).heap.size = w.heap.size
  | [], _, _ => rfl
  | v :: r, o, w => by
    show ((w.setCell ⟨g, o, none⟩ v).setCells g (o + 1) r).heap.size = _
    rw [setCells_size g r]; simp
theorem setCells_other (g : Nat) {i : Nat} (hi : i ≠ g) : ∀ (vs : List Value) (o : Nat) (w : World), (w.setCells g o vs).heap[i]? = w.heap[i]?
  | [], _, _ => rfl
  | v :: r, o, w => by
    show ((w.setCell ⟨g, o, none⟩ v).setCells g (o + 1) r).heap[i]? = _
    rw [setCells_other g hi r]
    exact Below.heap_setCell w ⟨g, o, none⟩ v i hi
theorem blk_range {w : World} {g : Nat} {t : TypeId} {cs : List Value} (h : w.heap[g]? = some (.cells cs.toArray t (0, 0))) : w.rangeAt g 0 cs := fun j v hv => by
  rw [Nat.zero_add, blk_cell h j, List.getElem?_toArray]; exact hv
theorem blk_there {w : World} {g : Nat} {t : TypeId} {cs : List Value} (h : w.heap[g]? = some (.cells cs.toArray t (0, 0))) : w.there g 0 cs.length := fun j hj => by
  rw [Nat.zero_add, blk_cell h j, List.getElem?_toArray, List.getElem?_eq_getElem hj]
  exact ⟨rfl, blk_frozen h j⟩
theorem results_ct_mid {P : Program} {fn : Func} {p u : Tmp} {ty : TypeId} (h : fn.results = #[.cell p ty, .tmp u]) (tmps : Array Value) (w : World) (g o : Nat) (cs : List Value) (d : TypeDesc)
    (hp : tmps.getD p undef = .pointer (some ⟨g, o, none⟩)) (hg : w.rangeAt g o cs) (hu : P.underlying ty = some d) (hd : d.isRow = true) (hi : (P.info? ty).map (·.size) = some cs.length) :
    (results fn tmps).run P w = .ok (.tuple #[.agg cs.toArray, tmps.getD u undef]) w := by
  have hp' : tmps[p]?.getD undef = .pointer (some ⟨g, o, none⟩) := by simpa using hp
  simp [results, h, hp', asAddr, run_loadVar_mid w g o ty cs d hg hu hd hi]
theorem results_c_mid {P : Program} {fn : Func} {p : Tmp} {ty : TypeId} (h : fn.results = #[.cell p ty]) (tmps : Array Value) (w : World) (g o : Nat) (cs : List Value) (d : TypeDesc)
    (hp : tmps.getD p undef = .pointer (some ⟨g, o, none⟩)) (hg : w.rangeAt g o cs) (hu : P.underlying ty = some d) (hd : d.isRow = true) (hi : (P.info? ty).map (·.size) = some cs.length) :
    (results fn tmps).run P w = .ok (.agg cs.toArray) w := by
  have hp' : tmps[p]?.getD undef = .pointer (some ⟨g, o, none⟩) := by simpa using hp
  simp [results, h, hp', asAddr, run_loadVar_mid w g o ty cs d hg hu hd hi]
end Go.Proofs.YtnifgokjagahfaaDoor.Mids

/- Decode of the frame package. -/
set_option linter.unusedVariables false
set_option linter.unusedSimpArgs false
namespace Go.Proofs.YtnifgokjagahfaaDoor.Dec
open Go.RowKit Go.Proofs.YtnifgokjagahfaaDoorW.PrintWords Go.Proofs.YtnifgokjagahfaaDoorW.PrintLast Go.Proofs.YtnifgokjagahfaaDoorW.PrintMore
open Go.Proofs.YtnifgokjagahfaaDoor.Base Go.Proofs.YtnifgokjagahfaaDoor.Layouts Go.Proofs.YtnifgokjagahfaaDoor.Msg Go.Proofs.YtnifgokjagahfaaDoor.Put Go.Proofs.YtnifgokjagahfaaDoor.EncPure Go.Proofs.YtnifgokjagahfaaDoor.DecPure Go.Proofs.YtnifgokjagahfaaDoor.Num Go.Proofs.YtnifgokjagahfaaDoor.Mids
/-- what a call leaves that answers an error -/
def ErrW (k : Int) (w : World) (e : Ending) (w' : World) : Prop := e = .returned (.tuple #[.agg (mL zeroM).toArray, .int .i64 k]) ∧ Below w.heap.size w w'
theorem infoM : (Tryd.prog.info? 24).map (·.size) = some 11 := by kernel_rfl
theorem mL_length (m : M) : (mL m).length = 11 := rfl
theorem mL_one (m : M) : (mL m).toArray.all (·.oneCell') = true := all_oneCell_toArray (by simp [mL, Value.oneCell'])
/-- the message box that answers -/
theorem err_ret {W : World} {w : World} {m : M} {tmps : Array Value} {k : Int} (hp : tmps.getD 2 undef = .pointer (some ⟨w.heap.size, 0, none⟩)) (hk : tmps.getD 3 undef = .int .i64 k) (h : MBox W w.heap.size m) (hB : Below w.heap.size w W) {d : List _} (hd : d = []) :
    bodyPost Tryd.prog Tryd.f16 (fun e w' => e = .returned (.tuple #[.agg (mL m).toArray, .int .i64 k]) ∧ Below w.heap.size w w') Exit.ret ⟨tmps, d⟩ W := by
  subst hd
  refine bodyPost_ret (v := .tuple #[.agg (mL m).toArray, .int .i64 k]) ?_ rfl ⟨rfl, hB⟩
  rw [← hk]
  exact results_ct_mid rfl tmps W w.heap.size 0 (mL m) _ hp (blk_range h.row) Tryd.underlying24 rfl infoM
set_option maxRecDepth 100000 in
set_option maxHeartbeats 4000000 in
theorem dec_short (s : ByteArray) (w : World) (h : s.size < 24) : Calls Tryd.prog 16 #[.string s] w (ErrW 51 w) := by
  have h' : (s.size : Int) < 24 := by omega
  have HB := Aside0.mk ((Below.refl w.heap.size w).alloc (Nat.le_refl _) (.cells (mL zeroM).toArray 24))
  have HM : Aside0 (MBox (w.alloc (.cells (mL zeroM).toArray 24)) w.heap.size zeroM) := ⟨⟨Go.heap_alloc_new w _, by simp⟩⟩
  clear h
  go_enter Tryd.func16, Tryd.ntmps16
  go_wp2
  exact err_ret (k := 51) (m := zeroM) rfl rfl HM.out HB.out rfl
theorem str_eq (l : List Int) (h : Byt l) (k : List UInt8) : ((strOfNums l).toList == k) = decide (l = k.map fun b => (b.toNat : Int)) := by
  have e : (strOfNums l).toList = l.map fun n => UInt8.ofNat n.toNat := by rw [ByteArray.toList_eq]; exact strOfNums_data l
  have hb := bytesOf_strOfNums l h
  rw [e, Bool.eq_iff_iff, beq_iff_eq, decide_eq_true_iff]
  constructor
  · intro hk
    rw [← hb]
    unfold bytesOf
    rw [strOfNums_data, hk]
  · intro hk
    subst hk
    rw [List.map_map]
    conv => rhs; rw [← List.map_id k]
    apply List.map_congr_left
    intro b _
    simp
theorem kindL_byte (s : ByteArray) (h : 3 < s.size) : kindL (bytesOf s) = ((s[3]'h).toNat : Int) := by
  unfold kindL
  have hl : 3 < (bytesOf s).length := by rw [bytesOf_length]; exact h
  rw [List.getD_eq_getElem?_getD, List.getElem?_eq_getElem hl]
  simp [bytesOf]
  rfl
set_option maxRecDepth 100000 in
set_option maxHeartbeats 4000000 in
theorem dec_magic (s : ByteArray) (w : World) (h : 24 ≤ s.size) (hm : (bytesOf s).take 3 ≠ [71, 82, 1]) : Calls Tryd.prog 16 #[.string s] w (ErrW 52 w) := by
  have h' : ¬ (s.size : Int) < 24 := by omega
  have h3 : (3 : Int) ≤ (s.size : Int) := by omega
  have hx := extract_head s 3 (by omega)
  have hq := str_eq ((bytesOf s).take 3) (byt_take (byt_bytesOf s) 3) [71, 82, 1]
  rw [decide_eq_false (by exact hm)] at hq
  have HB := Aside0.mk ((Below.refl w.heap.size w).alloc (Nat.le_refl _) (.cells (mL zeroM).toArray 24))
  have HM : Aside0 (MBox (w.alloc (.cells (mL zeroM).toArray 24)) w.heap.size zeroM) := ⟨⟨Go.heap_alloc_new w _, by simp⟩⟩
  clear h hm
  go_enter Tryd.func16, Tryd.ntmps16
  go_wp2
  exact err_ret (k := 52) (m := zeroM) rfl rfl HM.out HB.out rfl
set_option maxRecDepth 100000 in
set_option maxHeartbeats 4000000 in
theorem dec_kind (s : ByteArray) (w : World) (h : 24 ≤ s.size) (hm : (bytesOf s).take 3 = [71, 82, 1]) (hk : ¬ (1 ≤ kindL (bytesOf s) ∧ kindL (bytesOf s) < 17)) : Calls Tryd.prog 16 #[.string s] w (ErrW 53 w) := by
  have h' : ¬ (s.size : Int) < 24 := by omega
  have h3 : (3 : Int) ≤ (s.size : Int) := by omega
  have h4 : (3 : Int) < (s.size : Int) := by omega
  have hx := extract_head s 3 (by omega)
  have hq := str_eq ((bytesOf s).take 3) (byt_take (byt_bytesOf s) 3) [71, 82, 1]
  rw [decide_eq_true (by exact hm)] at hq
  have hN3 : 3 < s.size := by omega
  rw [kindL_byte s hN3] at hk
  obtain ⟨kk, hkk⟩ : ∃ kk : Nat, (s[3]'hN3).toNat = kk := ⟨_, rfl⟩
  have hk2 : kk ≤ 255 := by have := (s[3]'hN3).toNat_lt; omega
  rw [hkk] at hk
  have HB := Aside0.mk ((Below.refl w.heap.size w).alloc (Nat.le_refl _) (.cells (mL zeroM).toArray 24))
  have HM : Aside0 (MBox (w.alloc (.cells (mL zeroM).toArray 24)) w.heap.size zeroM) := ⟨⟨Go.heap_alloc_new w _, by simp⟩⟩
  have KN := fun w => Lib.hid (known_no (kk : Int) w hk)
  clear h hm hk
  go_enter Tryd.func16, Tryd.ntmps16
  go_wp2_with fail
  refine (KN _).out.mono ?_
  rintro e w1 ⟨rfl, hb⟩
  have HM1 := Aside0.mk (HM.out.below hb (by simp))
  have HB1 := Aside0.mk (HB.out.trans (hb.mono HB.out.size))
  have hth := blk_there HM1.out.row
  clear hb HM HB
  go_wp2_with ((with_reducible refine gate_store (ty := 24) (x := .tmp 2) (y := .tmp 27) rfl ?_); refine wpList_store_mid rfl 24 (.tmp 2) (.tmp 27) rfl w.heap.size 0 (mL zeroM).toArray rfl rfl hth infoM (mL_one zeroM) ?_)
  exact err_ret (k := 53) (m := zeroM) rfl rfl ⟨setCells_whole HM1.out.row rfl, by rw [setCells_size]; exact HM1.out.lt⟩ (below_setCells HB1.out (Nat.le_refl _) _ _) rfl
theorem str_eq2 (a b : List Int) (ha : Byt a) (hb : Byt b) : ((strOfNums a).toList == (strOfNums b).toList) = decide (a = b) := by
  rw [str_eq a ha, ByteArray.toList_eq]
  have e : ((strOfNums b).data.toList.map fun b => (b.toNat : Int)) = b := bytesOf_strOfNums b hb
  rw [e]
/-- what stands at the third byte, told -/
theorem kind_yes (s : ByteArray) (h : 24 ≤ s.size) (hk : 1 ≤ kindL (bytesOf s) ∧ kindL (bytesOf s) < 17) : ∃ kk : Nat, (s[3]'(by omega)).toNat = kk ∧ kindL (bytesOf s) = (kk : Int) ∧ 1 ≤ (kk : Int) ∧ (kk : Int) < 17 := by
  have e := kindL_byte s (by omega)
  exact ⟨_, rfl, e, by rw [← e]; exact hk.1, by rw [← e]; exact hk.2⟩
set_option maxRecDepth 100000 in
set_option maxHeartbeats 4000000 in
theorem dec_length (s : ByteArray) (w : World) (h : 24 ≤ s.size) (hmx : s.size ≤ 9223372036854775807) (hm : (bytesOf s).take 3 = [71, 82, 1]) (hk : 1 ≤ kindL (bytesOf s) ∧ kindL (bytesOf s) < 17) (hz : sizeL (bytesOf s) < 0 ∨ sizeL (bytesOf s) ≠ s.size) : Calls Tryd.prog 16 #[.string s] w (ErrW 54 w) := by
  have h' : ¬ (s.size : Int) < 24 := by omega
  have h3 : (3 : Int) ≤ (s.size : Int) := by omega
  have h4 : (3 : Int) < (s.size : Int) := by omega
  have hN3 : 3 < s.size := by omega
  have hx := extract_head s 3 (by omega)
  have hq := str_eq ((bytesOf s).take 3) (byt_take (byt_bytesOf s) 3) [71, 82, 1]
  rw [decide_eq_true (by exact hm)] at hq
  obtain ⟨kk, hkk, hke, hk1, hk2⟩ := kind_yes s h hk
  have HB := Aside0.mk ((Below.refl w.heap.size w).alloc (Nat.le_refl _) (.cells (mL zeroM).toArray 24))
  have HM : Aside0 (MBox (w.alloc (.cells (mL zeroM).toArray 24)) w.heap.size zeroM) := ⟨⟨Go.heap_alloc_new w _, by simp⟩⟩
  have KN := fun w => Lib.hid (known_yes (kk : Int) w ⟨hk1, hk2⟩)
  have KS := fun w => size_any s w (by omega) hmx
  generalize sizeL (bytesOf s) = n at KS hz
  have KS' := fun w => Lib.hid (KS w)
  clear hm hk hke KS
  have hz' : n < 0 ∨ (¬ n < 0 ∧ (n != (s.size : Int)) = true) := by
    by_cases hn : n < 0
    · exact .inl hn
    · exact .inr ⟨hn, bne_iff_ne.2 (by omega)⟩
  clear hz
  rcases hz' with hn | ⟨hn, hne⟩
  all_goals
    go_enter Tryd.func16, Tryd.ntmps16
    go_wp2_with fail
    refine (KN _).out.mono ?_
    rintro e w1 ⟨rfl, hb⟩
    have HM1 := Aside0.mk (HM.out.below hb (by simp))
    have HB1 := Aside0.mk (HB.out.trans (hb.mono HB.out.size))
    clear hb
    go_wp2_with fail
    refine (KS' _).out.mono ?_
    rintro e w2 ⟨rfl, hb⟩
    have HM2 := Aside0.mk (HM1.out.below hb HM1.out.lt)
    have HB2 := Aside0.mk (HB1.out.trans (hb.mono HB1.out.size))
    clear hb
    have hth := blk_there HM2.out.row
    go_wp2_with ((with_reducible refine gate_store (ty := 24) (x := .tmp 2) (y := .tmp 38) rfl ?_); refine wpList_store_mid rfl 24 (.tmp 2) (.tmp 38) rfl w.heap.size 0 (mL zeroM).toArray rfl rfl hth infoM (mL_one zeroM) ?_)
    exact err_ret (k := 54) (m := zeroM) rfl rfl ⟨setCells_whole HM2.out.row rfl, by rw [setCells_size]; exact HM2.out.lt⟩ (below_setCells HB2.out (Nat.le_refl _) _ _) rfl
set_option maxRecDepth 100000 in
set_option maxHeartbeats 4000000 in
theorem dec_sum (s : ByteArray) (w : World) (h : 24 ≤ s.size) (hmx : s.size ≤ 9223372036854775807) (hm : (bytesOf s).take 3 = [71, 82, 1]) (hk : 1 ≤ kindL (bytesOf s) ∧ kindL (bytesOf s) < 17) (hz : sizeL (bytesOf s) = s.size) (hN : Crc.Nibs w)
    (hs : sumL ((bytesOf s).take (s.size - 4)) ≠ (bytesOf s).drop (s.size - 4)) : Calls Tryd.prog 16 #[.string s] w (ErrW 55 w) := by
  have h' : ¬ (s.size : Int) < 24 := by omega
  have hz0 := hz
  have h3 : (3 : Int) ≤ (s.size : Int) := by omega
  have h4 : (3 : Int) < (s.size : Int) := by omega
  have hN3 : 3 < s.size := by omega
  have hx := extract_head s 3 (by omega)
  have hq := str_eq ((bytesOf s).take 3) (byt_take (byt_bytesOf s) 3) [71, 82, 1]
  rw [decide_eq_true (by exact hm)] at hq
  obtain ⟨kk, hkk, hke, hk1, hk2⟩ := kind_yes s h hk
  have HB := Aside0.mk ((Below.refl w.heap.size w).alloc (Nat.le_refl _) (.cells (mL zeroM).toArray 24))
  have HM : Aside0 (MBox (w.alloc (.cells (mL zeroM).toArray 24)) w.heap.size zeroM) := ⟨⟨Go.heap_alloc_new w _, by simp⟩⟩
  have HN := Aside0.mk hN
  have KN := fun w => Lib.hid (known_yes (kk : Int) w ⟨hk1, hk2⟩)
  have KS := fun w => size_any s w (by omega) hmx
  rw [hz] at KS
  have KS' := fun w => Lib.hid (KS w)
  have hby := byt_bytesOf s
  have hq2 := str_eq2 (sumL ((bytesOf s).take (s.size - 4))) ((bytesOf s).drop (s.size - 4)) (byt_sumL _) (byt_drop hby _)
  rw [decide_eq_false (by exact hs)] at hq2
  have hS : sumS (strOfNums ((bytesOf s).take (s.size - 4))) = strOfNums (sumL ((bytesOf s).take (s.size - 4))) := by rw [sumS_eq, bytesOf_strOfNums _ (byt_take hby _)]
  have hsm : s.size ≤ 4407 := by
    have hz' := hz0
    unfold sizeL at hz'
    split at hz' <;> omega
  have KU := fun (w : World) (hN : Crc.Nibs w) => sum_any (strOfNums ((bytesOf s).take (s.size - 4))) w (by rw [strOfNums_size, List.length_take]; omega) hN
  rw [hS] at KU
  have hx1 := extract_head s (s.size - 4) (by omega)
  have hx2 := extract_tail s (s.size - 4) (by omega)
  generalize strOfNums ((bytesOf s).take (s.size - 4)) = S1 at KU hx1
  generalize strOfNums (sumL ((bytesOf s).take (s.size - 4))) = S2 at KU hq2
  generalize strOfNums ((bytesOf s).drop (s.size - 4)) = S3 at hx2 hq2
  have hw4 : (0 : Int) ≤ (s.size : Int) - 4 ∧ (s.size : Int) - 4 ≤ s.size ∧ ((s.size : Int) - 4).toNat = s.size - 4 := by omega
  obtain ⟨hw1, hw2, hw3⟩ := hw4
  have hs1 := fun wx => run_slice_string_h (P := Tryd.prog) wx 9 s Tryd.underlying9 .i64 ((s.size : Int) - 4) hw1 hw2
  have hs2 := fun wx => run_slice_string_l (P := Tryd.prog) wx 9 s Tryd.underlying9 .i64 ((s.size : Int) - 4) hw1 hw2
  rw [hw3, hx1] at hs1
  rw [hw3, hx2] at hs2
  have KU' := fun w h => Lib.hid (KU w h)
  clear hm hk hke KS hN hS hby hs hz hz0 hsm KU hx1 hx2 hw3
  go_enter Tryd.func16, Tryd.ntmps16
  go_wp2_with fail
  refine (KN _).out.mono ?_
  rintro e w1 ⟨rfl, hb⟩
  have HM1 := Aside0.mk (HM.out.below hb (by simp))
  have HB1 := Aside0.mk (HB.out.trans (hb.mono HB.out.size))
  clear hb HM HB
  go_wp2_with fail
  refine (KS' _).out.mono ?_
  rintro e w2 ⟨rfl, hb⟩
  have HM2 := Aside0.mk (HM1.out.below hb HM1.out.lt)
  have HB2 := Aside0.mk (HB1.out.trans (hb.mono HB1.out.size))
  have HN2 := Aside0.mk (HN.out.below HB2.out)
  clear hb HM1 HB1
  go_wp2_with fail
  go_region_with ((go_at_call 39; refine (KU' _ (by exact ⟨HN2.out.cell, HN2.out.lt⟩)).out.mono ?_; rintro e w3 ⟨rfl, hb⟩; have HB3 := Aside0.mk hb; clear hb))
  all_goals
    have hb3 : Below w2.heap.size w2 w3 := ⟨HB3.out.os, HB3.out.tape, HB3.out.output, HB3.out.size, HB3.out.block⟩
    have HM3 := Aside0.mk (HM2.out.below hb3 HM2.out.lt)
    have HB4 := Aside0.mk (HB2.out.trans (hb3.mono HB2.out.size))
    clear hb3 HB3 HM2 HB2 HN2 KU' KN KS'
    have hth := blk_there HM3.out.row
    go_wp2_with ((with_reducible refine gate_store (ty := 24) (x := .tmp 2) (y := .tmp 50) rfl ?_); refine wpList_store_mid rfl 24 (.tmp 2) (.tmp 50) rfl w.heap.size 0 (mL zeroM).toArray rfl rfl hth infoM (mL_one zeroM) ?_)
    exact err_ret (k := 55) (m := zeroM) rfl rfl ⟨setCells_whole HM3.out.row rfl, by rw [setCells_size]; exact HM3.out.lt⟩ (below_setCells ⟨HB4.out.os, HB4.out.tape, HB4.out.output, HB4.out.size, HB4.out.block⟩ (Nat.le_refl _) _ _) rfl
end Go.Proofs.YtnifgokjagahfaaDoor.Dec

/- Decode of the frame package: behind the sum. -/
set_option linter.unusedVariables false
set_option linter.unusedSimpArgs false
namespace Go.Proofs.YtnifgokjagahfaaDoor.Dec
open Go.RowKit Go.Proofs.YtnifgokjagahfaaDoorW.PrintWords Go.Proofs.YtnifgokjagahfaaDoorW.PrintLast Go.Proofs.YtnifgokjagahfaaDoorW.PrintMore
open Go.Proofs.YtnifgokjagahfaaDoor.Base Go.Proofs.YtnifgokjagahfaaDoor.Layouts Go.Proofs.YtnifgokjagahfaaDoor.Msg Go.Proofs.YtnifgokjagahfaaDoor.Put Go.Proofs.YtnifgokjagahfaaDoor.EncPure Go.Proofs.YtnifgokjagahfaaDoor.DecPure Go.Proofs.YtnifgokjagahfaaDoor.Num Go.Proofs.YtnifgokjagahfaaDoor.Mids Go.Proofs.YtnifgokjagahfaaDoor.PFrameDecodes
theorem mbox_head {w : World} {g : Nat} {k : Int} (h : MBox w g (blankM k 0 0 0)) (n1 n2 n3 : Int) : MBox (((w.setCell ⟨g, 1, none⟩ (.int .i64 n1)).setCell ⟨g, 2, none⟩ (.int .i64 n2)).setCell ⟨g, 3, none⟩ (.int .i64 n3)) g (blankM k n1 n2 n3) :=
  ⟨(blk_set (blk_set (blk_set h.row 1 (.int .i64 n1)) 2 (.int .i64 n2)) 3 (.int .i64 n3)).trans (by simp [mL, blankM]), by simpa using h.lt⟩
theorem mbox_far {w : World} {g : Nat} {m : M} (h : MBox w g m) {p : Addr} (hp : g ≠ p.block) (v : Value) : MBox (w.setCell p v) g m := ⟨blk_far h.row hp v, by simpa using h.lt⟩
theorem parseC_snoc (f : Nat) : ∀ (fs : List Nat) (m : M) (c : Cur), parseC (fs ++ [f]) m c = readC (parseC fs m c).1 f (parseC fs m c).2
  | [], m, c => rfl
  | g :: fs, m, c => parseC_snoc f fs (readC m g c).1 (readC m g c).2
structure DInv (w wr : World) (gm gd q : Nat) (fs : List Nat) (m0 : M) (l2 : List Int) (j : Nat) : Prop where mk ::
  (ex : ∃ mj cj, parseC (fs.take j) m0 ⟨l2, false⟩ = (mj, cj) ∧ MBox wr gm mj ∧ CBox w wr gd cj ∧ Byt cj.rest)
  (res : MBox wr w.heap.size zeroM) (bel : Below w.heap.size w wr) (row : ∀ j n, fs[j]? = some n → wr.cell? ⟨q, j, none⟩ = some (.int .u8 (n : Nat))) (qlt : q < wr.heap.size)
def DecR (bad : Bool) (m : M) (w : World) (e : Ending) (w' : World) : Prop := e = .returned (.tuple #[.agg (mL (if bad = true then zeroM else m)).toArray, .int .i64 (if bad = true then 56 else 0)]) ∧ Below w.heap.size w w'
theorem empty_str (l : List Int) : (strOfNums l).toList.isEmpty = l.isEmpty := by
  rw [ByteArray.toList_eq, strOfNums_data]
  cases l <;> rfl
set_option maxRecDepth 100000 in
set_option maxHeartbeats 16000000 in
theorem dec_body (s : ByteArray) (w : World) (h : 24 ≤ s.size) (hmx : s.size ≤ 9223372036854775807) (hm : (bytesOf s).take 3 = [71, 82, 1]) (hk : 1 ≤ kindL (bytesOf s) ∧ kindL (bytesOf s) < 17) (hz : sizeL (bytesOf s) = s.size) (hN : Crc.Nibs w)
    (hs : sumL ((bytesOf s).take (s.size - 4)) = (bytesOf s).drop (s.size - 4)) : Calls Tryd.prog 16 #[.string s] w (DecR (badL (bytesOf s)) (pL (bytesOf s)).1 w) := by
  have h' : ¬ (s.size : Int) < 24 := by omega
  have hz0 := hz
  have g3 : (3 : Int) ≤ (s.size : Int) := by omega
  have h4 : (3 : Int) < (s.size : Int) := by omega
  have hN3 : 3 < s.size := by omega
  have hx := extract_head s 3 (by omega)
  have hq := str_eq ((bytesOf s).take 3) (byt_take (byt_bytesOf s) 3) [71, 82, 1]
  rw [decide_eq_true (by exact hm)] at hq
  obtain ⟨kk, hkk, hke, hk1, hk2⟩ := kind_yes s h hk
  have HB := Aside0.mk ((Below.refl w.heap.size w).alloc (Nat.le_refl _) (.cells (mL zeroM).toArray 24))
  have HM : Aside0 (MBox (w.alloc (.cells (mL zeroM).toArray 24)) w.heap.size zeroM) := ⟨⟨Go.heap_alloc_new w _, by simp⟩⟩
  have HN := Aside0.mk hN
  have KN := fun w => Lib.hid (known_yes (kk : Int) w ⟨hk1, hk2⟩)
  have KS := fun w => size_any s w (by omega) hmx
  rw [hz] at KS
  have KS' := fun w => Lib.hid (KS w)
  have hby := byt_bytesOf s
  have hq2 := str_eq2 (sumL ((bytesOf s).take (s.size - 4))) ((bytesOf s).drop (s.size - 4)) (byt_sumL _) (byt_drop hby _)
  rw [decide_eq_true (by exact hs)] at hq2
  have hS : sumS (strOfNums ((bytesOf s).take (s.size - 4))) = strOfNums (sumL ((bytesOf s).take (s.size - 4))) := by rw [sumS_eq, bytesOf_strOfNums _ (byt_take hby _)]
  have hsm : s.size ≤ 4407 := by
    have hz' := hz0
    unfold sizeL at hz'
    split at hz' <;> omega
  have KU := fun (w : World) (hN : Crc.Nibs w) => sum_any (strOfNums ((bytesOf s).take (s.size - 4))) w (by rw [strOfNums_size, List.length_take]; omega) hN
  rw [hS] at KU
  have hx1 := extract_head s (s.size - 4) (by omega)
  have hx2 := extract_tail s (s.size - 4) (by omega)
  have hx4 := extract_mid s 4 16 (by decide) (by omega)
  have hx5 := extract_mid s 20 (s.size - 4) (by omega) (by omega)
  have e5 : s.size - 4 - 20 = s.size - 24 := by omega
  rw [e5] at hx5
  generalize strOfNums ((bytesOf s).take (s.size - 4)) = S1 at KU hx1
  generalize strOfNums (sumL ((bytesOf s).take (s.size - 4))) = S2 at KU hq2
  generalize strOfNums ((bytesOf s).drop (s.size - 4)) = S3 at hx2 hq2
  have hw4 : (0 : Int) ≤ (s.size : Int) - 4 ∧ (s.size : Int) - 4 ≤ s.size ∧ ((s.size : Int) - 4).toNat = s.size - 4 ∧ (20 : Int) ≤ (s.size : Int) - 4 ∧ (16 : Int) ≤ s.size := by omega
  obtain ⟨hw1, hw2, hw3, hw5, hw6⟩ := hw4
  have hs1 := fun wx => run_slice_string_h (P := Tryd.prog) wx 9 s Tryd.underlying9 .i64 ((s.size : Int) - 4) hw1 hw2
  have hs2 := fun wx => run_slice_string_l (P := Tryd.prog) wx 9 s Tryd.underlying9 .i64 ((s.size : Int) - 4) hw1 hw2
  have hs3 := fun wx => run_slice_string (P := Tryd.prog) (w := wx) 9 s .i64 .i64 4 16 Tryd.underlying9 (by decide) (by decide) hw6
  have hs4 := fun wx => run_slice_string (P := Tryd.prog) (w := wx) 9 s .i64 .i64 20 ((s.size : Int) - 4) Tryd.underlying9 (by decide) hw5 hw2
  rw [hw3, hx1] at hs1
  rw [hw3, hx2] at hs2
  have q4 : (4 : Int).toNat = 4 := rfl
  have q16 : (16 : Int).toNat = 16 := rfl
  have q20 : (20 : Int).toNat = 20 := rfl
  rw [q4, q16, hx4] at hs3
  rw [q20, hw3, hx5] at hs4
  have KU' := fun w h => Lib.hid (KU w h)
  have hlen : (bytesOf s).length = s.size := bytesOf_length s
  have hb1 : Byt (⟨((bytesOf s).drop 4).take (16 - 4), false⟩ : Cur).rest := byt_take (byt_drop hby _) _
  have hb2 : Byt (⟨((bytesOf s).drop 20).take (s.size - 24), false⟩ : Cur).rest := byt_take (byt_drop hby _) _
  have hh1 : h1 (bytesOf s) = numC 2 65535 ⟨((bytesOf s).drop 4).take (16 - 4), false⟩ := rfl
  have hh2 : h2 (bytesOf s) = numC 2 65535 (h1 (bytesOf s)).2 := rfl
  have hh3 : h3 (bytesOf s) = numC 8 9007199254740992 (h2 (bytesOf s)).2 := rfl
  have hm0 : m0 (bytesOf s) = blankM (kindL (bytesOf s)) (h1 (bytesOf s)).1 (h2 (bytesOf s)).1 (h3 (bytesOf s)).1 := rfl
  have hpL : pL (bytesOf s) = parseC (fieldsOf (kindL (bytesOf s)).toNat) (m0 (bytesOf s)) ⟨((bytesOf s).drop 20).take (s.size - 24), false⟩ := by unfold pL; rw [hlen]
  have hbad : badL (bytesOf s) = ((h3 (bytesOf s)).2.short || ((pL (bytesOf s)).2.short || !(pL (bytesOf s)).2.rest.isEmpty)) := rfl
  rw [hke] at hm0
  rw [hm0, hke, Int.toNat_natCast] at hpL
  generalize badL (bytesOf s) = bad at hbad ⊢
  generalize pL (bytesOf s) = pr at hbad hpL ⊢
  have K1 := fun g wx hI hB => number_any g ⟨((bytesOf s).drop 4).take (16 - 4), false⟩ 2 65535 w wx hI hB hb1 (by decide) (by decide) (by decide)
  have y1 := numC_byt 2 65535 _ hb1
  rw [← hh1] at K1 y1
  have K2 := fun g wx hI hB => number_any g (h1 (bytesOf s)).2 2 65535 w wx hI hB y1 (by decide) (by decide) (by decide)
  have y2 := numC_byt 2 65535 _ y1
  rw [← hh2] at K2 y2
  have K3 := fun g wx hI hB => number_any g (h2 (bytesOf s)).2 8 9007199254740992 w wx hI hB y2 (by decide) (by decide) (by decide)
  rw [← hh3] at K3
  generalize h3 (bytesOf s) = r3 at K3 hpL hbad
  generalize h2 (bytesOf s) = r2 at K2 K3 hpL
  generalize h1 (bytesOf s) = r1 at K1 K2 hpL
  generalize ((bytesOf s).drop 4).take (16 - 4) = l1 at hs3 K1
  generalize ((bytesOf s).drop 20).take (s.size - 24) = l2 at hs4 hb2 hpL
  obtain ⟨n1, c1⟩ := r1
  obtain ⟨n2, c2⟩ := r2
  obtain ⟨n3, c3⟩ := r3
  simp only at K1 K2 K3 hpL hbad
  have KK1 := fun g wx h1 h2 => Lib.hid (K1 g wx h1 h2)
  have KK2 := fun g wx h1 h2 => Lib.hid (K2 g wx h1 h2)
  have KK3 := fun g wx h1 h2 => Lib.hid (K3 g wx h1 h2)
  have HPL := Lib.hid hpL
  have HBAD := Lib.hid hbad
  have HB2 := Aside0.mk hb2
  clear hm hk hke KS hN hS hby hs hz hz0 hsm KU hx1 hx2 hx4 hx5 hw3 q4 q16 q20 hh1 hh2 hh3 hm0 K1 K2 K3 y1 y2 hb1 hb2 hpL hbad hlen e5
  go_enter Tryd.func16, Tryd.ntmps16
  go_wp2_with fail
  refine (KN _).out.mono ?_
  rintro e w1 ⟨rfl, hb⟩
  have HM1 := Aside0.mk (HM.out.below hb (by simp))
  have HB1 := Aside0.mk (HB.out.trans (hb.mono HB.out.size))
  clear hb HM HB
  go_wp2_with fail
  refine (KS' _).out.mono ?_
  rintro e w2 ⟨rfl, hb⟩
  have HM2 := Aside0.mk (HM1.out.below hb HM1.out.lt)
  have HBW2 := Aside0.mk (HB1.out.trans (hb.mono HB1.out.size))
  have HN2 := Aside0.mk (HN.out.below HBW2.out)
  clear hb HM1 HB1
  go_upto_region 11 with fail
  go_cut [49] (fun v wx => v = .bool false ∧ Aside0 (MBox wx w.heap.size zeroM) ∧ Aside0 (Below w.heap.size w wx))
  case first =>
    go_region_with ((go_at_call 39; refine (KU' _ (by exact ⟨HN2.out.cell, HN2.out.lt⟩)).out.mono ?_; rintro e w3 ⟨rfl, hb⟩; have HB3 := Aside0.mk hb; clear hb))
    all_goals
      have hb3 : Below w2.heap.size w2 w3 := ⟨HB3.out.os, HB3.out.tape, HB3.out.output, HB3.out.size, HB3.out.block⟩
      have HM3 := HM2.out.below hb3 HM2.out.lt
      have HB4 := HBW2.out.trans (hb3.mono HBW2.out.size)
      go_wp2_with fail
      go_meet
      exact ⟨rfl, ⟨⟨HM3.row, HM3.lt⟩⟩, ⟨⟨HB4.os, HB4.tape, HB4.output, HB4.size, HB4.block⟩⟩⟩
  case rest =>
    obtain ⟨rfl, HM3, HB3⟩ := hcut
    have hwc := HM3.out.lt
    have hMR := (HM3.out.below ((Below.refl wc.heap.size wc).alloc (Nat.le_refl _) (.cells #[.string (strOfNums l1), .bool false] 95)) hwc)
    have hMR2 := hMR.below ((Below.refl (wc.heap.size + 1) (wc.alloc (.cells #[.string (strOfNums l1), .bool false] 95))).alloc (by simp) (.cells (mL (blankM (kk : Int) 0 0 0)).toArray 24)) (by omega)
    have hBx := (HB3.out.alloc (by omega) (.cells #[.string (strOfNums l1), .bool false] 95)).alloc (by simp; omega) (.cells (mL (blankM (kk : Int) 0 0 0)).toArray 24)
    have hCx : CBox w ((wc.alloc (.cells #[.string (strOfNums l1), .bool false] 95)).alloc (.cells (mL (blankM (kk : Int) 0 0 0)).toArray 24)) wc.heap.size ⟨l1, false⟩ := IsS95.alloc (IsS95.new w wc (strOfNums l1) false ⟨HB3.out.os, HB3.out.tape, HB3.out.output, HB3.out.size, HB3.out.block⟩) _
    have hMx : MBox ((wc.alloc (.cells #[.string (strOfNums l1), .bool false] 95)).alloc (.cells (mL (blankM (kk : Int) 0 0 0)).toArray 24)) (wc.heap.size + 1) (blankM (kk : Int) 0 0 0) := ⟨by have := Go.heap_alloc_new (wc.alloc (.cells #[.string (strOfNums l1), .bool false] 95)) (.cells (mL (blankM (kk : Int) 0 0 0)).toArray 24); simpa using this, by simp⟩
    have HMR := Aside0.mk hMR2
    have HBX := Aside0.mk hBx
    have HCX := Aside0.mk hCx
    have HMX := Aside0.mk hMx
    have HWC := Aside0.mk hwc
    clear hMR hMR2 hBx hCx hMx HM3 HB3 KN KS' KU' HM2 HBW2 HN2 hwc HN
    go_wp2_with fail
    have hshow : ((wc.alloc (.cells #[.string (strOfNums l1), .bool false] 95)).alloc (.cells (mL (blankM (kk : Int) 0 0 0)).toArray 24)) = ((wc.alloc (.cells #[.string (strOfNums l1), .bool false] 95)).alloc (.cells #[.int .i64 (kk : Int), .int .i64 0, .int .i64 0, .int .i64 0, .int .i64 0, .int .i64 0, .int .i64 0, .int .i64 0, .int .i64 0, .string { data := #[] }, .string { data := #[] }] 24)) := rfl
    rw [← hshow]
    clear hshow
    generalize ((wc.alloc (.cells #[.string (strOfNums l1), .bool false] 95)).alloc (.cells (mL (blankM (kk : Int) 0 0 0)).toArray 24)) = wd at HMR HBX HCX HMX ⊢
    generalize wc.heap.size = gc at HMR HBX HCX HMX HWC ⊢
    refine (KK1 gc _ HCX.out HBX.out).out.mono ?_
    rintro e w4 ⟨rfl, hI, hB, hK⟩
    have HM4 := Aside0.mk (mbox_kept HMX.out hK (by omega))
    have HR4 := Aside0.mk (mbox_kept HMR.out hK (by have := HWC.out; omega))
    have HI4 := Aside0.mk hI
    have HB4 := Aside0.mk hB
    clear hI hB hK HMR HBX HCX HMX KK1
    go_wp2_with fail
    refine (KK2 gc _ HI4.out HB4.out).out.mono ?_
    rintro e w5 ⟨rfl, hI, hB, hK⟩
    have HM5 := Aside0.mk (mbox_kept HM4.out hK (by omega))
    have HR5 := Aside0.mk (mbox_kept HR4.out hK (by have := HWC.out; omega))
    have HI5 := Aside0.mk hI
    have HB5 := Aside0.mk hB
    clear hI hB hK HM4 HR4 HI4 HB4 KK2
    go_wp2_with fail
    refine (KK3 gc _ HI5.out HB5.out).out.mono ?_
    rintro e w6 ⟨rfl, hI, hB, hK⟩
    have HM6 := Aside0.mk (mbox_kept HM5.out hK (by omega))
    have HR6 := Aside0.mk (mbox_kept HR5.out hK (by have := HWC.out; omega))
    have HI6 := Aside0.mk hI
    have HB6 := Aside0.mk hB
    clear hI hB hK HM5 HR5 HI5 HB5 KK3
    have k1 : w6.cell? ⟨gc + 1, 1, none⟩ = some (.int .i64 0) := HM6.out.c 1
    have k2 : w6.cell? ⟨gc + 1, 2, none⟩ = some (.int .i64 0) := HM6.out.c 2
    have k3 : w6.cell? ⟨gc + 1, 3, none⟩ = some (.int .i64 0) := HM6.out.c 3
    have f1 : w6.frozen? ⟨gc + 1, 1, none⟩ = false := blk_frozen HM6.out.row 1
    have f2 : w6.frozen? ⟨gc + 1, 2, none⟩ = false := blk_frozen HM6.out.row 2
    have f3 : w6.frozen? ⟨gc + 1, 3, none⟩ = false := blk_frozen HM6.out.row 3
    have kc : w6.cell? ⟨gc, 1, none⟩ = some (.bool c3.short) := cellS95_1 HI6.out.1
    go_upto_region 17 with fail
    have HMS := Aside0.mk (mbox_head HM6.out n1 n2 n3)
    have HRS := Aside0.mk (mbox_far (mbox_far (mbox_far HR6.out (p := ⟨gc + 1, 1, none⟩) (by have := HWC.out; simp; omega) (.int .i64 n1)) (p := ⟨gc + 1, 2, none⟩) (by have := HWC.out; simp; omega) (.int .i64 n2)) (p := ⟨gc + 1, 3, none⟩) (by have := HWC.out; simp; omega) (.int .i64 n3))
    have HBS := Aside0.mk (((HB6.out.setCell (p := ⟨gc + 1, 1, none⟩) (by have := HWC.out; simp; omega) (.int .i64 n1)).setCell (p := ⟨gc + 1, 2, none⟩) (by have := HWC.out; simp; omega) (.int .i64 n2)).setCell (p := ⟨gc + 1, 3, none⟩) (by have := HWC.out; simp; omega) (.int .i64 n3))
    clear HM6 HR6 HB6 HI6 k1 k2 k3 f1 f2 f3 kc
    generalize (((w6.setCell ⟨gc + 1, 1, none⟩ (.int .i64 n1)).setCell ⟨gc + 1, 2, none⟩ (.int .i64 n2)).setCell ⟨gc + 1, 3, none⟩ (.int .i64 n3)) = ws at HMS HRS HBS ⊢
    have hmlt := HMS.out.lt
    have HML := Aside0.mk hmlt
    have HIX : CBox w (ws.alloc (.cells #[.string (strOfNums l2), .bool false] 95)) ws.heap.size ⟨l2, false⟩ := IsS95.new w ws (strOfNums l2) false HBS.out
    have hMY := HMS.out.below ((Below.refl ws.heap.size ws).alloc (Nat.le_refl _) (.cells #[.string (strOfNums l2), .bool false] 95)) hmlt
    have hRY := HRS.out.below ((Below.refl ws.heap.size ws).alloc (Nat.le_refl _) (.cells #[.string (strOfNums l2), .bool false] 95)) HRS.out.lt
    have hBY := HBS.out.alloc (by have := HWC.out; omega) (.cells #[.string (strOfNums l2), .bool false] 95)
    have HIY := Aside0.mk HIX
    have HMY := Aside0.mk hMY
    have HRY := Aside0.mk hRY
    have HBY := Aside0.mk hBY
    clear HIX hMY hRY hBY hmlt HMS HRS HBS
    go_upto_region 18 with fail
    generalize (ws.alloc (.cells #[.string (strOfNums l2), .bool false] 95)) = wy at HIY HMY HRY HBY ⊢
    have hkl : kk < 17 := by omega
    have hk0 : kk ≠ 0 := by omega
    generalize ws.heap.size = gd at HIY HML ⊢
    go_cut [81, 82, 83] (fun v81 v82 v83 wx => ∃ q : Nat, v81 = .slice (some ⟨q, 0, none⟩) (fieldsOf kk).length (fieldsOf kk).length ∧ v82 = .int .i64 ((fieldsOf kk).length : Int) ∧ v83 = .int .i64 0 ∧ Aside0 (wy.heap.size ≤ q) ∧ Aside0 (∀ j n, (fieldsOf kk)[j]? = some n → wx.cell? ⟨q, j, none⟩ = some (.int .u8 (n : Nat))) ∧ Aside0 (q < wx.heap.size) ∧ Aside0 (Below wy.heap.size wy wx))
    case first =>
      have hc0 : wy.cell? ⟨gc + 1, 0, none⟩ = some (.int .i64 (kk : Int)) := HMY.out.c 0
      have hgl := HMY.out.lt
      have hidx : (kk : Int) < 17 := by omega
      have hidx0 : (0 : Int) ≤ (kk : Int) := by omega
      have HSL := Aside0.mk (show ∀ b, slOf b kk = .slice (some ⟨b + (kk - 1), 0, none⟩) (fieldsOf kk).length (fieldsOf kk).length from fun b => if_neg hk0)
      go_region_with ((go_at_call 37; refine (layouts_lay _).mono ?_; rintro e w7 ⟨rfl, hL, hb, hsz⟩; have hS3 := (hb.cell (p := ⟨gc + 1, 0, none⟩) hgl).trans hc0; have ho3 : w7.cell? ⟨wy.heap.size + 16, kk, none⟩ = some (.slice (some ⟨wy.heap.size + (kk - 1), 0, none⟩) (fieldsOf kk).length (fieldsOf kk).length) := (hL.out kk hkl).trans (congrArg some (HSL.out _)); have HL3 := Aside0.mk hL; have HB3 := Aside0.mk hb; have HZ3 := Aside0.mk hsz; clear hL hb hsz))
      all_goals
        go_wp2_with fail
        go_meet
        refine ⟨wy.heap.size + (kk - 1), rfl, rfl, rfl, ⟨by omega⟩, ⟨fun j n hj => HL3.out.inn kk j n hkl hj⟩, ⟨by have := HZ3.out; simp at this ⊢; omega⟩, ⟨⟨HB3.out.os, HB3.out.tape, HB3.out.output, HB3.out.size, HB3.out.block⟩⟩⟩
    case rest =>
      obtain ⟨q, rfl, rfl, rfl, HQ, HNN, HQL, HBZ⟩ := hcut
      have hdl := IsS95.lt HIY.out
      have hDI : DInv w wc (gc + 1) gd q (fieldsOf kk) (blankM (kk : Int) n1 n2 n3) l2 0 :=
        ⟨⟨_, _, rfl, HMY.out.below HBZ.out HMY.out.lt, IsS95.below HIY.out HBZ.out, HB2.out⟩, HRY.out.below HBZ.out HRY.out.lt, HBY.out.trans (HBZ.out.mono (HBY.out.size)), HNN.out, HQL.out⟩
      have HDI := Aside0.mk hDI
      have HNE : Aside0 (w.heap.size ≠ gc + 1 ∧ w.heap.size ≠ gd ∧ q ≠ gc + 1 ∧ q ≠ gd ∧ gc + 1 ≠ gd ∧ w.heap.size ≤ gc + 1 ∧ w.heap.size ≤ gd) := ⟨by have := HWC.out; have := HML.out; have := HQ.out; omega⟩
      have hfl := fields_len kk hkl
      have HFL := Aside0.mk (fields_lt kk hkl)
      generalize hfs : fieldsOf kk = fs at HNN HDI hfl HFL HPL ⊢
      clear hDI HMY HIY HRY HBY HNN HBZ HQ HQL hdl hfs hkl hk0 HWC HML HB2
      generalize hb3 : c3.short = b3 at HBAD
      go_wp2
      go_loopw [10, 83] (fun _ iv wr => ∃ j : Nat, j ≤ fs.length ∧ iv = .int .i64 (j : Int) ∧ Aside0 (DInv w wr (gc + 1) gd q fs (blankM (kk : Int) n1 n2 n3) l2 j)) (fun _ iv _ => 7 - (intOf iv).toNat)
      case atStart => exact ⟨0, Nat.zero_le _, rfl, HDI⟩
      case round =>
        clear HDI
        obtain ⟨j, hj, rfl, HDI⟩ := hrel
        obtain ⟨wo, rfl⟩ : ∃ wo : World, wo = wr := ⟨_, rfl⟩
        by_cases hlt : j < fs.length
        · obtain ⟨n, hn⟩ : ∃ n, fs[j]? = some n := ⟨_, List.getElem?_eq_getElem hlt⟩
          have hci := HDI.out.row j n hn
          obtain ⟨mj, cj, hp, hMj, hCj, hYj⟩ := HDI.out.ex
          have HP := Lib.hid hp
          have K := Lib.hid (read_any (gc + 1) gd mj cj n w wo (HFL.out j n hn) hMj HNE.out.2.2.2.2.2.1 hCj HDI.out.bel hYj HNE.out.2.2.2.2.1)
          have HY := Aside0.mk hYj
          have HNX : Aside0 (fs.take (j + 1) = fs.take j ++ [n]) := ⟨by rw [List.take_add_one, hn]; rfl⟩
          clear hn hp hMj hCj hYj
          go_wp2_with fail
          refine K.out.mono ?_
          rintro e w8 ⟨rfl, hM, hC, hB, hKp⟩
          have HD2 : Aside0 (DInv w w8 (gc + 1) gd q fs (blankM (kk : Int) n1 n2 n3) l2 (j + 1)) := ⟨⟨⟨_, _, by rw [HNX.out, parseC_snoc, HP.out], hM, hC, readC_byt _ _ _ HY.out⟩, ⟨(hKp.2 _ HDI.out.res.lt HNE.out.1 HNE.out.2.1).trans HDI.out.res.row, Nat.lt_of_lt_of_le HDI.out.res.lt hKp.1⟩, hB, fun j n hj => (World.cell?_of_block (hKp.2 _ HDI.out.qlt HNE.out.2.2.1 HNE.out.2.2.2.1)).trans (HDI.out.row j n hj), Nat.lt_of_lt_of_le HDI.out.qlt hKp.1⟩⟩
          clear hM hC hB hKp K HP
          go_wp2
          go_roundw
          case rel => exact ⟨j + 1, by omega, by go_num, HD2⟩
          case measure => simp [intOf]; omega
        · obtain rfl : j = fs.length := by omega
          obtain ⟨mj, cj, hp, hMj, hCj, hYj⟩ := HDI.out.ex
          rw [List.take_length] at hp
          rw [hp] at HPL
          obtain ⟨rest, sh⟩ := cj
          have hc1 : wo.cell? ⟨gd, 1, none⟩ = some (.bool sh) := cellS95_1 hCj.1
          have hc0 : wo.cell? ⟨gd, 0, none⟩ = some (.string (strOfNums rest)) := cellS95_0 hCj.1
          have he := empty_str rest
          have HMj := Aside0.mk hMj
          have HRS := Aside0.mk HDI.out.res
          have HBL := Aside0.mk HDI.out.bel
          obtain rfl := HPL.out
          simp only at HBAD
          clear hp hMj hCj hYj HDI HPL hfl HFL
          cases b3
          · cases sh
            · by_cases hr : rest.isEmpty = true
              · rw [hr] at he
                have HE := Aside0.mk hr
                clear hr
                have hrg := blk_range HMj.out.row
                have hth := blk_there HRS.out.row
                go_wp2_with (first | ((with_reducible refine gate_load (ty := 24) (x := .tmp 7) rfl ?_); refine wpList_load_mid rfl 24 (.tmp 7) rfl (gc + 1) 0 rfl (mL mj) _ hrg Tryd.underlying24 rfl infoM ?_) | ((with_reducible refine gate_store (ty := 24) (x := .tmp 2) (y := .tmp 106) rfl ?_); refine wpList_store_mid rfl 24 (.tmp 2) (.tmp 106) rfl w.heap.size 0 (mL mj).toArray rfl rfl hth infoM (mL_one mj) ?_))
                have hbt : ¬ bad = true := by rw [HBAD.out, HE.out]; simp
                unfold DecR; rw [if_neg hbt, if_neg hbt]
                exact err_ret (k := 0) (m := mj) rfl rfl ⟨setCells_whole HRS.out.row rfl, by rw [setCells_size]; exact HRS.out.lt⟩ (below_setCells HBL.out (Nat.le_refl _) _ _) rfl
              · have hr' : rest.isEmpty = false := by simpa using hr
                rw [hr'] at he
                have HE := Aside0.mk hr'
                clear hr hr'
                have hth := blk_there HRS.out.row
                go_wp2_with ((with_reducible refine gate_store (ty := 24) (x := .tmp 2) (y := .tmp 105) rfl ?_); refine wpList_store_mid rfl 24 (.tmp 2) (.tmp 105) rfl w.heap.size 0 (mL zeroM).toArray rfl rfl hth infoM (mL_one zeroM) ?_)
                have hbt : bad = true := by rw [HBAD.out]; rw [HE.out]; rfl
                unfold DecR; rw [if_pos hbt, if_pos hbt]
                exact err_ret (k := 56) (m := zeroM) rfl rfl ⟨setCells_whole HRS.out.row rfl, by rw [setCells_size]; exact HRS.out.lt⟩ (below_setCells HBL.out (Nat.le_refl _) _ _) rfl
            · have hth := blk_there HRS.out.row
              go_wp2_with ((with_reducible refine gate_store (ty := 24) (x := .tmp 2) (y := .tmp 105) rfl ?_); refine wpList_store_mid rfl 24 (.tmp 2) (.tmp 105) rfl w.heap.size 0 (mL zeroM).toArray rfl rfl hth infoM (mL_one zeroM) ?_)
              have hbt : bad = true := by rw [HBAD.out]; simp
              unfold DecR; rw [if_pos hbt, if_pos hbt]
              exact err_ret (k := 56) (m := zeroM) rfl rfl ⟨setCells_whole HRS.out.row rfl, by rw [setCells_size]; exact HRS.out.lt⟩ (below_setCells HBL.out (Nat.le_refl _) _ _) rfl
          · have hth := blk_there HRS.out.row
            go_wp2_with ((with_reducible refine gate_store (ty := 24) (x := .tmp 2) (y := .tmp 105) rfl ?_); refine wpList_store_mid rfl 24 (.tmp 2) (.tmp 105) rfl w.heap.size 0 (mL zeroM).toArray rfl rfl hth infoM (mL_one zeroM) ?_)
            have hbt : bad = true := by rw [HBAD.out]; simp
            unfold DecR; rw [if_pos hbt, if_pos hbt]
            exact err_ret (k := 56) (m := zeroM) rfl rfl ⟨setCells_whole HRS.out.row rfl, by rw [setCells_size]; exact HRS.out.lt⟩ (below_setCells HBL.out (Nat.le_refl _) _ _) rfl
end Go.Proofs.YtnifgokjagahfaaDoor.Dec

/- Decode answers as decP says. -/
set_option linter.unusedVariables false
set_option linter.unusedSimpArgs false
namespace Go.Proofs.YtnifgokjagahfaaDoor.Dec
open Go.RowKit Go.Proofs.YtnifgokjagahfaaDoorW.PrintWords Go.Proofs.YtnifgokjagahfaaDoorW.PrintLast Go.Proofs.YtnifgokjagahfaaDoorW.PrintMore
open Go.Proofs.YtnifgokjagahfaaDoor.Base Go.Proofs.YtnifgokjagahfaaDoor.Layouts Go.Proofs.YtnifgokjagahfaaDoor.Msg Go.Proofs.YtnifgokjagahfaaDoor.Put Go.Proofs.YtnifgokjagahfaaDoor.EncPure Go.Proofs.YtnifgokjagahfaaDoor.DecPure Go.Proofs.YtnifgokjagahfaaDoor.Num Go.Proofs.YtnifgokjagahfaaDoor.Mids
theorem bodyN_nonneg (s : ByteArray) : 0 ≤ bodyN (bytesOf s) := val_nonneg _ (byt_take (byt_drop (byt_bytesOf s) _) _)
theorem sizeL_eq (L : List Int) : sizeL L = if 4383 < bodyN L then -1 else 24 + bodyN L := rfl
theorem dec_any (s : ByteArray) (w : World) (hmx : s.size ≤ 9223372036854775807) (hN : Crc.Nibs w) : Calls Tryd.prog 16 #[.string s] w fun e w' => e = .returned (.tuple #[.agg (mL (decP (bytesOf s)).1).toArray, .int .i64 (decP (bytesOf s)).2]) ∧ Below w.heap.size w w' := by
  have hlen : (bytesOf s).length = s.size := bytesOf_length s
  have hb0 := bodyN_nonneg s
  by_cases c1 : s.size < 24
  · have e : decP (bytesOf s) = (zeroM, 51) := by unfold decP; rw [if_pos (by omega)]
    rw [e]; exact dec_short s w c1
  by_cases c2 : (bytesOf s).take 3 = [71, 82, 1]
  case neg =>
    have e : decP (bytesOf s) = (zeroM, 52) := by unfold decP; rw [if_neg (by omega), if_pos c2]
    rw [e]; exact dec_magic s w (by omega) c2
  by_cases c3 : 1 ≤ kindL (bytesOf s) ∧ kindL (bytesOf s) < 17
  case neg =>
    have e : decP (bytesOf s) = (zeroM, 53) := by unfold decP; rw [if_neg (by omega), if_neg (by simp [c2]), if_pos c3]
    rw [e]; exact dec_kind s w (by omega) c2 c3
  have c3' : ¬ ¬ (1 ≤ kindL (bytesOf s) ∧ kindL (bytesOf s) < 17) := fun h => h c3
  by_cases c4 : 4383 < bodyN (bytesOf s) ∨ 24 + bodyN (bytesOf s) ≠ (bytesOf s).length
  · have e : decP (bytesOf s) = (zeroM, 54) := by unfold decP; rw [if_neg (by omega), if_neg (by simp [c2]), if_neg c3', if_pos c4]
    rw [e]
    refine dec_length s w (by omega) hmx c2 c3 ?_
    rw [sizeL_eq]
    rcases c4 with c | c
    · rw [if_pos c]; exact .inl (by decide)
    · by_cases c5 : 4383 < bodyN (bytesOf s)
      · rw [if_pos c5]; exact .inl (by decide)
      · rw [if_neg c5]; exact .inr (by rw [← hlen]; exact c)
  have hz : sizeL (bytesOf s) = s.size := by
    simp only [not_or, Int.not_lt, ne_eq, Decidable.not_not] at c4
    rw [sizeL_eq, if_neg (by omega), c4.2, hlen]
  by_cases c5 : sumL ((bytesOf s).take (s.size - 4)) = (bytesOf s).drop (s.size - 4)
  case neg =>
    have e : decP (bytesOf s) = (zeroM, 55) := by unfold decP; rw [if_neg (by omega), if_neg (by simp [c2]), if_neg c3', if_neg c4, hlen, if_pos c5]
    rw [e]; exact dec_sum s w (by omega) hmx c2 c3 hz hN c5
  refine (dec_body s w (by omega) hmx c2 c3 hz hN c5).mono ?_
  intro e w' h
  unfold DecR at h
  have e1 : decP (bytesOf s) = ((if badL (bytesOf s) = true then zeroM else (pL (bytesOf s)).1), (if badL (bytesOf s) = true then 56 else 0)) := by
    unfold decP
    rw [if_neg (by omega), if_neg (by simp [c2]), if_neg c3', if_neg c4, hlen, if_neg (fun h => h c5)]
    split <;> rfl
  rw [e1]
  exact h
end Go.Proofs.YtnifgokjagahfaaDoor.Dec
