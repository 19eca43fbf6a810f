/- The cursor's number and text, read and size: of the frame package. -/
import Derived.Test.YtnifgokjagahfaaDoorEncPure
import Derived.Test.YtnifgokjagahfaaDoorPFrameDecodesx1
set_option linter.unusedVariables false
set_option linter.unusedSimpArgs false
namespace Go.Proofs.YtnifgokjagahfaaDoor.Num
open Go.RowKit Go.Proofs.YtnifgokjagahfaaDoorW.PrintWords Go.Proofs.YtnifgokjagahfaaDoorW.PrintLast Go.Proofs.YtnifgokjagahfaaDoorW.PrintMore
open Go.Proofs.YtnifgokjagahfaaDoor.Base Go.Proofs.YtnifgokjagahfaaDoor.Layouts Go.Proofs.YtnifgokjagahfaaDoor.Msg Go.Proofs.YtnifgokjagahfaaDoor.Put Go.Proofs.YtnifgokjagahfaaDoor.EncPure Go.Proofs.YtnifgokjagahfaaDoor.PFrameDecodes
theorem u64_or (a b : Int) (ha : 0 ≤ a) (ha1 : a < 72057594037927936) (hb : 0 ≤ b) (hb1 : b < 256) : Go.bits .or .u64 (IntKind.u64.wrap (a * 256)) (IntKind.u64.wrap b) = 256 * a + b := by
  obtain ⟨x, rfl⟩ : ∃ x : Nat, a = (x : Int) := ⟨a.toNat, by omega⟩
  obtain ⟨y, rfl⟩ : ∃ y : Nat, b = (y : Int) := ⟨b.toNat, by omega⟩
  have e1 : IntKind.u64.wrap ((x : Int) * 256) = ((256 * x : Nat) : Int) := by rw [IntKind.wrap_u64]; omega
  have e2 : IntKind.u64.wrap (y : Int) = ((y : Nat) : Int) := by rw [IntKind.wrap_u64]; omega
  rw [e1, e2, (bits_gen .u64 (256 * x) y (by show _ < 18446744073709551616; omega) (by show _ < 18446744073709551616; omega)).2.2]
  have h := Nat.two_pow_add_eq_or_of_lt (i := 8) (b := y) (by omega) x
  have h' : 256 * x + y = 256 * x ||| y := h
  rw [← h', IntKind.wrap_u64]
  omega
theorem take_bytes_next (r : ByteArray) (i : Nat) (h : i < r.size) : (bytesOf r).take (i + 1) = (bytesOf r).take i ++ [bt r (i : Int)] := by
  have hl : i < (bytesOf r).length := by rw [bytesOf_length]; exact h
  rw [List.take_add_one, List.getElem?_eq_getElem hl]
  congr 2
  rw [← rd_bytesOf]
  simp [rd, List.getD_eq_getElem?_getD, List.getElem?_eq_getElem hl]
theorem pow256_le (i : Nat) (h : i < 8) : (256 : Int) ^ i ≤ 72057594037927936 := by
  have : ∀ i, i < 8 → (256 : Int) ^ i ≤ 72057594037927936 := by decide
  exact this i h
theorem extract_tail (r : ByteArray) (k : Nat) (h : k ≤ r.size) : r.extract k r.size = strOfNums ((bytesOf r).drop k) := by
  have e : bytesOf (r.extract k r.size) = (bytesOf r).drop k := by
    unfold bytesOf
    rw [← List.map_drop]
    congr 1
    rw [ByteArray.data_extract, Array.toList_extract]
    rw [List.extract_eq_take_drop]
    rw [List.take_of_length_le]
    rw [List.length_drop, data_length]
    exact Nat.le_refl _
  rw [← strOfNums_bytesOf (r.extract k r.size), e]
theorem extract_head (r : ByteArray) (k : Nat) (h : k ≤ r.size) : r.extract 0 k = strOfNums ((bytesOf r).take k) := by
  have e : bytesOf (r.extract 0 k) = (bytesOf r).take k := by
    unfold bytesOf
    rw [← List.map_take]
    congr 1
    rw [ByteArray.data_extract, Array.toList_extract]
    simp [List.extract_eq_take_drop]
  rw [← strOfNums_bytesOf (r.extract 0 k), e]
theorem extract_mid (r : ByteArray) (i j : Nat) (h : i ≤ j) (h1 : j ≤ r.size) : r.extract i j = strOfNums (((bytesOf r).drop i).take (j - i)) := by
  have e : bytesOf (r.extract i j) = ((bytesOf r).drop i).take (j - i) := by
    unfold bytesOf
    rw [← List.map_drop, ← List.map_take]
    congr 1
    rw [ByteArray.data_extract, Array.toList_extract, List.extract_eq_take_drop]
  rw [← strOfNums_bytesOf (r.extract i j), e]
theorem number_l (r : ByteArray) (s : Bool) (wd : Nat) (most : Int) (hw : wd ≤ 8) (hr : wd ≤ r.size) (hm : 0 ≤ most) (hm1 : most ≤ 9007199254740992) (d : Nat) : ∀ (i k : Nat), i ≤ wd → wd - i = d → d < k →
    frame_cursor_number.l0 k wd most (val ((bytesOf r).take i)) i r s = some ((numC wd most ⟨bytesOf r, s⟩).1, strOfNums (numC wd most ⟨bytesOf r, s⟩).2.rest, (numC wd most ⟨bytesOf r, s⟩).2.short) := by
  have hby := byt_bytesOf r
  induction d with
  | zero =>
    intro i k hi hd hk
    obtain ⟨k, rfl⟩ : ∃ m, k = m + 1 := ⟨k - 1, by omega⟩
    obtain rfl : i = wd := by omega
    have h0 := val_nonneg _ (byt_take hby i)
    have e1 : IntKind.u64.wrap most = most := by rw [IntKind.wrap_u64]; omega
    have e2 : ((i : Nat) : Int).toNat = i := Int.toNat_natCast i
    simp only [frame_cursor_number.l0]
    rw [if_neg (by omega), if_pos (by omega), if_pos (by omega), e1, e2, extract_tail r i hr]
    have hlen : (⟨bytesOf r, s⟩ : Cur).rest.length = r.size := bytesOf_length r
    by_cases h : most < val ((bytesOf r).take i)
    · have e : numC i most ⟨bytesOf r, s⟩ = (0, ⟨(bytesOf r).drop i, true⟩) := by unfold numC; rw [if_neg (by omega), if_pos h]
      rw [if_pos h, e]
    · have e : numC i most ⟨bytesOf r, s⟩ = (val ((bytesOf r).take i), ⟨(bytesOf r).drop i, s⟩) := by unfold numC; rw [if_neg (by omega), if_neg h]
      have e3 : wrap64 (val ((bytesOf r).take i)) = val ((bytesOf r).take i) := w64 _ (by omega) (by omega)
      rw [if_neg h, e, e3]
  | succ d ih =>
    intro i k hi hd hk
    obtain ⟨k, rfl⟩ : ∃ m, k = m + 1 := ⟨k - 1, by omega⟩
    have hlt : i < r.size := by omega
    have hi := ih (i + 1) k (by omega) (by omega) (by omega)
    have c1 : (i : Int) < (wd : Int) := by omega
    have c2 : (0 : Int) ≤ (i : Int) := by omega
    have c3 : (i : Int) < (r.size : Int) := by omega
    have h0 := val_nonneg _ (byt_take hby i)
    have h1 := val_lt _ (byt_take hby i)
    have hl : ((bytesOf r).take i).length = i := by rw [List.length_take, bytesOf_length]; omega
    rw [hl] at h1
    have h2 := pow256_le i (by omega)
    have hb := bt_range r (i : Int)
    have e := take_bytes_next r i hlt
    have e3 : wrap64 ((i : Int) + 1) = ((i + 1 : Nat) : Int) := by rw [w64 _ (by omega) (by omega)]; omega
    have h3 : val ((bytesOf r).take i) < 72057594037927936 := Int.lt_of_lt_of_le h1 h2
    clear h1 h2
    have hv : 256 * val ((bytesOf r).take i) + bt r (i : Int) = val ((bytesOf r).take (i + 1)) := by rw [e, val_snoc]
    generalize val ((bytesOf r).take (i + 1)) = y at hv hi
    generalize val ((bytesOf r).take i) = x at hv h0 h3 ⊢
    generalize hbb : bt r (i : Int) = b at hv hb
    have ho := u64_or x b h0 h3 hb.1 (Int.lt_of_le_of_lt hb.2 (by decide))
    rw [hv, ← hbb] at ho
    simp only [frame_cursor_number.l0]
    rw [if_pos c1, if_pos c2, if_pos c3, ho, e3]
    exact hi
theorem number_f (r : ByteArray) (s : Bool) (wd : Nat) (most : Int) (hw : wd ≤ 8) (hm : 0 ≤ most) (hm1 : most ≤ 9007199254740992) :
    frame_cursor_number.f 9 r s wd most = some ((numC wd most ⟨bytesOf r, s⟩).1, strOfNums (numC wd most ⟨bytesOf r, s⟩).2.rest, (numC wd most ⟨bytesOf r, s⟩).2.short) := by
  unfold frame_cursor_number.f
  by_cases h : r.size < wd
  · rw [if_pos (by omega)]
    have e : numC wd most ⟨bytesOf r, s⟩ = (0, ⟨bytesOf r, true⟩) := by unfold numC; rw [if_pos (by rw [bytesOf_length]; exact h)]
    rw [e]
    simp only [strOfNums_bytesOf]
  · rw [if_neg (by omega)]
    exact number_l r s wd most hw (by omega) hm hm1 (wd - 0) 0 9 (by omega) rfl (by omega)
theorem numC_le (wd : Nat) (most : Int) (c : Cur) (hb : Byt c.rest) (hm : 0 ≤ most) : 0 ≤ (numC wd most c).1 ∧ (numC wd most c).1 ≤ most ∧ (numC wd most c).2.rest.length ≤ c.rest.length := by
  unfold numC
  split
  · exact ⟨Int.le_refl _, hm, Nat.le_refl _⟩
  · split
    · exact ⟨Int.le_refl _, hm, by simp⟩
    · exact ⟨val_nonneg _ (byt_take hb _), by simp only; omega, by simp⟩
theorem text_f (r : ByteArray) (s : Bool) (wd : Nat) (most : Int) (hw : wd ≤ 8) (hm : 0 ≤ most) (hm1 : most ≤ 9007199254740992) :
    frame_cursor_text.f 9 r s wd most = some (strOfNums (textC wd most ⟨bytesOf r, s⟩).1, strOfNums (textC wd most ⟨bytesOf r, s⟩).2.rest, (textC wd most ⟨bytesOf r, s⟩).2.short) := by
  have hb : Byt (⟨bytesOf r, s⟩ : Cur).rest := byt_bytesOf r
  have h1 := numC_le wd most ⟨bytesOf r, s⟩ hb hm
  have h2 := numC_byt wd most ⟨bytesOf r, s⟩ hb
  unfold frame_cursor_text.f
  rw [number_f r s wd most hw hm hm1]
  simp only [Option.bind_some]
  have ht : textC wd most ⟨bytesOf r, s⟩ = (if (numC wd most ⟨bytesOf r, s⟩).2.short = true ∨ ((numC wd most ⟨bytesOf r, s⟩).2.rest.length : Int) < (numC wd most ⟨bytesOf r, s⟩).1 then ([], ⟨(numC wd most ⟨bytesOf r, s⟩).2.rest, true⟩)
    else ((numC wd most ⟨bytesOf r, s⟩).2.rest.take (numC wd most ⟨bytesOf r, s⟩).1.toNat, ⟨(numC wd most ⟨bytesOf r, s⟩).2.rest.drop (numC wd most ⟨bytesOf r, s⟩).1.toNat, (numC wd most ⟨bytesOf r, s⟩).2.short⟩)) := rfl
  generalize textC wd most ⟨bytesOf r, s⟩ = y at ht ⊢
  generalize numC wd most ⟨bytesOf r, s⟩ = x at h1 h2 ht ⊢
  obtain ⟨n, c⟩ := x
  simp only at h1 h2 ht ⊢
  rw [strOfNums_size]
  by_cases hs : c.short = true
  · rw [if_pos (.inl hs)] at ht
    rw [if_pos hs, ht]
    rfl
  · by_cases hn : n > (c.rest.length : Int)
    · rw [if_pos (.inr hn)] at ht
      rw [if_neg hs, if_pos hn, ht]
      rfl
    · rw [if_neg (by simp only [not_or]; exact ⟨hs, hn⟩)] at ht
      have hsz : n.toNat ≤ (strOfNums c.rest).size := by rw [strOfNums_size]; omega
      have ht2 := extract_tail (strOfNums c.rest) n.toNat hsz
      rw [strOfNums_size] at ht2
      rw [if_neg hs, if_neg hn, if_pos h1.1, if_pos (by omega), ht, extract_head _ _ hsz, ht2, bytesOf_strOfNums _ h2]
def CBox (w0 w : World) (g : Nat) (c : Cur) : Prop := IsS95 w0 w g (strOfNums c.rest) c.short
theorem number_any (g : Nat) (c : Cur) (wd : Nat) (most : Int) (w0 w : World) (hI : CBox w0 w g c) (hB : Below w0.heap.size w0 w) (hb : Byt c.rest) (hw : wd ≤ 8) (hm : 0 ≤ most) (hm1 : most ≤ 9007199254740992) :
    Calls Tryd.prog 45 #[.pointer (some ⟨g, 0, none⟩), .int .i64 (wd : Int), .int .i64 most] w fun e w' => e = .returned (.int .i64 (numC wd most c).1) ∧ CBox w0 w' g (numC wd most c).2 ∧ Below w0.heap.size w0 w' ∧ KeepBut w w' g none := by
  refine frame_cursor_number.calls 9 g _ _ wd most _ _ _ w0 w hI hB ?_
  rw [number_f _ _ wd most hw hm hm1, bytesOf_strOfNums _ hb]
theorem text_any (g : Nat) (c : Cur) (wd : Nat) (most : Int) (w0 w : World) (hI : CBox w0 w g c) (hB : Below w0.heap.size w0 w) (hb : Byt c.rest) (hw : wd ≤ 8) (hm : 0 ≤ most) (hm1 : most ≤ 9007199254740992) :
    Calls Tryd.prog 72 #[.pointer (some ⟨g, 0, none⟩), .int .i64 (wd : Int), .int .i64 most] w fun e w' => e = .returned (.string (strOfNums (textC wd most c).1)) ∧ CBox w0 w' g (textC wd most c).2 ∧ Below w0.heap.size w0 w' ∧ KeepBut w w' g none := by
  refine frame_cursor_text.calls 9 g _ _ wd most _ _ _ w0 w hI hB ?_
  rw [text_f _ _ wd most hw hm hm1, bytesOf_strOfNums _ hb]
end Go.Proofs.YtnifgokjagahfaaDoor.Num
