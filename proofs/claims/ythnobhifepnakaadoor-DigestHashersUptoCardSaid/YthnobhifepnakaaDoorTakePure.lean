/- What a Hasher holds of the bytes that came. -/
import Derived.Test.YthnobhifepnakaaDoorMd5Pure
namespace Go.Proofs.YthnobhifepnakaaDoor.Md5Pure
structure Abs (st : St) (tl L : List UInt8) : Prop where mk ::
  (state : st = blkN first L (L.length / 64)) (len : tl.length = 64) (head : tl.take (L.length % 64) = L.drop (64 * (L.length / 64)))
def spl (tl : List UInt8) (h : Nat) (x : List UInt8) : List UInt8 := tl.take h ++ x ++ tl.drop (h + x.length)
theorem spl_length (tl : List UInt8) (h : Nat) (x : List UInt8) (hh : h + x.length ≤ tl.length) : (spl tl h x).length = tl.length := by
  simp [spl]; omega
theorem Abs.ok {st : St} {tl L : List UInt8} (h : Abs st tl L) : st.ok := by rw [h.state]; exact blkN_ok _ first_ok _ _
theorem Abs.part {st : St} {tl L : List UInt8} (h : Abs st tl L) (x : List UInt8) (hx : L.length % 64 + x.length < 64) : Abs st (spl tl (L.length % 64) x) (L ++ x) := by
  have e1 : (L ++ x).length / 64 = L.length / 64 := by rw [List.length_append]; omega
  have e2 : (L ++ x).length % 64 = L.length % 64 + x.length := by rw [List.length_append]; omega
  have hl := h.len
  refine ⟨?_, ?_, ?_⟩
  · rw [e1, blkN_append _ _ _ _ (by omega)]; exact h.state
  · rw [spl_length _ _ _ (by omega)]; exact hl
  · rw [e1, e2, List.drop_append_of_le_length (by omega), ← h.head]
    unfold spl
    rw [List.take_append_of_le_length (by simp; omega), List.take_of_length_le (l := tl.take (L.length % 64) ++ x) (by simp; omega)]
theorem Abs.full {st : St} {tl L : List UInt8} (h : Abs st tl L) (x : List UInt8) (hx : L.length % 64 + x.length = 64) : Abs (mdBlock st (spl tl (L.length % 64) x)) (spl tl (L.length % 64) x) (L ++ x) := by
  have e1 : (L ++ x).length / 64 = L.length / 64 + 1 := by rw [List.length_append]; omega
  have e2 : (L ++ x).length % 64 = 0 := by rw [List.length_append]; omega
  have hl := h.len
  refine ⟨?_, ?_, ?_⟩
  · rw [e1]
    unfold blkN
    rw [blkN_append _ _ _ _ (by omega), ← h.state, List.drop_append_of_le_length (by omega), ← h.head]
    unfold spl
    rw [List.drop_of_length_le (by omega), List.append_nil, List.take_of_length_le (l := tl.take (L.length % 64) ++ x) (by simp; omega)]
  · rw [spl_length _ _ _ (by omega)]; exact hl
  · rw [e2, List.take_zero, e1, List.drop_of_length_le (by rw [List.length_append]; omega)]
theorem Abs.start : Abs first (List.replicate 64 0) [] := ⟨rfl, rfl, rfl⟩
theorem Abs.sum {st : St} {tl L : List UInt8} (h : Abs st tl (L ++ tail L.length)) : told st = md5 L := by
  unfold md5; rw [h.state]
end Go.Proofs.YthnobhifepnakaaDoor.Md5Pure
