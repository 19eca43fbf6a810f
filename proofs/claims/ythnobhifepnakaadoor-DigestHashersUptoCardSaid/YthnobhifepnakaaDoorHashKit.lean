/- Small words on Hashers, for walks that hold several. -/
import Derived.Test.YthnobhifepnakaaDoorSum
import Derived.Test.YthnobhifepnakaaDoorRefCRC
set_option linter.unusedVariables false
set_option linter.unusedSimpArgs false
namespace Go.Proofs.YthnobhifepnakaaDoor.HashKit
open Go.RowKit Go.Proofs.YthnobhifepnakaaDoorW.PrintWords Go.Proofs.YthnobhifepnakaaDoorW.PrintLast Go.Proofs.YthnobhifepnakaaDoorW.PrintMore
open Go.Proofs.YthnobhifepnakaaDoor.Base Go.Proofs.YthnobhifepnakaaDoor.Hasher Go.Proofs.YthnobhifepnakaaDoor.Words Go.Proofs.YthnobhifepnakaaDoor.Take Go.Proofs.YthnobhifepnakaaDoor.Mix Go.Proofs.YthnobhifepnakaaDoor.RefCRC Go.Proofs.YthnobhifepnakaaDoor.PDigestCRCs
open Go.Proofs.YthnobhifepnakaaDoor.CrcPure (crc crc_append crc_lt)
open Go.Proofs.YthnobhifepnakaaDoor.Crc (Nibs)
theorem hash_lt {w : World} {b : Nat} {L : List UInt8} {c : Int} (h : Hash w b L c) : b < w.heap.size := by
  obtain ⟨st, tl, hR⟩ := h
  exact hR.lt
theorem hash_after {w w1 : World} {b : Nat} {L : List UInt8} {c : Int} (h : Hash w b L c) (k : Below w.heap.size w w1) : Hash w1 b L c := by
  obtain ⟨st, tl, hR⟩ := h
  exact ⟨st, tl, hR.after k⟩
theorem hash_only {w w1 : World} {a b : Nat} {L : List UInt8} {c : Int} (h : Hash w b L c) (k : Only a w w1) (hne : b ≠ a) : Hash w1 b L c := by
  obtain ⟨st, tl, hR⟩ := h
  exact ⟨st, tl, hR.abs, (k.block b hR.lt hne).trans hR.row⟩
theorem app_toList (x y : ByteArray) : (x ++ y).data.toList = x.data.toList ++ y.data.toList := by simp
theorem nil_toList : (⟨#[]⟩ : ByteArray).data.toList = [] := rfl
theorem crc_nil : ((crc [] : Nat) : Int) = 0 := by decide
theorem countS (b : Nat) (S : ByteArray) (c : Int) (w : World) (h : Hash w b S.data.toList c) : Calls Tryd.prog 30 #[.pointer (some ⟨b, 0, none⟩)] w fun e w' => e = .returned (.int .i64 (S.size : Nat)) ∧ w = w' := by
  have := count_any b _ c w h
  rwa [size_toList] at this
theorem writeS (b : Nat) (S s S2 : ByteArray) (e2 : S2 = S ++ s) (w : World) (h : Hash w b S.data.toList (crc S.data.toList : Nat)) (hG : Glob w) (hN : Nibs w) (hb : 4 < b) (hn : S.size + s.size ≤ 140737488351232) :
    Calls Tryd.prog 29 #[.pointer (some ⟨b, 0, none⟩), .string s] w fun e w' => e = .returned (.int .i64 0) ∧ Only b w w' ∧ Hash w' b S2.data.toList (crc S2.data.toList : Nat) := by
  have := write_any b S.data.toList s w h hG hN hb (by rw [size_toList]; exact hn)
  rw [← app_toList, ← e2] at this
  exact this
theorem num_any (n : Int) (w : World) : Calls Tryd.prog 20 #[.int .i64 n] w fun e w' => e = .returned (.int .i64 n) ∧ w = w' := by
  go_enter Tryd.func20, Tryd.ntmps20
  go_wp2
  go_ret
  exact ⟨rfl, rfl⟩
theorem refcrc_any (s : ByteArray) (w : World) (hs : s.size ≤ 1073741824) :
    Calls Tryd.prog 15 #[.string s] w fun e w' => e = .returned (.int .i64 (crc s.data.toList : Nat)) ∧ Drawn0 w w' := by
  obtain ⟨k, hk⟩ := crc_f s hs
  exact granaryref2_CRC.calls k s _ w hk
end Go.Proofs.YthnobhifepnakaaDoor.HashKit
