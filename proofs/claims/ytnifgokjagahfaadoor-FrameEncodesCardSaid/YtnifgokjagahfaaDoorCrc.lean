/- The CRC of the digest package: what its functions answer. -/
import Derived.Test.YtnifgokjagahfaaDoorBase
import Derived.Test.YtnifgokjagahfaaDoorCrcPure
set_option linter.unusedVariables false
set_option linter.unusedSimpArgs false
namespace Go.Proofs.YtnifgokjagahfaaDoor.Crc
open Go.RowKit Go.Proofs.YtnifgokjagahfaaDoorW.PrintWords Go.Proofs.YtnifgokjagahfaaDoorW.PrintLast Go.Proofs.YtnifgokjagahfaaDoorW.PrintMore
open Go.Proofs.YtnifgokjagahfaaDoor.Base Go.Proofs.YtnifgokjagahfaaDoor.CrcPure
def nib (i : Nat) : Nat := nibs.getD i 0
/-- the program's table lies where it was laid -/
structure Nibs (w : World) : Prop where mk :: (cell : ∀ i, i < 16 → w.cell? ⟨2, i, none⟩ = some (.int .u32 (nib i : Nat))) (lt : 2 < w.heap.size)
theorem Nibs.below {w w1 : World} (h : Nibs w) (hb : Below w.heap.size w w1) : Nibs w1 :=
  ⟨fun i hi => (hb.cell (p := ⟨2, i, none⟩) h.lt).trans (h.cell i hi), Nat.lt_of_lt_of_le h.lt hb.size⟩
theorem nibs_lt (i : Nat) (h : i < 16) : nib i < 4294967296 := by
  have : ∀ i, i < 16 → nibs.getD i 0 < 4294967296 := by decide
  exact this i h
def half (w : Nat) : Nat := nib (w % 16) ^^^ w / 16
theorem half_lt (w : Nat) (h : w < 4294967296) : half w < 4294967296 := Nat.xor_lt_two_pow (n := 32) (nibs_lt _ (Nat.mod_lt _ (by decide))) (by omega)
theorem half_half (w c : Nat) : half (half (w ^^^ c)) = byteStep w c := byte_nibs w c
set_option maxHeartbeats 1000000 in
theorem through_any (w0 : Nat) (s : ByteArray) (w : World) (hw : w0 < 4294967296) (hs : s.size ≤ 140737488351232) (hT : Nibs w) :
    Calls Tryd.prog 82 #[.int .u32 (w0 : Int), .string s] w fun e w' => e = .returned (.int .u32 (run w0 s.data.toList : Nat)) ∧ w = w' := by
  have HT := Aside0.mk hT
  clear hT
  go_enter Tryd.func82, Tryd.ntmps82
  go_wp2
  go_loop [0, 5] (fun v i => ∃ k : Nat, k ≤ s.size ∧ i = .int .i64 k ∧ v = .int .u32 (run w0 (s.data.toList.take k) : Nat)) (fun _ i => s.size - (intOf i).toNat)
  case atStart => exact ⟨0, Nat.zero_le _, rfl, rfl⟩
  case round =>
    obtain ⟨k, hk, rfl, rfl⟩ := hrel
    by_cases hlt : k < s.size
    · have hc := s[k].toNat_lt
      have hrl : run w0 (s.data.toList.take k) < 4294967296 := run_lt _ hw
      have HN := Lib.hid (show run w0 (s.data.toList.take (k + 1)) = half (half (run w0 (s.data.toList.take k) ^^^ s[k].toNat)) by rw [take_next s k hlt, run_append, half_half]; rfl)
      generalize run w0 (s.data.toList.take k) = x at hrl HN
      have h1 := u32_xor_nat x s[k].toNat hrl (by omega)
      have hy : x ^^^ s[k].toNat < 4294967296 := Nat.xor_lt_two_pow (n := 32) hrl (by omega)
      generalize x ^^^ s[k].toNat = y at h1 hy HN
      have h2 : bits .and .u32 (y : Int) 15 = ((y % 16 : Nat) : Int) := by have := u32_and_nat y 15 hy (by omega); rwa [and15] at this
      have c1 := HT.out.cell (y % 16) (Nat.mod_lt _ (by decide))
      have h3 := u32_xor_nat (nib (y % 16)) (y / 16) (nibs_lt _ (Nat.mod_lt _ (by decide))) (by omega)
      rw [show nib (y % 16) ^^^ y / 16 = half y from rfl, show ((y / 16 : Nat) : Int) = (y : Int) / 16 by omega] at h3
      have hz := half_lt y hy
      generalize half y = z at h3 hz HN
      have h4 : bits .and .u32 (z : Int) 15 = ((z % 16 : Nat) : Int) := by have := u32_and_nat z 15 hz (by omega); rwa [and15] at this
      have c2 := HT.out.cell (z % 16) (Nat.mod_lt _ (by decide))
      have h5 := u32_xor_nat (nib (z % 16)) (z / 16) (nibs_lt _ (Nat.mod_lt _ (by decide))) (by omega)
      rw [show nib (z % 16) ^^^ z / 16 = half z from rfl, show ((z / 16 : Nat) : Int) = (z : Int) / 16 by omega] at h5
      go_wp2
      go_round
      case rel => exact ⟨k + 1, by omega, by go_num, by rw [HN.out]⟩
      case measure => simp [intOf]; omega
    · obtain rfl : k = s.size := by omega
      rw [take_all]
      go_wp2
      go_ret
      exact ⟨rfl, rfl⟩
theorem u32_not (x : Nat) (h : x < 4294967296) : bits .xor .u32 IntKind.u32.max (x : Int) = 4294967295 - (x : Int) := by
  have e : IntKind.u32.max = ((4294967295 : Nat) : Int) := by decide
  have e2 := xor_top x h
  unfold top at e2
  rw [e, u32_xor_nat 4294967295 x (by decide) h, Nat.xor_comm, e2]; omega
/-- all parts, one behind the other -/
def flat (l : List ByteArray) : List UInt8 := l.flatMap fun s => s.data.toList
theorem flat_next (l : List ByteArray) (k : Nat) (h : k < l.length) : flat (l.take (k + 1)) = flat (l.take k) ++ (rdOf ByteArray.empty l (k : Nat)).data.toList := by
  unfold flat
  rw [List.take_add_one, List.flatMap_append]
  simp [rdOf, List.getElem?_eq_getElem h]
theorem rdOf_mem (l : List ByteArray) (k : Nat) (h : k < l.length) : rdOf ByteArray.empty l (k : Nat) ∈ l := by
  simp [rdOf, List.getElem?_eq_getElem h]
set_option maxHeartbeats 1000000 in
theorem CRC_any (A : Option Addr) (c : Nat) (l : List ByteArray) (w : World) (hr : Kd.C Kd.string w A l.length l) (hc : l.length ≤ c) (hl : l.length ≤ 140737488351232) (hs : ∀ s ∈ l, s.size ≤ 140737488351232) (hT : Nibs w) :
    Calls Tryd.prog 68 #[.slice A l.length c] w fun e w' => e = .returned (.int .i64 (crc (flat l) : Nat)) ∧ w = w' := by
  have HT := Aside0.mk hT
  have HR := Aside0.mk hr
  have HS := Aside0.mk hs
  clear hT hr hs
  go_enter Tryd.func68, Tryd.ntmps68
  go_wp2
  go_loop [3, 8] (fun v i => ∃ k : Nat, k ≤ l.length ∧ i = .int .i64 k ∧ v = .int .u32 (run top (flat (l.take k)) : Nat)) (fun _ i => l.length - (intOf i).toNat)
  case atStart => exact ⟨0, Nat.zero_le _, rfl, rfl⟩
  case round =>
    obtain ⟨k, hk, rfl, rfl⟩ := hrel
    have hrl : run top (flat (l.take k)) < 4294967296 := run_lt _ (by decide)
    by_cases hlt : k < l.length
    · have HN := Lib.hid (show run top (flat (l.take (k + 1))) = run (run top (flat (l.take k))) (rdOf ByteArray.empty l (k : Nat)).data.toList by rw [flat_next l k hlt, run_append])
      have hsz := HS.out _ (rdOf_mem l k hlt)
      generalize run top (flat (l.take k)) = x at hrl HN
      obtain ⟨ad, e1, hx⟩ := Kd.at_string HR.out (k : Int) (by omega) (by omega)
      cases e1
      rw [Int.toNat_natCast] at hx
      generalize rdOf ByteArray.empty l (k : Int) = t at hx HN hsz
      go_wp2_with (go_at_call 82; refine (through_any x t _ hrl hsz HT.out).mono ?_; rintro e w' ⟨rfl, rfl⟩)
      go_round
      case rel => exact ⟨k + 1, by omega, by go_num, by rw [HN.out]⟩
      case measure => simp [intOf]; omega
    · obtain rfl : k = l.length := by omega
      have HN := Lib.hid (show ((crc (flat l) : Nat) : Int) = 4294967295 - (run top (flat (l.take l.length)) : Nat) by
        rw [List.take_length]; unfold crc; rw [xor_top _ (run_lt _ (by decide))]; have := run_lt (flat l) (w := top) (by decide); unfold top at *; omega)
      generalize run top (flat (l.take l.length)) = x at hrl HN
      have h9 := u32_not x hrl
      go_wp2
      go_ret
      refine ⟨?_, rfl⟩
      rw [HN.out]
      show Ending.returned (.int .i64 (wrap64 (4294967295 - (x : Int)))) = _
      rw [w64 _ (by omega) (by omega)]
end Go.Proofs.YtnifgokjagahfaaDoor.Crc
