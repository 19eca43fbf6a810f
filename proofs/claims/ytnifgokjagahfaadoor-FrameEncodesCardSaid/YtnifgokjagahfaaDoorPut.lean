/- put and sum of the frame package. -/
import Derived.Test.YtnifgokjagahfaaDoorMsg
import Derived.Test.YtnifgokjagahfaaDoorApp
import Derived.Test.YtnifgokjagahfaaDoorCrc
set_option linter.unusedVariables false
set_option linter.unusedSimpArgs false
namespace Go.Proofs.YtnifgokjagahfaaDoor.Put
open Go.RowKit Go.Proofs.YtnifgokjagahfaaDoorW.PrintWords Go.Proofs.YtnifgokjagahfaaDoorW.PrintLast Go.Proofs.YtnifgokjagahfaaDoorW.PrintMore
open Go.Proofs.YtnifgokjagahfaaDoor.Base Go.Proofs.YtnifgokjagahfaaDoor.App
/-- the first k of wd bytes of N, the highest first -/
def beTo (N : Int) (wd k : Nat) : List Int := (List.range k).map fun j => N / 2 ^ (8 * (wd - 1 - j)) % 256
theorem beTo_length (N : Int) (wd k : Nat) : (beTo N wd k).length = k := by simp [beTo]
theorem beTo_next (N : Int) (wd k : Nat) : beTo N wd (k + 1) = beTo N wd k ++ [N / 2 ^ (8 * (wd - 1 - k)) % 256] := by simp [beTo, List.range_succ]
def be (N : Int) (wd : Nat) : List Int := beTo N wd wd
set_option maxRecDepth 100000 in
set_option maxHeartbeats 4000000 in
theorem put_own (base : Nat) (v : Value) (n : Nat) (xs : List Value) (N : Int) (wd : Nat) (w : World) (hO : w.ownsRow base 5 1 v n xs) (hb : base ≤ w.heap.size) (hN0 : 0 ≤ N) (hN : N ≤ 9223372036854775807) (hw0 : 1 ≤ wd) (hw1 : wd ≤ 8) (hn : n ≤ 1000000) :
    Calls Tryd.prog 36 #[v, .int .i64 N, .int .i64 (wd : Int)] w fun e w' => ∃ v', e = .returned v' ∧ w'.ownsRow base 5 1 v' (n + wd) (xs ++ nums .u8 (be N wd)) ∧ Below base w w' ∧ KeepTy 5 w w' := by
  have HO := Aside0.mk hO
  have HB := Aside0.mk (Below.refl base w)
  clear hO
  go_enter Tryd.func36, Tryd.ntmps36
  go_wp2
  go_loopw [0, 7] (fun sv iv wr => ∃ k : Nat, k ≤ wd ∧ iv = .int .i64 ((wd : Int) - 1 - (k : Int)) ∧ Aside0 (wr.ownsRow base 5 1 sv (n + k) (xs ++ nums .u8 (beTo N wd k))) ∧ Aside0 (Below base w wr) ∧ Aside0 (KeepTy 5 w wr)) (fun _ iv _ => (intOf iv + 1).toNat)
  case atStart => exact ⟨0, Nat.zero_le _, by simp, ⟨by simpa [beTo, nums] using HO.out⟩, HB, ⟨KeepTy.refl _ _⟩⟩
  case round =>
    clear HO HB
    obtain ⟨k, hk, rfl, HO, HB, HT⟩ := hrel
    obtain ⟨wo, rfl⟩ : ∃ wo : World, wo = wr := ⟨_, rfl⟩
    by_cases hlt : k < wd
    · have hsz := HB.out.size
      have HZ : Aside0 (base ≤ wo.heap.size) := ⟨by omega⟩
      have HN := Lib.hid (beTo_next N wd k)
      obtain ⟨i, hi⟩ : ∃ i : Nat, (wd : Int) - 1 - (k : Int) = (i : Int) ∧ i = wd - 1 - k := ⟨wd - 1 - k, by omega, rfl⟩
      rw [← hi.2] at HN
      have hi7 : i ≤ 7 := by omega
      have hie := hi.1
      have HI := Aside0.mk hi
      clear hsz hi
      rw [hie]
      clear hie
      have hnew := news wo [.int .u8 (N / 2 ^ (8 * i) % 256)] 5
      go_wp2_with (at_builtin; go_loud (refine list_append_at (P := Tryd.prog) (w0 := w) base rfl (.tmp 14) (.tmp 20) 82 5 (.int .u8 0) 1 rfl Tryd.underlying82 info8 rfl (by decide) _ (n + k) (xs ++ nums .u8 (beTo N wd k)) wo.heap.size 1 1 [.int .u8 (N / 2 ^ (8 * i) % 256)] rfl rfl rfl ?h1 ?hc (HO.out.alloc _) (HB.out.alloc HZ.out _) ?hs ?hl ?_); (case h1 => simp [Value.oneCell']); (case hc => exact hnew); (case hs => have := HZ.out; simp; omega); (case hl => omega); intro v1 w1 HO1 HB1 HG1; have HT1 := Aside0.mk ((HT.out.alloc (.cells [Value.int .u8 (N / 2 ^ (8 * i) % 256)].toArray 5)).grown (HO.out.alloc _) HG1); clear HG1)
      go_roundw
      case rel =>
        refine ⟨k + 1, by omega, ?_, ⟨?_⟩, ⟨HB1⟩, HT1⟩
        · have := HI.out.1
          congr 1; omega
        · rw [HN.out, nums_append, ← List.append_assoc]
          exact HO1
      case measure => have := HI.out; simp [intOf]
    · obtain rfl : k = wd := by omega
      have hneg : (k : Int) - 1 - (k : Int) = -1 := by omega
      rw [hneg]
      go_wp2
      go_ret
      exact ⟨_, rfl, HO.out, HB.out, HT.out⟩
/-- the four bytes at a frame's end -/
def le4 (x : Nat) : List Int := [((x % 256 : Nat) : Int), ((x / 256 % 256 : Nat) : Int), ((x / 65536 % 256 : Nat) : Int), ((x / 16777216 % 256 : Nat) : Int)]
def sumS (s : ByteArray) : ByteArray := strOfNums (le4 (CrcPure.crc s.data.toList))
set_option maxRecDepth 100000 in
set_option maxHeartbeats 2000000 in
theorem sum_any (s : ByteArray) (w : World) (hs : s.size ≤ 140737488351232) (hN : Crc.Nibs w) : Calls Tryd.prog 39 #[.string s] w fun e w' => e = .returned (.string (sumS s)) ∧ Below w.heap.size w w' := by
  have hB := (Below.refl w.heap.size w).alloc (Nat.le_refl _) (.cells #[.string s] 9)
  have hC : Kd.C Kd.string (w.alloc (.cells #[.string s] 9)) (some ⟨w.heap.size, 0, none⟩) 1 [s] := by
    refine Kd.C_of_reads (d := ByteArray.empty) ⟨rfl, by simp, fun h => ⟨_, rfl, fun j hj => ?_⟩⟩
    have hn := Go.heap_alloc_new w (.cells #[.string s] 9)
    have hj0 : j = 0 := by simpa using hj
    subst hj0
    exact cell_of_row _ _ _ _ _ _ hn
  have hf : Crc.flat [s] = s.data.toList := by simp [Crc.flat]
  have kc := Crc.CRC_any (some ⟨w.heap.size, 0, none⟩) 1 [s] _ hC (by simp) (by simp) (by simp only [List.mem_cons, List.not_mem_nil, or_false]; rintro x rfl; exact hs) (hN.below hB)
  rw [hf] at kc
  have hS : sumS s = strOfNums (le4 (CrcPure.crc s.data.toList)) := rfl
  have hlt := CrcPure.crc_lt s.data.toList
  have KC := Aside0.mk kc
  have HS := Lib.hid hS
  have HB := Aside0.mk hB
  clear kc hC hB hf hS hN
  generalize CrcPure.crc s.data.toList = x at KC HS hlt
  have hnew := news (w.alloc (.cells #[.string s] 9)) [.int .u8 ((x : Int) % 256), .int .u8 ((x : Int) / 256 % 256), .int .u8 ((x : Int) / 65536 % 256), .int .u8 ((x : Int) / 16777216)] 5
  go_enter Tryd.func39, Tryd.ntmps39
  go_wp2_with fail
  refine KC.out.mono ?_
  rintro e w' ⟨rfl, rfl⟩
  have hcv := run_convert_bytes_arg (P := Tryd.prog) ((w.alloc (.cells #[.string s] 9)).alloc (.cells [Value.int .u8 ((x : Int) % 256), .int .u8 ((x : Int) / 256 % 256), .int .u8 ((x : Int) / 65536 % 256), .int .u8 ((x : Int) / 16777216)].toArray 5)) 82 5 Tryd.underlying82 Tryd.underlying5 (w.alloc (.cells #[.string s] 9)).heap.size 0 4 4 (le4 x) rfl (fun i hi => by
    rw [Nat.zero_add]
    refine hnew i _ ?_
    have e : i = 0 ∨ i = 1 ∨ i = 2 ∨ i = 3 := by omega
    have e4 : ((x / 16777216 % 256 : Nat) : Int) = (x : Int) / 16777216 := by omega
    rcases e with e | e | e | e <;> subst e <;> simp only [le4, List.getD_cons_zero, List.getD_cons_succ, List.getElem?_cons_zero, List.getElem?_cons_succ, e4] <;> simp) 9 Tryd.underlying9
  have hsz1 : (w.alloc (.cells #[.string s] 9)).heap.size = w.heap.size + 1 := by simp
  rw [hsz1, ← HS.out] at hcv
  clear hnew
  have HB2 := Aside0.mk (HB.out.alloc HB.out.size (.cells [Value.int .u8 ((x : Int) % 256), .int .u8 ((x : Int) / 256 % 256), .int .u8 ((x : Int) / 65536 % 256), .int .u8 ((x : Int) / 16777216)].toArray 5))
  go_wp2
  go_ret
  exact ⟨rfl, HB2.out⟩
end Go.Proofs.YtnifgokjagahfaaDoor.Put
