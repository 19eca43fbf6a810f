/- NewHasher and the methods of Hasher in the digest package. -/
import Derived.Test.YthnobhifepnakaaDoorWords
import Derived.Test.YthnobhifepnakaaDoorCrc
set_option linter.unusedVariables false
set_option linter.unusedSimpArgs false
namespace Go.Proofs.YthnobhifepnakaaDoor.Hasher
open Go.RowKit Go.Proofs.YthnobhifepnakaaDoorW.PrintWords Go.Proofs.YthnobhifepnakaaDoorW.PrintLast Go.Proofs.YthnobhifepnakaaDoorW.PrintMore
open Go.Proofs.YthnobhifepnakaaDoor.Base Go.Proofs.YthnobhifepnakaaDoor.Mix Go.Proofs.YthnobhifepnakaaDoor.Take Go.Proofs.YthnobhifepnakaaDoor.Words
open Go.Proofs.YthnobhifepnakaaDoor.Md5Pure (St mdBlock Abs spl spl_length told bytes4 md5 first padN len8)
open Go.Proofs.YthnobhifepnakaaDoor.CrcPure (run crc run_append run_lt crc_lt top xor_top)
open Go.Proofs.YthnobhifepnakaaDoor.Crc (through_any Nibs u32_not)
/-- what the program laid down -/
structure Glob (w : World) : Prop where mk ::
  (tabs : Tabs w) (first : w.rangeAt 1 0 (stL first))
theorem Glob.lt1 {w : World} (h : Glob w) : 1 < w.heap.size := Nat.lt_trans (by decide) h.tabs.lt4
theorem Glob.below {w w1 : World} (h : Glob w) (hb : Below w.heap.size w w1) : Glob w1 :=
  ⟨h.tabs.below hb, fun j v hv => (hb.cell (p := ⟨1, 0 + j, none⟩) h.lt1).trans (h.first j v hv)⟩
theorem Glob.only {b : Nat} {w w1 : World} (h : Glob w) (k : Only b w w1) (hb : 4 < b) : Glob w1 :=
  ⟨tabs_only h.tabs k (Nat.lt_trans (by decide) hb) hb, fun j v hv => (World.cell?_of_block (k.block 1 h.lt1 (Nat.ne_of_lt (Nat.lt_trans (by decide) hb)))).trans (h.first j v hv)⟩
/-- a Hasher's pointer, to which L has come -/
def Hash (w : World) (b : Nat) (L : List UInt8) (crc : Int) : Prop := ∃ st tl, Rep w b L st tl crc (L.length : Nat)
theorem fresh (w : World) : Hash (w.alloc (.cells (hC first (List.replicate 64 0) 0 0).toArray 84)) w.heap.size [] 0 := ⟨_, _, Abs.start, Go.heap_alloc_new w _⟩
theorem first_lit : stL first = [.int .u32 1732584193, .int .u32 4023233417, .int .u32 2562383102, .int .u32 271733878] := rfl
set_option maxRecDepth 100000 in
set_option maxHeartbeats 2000000 in
theorem new_any (w : World) (hG : Glob w) : Calls Tryd.prog 28 #[] w fun e w' => e = .returned (.pointer (some ⟨w.heap.size, 0, none⟩)) ∧ w' = w.alloc (.cells (hC first (List.replicate 64 0) 0 0).toArray 84) := by
  have hrg := hG.first
  rw [first_lit] at hrg
  have hi81 : (Tryd.prog.info? 81).map (·.size) = some 4 := by kernel_rfl
  clear hG
  go_enter Tryd.func28, Tryd.ntmps28
  go_wp2_with ((with_reducible refine gate_load (ty := 81) (x := .global 1) rfl ?_); refine wpList_load_mid rfl 81 (.global 1) rfl 1 0 rfl _ _ hrg Tryd.underlying81 rfl hi81 ?_)
  go_ret
  exact ⟨rfl, rfl⟩
theorem count_any (b : Nat) (L : List UInt8) (c : Int) (w : World) (h : Hash w b L c) : Calls Tryd.prog 30 #[.pointer (some ⟨b, 0, none⟩)] w fun e w' => e = .returned (.int .i64 (L.length : Nat)) ∧ w = w' := by
  obtain ⟨st, tl, hR⟩ := h
  have hcn := hR.cnt
  clear hR
  go_enter Tryd.func30, Tryd.ntmps30
  go_wp2
  go_ret
  exact ⟨rfl, rfl⟩
theorem crcOf_any (b : Nat) (L : List UInt8) (c : Nat) (hc : c < 4294967296) (w : World) (h : Hash w b L (c : Nat)) : Calls Tryd.prog 32 #[.pointer (some ⟨b, 0, none⟩)] w fun e w' => e = .returned (.int .i64 (c : Nat)) ∧ w = w' := by
  obtain ⟨st, tl, hR⟩ := h
  have hcn := hR.crc
  clear hR
  go_enter Tryd.func32, Tryd.ntmps32
  go_wp2
  go_ret
  exact ⟨rfl, rfl⟩
theorem run_crc (L s : List UInt8) : 4294967295 - run (4294967295 - crc L) s = crc (L ++ s) ∧ crc L < 4294967296 ∧ run (4294967295 - crc L) s < 4294967296 := by
  have h0 := run_lt L (w := top) (by decide)
  have h1 := xor_top (run top L) h0
  have h2 := run_lt (L ++ s) (w := top) (by decide)
  have h3 := xor_top (run top (L ++ s)) h2
  have e : 4294967295 - crc L = run top L := by unfold crc; rw [h1]; unfold top at *; omega
  rw [e, ← run_append]
  refine ⟨?_, crc_lt L, h2⟩
  unfold crc; rw [h3]; rfl
set_option maxRecDepth 100000 in
set_option maxHeartbeats 2000000 in
theorem write_any (b : Nat) (L : List UInt8) (s : ByteArray) (w : World) (h : Hash w b L (crc L : Nat)) (hG : Glob w) (hN : Nibs w) (hb : 4 < b) (hn : L.length + s.size ≤ 140737488351232) :
    Calls Tryd.prog 29 #[.pointer (some ⟨b, 0, none⟩), .string s] w fun e w' => e = .returned (.int .i64 0) ∧ Only b w w' ∧ Hash w' b (L ++ s.data.toList) (crc (L ++ s.data.toList) : Nat) := by
  obtain ⟨st, tl, hR⟩ := h
  have hcn := hR.crc
  have hfn := hR.frozen 68
  have HR := Aside0.mk hR
  have HG := Aside0.mk hG
  have HN := Aside0.mk hN
  have hq := run_crc L s.data.toList
  have HQ := Aside0.mk hq
  have hx1 := u32_not (crc L) hq.2.1
  have hx2 := u32_not (run (4294967295 - crc L) s.data.toList) hq.2.2
  have hsub : (4294967295 : Int) - ((crc L : Nat) : Int) = ((4294967295 - crc L : Nat) : Int) := by have := hq.2.1; omega
  rw [hsub] at hx1
  clear hR hG hN hq hsub
  have hcl : 4294967295 - crc L < 4294967296 := by omega
  have HT := Aside0.mk (through_any (4294967295 - crc L) s w hcl (by omega) HN.out)
  generalize run (4294967295 - crc L) s.data.toList = y at hx2 HQ HT
  have HT := Aside0.mk HT.out
  go_enter Tryd.func29, Tryd.ntmps29
  go_wp2_with fail
  refine HT.out.mono ?_
  rintro e w1 ⟨rfl, rfl⟩
  go_wp2_with fail
  have HO := Aside0.mk ((Only.refl b w).setCell 68 (.int .u32 (4294967295 - (y : Int))))
  have HR1 := HR.out.setCrc (4294967295 - (y : Int))
  refine (take_any b L st tl _ s _ HR1 (tabs_only HG.out.tabs HO.out (Nat.lt_trans (by decide) hb) hb) (Nat.lt_trans (by decide) hb) hb (by omega)).mono ?_
  rintro e w2 ⟨rfl, hO2, st2, tl2, hR2⟩
  have HO2 := Aside0.mk (HO.out.trans hO2)
  have HR2 := Aside0.mk hR2
  clear hO2 hR2
  go_wp2
  go_ret
  refine ⟨rfl, HO2.out, st2, tl2, ?_⟩
  have h1 := HQ.out.1
  have h2 := HQ.out.2.2
  rw [← h1, show ((4294967295 - y : Nat) : Int) = 4294967295 - (y : Int) by omega]
  exact HR2.out
end Go.Proofs.YthnobhifepnakaaDoor.Hasher
