/- The rows that the standards print. -/
import Derived.Test.YthnobhifepnakaaDoorSum
import Derived.Test.YthnobhifepnakaaDoorHex
import Derived.Test.YthnobhifepnakaaDoorKnownPure
set_option linter.unusedVariables false
set_option linter.unusedSimpArgs false
namespace Go.Proofs.YthnobhifepnakaaDoor.Known
open Go.RowKit Go.Proofs.YthnobhifepnakaaDoorW.PrintWords Go.Proofs.YthnobhifepnakaaDoorW.PrintLast Go.Proofs.YthnobhifepnakaaDoorW.PrintMore
open Go.Proofs.YthnobhifepnakaaDoor.Base Go.Proofs.YthnobhifepnakaaDoor.Mix Go.Proofs.YthnobhifepnakaaDoor.Take Go.Proofs.YthnobhifepnakaaDoor.Words Go.Proofs.YthnobhifepnakaaDoor.Hasher Go.Proofs.YthnobhifepnakaaDoor.Sum Go.Proofs.YthnobhifepnakaaDoor.Hexes Go.Proofs.YthnobhifepnakaaDoor.KnownPure
open Go.Proofs.YthnobhifepnakaaDoor.Md5Pure (md5)
open Go.Proofs.YthnobhifepnakaaDoor.CrcPure (crc)
open Go.Proofs.YthnobhifepnakaaDoor.Crc (flat CRC_any Nibs)
theorem strs_new (w : World) (l : List ByteArray) (e : TypeId) (hl : l.length ≤ 9223372036854775807) : Kd.C Kd.string (w.alloc (.cells (l.map Value.string).toArray e)) (some ⟨w.heap.size, 0, none⟩) l.length l := by
  refine ⟨rfl, hl, fun _ => ⟨_, rfl, fun j p hj => ⟨[.string p], rfl, rfl, fun i u hu => ?_⟩⟩⟩
  have hi : i = 0 := by
    rcases i with _ | i
    · rfl
    · simp at hu
  subst hi
  have h0 : u = .string p := by simpa using hu.symm
  subst h0
  have e1 : (⟨w.heap.size, 0, none⟩ : Addr).add (j * Kd.string.sz + 0) = ⟨w.heap.size, j, none⟩ := by
    show (⟨w.heap.size, 0, none⟩ : Addr).add (j * 1 + 0) = _
    unfold Addr.add; split <;> simp_all
  rw [e1]
  exact news w (l.map Value.string) e j _ (by rw [List.getElem?_map, hj]; rfl)
set_option maxRecDepth 100000
theorem ks0 : strOf (hexL (md5 (flat []))) = ⟨#[100, 52, 49, 100, 56, 99, 100, 57, 56, 102, 48, 48, 98, 50, 48, 52, 101, 57, 56, 48, 48, 57, 57, 56, 101, 99, 102, 56, 52, 50, 55, 101]⟩ := by rw [show hexL (md5 (flat [])) = _ from k0]; rfl
theorem ks1 : strOf (hexL (md5 (flat [strOf [97]]))) = ⟨#[48, 99, 99, 49, 55, 53, 98, 57, 99, 48, 102, 49, 98, 54, 97, 56, 51, 49, 99, 51, 57, 57, 101, 50, 54, 57, 55, 55, 50, 54, 54, 49]⟩ := by rw [show hexL (md5 (flat [strOf [97]])) = _ from k1]; rfl
theorem ks2 : strOf (hexL (md5 (flat [strOf [97, 98], strOf [], strOf [99]]))) = ⟨#[57, 48, 48, 49, 53, 48, 57, 56, 51, 99, 100, 50, 52, 102, 98, 48, 100, 54, 57, 54, 51, 102, 55, 100, 50, 56, 101, 49, 55, 102, 55, 50]⟩ := by rw [show hexL (md5 (flat [strOf [97, 98], strOf [], strOf [99]])) = _ from k2]; rfl
theorem ks3 : strOf (hexL (md5 (flat [strOf [109, 101, 115, 115, 97, 103, 101, 32, 100, 105, 103, 101, 115, 116]]))) = ⟨#[102, 57, 54, 98, 54, 57, 55, 100, 55, 99, 98, 55, 57, 51, 56, 100, 53, 50, 53, 97, 50, 102, 51, 49, 97, 97, 102, 49, 54, 49, 100, 48]⟩ := by rw [show hexL (md5 (flat [strOf [109, 101, 115, 115, 97, 103, 101, 32, 100, 105, 103, 101, 115, 116]])) = _ from k3]; rfl
theorem ks4 : strOf (hexL (md5 (flat [strOf [97, 98, 99, 100, 101, 102, 103, 104, 105, 106, 107, 108, 109, 110, 111, 112, 113, 114, 115, 116, 117, 118, 119, 120, 121, 122]]))) = ⟨#[99, 51, 102, 99, 100, 51, 100, 55, 54, 49, 57, 50, 101, 52, 48, 48, 55, 100, 102, 98, 52, 57, 54, 99, 99, 97, 54, 55, 101, 49, 51, 98]⟩ := by rw [show hexL (md5 (flat [strOf [97, 98, 99, 100, 101, 102, 103, 104, 105, 106, 107, 108, 109, 110, 111, 112, 113, 114, 115, 116, 117, 118, 119, 120, 121, 122]])) = _ from k4]; rfl
theorem ks5 : strOf (hexL (md5 (flat [strOf [65, 66, 67, 68, 69, 70, 71, 72, 73, 74, 75, 76, 77, 78, 79, 80, 81, 82, 83, 84, 85, 86, 87, 88, 89, 90, 97, 98, 99, 100, 101, 102, 103, 104, 105, 106, 107, 108, 109, 110, 111, 112, 113, 114, 115, 116, 117, 118, 119, 120, 121, 122, 48, 49, 50, 51, 52, 53, 54, 55, 56, 57]]))) = ⟨#[100, 49, 55, 52, 97, 98, 57, 56, 100, 50, 55, 55, 100, 57, 102, 53, 97, 53, 54, 49, 49, 99, 50, 99, 57, 102, 52, 49, 57, 100, 57, 102]⟩ := by rw [show hexL (md5 (flat [strOf [65, 66, 67, 68, 69, 70, 71, 72, 73, 74, 75, 76, 77, 78, 79, 80, 81, 82, 83, 84, 85, 86, 87, 88, 89, 90, 97, 98, 99, 100, 101, 102, 103, 104, 105, 106, 107, 108, 109, 110, 111, 112, 113, 114, 115, 116, 117, 118, 119, 120, 121, 122, 48, 49, 50, 51, 52, 53, 54, 55, 56, 57]])) = _ from k5]; rfl
theorem ks6 : strOf (hexL (md5 (flat [strOf [49, 50, 51, 52, 53, 54, 55, 56, 57, 48, 49, 50, 51, 52, 53, 54, 55, 56, 57, 48, 49, 50, 51, 52, 53, 54, 55, 56, 57, 48, 49, 50, 51, 52, 53, 54, 55, 56, 57, 48, 49, 50, 51, 52, 53, 54, 55, 56, 57, 48, 49, 50, 51, 52, 53, 54, 55, 56, 57, 48, 49, 50, 51, 52, 53, 54, 55, 56, 57, 48, 49, 50, 51, 52, 53, 54, 55, 56, 57, 48]]))) = ⟨#[53, 55, 101, 100, 102, 52, 97, 50, 50, 98, 101, 51, 99, 57, 53, 53, 97, 99, 52, 57, 100, 97, 50, 101, 50, 49, 48, 55, 98, 54, 55, 97]⟩ := by rw [show hexL (md5 (flat [strOf [49, 50, 51, 52, 53, 54, 55, 56, 57, 48, 49, 50, 51, 52, 53, 54, 55, 56, 57, 48, 49, 50, 51, 52, 53, 54, 55, 56, 57, 48, 49, 50, 51, 52, 53, 54, 55, 56, 57, 48, 49, 50, 51, 52, 53, 54, 55, 56, 57, 48, 49, 50, 51, 52, 53, 54, 55, 56, 57, 48, 49, 50, 51, 52, 53, 54, 55, 56, 57, 48, 49, 50, 51, 52, 53, 54, 55, 56, 57, 48]])) = _ from k6]; rfl
theorem ksc : ((crc (flat [strOf [49, 50, 51, 52], strOf [53, 54, 55, 56, 57]]) : Nat) : Int) = 3421780262 := by rw [show crc (flat [strOf [49, 50, 51, 52], strOf [53, 54, 55, 56, 57]]) = _ from kc]; rfl
set_option maxHeartbeats 8000000 in
theorem known_any (w : World) (hG : Glob w) (hN : Nibs w) : Calls Tryd.prog 24 #[] w fun e w' => e = .returned (.bool true) ∧ Below w.heap.size w w' := by
  obtain ⟨w0, rfl⟩ : ∃ w0 : World, w0 = w := ⟨_, rfl⟩
  have HG0 := Aside0.mk hG
  have HN := Aside0.mk hN
  have HB0 := Aside0.mk (Below.refl w0.heap.size w0)
  clear hG hN
  go_enter Tryd.func24, Tryd.ntmps24
  go_wp2_with fail
  refine (md5_any none 0 [] w0 (Kd.C_nil _ _) (by decide) HG0.out (by decide) (by decide)).mono ?_
  rintro e v0 ⟨rfl, hb0⟩
  have HM0 := Aside0.mk hb0
  clear hb0
  go_wp2_with fail
  refine (Hex_any _ v0 (by rw [strOf_size, md5_length]; decide)).mono ?_
  rintro e w1 ⟨rfl, hb0⟩
  have HB1 := Aside0.mk (HB0.out.trans ((below_then HM0.out HM0.out.size hb0).mono HB0.out.size))
  have HG1 := Aside0.mk (HG0.out.below (below_then HM0.out HM0.out.size hb0))
  clear hb0 HM0
  rw [strOf_toList, ks0]
  go_wp2_with fail
  have hc1 := strs_new w1 [strOf [97]] 9 (by decide)
  have HA1 := Aside0.mk ((Below.refl w1.heap.size w1).alloc (Nat.le_refl _) (.cells (List.map Value.string [strOf [97]]).toArray 9))
  refine (md5_any (some ⟨w1.heap.size, 0, none⟩) 1 [strOf [97]] _ hc1 (by decide) (HG1.out.below HA1.out) (by decide) (by decide)).mono ?_
  rintro e v1 ⟨rfl, hb1⟩
  have HM1 := Aside0.mk (below_then HA1.out HA1.out.size hb1)
  clear hb1 hc1 HA1
  go_wp2_with fail
  refine (Hex_any _ v1 (by rw [strOf_size, md5_length]; decide)).mono ?_
  rintro e w2 ⟨rfl, hb1⟩
  have HB2 := Aside0.mk (HB1.out.trans ((below_then HM1.out HM1.out.size hb1).mono HB1.out.size))
  have HG2 := Aside0.mk (HG1.out.below (below_then HM1.out HM1.out.size hb1))
  clear hb1 HM1
  rw [strOf_toList, ks1]
  go_wp2_with fail
  have hc2 := strs_new w2 [strOf [97, 98], strOf [], strOf [99]] 9 (by decide)
  have HA2 := Aside0.mk ((Below.refl w2.heap.size w2).alloc (Nat.le_refl _) (.cells (List.map Value.string [strOf [97, 98], strOf [], strOf [99]]).toArray 9))
  refine (md5_any (some ⟨w2.heap.size, 0, none⟩) 3 [strOf [97, 98], strOf [], strOf [99]] _ hc2 (by decide) (HG2.out.below HA2.out) (by decide) (by decide)).mono ?_
  rintro e v2 ⟨rfl, hb2⟩
  have HM2 := Aside0.mk (below_then HA2.out HA2.out.size hb2)
  clear hb2 hc2 HA2
  go_wp2_with fail
  refine (Hex_any _ v2 (by rw [strOf_size, md5_length]; decide)).mono ?_
  rintro e w3 ⟨rfl, hb2⟩
  have HB3 := Aside0.mk (HB2.out.trans ((below_then HM2.out HM2.out.size hb2).mono HB2.out.size))
  have HG3 := Aside0.mk (HG2.out.below (below_then HM2.out HM2.out.size hb2))
  clear hb2 HM2
  rw [strOf_toList, ks2]
  go_wp2_with fail
  have hc3 := strs_new w3 [strOf [49, 50, 51, 52], strOf [53, 54, 55, 56, 57]] 9 (by decide)
  have HA3 := Aside0.mk ((Below.refl w3.heap.size w3).alloc (Nat.le_refl _) (.cells (List.map Value.string [strOf [49, 50, 51, 52], strOf [53, 54, 55, 56, 57]]).toArray 9))
  refine (CRC_any (some ⟨w3.heap.size, 0, none⟩) 2 [strOf [49, 50, 51, 52], strOf [53, 54, 55, 56, 57]] _ hc3 (by decide) (by decide) (by decide) ((HN.out.below HB3.out).below HA3.out)).mono ?_
  rintro e v3 ⟨rfl, rfl⟩
  have HE := Aside0.mk (HB3.out.trans (HA3.out.mono HB3.out.size))
  clear hc3 HA3
  rw [ksc]
  go_wp2
  go_ret
  exact ⟨rfl, HE.out⟩
set_option maxHeartbeats 8000000 in
theorem law_known (w : World) (hG : Glob w) (hN : Nibs w) : Calls Tryd.prog 7 #[] w fun e w' => e = .returned (.bool true) ∧ Below w.heap.size w w' := by
  obtain ⟨wz, rfl⟩ : ∃ w0 : World, w0 = w := ⟨_, rfl⟩
  have HGz := Aside0.mk hG
  have HN := Aside0.mk hN
  clear hG hN
  go_enter Tryd.func7, Tryd.ntmps7
  go_wp2_with fail
  refine (known_any wz HGz.out HN.out).mono ?_
  rintro e w0 ⟨rfl, hb⟩
  have HZ := Aside0.mk hb
  have HG0 := Aside0.mk (HGz.out.below hb)
  have HB0 := Aside0.mk (Below.refl w0.heap.size w0)
  clear hb
  go_wp2_with fail
  have hc0 := strs_new w0 [strOf [109, 101, 115, 115, 97, 103, 101, 32, 100, 105, 103, 101, 115, 116]] 9 (by decide)
  have HA0 := Aside0.mk ((Below.refl w0.heap.size w0).alloc (Nat.le_refl _) (.cells (List.map Value.string [strOf [109, 101, 115, 115, 97, 103, 101, 32, 100, 105, 103, 101, 115, 116]]).toArray 9))
  refine (md5_any (some ⟨w0.heap.size, 0, none⟩) 1 [strOf [109, 101, 115, 115, 97, 103, 101, 32, 100, 105, 103, 101, 115, 116]] _ hc0 (by decide) (HG0.out.below HA0.out) (by decide) (by decide)).mono ?_
  rintro e v0 ⟨rfl, hb0⟩
  have HM0 := Aside0.mk (below_then HA0.out HA0.out.size hb0)
  clear hb0 hc0 HA0
  go_wp2_with fail
  refine (Hex_any _ v0 (by rw [strOf_size, md5_length]; decide)).mono ?_
  rintro e w1 ⟨rfl, hb0⟩
  have HB1 := Aside0.mk (HB0.out.trans ((below_then HM0.out HM0.out.size hb0).mono HB0.out.size))
  have HG1 := Aside0.mk (HG0.out.below (below_then HM0.out HM0.out.size hb0))
  clear hb0 HM0
  rw [strOf_toList, ks3]
  go_wp2_with fail
  have hc1 := strs_new w1 [strOf [97, 98, 99, 100, 101, 102, 103, 104, 105, 106, 107, 108, 109, 110, 111, 112, 113, 114, 115, 116, 117, 118, 119, 120, 121, 122]] 9 (by decide)
  have HA1 := Aside0.mk ((Below.refl w1.heap.size w1).alloc (Nat.le_refl _) (.cells (List.map Value.string [strOf [97, 98, 99, 100, 101, 102, 103, 104, 105, 106, 107, 108, 109, 110, 111, 112, 113, 114, 115, 116, 117, 118, 119, 120, 121, 122]]).toArray 9))
  refine (md5_any (some ⟨w1.heap.size, 0, none⟩) 1 [strOf [97, 98, 99, 100, 101, 102, 103, 104, 105, 106, 107, 108, 109, 110, 111, 112, 113, 114, 115, 116, 117, 118, 119, 120, 121, 122]] _ hc1 (by decide) (HG1.out.below HA1.out) (by decide) (by decide)).mono ?_
  rintro e v1 ⟨rfl, hb1⟩
  have HM1 := Aside0.mk (below_then HA1.out HA1.out.size hb1)
  clear hb1 hc1 HA1
  go_wp2_with fail
  refine (Hex_any _ v1 (by rw [strOf_size, md5_length]; decide)).mono ?_
  rintro e w2 ⟨rfl, hb1⟩
  have HB2 := Aside0.mk (HB1.out.trans ((below_then HM1.out HM1.out.size hb1).mono HB1.out.size))
  have HG2 := Aside0.mk (HG1.out.below (below_then HM1.out HM1.out.size hb1))
  clear hb1 HM1
  rw [strOf_toList, ks4]
  go_wp2_with fail
  have hc2 := strs_new w2 [strOf [65, 66, 67, 68, 69, 70, 71, 72, 73, 74, 75, 76, 77, 78, 79, 80, 81, 82, 83, 84, 85, 86, 87, 88, 89, 90, 97, 98, 99, 100, 101, 102, 103, 104, 105, 106, 107, 108, 109, 110, 111, 112, 113, 114, 115, 116, 117, 118, 119, 120, 121, 122, 48, 49, 50, 51, 52, 53, 54, 55, 56, 57]] 9 (by decide)
  have HA2 := Aside0.mk ((Below.refl w2.heap.size w2).alloc (Nat.le_refl _) (.cells (List.map Value.string [strOf [65, 66, 67, 68, 69, 70, 71, 72, 73, 74, 75, 76, 77, 78, 79, 80, 81, 82, 83, 84, 85, 86, 87, 88, 89, 90, 97, 98, 99, 100, 101, 102, 103, 104, 105, 106, 107, 108, 109, 110, 111, 112, 113, 114, 115, 116, 117, 118, 119, 120, 121, 122, 48, 49, 50, 51, 52, 53, 54, 55, 56, 57]]).toArray 9))
  refine (md5_any (some ⟨w2.heap.size, 0, none⟩) 1 [strOf [65, 66, 67, 68, 69, 70, 71, 72, 73, 74, 75, 76, 77, 78, 79, 80, 81, 82, 83, 84, 85, 86, 87, 88, 89, 90, 97, 98, 99, 100, 101, 102, 103, 104, 105, 106, 107, 108, 109, 110, 111, 112, 113, 114, 115, 116, 117, 118, 119, 120, 121, 122, 48, 49, 50, 51, 52, 53, 54, 55, 56, 57]] _ hc2 (by decide) (HG2.out.below HA2.out) (by decide) (by decide)).mono ?_
  rintro e v2 ⟨rfl, hb2⟩
  have HM2 := Aside0.mk (below_then HA2.out HA2.out.size hb2)
  clear hb2 hc2 HA2
  go_wp2_with fail
  refine (Hex_any _ v2 (by rw [strOf_size, md5_length]; decide)).mono ?_
  rintro e w3 ⟨rfl, hb2⟩
  have HB3 := Aside0.mk (HB2.out.trans ((below_then HM2.out HM2.out.size hb2).mono HB2.out.size))
  have HG3 := Aside0.mk (HG2.out.below (below_then HM2.out HM2.out.size hb2))
  clear hb2 HM2
  rw [strOf_toList, ks5]
  go_wp2_with fail
  have hc3 := strs_new w3 [strOf [49, 50, 51, 52, 53, 54, 55, 56, 57, 48, 49, 50, 51, 52, 53, 54, 55, 56, 57, 48, 49, 50, 51, 52, 53, 54, 55, 56, 57, 48, 49, 50, 51, 52, 53, 54, 55, 56, 57, 48, 49, 50, 51, 52, 53, 54, 55, 56, 57, 48, 49, 50, 51, 52, 53, 54, 55, 56, 57, 48, 49, 50, 51, 52, 53, 54, 55, 56, 57, 48, 49, 50, 51, 52, 53, 54, 55, 56, 57, 48]] 9 (by decide)
  have HA3 := Aside0.mk ((Below.refl w3.heap.size w3).alloc (Nat.le_refl _) (.cells (List.map Value.string [strOf [49, 50, 51, 52, 53, 54, 55, 56, 57, 48, 49, 50, 51, 52, 53, 54, 55, 56, 57, 48, 49, 50, 51, 52, 53, 54, 55, 56, 57, 48, 49, 50, 51, 52, 53, 54, 55, 56, 57, 48, 49, 50, 51, 52, 53, 54, 55, 56, 57, 48, 49, 50, 51, 52, 53, 54, 55, 56, 57, 48, 49, 50, 51, 52, 53, 54, 55, 56, 57, 48, 49, 50, 51, 52, 53, 54, 55, 56, 57, 48]]).toArray 9))
  refine (md5_any (some ⟨w3.heap.size, 0, none⟩) 1 [strOf [49, 50, 51, 52, 53, 54, 55, 56, 57, 48, 49, 50, 51, 52, 53, 54, 55, 56, 57, 48, 49, 50, 51, 52, 53, 54, 55, 56, 57, 48, 49, 50, 51, 52, 53, 54, 55, 56, 57, 48, 49, 50, 51, 52, 53, 54, 55, 56, 57, 48, 49, 50, 51, 52, 53, 54, 55, 56, 57, 48, 49, 50, 51, 52, 53, 54, 55, 56, 57, 48, 49, 50, 51, 52, 53, 54, 55, 56, 57, 48]] _ hc3 (by decide) (HG3.out.below HA3.out) (by decide) (by decide)).mono ?_
  rintro e v3 ⟨rfl, hb3⟩
  have HM3 := Aside0.mk (below_then HA3.out HA3.out.size hb3)
  clear hb3 hc3 HA3
  go_wp2_with fail
  refine (Hex_any _ v3 (by rw [strOf_size, md5_length]; decide)).mono ?_
  rintro e w4 ⟨rfl, hb3⟩
  have HB4 := Aside0.mk (HB3.out.trans ((below_then HM3.out HM3.out.size hb3).mono HB3.out.size))
  have HG4 := Aside0.mk (HG3.out.below (below_then HM3.out HM3.out.size hb3))
  clear hb3 HM3
  rw [strOf_toList, ks6]
  go_wp2
  go_ret
  exact ⟨rfl, below_then HZ.out HZ.out.size HB4.out⟩
end Go.Proofs.YthnobhifepnakaaDoor.Known
