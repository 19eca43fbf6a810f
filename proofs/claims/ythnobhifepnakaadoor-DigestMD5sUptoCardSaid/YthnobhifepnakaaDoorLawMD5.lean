/- DigestMD5s: the law's walk. -/
import Derived.Test.YthnobhifepnakaaDoorLawCRC
import Derived.Test.YthnobhifepnakaaDoorRefMD5
import Derived.Test.YthnobhifepnakaaDoorSum
set_option linter.unusedVariables false
set_option linter.unusedSimpArgs false
namespace Go.Proofs.YthnobhifepnakaaDoor.LawMD5
open Go.RowKit Go.Proofs.YthnobhifepnakaaDoorW.PrintWords Go.Proofs.YthnobhifepnakaaDoorW.PrintLast Go.Proofs.YthnobhifepnakaaDoorW.PrintMore
open Go.Proofs.YthnobhifepnakaaDoor.Base Go.Proofs.YthnobhifepnakaaDoor.Crc Go.Proofs.YthnobhifepnakaaDoor.RefCRC Go.Proofs.YthnobhifepnakaaDoor.Over Go.Proofs.YthnobhifepnakaaDoor.Open Go.Proofs.YthnobhifepnakaaDoor.LawCRC
open Go.Proofs.YthnobhifepnakaaDoor.Hasher (Glob)
open Go.Proofs.YthnobhifepnakaaDoor.Sum (md5_any)
open Go.Proofs.YthnobhifepnakaaDoor.RefMD5 (RTabs refmd5_any)
open Go.Proofs.YthnobhifepnakaaDoor.Words (strOf)
open Go.Proofs.YthnobhifepnakaaDoor.Md5Pure (md5)
set_option maxHeartbeats 4000000 in
theorem law_md5s (A : Option Addr) (c : Nat) (l : List ByteArray) (w : World) (hr : Kd.C Kd.string w A l.length l) (hc : l.length ≤ c) (ht : total l ≤ 10000000) (hG : Glob w) (hT : RTabs w) :
    Calls Tryd.prog 5 #[.slice A l.length c] w fun e w' => e = .returned (.bool true) ∧ Below w.heap.size w w' := by
  have hft := flat_total l
  have htt := turned_total l
  have hft2 := flat_total (l.map turned)
  rw [List.length_map] at hft2
  have hb1 : l.length ≤ 1073741824 := by omega
  have hb2 : (flat l).length ≤ 1073741824 := by omega
  have hb3 : (flat (l.map turned)).length ≤ 1073741824 := by omega
  have HS := Aside0.mk (fun s (h : s ∈ l) => (by have := mem_total l s h; omega : s.size ≤ 1073741824))
  have HF1 : Aside0 ((flat l).length ≤ 1099511627776) := ⟨by omega⟩
  have HF2 : Aside0 ((flat (l.map turned)).length ≤ 1099511627776) := ⟨by omega⟩
  clear hft htt hft2 ht
  have HR := Aside0.mk hr
  have HG := Aside0.mk hG
  have HT := Aside0.mk hT
  clear hr hT hG
  go_enter Tryd.func5, Tryd.ntmps5
  go_wp2_with fail
  refine (twin_any A c l w HR.out hc hb1).mono ?_
  rintro e w1 ⟨v, rfl, hR1, hB⟩
  obtain ⟨A1, c1, rfl, hc1, hC1⟩ := Kd.R_reads hR1
  have HR1 := Aside0.mk hR1
  have HC1 := Aside0.mk hC1
  have HB1 := Aside0.mk hB
  have HA1 := Aside0.mk (Kd.C_below HR.out hB)
  clear hR1 hC1 hB
  go_wp2_with fail
  refine (md5_any A1 c1 l w1 HC1.out hc1 (HG.out.below HB1.out) hb1 HF1.out).mono ?_
  rintro e w2 ⟨rfl, hb⟩
  have HB2 := Aside0.mk (HB1.out.trans (hb.mono HB1.out.size))
  have HR2 := Aside0.mk (Kd.R_below HR1.out hb)
  have HC2 := Aside0.mk (Kd.C_below HC1.out hb)
  have HA2 := Aside0.mk (Kd.C_below HA1.out hb)
  clear hb
  go_wp2_with fail
  refine (join_any A c l w2 HA2.out hc hb1 hb2).mono ?_
  rintro e w3 ⟨rfl, hb⟩
  have HB3 := Aside0.mk (HB2.out.trans (hb.mono HB2.out.size))
  have HR3 := Aside0.mk (Kd.R_below HR2.out hb)
  have HC3 := Aside0.mk (Kd.C_below HC2.out hb)
  have HA3 := Aside0.mk (Kd.C_below HA2.out hb)
  clear hb
  go_wp2_with fail
  refine (refmd5_any (joined l) w3 (by rw [joined_size]; exact HF1.out) (HT.out.below HB3.out)).mono ?_
  rintro e w4 ⟨rfl, hb⟩
  have HB4 := Aside0.mk (HB3.out.trans (hb.mono HB3.out.size))
  have HR4 := Aside0.mk (Kd.R_below HR3.out hb)
  have HC4 := Aside0.mk (Kd.C_below HC3.out hb)
  have HA4 := Aside0.mk (Kd.C_below HA3.out hb)
  clear hb
  rw [joined_data]
  go_wp2_with fail
  refine (same_any A1 A c1 c l w4 HC4.out hc1 HA4.out hc hb1).mono ?_
  rintro e w5 ⟨rfl, hd⟩
  have HB5 := Aside0.mk (HB4.out.trans (hd.below.mono HB4.out.size))
  have HR5 := Aside0.mk (Kd.R_below HR4.out hd.below)
  clear hd
  go_wp2_with fail
  refine (over_R _ l w.heap.size w5 hb1 HS.out HB5.out.size HR5.out).mono ?_
  rintro e w6 ⟨rfl, hR6, hB6⟩
  have HB6 := Aside0.mk (HB5.out.trans hB6)
  have hC6 := (Kd.R_reads' hR6).2
  have HC6 := Aside0.mk hC6.2
  clear hB6 hR6 hC6
  have e1 : (l.map turned).length = l.length := List.length_map _
  have k1 := md5_any A1 c1 (l.map turned) w6 HC6.out (by rw [e1]; exact hc1) (HG.out.below HB6.out) (by rw [e1]; exact hb1) HF2.out
  rw [e1] at k1
  have K1 := Lib.hid k1
  clear k1 e1
  go_wp2_with fail
  refine K1.out.mono ?_
  rintro e w7 ⟨rfl, hb⟩
  have HB7 := Aside0.mk (HB6.out.trans (hb.mono HB6.out.size))
  have HC7 := Aside0.mk (Kd.C_below HC6.out hb)
  clear hb K1
  have e1 : (l.map turned).length = l.length := List.length_map _
  have k1 := twin_any A1 c1 (l.map turned) w7 HC7.out (by rw [e1]; exact hc1) (by rw [e1]; exact hb1)
  rw [e1] at k1
  have K1 := Lib.hid k1
  clear k1 e1
  go_wp2_with fail
  refine K1.out.mono ?_
  rintro e w8 ⟨v, rfl, hR8, hb⟩
  have HB8 := Aside0.mk (HB7.out.trans (hb.mono HB7.out.size))
  clear K1 hb
  obtain ⟨A2, c2, rfl, hc2, hC8⟩ := Kd.R_reads hR8
  clear hR8
  have k1 := join_any A2 c2 (l.map turned) w8 hC8 hc2 (by rw [List.length_map]; exact hb1) hb3
  rw [List.length_map] at k1
  have K1 := Lib.hid k1
  clear k1 hC8
  go_wp2_with fail
  refine K1.out.mono ?_
  rintro e w9 ⟨rfl, hb⟩
  have HB9 := Aside0.mk (HB8.out.trans (hb.mono HB8.out.size))
  clear hb K1
  go_wp2_with fail
  refine (refmd5_any (joined (l.map turned)) w9 (by rw [joined_size]; exact HF2.out) (HT.out.below HB9.out)).mono ?_
  rintro e w10 ⟨rfl, hb⟩
  have HB10 := Aside0.mk (HB9.out.trans (hb.mono HB9.out.size))
  clear hb
  rw [joined_data]
  go_wp2
  go_ret
  exact ⟨rfl, HB10.out⟩
end Go.Proofs.YthnobhifepnakaaDoor.LawMD5
