/- DigestCuts: however a text is cut, its sums are the same. -/
import Derived.Test.YthnobhifepnakaaDoorJoined
import Derived.Test.YthnobhifepnakaaDoorLawCRC
set_option linter.unusedVariables false
set_option linter.unusedSimpArgs false
namespace Go.Proofs.YthnobhifepnakaaDoor.Cuts
open Go.RowKit Go.Proofs.YthnobhifepnakaaDoorW.PrintWords Go.Proofs.YthnobhifepnakaaDoorW.PrintLast Go.Proofs.YthnobhifepnakaaDoorW.PrintMore
open Go.Proofs.YthnobhifepnakaaDoor.Base Go.Proofs.YthnobhifepnakaaDoor.Hasher Go.Proofs.YthnobhifepnakaaDoor.Words Go.Proofs.YthnobhifepnakaaDoor.Known Go.Proofs.YthnobhifepnakaaDoor.Take Go.Proofs.YthnobhifepnakaaDoor.Mix
open Go.Proofs.YthnobhifepnakaaDoor.Md5Pure (md5 first)
open Go.Proofs.YthnobhifepnakaaDoor.CrcPure (crc crc_append crc_lt)
open Go.Proofs.YthnobhifepnakaaDoor.Crc (flat flat_next CRC_any Nibs)
open Go.Proofs.YthnobhifepnakaaDoor.Joined (crc_lit flat1 app_toList num_any)
open Go.Proofs.YthnobhifepnakaaDoor.Sum (sum_any md5_any)
open Go.Proofs.YthnobhifepnakaaDoor.RefCRC (joined joined_data joined_size flat_prefix_le)
open Go.Proofs.YthnobhifepnakaaDoor.LawCRC (twin_any flat_total mem_total)
theorem hash_lt {w : World} {b : Nat} {L : List UInt8} {c : Int} (h : Hash w b L c) : b < w.heap.size := by
  obtain ⟨st, tl, hR⟩ := h
  exact hR.lt
theorem hash_after {w w1 : World} {b : Nat} {L : List UInt8} {c : Int} (h : Hash w b L c) (k : Below w.heap.size w w1) : Hash w1 b L c := by
  obtain ⟨st, tl, hR⟩ := h
  exact ⟨st, tl, hR.after k⟩
theorem hash_only {w w1 : World} {a b : Nat} {L : List UInt8} {c : Int} (h : Hash w b L c) (k : Only a w w1) (hne : b ≠ a) : Hash w1 b L c := by
  obtain ⟨st, tl, hR⟩ := h
  exact ⟨st, tl, hR.abs, (k.block b hR.lt hne).trans hR.row⟩
theorem ext (a b : ByteArray) (h : a.data.toList = b.data.toList) : a = b := by rw [← strOf_data a, ← strOf_data b, h]
theorem joined_next (l : List ByteArray) (k : Nat) (h : k < l.length) : joined (l.take (k + 1)) = joined (l.take k) ++ rdOf ByteArray.empty l (k : Nat) := by
  apply ext
  rw [app_toList, joined_data, joined_data, flat_next l k h]
theorem joined_le (l : List ByteArray) (k : Nat) : (joined (l.take k)).size ≤ (flat l).length := by rw [joined_size]; exact flat_prefix_le l k
theorem nil_toList : (⟨#[]⟩ : ByteArray).data.toList = [] := rfl
theorem crc_nil : ((crc [] : Nat) : Int) = 0 := by decide
theorem countS (b : Nat) (S : ByteArray) (c : Int) (w : World) (h : Hash w b S.data.toList c) : Calls Tryd.prog 30 #[.pointer (some ⟨b, 0, none⟩)] w fun e w' => e = .returned (.int .i64 (S.size : Nat)) ∧ w = w' := by
  have := count_any b _ c w h
  rwa [size_toList] at this
theorem writeS (b : Nat) (S s S2 : ByteArray) (e2 : S2 = S ++ s) (w : World) (h : Hash w b S.data.toList (crc S.data.toList : Nat)) (hG : Glob w) (hN : Nibs w) (hb : 4 < b) (hn : S.size + s.size ≤ 140737488351232) :
    Calls Tryd.prog 29 #[.pointer (some ⟨b, 0, none⟩), .string s] w fun e w' => e = .returned (.int .i64 0) ∧ Only b w w' ∧ Hash w' b S2.data.toList (crc S2.data.toList : Nat) := by
  have := write_any b S.data.toList s w h hG hN hb (by rw [size_toList]; exact hn)
  rw [← app_toList, ← e2] at this
  exact this
theorem md5_lit (w : World) (S : ByteArray) (hs : S.size ≤ 1099511627776) (hG : Glob w) :
    Calls Tryd.prog 21 #[.slice (some ⟨w.heap.size, 0, none⟩) 1 1] (w.alloc (.cells #[.string S] 9)) fun e w' => e = .returned (.string (strOf (md5 S.data.toList))) ∧ Below w.heap.size w w' := by
  have hB := (Below.refl w.heap.size w).alloc (Nat.le_refl _) (.cells #[.string S] 9)
  refine (md5_any (some ⟨w.heap.size, 0, none⟩) 1 [S] _ (strs_new w [S] 9 (by simp)) (by simp) (hG.below hB) (by simp) (by rw [flat1, size_toList]; exact hs)).mono ?_
  rintro e w' ⟨rfl, hb⟩
  rw [flat1]
  exact ⟨rfl, below_then hB hB.size hb⟩
theorem crc_one (w : World) (S : ByteArray) (hs : S.size ≤ 140737488351232) (hN : Nibs w) :
    Calls Tryd.prog 13 #[.slice (some ⟨w.heap.size, 0, none⟩) 1 1] (w.alloc (.cells #[.string S] 9)) fun e w' => e = .returned (.int .i64 (crc S.data.toList : Nat)) ∧ Below w.heap.size w w' := by
  have := crc_lit w [S] (by simp) (by simp only [List.mem_cons, List.not_mem_nil, or_false]; rintro s rfl; exact hs) hN
  rw [flat1] at this
  exact this
set_option maxRecDepth 100000 in
set_option maxHeartbeats 8000000 in
theorem law_cuts (A : Option Addr) (c : Nat) (l : List ByteArray) (w : World) (hr : Kd.C Kd.string w A l.length l) (hc : l.length ≤ c) (ht : Open.total l ≤ 10000000) (hG : Glob w) (hN : Nibs w) :
    Calls Tryd.prog 9 #[.slice A l.length c] w fun e w' => e = .returned (.bool true) ∧ Below w.heap.size w w' := by
  have hft := flat_total l
  have hb1 : l.length ≤ 10000000 := by omega
  have hb2 : (flat l).length ≤ 10000000 := by omega
  have HS := Aside0.mk (fun s (h : s ∈ l) => (by have := mem_total l s h; omega : s.size ≤ 10000000))
  clear hft ht
  obtain ⟨wz, rfl⟩ : ∃ w0 : World, w0 = w := ⟨_, rfl⟩
  have HG := Aside0.mk hG
  have HN := Aside0.mk hN
  have HR := Aside0.mk hr
  clear hG hN hr
  go_enter Tryd.func9, Tryd.ntmps9
  go_wp2_with fail
  refine (known_any wz HG.out HN.out).mono ?_
  rintro e w0 ⟨rfl, hb⟩
  have HB0 := Aside0.mk hb
  clear hb
  go_wp2_with fail
  refine (new_any w0 (HG.out.below HB0.out)).mono ?_
  rintro e w1 ⟨rfl, rfl⟩
  have HH0 := Aside0.mk (fresh w0)
  have HB1 := Aside0.mk (HB0.out.trans (((Below.refl w0.heap.size w0).alloc (Nat.le_refl _) (.cells (hC first (List.replicate 64 0) 0 0).toArray 84)).mono HB0.out.size))
  have HL0 := Aside0.mk HB0.out.size
  generalize w0.alloc (.cells (hC first (List.replicate 64 0) 0 0).toArray 84) = w1 at HH0 HB1 ⊢
  generalize w0.heap.size = b0 at HH0 HL0 ⊢
  go_wp2_with fail
  refine (new_any w1 (HG.out.below HB1.out)).mono ?_
  rintro e w2 ⟨rfl, rfl⟩
  have HH1 := Aside0.mk (fresh w1)
  have hb := (Below.refl w1.heap.size w1).alloc (Nat.le_refl _) (.cells (hC first (List.replicate 64 0) 0 0).toArray 84)
  have HB2 := Aside0.mk (HB1.out.trans (hb.mono HB1.out.size))
  have HL1 := Aside0.mk (hash_lt HH0.out)
  have HH0 := Aside0.mk (hash_after HH0.out hb)
  clear hb
  generalize w1.alloc (.cells (hC first (List.replicate 64 0) 0 0).toArray 84) = w2 at HH0 HH1 HB2 ⊢
  generalize w1.heap.size = b1 at HH1 HL1 ⊢
  have HNE : Aside0 (b0 ≠ b1) := ⟨Nat.ne_of_lt HL1.out⟩
  have HT0 : Aside0 (4 < b0) := ⟨Nat.lt_of_lt_of_le HG.out.tabs.lt4 HL0.out⟩
  have HT1 : Aside0 (4 < b1) := ⟨Nat.lt_trans HT0.out HL1.out⟩
  have HL1 : Aside0 (wz.heap.size ≤ b1) := ⟨Nat.le_trans HL0.out (Nat.le_of_lt HL1.out)⟩
  clear HB0 HB1
  go_wp2
  go_loopw [6, 7, 8, 9] (fun sv i _ _ wr => ∃ k : Nat, k ≤ l.length ∧ i = .int .i64 k ∧ sv = .string (joined (l.take k)) ∧ Aside0 (Hash wr b0 (joined (l.take k)).data.toList (crc (joined (l.take k)).data.toList : Nat)) ∧ Aside0 (Hash wr b1 (joined (l.take k)).data.toList (crc (joined (l.take k)).data.toList : Nat)) ∧ Aside0 (Below wz.heap.size wz wr)) (fun _ i _ _ _ => l.length - (intOf i).toNat)
  case atStart =>
    have e0 : joined (l.take 0) = ⟨#[]⟩ := rfl
    rw [← crc_nil, ← nil_toList] at HH0 HH1
    exact ⟨0, Nat.zero_le _, rfl, rfl, HH0, HH1, HB2⟩
  case round =>
    clear HH0 HH1 HB2
    obtain ⟨k, hk, rfl, rfl, HH0, HH1, HB⟩ := hrel
    obtain ⟨wo, rfl⟩ : ∃ wo : World, wo = wr := ⟨_, rfl⟩
    by_cases hlt : k < l.length
    · have hx0 := joined_le l k
      have hx1 := joined_le l (k + 1)
      have hjn := joined_next l k hlt
      obtain ⟨ad, e1, hx⟩ := Kd.at_string HR.out (k : Int) (by omega) (by omega)
      cases e1
      rw [Int.toNat_natCast] at hx
      have HX := Aside0.mk hx
      clear hx
      generalize rdOf ByteArray.empty l (k : Int) = t at HX hjn
      generalize joined (l.take k) = S at *
      obtain ⟨S2, hS2⟩ : ∃ S2, S2 = joined (l.take (k + 1)) := ⟨_, rfl⟩
      have HS2 := Aside0.mk hS2
      rw [← hS2] at hx1 hjn
      clear hS2
      have hsz : S2.size = S.size + t.size := by rw [hjn, ByteArray.size_append]
      have HJ := Aside0.mk hjn
      clear hjn
      have hx := pw_cell_below HB.out HX.out
      go_wp2_with fail
      refine (writeS b0 S t S2 HJ.out wo HH0.out (HG.out.below HB.out) (HN.out.below HB.out) HT0.out (by omega)).mono ?_
      rintro e w3 ⟨rfl, hO, hH⟩
      have HB3 := Aside0.mk (HB.out.trans (hO.below HL0.out HB.out.size))
      have HH0 := Aside0.mk hH
      have HH1 := Aside0.mk (hash_only HH1.out hO HNE.out.symm)
      clear hO hH hx
      have hx := pw_cell_below HB3.out HX.out
      go_wp2_with fail
      refine (writeS b1 S t S2 HJ.out w3 HH1.out (HG.out.below HB3.out) (HN.out.below HB3.out) HT1.out (by omega)).mono ?_
      rintro e w4 ⟨rfl, hO, hH⟩
      have HB4 := Aside0.mk (HB3.out.trans (hO.below HL1.out HB3.out.size))
      have HH1 := Aside0.mk hH
      have HH0 := Aside0.mk (hash_only HH0.out hO HNE.out)
      clear hO hH hx
      have hx := pw_cell_below HB4.out HX.out
      have hadd : (9223372036854775807 < S.size + t.size) = False := eq_false (by omega)
      go_wp2_with (go_at_call 20; refine (num_any _ _).mono ?_; rintro e w' ⟨rfl, rfl⟩)
      rw [← HJ.out]
      have h20 : S2.size ≤ 10000000 := by omega
      have h21 : S2.size ≤ 1099511627776 := by omega
      have h22 : S2.size ≤ 140737488351232 := by omega
      have HL2 := Aside0.mk h21
      have HL3 := Aside0.mk h22
      clear h21 h22 hx0 hx1 hsz hadd hx
      refine (countS b0 S2 _ w4 HH0.out).mono ?_
      rintro e w' ⟨rfl, rfl⟩
      go_wp2_with fail
      refine (sum_any b0 _ _ w4 HH0.out (HG.out.below HB4.out) (by rw [size_toList]; exact HL2.out)).mono ?_
      rintro e w5 ⟨rfl, hb⟩
      have HB5 := Aside0.mk (HB4.out.trans (hb.mono HB4.out.size))
      have HH0 := Aside0.mk (hash_after HH0.out hb)
      have HH1 := Aside0.mk (hash_after HH1.out hb)
      clear hb
      go_wp2_with fail
      refine (md5_lit w5 S2 HL2.out (HG.out.below HB5.out)).mono ?_
      rintro e w6 ⟨rfl, hb⟩
      have HB6 := Aside0.mk (HB5.out.trans (hb.mono HB5.out.size))
      have HH0 := Aside0.mk (hash_after HH0.out hb)
      have HH1 := Aside0.mk (hash_after HH1.out hb)
      clear hb
      go_wp2_with fail
      refine (crcOf_any b0 _ _ (crc_lt _) w6 HH0.out).mono ?_
      rintro e w' ⟨rfl, rfl⟩
      go_wp2_with fail
      refine (crc_one w6 S2 HL3.out (HN.out.below HB6.out)).mono ?_
      rintro e w7 ⟨rfl, hb⟩
      have HB7 := Aside0.mk (HB6.out.trans (hb.mono HB6.out.size))
      have HH0 := Aside0.mk (hash_after HH0.out hb)
      have HH1 := Aside0.mk (hash_after HH1.out hb)
      clear hb
      go_wp2
      go_roundw
      case rel => exact ⟨k + 1, by omega, by go_num, by rw [HS2.out], HS2.out ▸ HH0, HS2.out ▸ HH1, HB7⟩
      case measure => simp [intOf]; omega
    · obtain rfl : k = l.length := by omega
      rw [List.take_length] at HH0 HH1 ⊢
      have hSt := joined_data l
      have hSz : (joined l).size ≤ 10000000 := by rw [joined_size]; exact hb2
      generalize joined l = S at *
      have hmI : (((strOf (md5 S.data.toList)).size : Nat) : Int) = 16 := by rw [strOf_size, KnownPure.md5_length]; rfl
      have HL2 : Aside0 (S.size ≤ 1099511627776) := ⟨by omega⟩
      have HL3 : Aside0 (S.size ≤ 140737488351232) := ⟨by omega⟩
      have HST := Aside0.mk hSt
      have HF : Aside0 ((flat l).length ≤ 1099511627776) := ⟨by omega⟩
      clear hSt hSz
      go_wp2_with fail
      refine (twin_any A c l wo (Kd.C_below HR.out HB.out) hc (by omega)).mono ?_
      rintro e w3 ⟨v, rfl, hR1, hb⟩
      obtain ⟨A1, c1, rfl, hc1, hC1⟩ := Kd.R_reads hR1
      have HB3 := Aside0.mk (HB.out.trans (hb.mono HB.out.size))
      have HH0 := Aside0.mk (hash_after HH0.out hb)
      have HH1 := Aside0.mk (hash_after HH1.out hb)
      have HC := Aside0.mk hC1
      clear hb hR1 hC1
      go_wp2_with fail
      refine (md5_lit w3 S HL2.out (HG.out.below HB3.out)).mono ?_
      rintro e w4 ⟨rfl, hb⟩
      have HB4 := Aside0.mk (HB3.out.trans (hb.mono HB3.out.size))
      have HH0 := Aside0.mk (hash_after HH0.out hb)
      have HH1 := Aside0.mk (hash_after HH1.out hb)
      have HC := Aside0.mk (Kd.C_below HC.out hb)
      clear hb
      go_wp2_with fail
      refine (crc_one w4 S HL3.out (HN.out.below HB4.out)).mono ?_
      rintro e w5 ⟨rfl, hb⟩
      have HB5 := Aside0.mk (HB4.out.trans (hb.mono HB4.out.size))
      have HH0 := Aside0.mk (hash_after HH0.out hb)
      have HH1 := Aside0.mk (hash_after HH1.out hb)
      have HC := Aside0.mk (Kd.C_below HC.out hb)
      clear hb
      go_wp2_with fail
      have k1 := md5_any A1 c1 l w5 HC.out hc1 (HG.out.below HB5.out) (by omega) HF.out
      rw [← HST.out] at k1
      refine k1.mono ?_
      clear k1
      rintro e w6 ⟨rfl, hb⟩
      have HB6 := Aside0.mk (HB5.out.trans (hb.mono HB5.out.size))
      have HH0 := Aside0.mk (hash_after HH0.out hb)
      have HH1 := Aside0.mk (hash_after HH1.out hb)
      have HC := Aside0.mk (Kd.C_below HC.out hb)
      clear hb
      go_wp2_with fail
      have k1 := CRC_any A1 c1 l w6 HC.out hc1 (by omega) (fun s h => by have := HS.out s h; omega) (HN.out.below HB6.out)
      rw [← HST.out] at k1
      refine k1.mono ?_
      clear k1
      rintro e w' ⟨rfl, rfl⟩
      go_wp2_with fail
      refine (sum_any b1 _ _ w6 HH1.out (HG.out.below HB6.out) (by rw [size_toList]; exact HL2.out)).mono ?_
      rintro e w7 ⟨rfl, hb⟩
      have HB7 := Aside0.mk (HB6.out.trans (hb.mono HB6.out.size))
      have HH0 := Aside0.mk (hash_after HH0.out hb)
      have HH1 := Aside0.mk (hash_after HH1.out hb)
      clear hb
      go_wp2_with fail
      refine (crcOf_any b1 _ _ (crc_lt _) w7 HH1.out).mono ?_
      rintro e w' ⟨rfl, rfl⟩
      go_wp2_with fail
      refine (countS b1 S _ w7 HH1.out).mono ?_
      rintro e w' ⟨rfl, rfl⟩
      go_wp2_with fail
      refine (sum_any b0 _ _ w7 HH0.out (HG.out.below HB7.out) (by rw [size_toList]; exact HL2.out)).mono ?_
      rintro e w8 ⟨rfl, hb⟩
      have HB8 := Aside0.mk (HB7.out.trans (hb.mono HB7.out.size))
      clear hb
      go_wp2
      go_ret
      exact ⟨rfl, HB8.out⟩
end Go.Proofs.YthnobhifepnakaaDoor.Cuts
