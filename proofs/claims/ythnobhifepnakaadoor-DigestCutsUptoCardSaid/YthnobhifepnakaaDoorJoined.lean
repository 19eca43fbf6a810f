/- DigestJoined: the sums of three texts are joined without the bytes. -/
import Derived.Test.YthnobhifepnakaaDoorKnown
import Derived.Test.YthnobhifepnakaaDoorJoinPure
import Derived.Test.YthnobhifepnakaaDoorPDigestJoinedx1
set_option linter.unusedVariables false
set_option linter.unusedSimpArgs false
namespace Go.Proofs.YthnobhifepnakaaDoor.Joined
open Go.RowKit Go.Proofs.YthnobhifepnakaaDoorW.PrintWords Go.Proofs.YthnobhifepnakaaDoorW.PrintLast Go.Proofs.YthnobhifepnakaaDoorW.PrintMore
open Go.Proofs.YthnobhifepnakaaDoor.Base Go.Proofs.YthnobhifepnakaaDoor.Hasher Go.Proofs.YthnobhifepnakaaDoor.Words Go.Proofs.YthnobhifepnakaaDoor.Known
open Go.Proofs.YthnobhifepnakaaDoor.CrcPure (crc crc_append crc_lt)
open Go.Proofs.YthnobhifepnakaaDoor.Crc (flat CRC_any Nibs)
open Go.Proofs.YthnobhifepnakaaDoor.PDigestJoined
theorem beyond3 (x y z : ByteArray) : ∃ r, granaryref2_Beyond.f 4 [x, y, z] = some r ∧ (r = false → x.size + y.size + z.size ≤ 2147483647) := by
  have e0 : rdOf ByteArray.empty [x, y, z] 0 = x := rfl
  have e1 : rdOf ByteArray.empty [x, y, z] 1 = y := rfl
  have e2 : rdOf ByteArray.empty [x, y, z] 2 = z := rfl
  unfold granaryref2_Beyond.f
  rw [granaryref2_Beyond.l0, if_pos (by simp), if_pos (by decide), e0]
  by_cases h0 : (x.size : Int) > 2147483647
  · exact ⟨true, if_pos h0, fun h => by cases h⟩
  rw [if_neg h0, if_neg (by decide), w64 (0 + (x.size : Int)) (by omega) (by omega), w64 (0 + (x.size : Int) + 1) (by omega) (by omega), w64 (0 + 1) (by omega) (by omega)]
  rw [granaryref2_Beyond.l0, if_pos (by simp), if_pos (by decide), show (0 : Int) + 1 = 1 from rfl, e1]
  by_cases h1 : (y.size : Int) > 2147483647
  · exact ⟨true, if_pos h1, fun h => by cases h⟩
  rw [if_neg h1]
  by_cases h1' : 0 + (x.size : Int) + 1 > 2147483647
  · exact ⟨true, if_pos h1', fun h => by cases h⟩
  rw [if_neg h1', w64 (0 + (x.size : Int) + 1 + (y.size : Int)) (by omega) (by omega), w64 (0 + (x.size : Int) + 1 + (y.size : Int) + 1) (by omega) (by omega), w64 (1 + 1) (by omega) (by omega)]
  rw [granaryref2_Beyond.l0, if_pos (by simp), if_pos (by decide), show (1 : Int) + 1 = 2 from rfl, e2]
  by_cases h2 : (z.size : Int) > 2147483647
  · exact ⟨true, if_pos h2, fun h => by cases h⟩
  rw [if_neg h2]
  by_cases h2' : 0 + (x.size : Int) + 1 + (y.size : Int) + 1 > 2147483647
  · exact ⟨true, if_pos h2', fun h => by cases h⟩
  rw [if_neg h2', w64 (0 + (x.size : Int) + 1 + (y.size : Int) + 1 + (z.size : Int)) (by omega) (by omega), w64 (0 + (x.size : Int) + 1 + (y.size : Int) + 1 + (z.size : Int) + 1) (by omega) (by omega), w64 (2 + 1) (by omega) (by omega)]
  rw [granaryref2_Beyond.l0, if_neg (by simp)]
  exact ⟨_, rfl, fun h => by have := of_decide_eq_false h; omega⟩
theorem join_len (X Y : List UInt8) (n : Nat) (hn : n = Y.length) (hb : n ≤ 9007199254740992) (w : World) :
    Calls Tryd.prog 18 #[.int .i64 (crc X : Nat), .int .i64 (crc Y : Nat), .int .i64 (n : Nat)] w fun e w' => e = .returned (.tuple #[.int .i64 (crc (X ++ Y) : Nat), .int .i64 0]) ∧ Below w.heap.size w w' := by
  refine (Go.Proofs.YthnobhifepnakaaDoor.JoinPure.join_good_any (crc X) (crc Y) n w (crc_lt X) (crc_lt Y) hb).mono ?_
  rintro e w' ⟨rfl, hd⟩
  refine ⟨?_, hd.below⟩
  rw [crc_append, hn]
theorem join_len2 (X Y : List UInt8) (a b : Nat) (hn : a + b = Y.length) (hb : a + b ≤ 9007199254740992) (w : World) :
    Calls Tryd.prog 18 #[.int .i64 (crc X : Nat), .int .i64 (crc Y : Nat), .int .i64 ((a : Int) + (b : Int))] w fun e w' => e = .returned (.tuple #[.int .i64 (crc (X ++ Y) : Nat), .int .i64 0]) ∧ Below w.heap.size w w' := by
  have h := join_len X Y (a + b) hn hb w
  rw [Int.natCast_add] at h
  exact h
theorem crc_lit (w : World) (l : List ByteArray) (hl : l.length ≤ 1000) (hs : ∀ s ∈ l, s.size ≤ 140737488351232) (hN : Nibs w) :
    Calls Tryd.prog 13 #[.slice (some ⟨w.heap.size, 0, none⟩) l.length l.length] (w.alloc (.cells (l.map Value.string).toArray 9)) fun e w' => e = .returned (.int .i64 (crc (flat l) : Nat)) ∧ Below w.heap.size w w' := by
  have hB := (Below.refl w.heap.size w).alloc (Nat.le_refl _) (.cells (l.map Value.string).toArray 9)
  refine (CRC_any (some ⟨w.heap.size, 0, none⟩) l.length l _ (strs_new w l 9 (by omega)) (Nat.le_refl _) (by omega) hs (hN.below hB)).mono ?_
  rintro e w' ⟨rfl, rfl⟩
  exact ⟨rfl, hB⟩
theorem num_any (n : Int) (w : World) : Calls Tryd.prog 20 #[.int .i64 n] w fun e w' => e = .returned (.int .i64 n) ∧ w = w' := by
  go_enter Tryd.func20, Tryd.ntmps20
  go_wp2
  go_ret
  exact ⟨rfl, rfl⟩
theorem flat1 (x : ByteArray) : flat [x] = x.data.toList := by simp [flat]
theorem flat3 (x y z : ByteArray) : flat [x, y, z] = x.data.toList ++ (y.data.toList ++ z.data.toList) := by simp [flat]
theorem app_toList (x y : ByteArray) : (x ++ y).data.toList = x.data.toList ++ y.data.toList := by simp
set_option maxRecDepth 100000 in
set_option maxHeartbeats 8000000 in
theorem law_joined (x y z : ByteArray) (w : World) (hG : Glob w) (hN : Nibs w) : Calls Tryd.prog 11 #[.string x, .string y, .string z] w fun e w' => e = .returned (.bool true) ∧ Below w.heap.size w w' := by
  obtain ⟨wz, rfl⟩ : ∃ w0 : World, w0 = w := ⟨_, rfl⟩
  have HG := Aside0.mk hG
  have HN := Aside0.mk hN
  clear hG hN
  go_enter Tryd.func11, Tryd.ntmps11
  go_wp2_with fail
  refine (known_any wz HG.out HN.out).mono ?_
  rintro e w0 ⟨rfl, hb⟩
  have HB0 := Aside0.mk hb
  clear hb
  obtain ⟨r, hr, hrs⟩ := beyond3 x y z
  have HR := Lib.hid hr
  have HS := Aside0.mk hrs
  clear hr hrs
  go_wp2_with fail
  have HA0 := Aside0.mk ((Below.refl w0.heap.size w0).alloc (Nat.le_refl _) (.cells (List.map Value.string [x, y, z]).toArray 9))
  refine (granaryref2_Beyond.calls 4 (some ⟨w0.heap.size, 0, none⟩) 3 [x, y, z] r _ (strs_new w0 [x, y, z] 9 (by simp)) (by simp) HR.out).mono ?_
  rintro e w1 ⟨rfl, hd⟩
  have HB1 := Aside0.mk (HB0.out.trans ((below_then HA0.out HA0.out.size hd.below).mono HB0.out.size))
  clear hd HA0 HR
  cases r
  case true =>
    go_wp2
    go_ret
    exact ⟨rfl, HB1.out⟩
  case false =>
    have hsz := HS.out rfl
    have HSZ := Aside0.mk hsz
    clear HS
    have hx : x.size ≤ 140737488351232 := by omega
    have hy : y.size ≤ 140737488351232 := by omega
    have hz : z.size ≤ 140737488351232 := by omega
    clear hsz
    have HX := Aside0.mk hx
    have HY := Aside0.mk hy
    have HZ := Aside0.mk hz
    clear hx hy hz
    go_wp2_with fail
    refine (crc_lit w1 [x] (by simp) (by simp only [List.mem_cons, List.not_mem_nil, or_false]; rintro s rfl; exact HX.out) (HN.out.below HB1.out)).mono ?_
    rintro e w2 ⟨rfl, hb⟩
    have HB2 := Aside0.mk (HB1.out.trans (hb.mono HB1.out.size))
    clear hb
    rw [flat1]
    go_wp2_with fail
    refine (crc_lit w2 [y] (by simp) (by simp only [List.mem_cons, List.not_mem_nil, or_false]; rintro s rfl; exact HY.out) (HN.out.below HB2.out)).mono ?_
    rintro e w3 ⟨rfl, hb⟩
    have HB3 := Aside0.mk (HB2.out.trans (hb.mono HB2.out.size))
    clear hb
    rw [flat1]
    go_wp2_with fail
    refine (crc_lit w3 [z] (by simp) (by simp only [List.mem_cons, List.not_mem_nil, or_false]; rintro s rfl; exact HZ.out) (HN.out.below HB3.out)).mono ?_
    rintro e w4 ⟨rfl, hb⟩
    have HB4 := Aside0.mk (HB3.out.trans (hb.mono HB3.out.size))
    clear hb
    rw [flat1]
    go_wp2_with fail
    refine (join_len (x.data.toList) (y.data.toList) y.size (Take.size_toList y).symm (by have := HSZ.out; omega) w4).mono ?_
    rintro e w5 ⟨rfl, hb⟩
    have HB5 := Aside0.mk (HB4.out.trans (hb.mono HB4.out.size))
    clear hb
    go_wp2_with fail
    refine (join_len (y.data.toList) (z.data.toList) z.size (Take.size_toList z).symm (by have := HSZ.out; omega) w5).mono ?_
    rintro e w6 ⟨rfl, hb⟩
    have HB6 := Aside0.mk (HB5.out.trans (hb.mono HB5.out.size))
    clear hb
    go_wp2_with fail
    refine (join_len (x.data.toList ++ y.data.toList) (z.data.toList) z.size (Take.size_toList z).symm (by have := HSZ.out; omega) w6).mono ?_
    rintro e w7 ⟨rfl, hb⟩
    have HB7 := Aside0.mk (HB6.out.trans (hb.mono HB6.out.size))
    clear hb
    have hyz : y.size + z.size ≤ 2147483647 := by have := HSZ.out; omega
    go_wp2_with fail
    refine (join_len2 (x.data.toList) (y.data.toList ++ z.data.toList) y.size z.size (by rw [List.length_append, Take.size_toList, Take.size_toList]) (by have := HSZ.out; omega) w7).mono ?_
    rintro e w8 ⟨rfl, hb⟩
    have HB8 := Aside0.mk (HB7.out.trans (hb.mono HB7.out.size))
    clear hb
    have hadd : (9223372036854775807 < x.size + y.size) = False := eq_false (by have := HSZ.out; omega)
    go_wp2_with (go_at_call 20; refine (num_any 0 _).mono ?_; rintro e w' ⟨rfl, rfl⟩)
    refine (crc_lit w8 [x ++ y] (by simp) (by simp only [List.mem_cons, List.not_mem_nil, or_false]; rintro s rfl; have := HSZ.out; rw [ByteArray.size_append]; omega) (HN.out.below HB8.out)).mono ?_
    rintro e w9 ⟨rfl, hb⟩
    have HB9 := Aside0.mk (HB8.out.trans (hb.mono HB8.out.size))
    clear hb
    rw [flat1, app_toList]
    go_wp2_with fail
    refine (crc_lit w9 [x, y, z] (by simp) (by simp only [List.mem_cons, List.not_mem_nil, or_false]; rintro s (rfl | rfl | rfl) <;> first | exact HX.out | exact HY.out | exact HZ.out) (HN.out.below HB9.out)).mono ?_
    rintro e w10 ⟨rfl, hb⟩
    have HB10 := Aside0.mk (HB9.out.trans (hb.mono HB9.out.size))
    clear hb
    rw [flat3]
    go_wp2
    go_ret
    exact ⟨rfl, HB10.out⟩
end Go.Proofs.YthnobhifepnakaaDoor.Joined
