/- DigestBurst: bits changed within 32 neighbouring ones change the CRC. -/
import Derived.Test.YthnobhifepnakaaDoorFlip
import Derived.Test.YthnobhifepnakaaDoorJoined
import Derived.Test.YthnobhifepnakaaDoorPDigestBurstx1
set_option linter.unusedVariables false
set_option linter.unusedSimpArgs false
namespace Go.Proofs.YthnobhifepnakaaDoor.Burst
open Go.RowKit Go.Proofs.YthnobhifepnakaaDoorW.PrintWords Go.Proofs.YthnobhifepnakaaDoorW.PrintLast Go.Proofs.YthnobhifepnakaaDoorW.PrintMore
open Go.Proofs.YthnobhifepnakaaDoor.Base Go.Proofs.YthnobhifepnakaaDoor.Hasher Go.Proofs.YthnobhifepnakaaDoor.Words Go.Proofs.YthnobhifepnakaaDoor.Known Go.Proofs.YthnobhifepnakaaDoor.Flip
open Go.Proofs.YthnobhifepnakaaDoor.CrcPure (crc crc_append crc_lt)
open Go.Proofs.YthnobhifepnakaaDoor.Crc (flat CRC_any Nibs)
open Go.Proofs.YthnobhifepnakaaDoor.PDigestBurst
open Go.Proofs.YthnobhifepnakaaDoor.Joined (crc_lit flat1)
theorem beyond1 (x : ByteArray) : ∃ r, granaryref2_Beyond.f 2 [x] = some r ∧ (r = false → x.size ≤ 2147483647) := by
  have e0 : rdOf ByteArray.empty [x] 0 = x := rfl
  unfold granaryref2_Beyond.f
  rw [granaryref2_Beyond.l0, if_pos (by simp), if_pos (by decide), e0]
  by_cases h0 : (x.size : Int) > 2147483647
  · exact ⟨true, if_pos h0, fun h => by cases h⟩
  rw [if_neg h0, if_neg (by decide), w64 (0 + (x.size : Int)) (by omega) (by omega), w64 (0 + (x.size : Int) + 1) (by omega) (by omega), w64 (0 + 1) (by omega) (by omega)]
  rw [granaryref2_Beyond.l0, if_neg (by simp)]
  exact ⟨_, rfl, fun h => by have := of_decide_eq_false h; omega⟩
theorem mods (a n : Int) (hn : 0 < n) : ∃ p : Nat, (a.tmod n + n).tmod n = (p : Int) ∧ (p : Int) < n ∧ -n < a.tmod n ∧ a.tmod n < n := by
  have h1 := Int.tmod_lt_of_pos a hn
  have h2 := Int.lt_tmod_of_pos a hn
  have h3 := Int.tmod_nonneg n (show 0 ≤ a.tmod n + n by omega)
  have h4 := Int.tmod_lt_of_pos (a.tmod n + n) hn
  exact ⟨((a.tmod n + n).tmod n).toNat, by omega, by omega, h2, h1⟩
set_option maxRecDepth 100000 in
set_option maxHeartbeats 8000000 in
theorem law_burst (x : ByteArray) (a m : Int) (w : World) (hG : Glob w) (hN : Nibs w) : Calls Tryd.prog 8 #[.string x, .int .i64 a, .int .i64 m] w fun e w' => e = .returned (.bool true) ∧ Below w.heap.size w w' := by
  obtain ⟨wz, rfl⟩ : ∃ w0 : World, w0 = w := ⟨_, rfl⟩
  have HG := Aside0.mk hG
  have HN := Aside0.mk hN
  clear hG hN
  go_enter Tryd.func8, Tryd.ntmps8
  go_wp2_with fail
  refine (known_any wz HG.out HN.out).mono ?_
  rintro e w0 ⟨rfl, hb⟩
  have HB0 := Aside0.mk hb
  clear hb
  obtain ⟨r, hr, hrs⟩ := beyond1 x
  have HR := Lib.hid hr
  have HS := Aside0.mk hrs
  clear hr hrs
  go_wp2_with fail
  have HA0 := Aside0.mk ((Below.refl w0.heap.size w0).alloc (Nat.le_refl _) (.cells (List.map Value.string [x]).toArray 9))
  refine (granaryref2_Beyond.calls 2 (some ⟨w0.heap.size, 0, none⟩) 1 [x] r _ (strs_new w0 [x] 9 (by simp)) (by simp) HR.out).mono ?_
  rintro e w1 ⟨rfl, hd⟩
  have HB1 := Aside0.mk (HB0.out.trans ((below_then HA0.out HA0.out.size hd.below).mono HB0.out.size))
  clear hd HA0 HR
  cases r
  case true =>
    go_wp2
    go_ret
    exact ⟨rfl, HB1.out⟩
  case false =>
    have hsz := HS.out rfl
    clear HS
    by_cases h0 : x.size = 0
    · have h0I : ((x.size : Int) == 0) = true := beq_iff_eq.2 (by omega)
      go_wp2
      go_ret
      exact ⟨rfl, HB1.out⟩
    · have h0I : ((x.size : Int) == 0) = false := beq_eq_false_iff_ne.2 (by omega)
      have hw8 : wrap64 (8 * (x.size : Int)) = 8 * (x.size : Int) := w64 _ (by omega) (by omega)
      obtain ⟨p, hp, hpl, ha1, ha2⟩ := mods a (8 * (x.size : Int)) (by omega)
      obtain ⟨q, hq, hql, hm1, hm2⟩ := mods m 4294967296 (by decide)
      go_wp2_with fail
      have hp2 : p < 8 * x.size := by omega
      have hq2 : q < 4294967296 := by omega
      clear hp hq ha1 ha2 hm1 hm2 hpl hql h0I hw8
      refine (flip_any x p q w1 hsz hp2 hq2).mono ?_
      rintro e w2 ⟨rfl, hb⟩
      have HB2 := Aside0.mk (HB1.out.trans (hb.mono HB1.out.size))
      clear hb
      have hfl := flip_burst x.data.toList p q (by rw [Take.size_toList]; omega)
      have hts : (strOf (flipL x.data.toList p q)).size = x.size := by rw [strOf_size, flipL_length, Take.size_toList]
      have htl : (strOf (flipL x.data.toList p q)).data.toList = flipL x.data.toList p q := strOf_toList _
      have hxd := strOf_data x
      generalize flipL x.data.toList p q = L at hfl hts htl
      have heq : (L = x.data.toList) ↔ (strOf L = x) := ⟨fun h => by rw [h, hxd], fun h => by rw [← htl, h]⟩
      rw [heq, ← htl] at hfl
      clear heq htl hxd
      generalize strOf L = t at hfl hts
      have hx : x.size ≤ 140737488351232 := by omega
      have ht : t.size ≤ 140737488351232 := by omega
      have HX := Aside0.mk hx
      have HT := Aside0.mk ht
      have HF := Aside0.mk hfl
      clear hx ht hfl hts
      go_wp2_with fail
      refine (crc_lit w2 [t] (by simp) (by simp only [List.mem_cons, List.not_mem_nil, or_false]; rintro s rfl; exact HT.out) (HN.out.below HB2.out)).mono ?_
      rintro e w3 ⟨rfl, hb⟩
      have HB3 := Aside0.mk (HB2.out.trans (hb.mono HB2.out.size))
      clear hb
      rw [flat1]
      go_wp2_with fail
      refine (crc_lit w3 [x] (by simp) (by simp only [List.mem_cons, List.not_mem_nil, or_false]; rintro s rfl; exact HX.out) (HN.out.below HB3.out)).mono ?_
      rintro e w4 ⟨rfl, hb⟩
      have HB4 := Aside0.mk (HB3.out.trans (hb.mono HB3.out.size))
      clear hb
      rw [flat1]
      by_cases htx : t = x
      · subst htx
        go_wp2
        go_ret
        exact ⟨rfl, HB4.out⟩
      · have hne : ¬ crc t.data.toList = crc x.data.toList := fun h => htx (HF.out.1 h)
        have hneI : (((crc t.data.toList : Nat) : Int) == ((crc x.data.toList : Nat) : Int)) = false := beq_eq_false_iff_ne.2 (by omega)
        have hneS : (t.toList == x.toList) = false := by rw [ByteArray.toList_eq, ByteArray.toList_eq]; exact beq_eq_false_iff_ne.2 (fun h => htx (by rw [← strOf_data t, ← strOf_data x, h]))
        go_wp2
        go_ret
        exact ⟨rfl, HB4.out⟩
end Go.Proofs.YthnobhifepnakaaDoor.Burst
