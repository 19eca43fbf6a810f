/- The law DigestHexes returns true. -/
import Derived.Test.YthnobhifepnakaaRef
set_option linter.unusedVariables false
set_option linter.unusedSimpArgs false
namespace Go.Proofs.Ythnobhifepnakaa.Law
open Go.RowKit Go.Proofs.YthnobhifepnakaaW.PrintWords Go.Proofs.YthnobhifepnakaaW.PrintLast Go.Proofs.YthnobhifepnakaaW.PrintMore
open Go.Proofs.Ythnobhifepnakaa.PDigestHexes Hexes Unhexes Refs
open Classical in
noncomputable def unhexT (s : ByteArray) : ByteArray := if isHex s then strOfNums (vals s) else ⟨#[]⟩
open Classical in
noncomputable def unhexE (s : ByteArray) : Int := if isHex s then 0 else 20
theorem unhexT_yes {s : ByteArray} (h : isHex s) : unhexT s = strOfNums (vals s) := if_pos h
theorem unhexE_yes {s : ByteArray} (h : isHex s) : unhexE s = 0 := if_pos h
theorem unhexT_no {s : ByteArray} (h : ¬ isHex s) : unhexT s = ⟨#[]⟩ := if_neg h
theorem unhexE_no {s : ByteArray} (h : ¬ isHex s) : unhexE s = 20 := if_neg h
theorem Unhex_any (s : ByteArray) (w : World) (hs : s.size ≤ 1073741824) :
    Calls Try.prog 5 #[.string s] w fun e w' => e = .returned (.tuple #[.string (unhexT s), .int .i64 (unhexE s)]) ∧ Below w.heap.size w w' := by
  by_cases h : s.size % 2 = 0
  · refine (Unhex_even s w hs h).mono ?_
    rintro e w' ⟨hr | hr, hb⟩
    · have hx : isHex s := ⟨h, hr.1⟩
      exact ⟨by rw [hr.2, unhexT_yes hx, unhexE_yes hx], hb⟩
    · have hx : ¬ isHex s := fun hx => hr.1 hx.2
      exact ⟨by rw [hr.2, unhexT_no hx, unhexE_no hx], hb⟩
  · refine (Unhex_odd s w hs (by omega)).mono ?_
    rintro e w' ⟨he, hb⟩
    have hx : ¬ isHex s := fun hx => h hx.1
    exact ⟨by rw [he, unhexT_no hx, unhexE_no hx], hb⟩
theorem refUnhex_any (s : ByteArray) (w : World) (hs : s.size ≤ 1073741824) :
    Calls Try.prog 6 #[.string s] w fun e w' => e = .returned (.tuple #[.string (unhexT s), .int .i64 (unhexE s)]) ∧ Below w.heap.size w w' := by
  by_cases h : s.size % 2 = 0
  · by_cases hg : good s s.size
    · have hx : isHex s := ⟨h, hg⟩
      rw [unhexT_yes hx, unhexE_yes hx]
      refine granaryref2_Unhex.calls (s.size / 2 + 18) s _ _ w ?_
      unfold granaryref2_Unhex.f
      rw [if_pos (by omega)]
      exact unhex_good s hs h hg (s.size / 2) _ 0 (by omega) (by omega) (by omega)
    · have hx : ¬ isHex s := fun hx => hg hx.2
      rw [unhexT_no hx, unhexE_no hx]
      refine granaryref2_Unhex.calls (s.size / 2 + 18) s _ _ w ?_
      unfold granaryref2_Unhex.f
      rw [if_pos (by omega)]
      exact unhex_bad s hs h hg (s.size / 2) _ 0 (fun j hj => by omega) (by omega) (by omega) (by omega)
  · have hx : ¬ isHex s := fun hx => h hx.1
    rw [unhexT_no hx, unhexE_no hx]
    refine granaryref2_Unhex.calls 0 s _ _ w ?_
    unfold granaryref2_Unhex.f
    rw [if_neg (by omega)]
theorem refHex_any (s : ByteArray) (w : World) (hs : s.size ≤ 1073741824) :
    Calls Try.prog 7 #[.string s] w fun e w' => e = .returned (.string (strOfNums (hexTo s s.size))) ∧ Below w.heap.size w w' := by
  obtain ⟨k, hk⟩ := hex_f s hs
  exact granaryref2_Hex.calls k s _ w hk
/- Hex's text is hex, and is read back. -/
def hx (s : ByteArray) : ByteArray := strOfNums (hexTo s s.size)
theorem hx_size (s : ByteArray) : (hx s).size = 2 * s.size := by unfold hx; rw [strOfNums_size, hexTo_length]
theorem hexD_range (n : Int) (h0 : 0 ≤ n) (h1 : n < 16) : 48 ≤ hexD n ∧ hexD n ≤ 102 := by unfold hexD; split <;> omega
theorem dg_hexD (n : Int) (h0 : 0 ≤ n) (h1 : n < 16) : dg (hexD n) = n := by
  unfold dg hexD
  split
  · rw [if_pos (by omega)]; omega
  · rw [if_neg (by omega), if_pos (by omega)]; omega
theorem getD_left (a b : List Int) (i : Nat) (h : i < a.length) : (a ++ b).getD i 0 = a.getD i 0 := by
  simp [List.getD_eq_getElem?_getD, List.getElem?_append_left h]
theorem getD_right (a b : List Int) (i : Nat) (h : a.length ≤ i) : (a ++ b).getD i 0 = b.getD (i - a.length) 0 := by
  simp [List.getD_eq_getElem?_getD, List.getElem?_append_right h]
theorem hexTo_get (s : ByteArray) (k : Nat) : ∀ i, i < k → (hexTo s k).getD (2 * i) 0 = hexD (bt s i / 16) ∧ (hexTo s k).getD (2 * i + 1) 0 = hexD (bt s i % 16) := by
  induction k with
  | zero => intro i hi; omega
  | succ k ih =>
    intro i hi
    have hl := hexTo_length s k
    simp only [hexTo, hexI]
    by_cases h : i < k
    · have := ih i h
      rw [getD_left _ _ _ (by omega), getD_left _ _ _ (by omega)]
      exact this
    · obtain rfl : i = k := by omega
      rw [getD_right _ _ _ (by omega), getD_right _ _ _ (by omega), hl]
      simp
theorem bt_strOfNums (l : List Int) (i : Nat) (hi : i < l.length) (h0 : 0 ≤ l.getD i 0) (h1 : l.getD i 0 ≤ 255) : bt (strOfNums l) (i : Nat) = l.getD i 0 := by
  have hsz := strOfNums_size l
  rw [← rd_bytesOf]
  simp only [rd, bytesOf, strOfNums_data]
  simp [List.getD_eq_getElem?_getD, List.getElem?_eq_getElem hi] at h0 h1 ⊢
  omega
theorem hx_bt (s : ByteArray) (i : Nat) (hi : i < s.size) : bt (hx s) (2 * i : Nat) = hexD (bt s i / 16) ∧ bt (hx s) (2 * i + 1 : Nat) = hexD (bt s i % 16) := by
  have hr := bt_range s i
  have hl := hexTo_length s s.size
  have hg := hexTo_get s s.size i hi
  have r1 := hexD_range (bt s i / 16) (by omega) (by omega)
  have r2 := hexD_range (bt s i % 16) (by omega) (by omega)
  unfold hx
  constructor
  · rw [bt_strOfNums _ _ (by omega) (by rw [hg.1]; omega) (by rw [hg.1]; omega)]; exact hg.1
  · rw [bt_strOfNums _ _ (by omega) (by rw [hg.2]; omega) (by rw [hg.2]; omega)]; exact hg.2
theorem hx_isHex (s : ByteArray) : isHex (hx s) := by
  have hs := hx_size s
  refine ⟨by omega, fun j hj => ?_⟩
  have hb := hx_bt s (j / 2) (by omega)
  have hr := bt_range s (j / 2 : Nat)
  rcases Nat.mod_two_eq_zero_or_one j with h | h
  · rw [show j = 2 * (j / 2) by omega, hb.1, dg_hexD _ (by omega) (by omega)]; omega
  · rw [show j = 2 * (j / 2) + 1 by omega, hb.2, dg_hexD _ (by omega) (by omega)]; omega
theorem strOfNums_bytesOf (s : ByteArray) : strOfNums (bytesOf s) = s := by
  cases s with | mk d =>
  unfold strOfNums bytesOf
  congr 1
  apply Array.ext'
  simp [Function.comp_def]
theorem vals_hx (s : ByteArray) : vals (hx s) = bytesOf s := by
  have hs := hx_size s
  apply List.ext_getElem
  · simp [vals, bytesOf_length, hs]
  · intro i h1 h2
    have hi : i < s.size := by rwa [bytesOf_length] at h2
    have hb := hx_bt s i hi
    have hr := bt_range s i
    have e : (bytesOf s)[i] = bt s i := by
      rw [← rd_bytesOf]; simp [rd, List.getD_eq_getElem?_getD, List.getElem?_eq_getElem h2]
    simp only [vals, List.getElem_map, List.getElem_range]
    rw [e]; unfold pr
    rw [hb.1, hb.2, dg_hexD _ (by omega) (by omega), dg_hexD _ (by omega) (by omega)]
    omega
theorem hx_back (s : ByteArray) : unhexT (hx s) = s := by
  rw [unhexT_yes (hx_isHex s), vals_hx, strOfNums_bytesOf]
theorem below_after {w w1 w2 : World} (h : Below w.heap.size w w1) (k : Below w1.heap.size w1 w2) : Below w.heap.size w w2 := below_then h h.size k
theorem below_drewN_left {w w1 : World} {m : Nat} (h : Below (w.drewN m).heap.size (w.drewN m) w1) : Below w.heap.size w w1 := ⟨h.os, h.tape, h.output, h.size, h.block⟩
set_option maxHeartbeats 1000000 in
theorem law_calls (s : ByteArray) (w : World) (hs : s.size ≤ 500000000) :
    Calls Try.prog 3 #[.string s] w fun e w' => e = .returned (.bool true) ∧ Below w.heap.size w w' := by
  have h1 := Lib.hid (hx_size s)
  have h2 := hx_back s
  have h3 := unhexE_yes (hx_isHex s)
  go_enter Try.func3, Try.ntmps3
  go_wp2_with fail
  refine (Hex_calls s w (by omega)).mono ?_
  rintro e w1 ⟨rfl, HB1⟩
  rw [show strOfNums (hexTo s s.size) = hx s from rfl]
  go_wp2_with fail
  refine (Unhex_any s _ (by omega)).mono ?_
  rintro e w2 ⟨rfl, HB2⟩
  go_wp2_with fail
  refine (refUnhex_any s _ (by omega)).mono ?_
  rintro e w3 ⟨rfl, HB3⟩
  go_wp2_with fail
  refine (refHex_any s _ (by omega)).mono ?_
  rintro e w4 ⟨rfl, HB4⟩
  rw [show strOfNums (hexTo s s.size) = hx s from rfl]
  go_wp2_with (go_at_call 8; refine (granarylaw2_num.calls _ _ _ rfl).mono ?_; rintro e w5 ⟨rfl, ⟨⟨m5, rfl⟩⟩⟩)
  refine (Unhex_any (hx s) _ (by rw [h1.out]; omega)).mono ?_
  rintro e w6 ⟨rfl, HB6⟩
  have HB6' := below_drewN_left HB6
  rw [h2, h3]
  go_wp2_with (go_at_call 8; refine (granarylaw2_num.calls _ _ _ rfl).mono ?_; rintro e w7 ⟨rfl, ⟨⟨m7, rfl⟩⟩⟩)
  go_ret
  refine ⟨rfl, pw_below_drewN ?_ m7⟩
  exact below_after (below_after (below_after (below_after HB1 HB2) HB3) HB4) HB6'
end Go.Proofs.Ythnobhifepnakaa.Law
