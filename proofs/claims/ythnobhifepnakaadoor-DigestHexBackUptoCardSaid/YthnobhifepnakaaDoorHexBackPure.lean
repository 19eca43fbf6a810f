/- Hex and Unhex against one another. -/
import Derived.Test.YthnobhifepnakaaDoorUnhex
import Derived.Test.YthnobhifepnakaaDoorHex
set_option linter.unusedVariables false
set_option linter.unusedSimpArgs false
namespace Go.Proofs.YthnobhifepnakaaDoor.HexBack
open Go.RowKit Go.Proofs.YthnobhifepnakaaDoorW.PrintWords Go.Proofs.YthnobhifepnakaaDoorW.PrintLast Go.Proofs.YthnobhifepnakaaDoorW.PrintMore
open Go.Proofs.YthnobhifepnakaaDoor.Unhexes Go.Proofs.YthnobhifepnakaaDoor.Hexes
open Go.Proofs.YthnobhifepnakaaDoor.Base (getD_left getD_right bt_strOfNums strOfNums_bytesOf)
open Classical in
noncomputable def unhexT (s : ByteArray) : ByteArray := if isHex s then strOfNums (vals s) else ⟨#[]⟩
open Classical in
noncomputable def unhexE (s : ByteArray) : Int := if isHex s then 0 else 20
theorem unhexT_yes {s : ByteArray} (h : isHex s) : unhexT s = strOfNums (vals s) := if_pos h
theorem unhexE_yes {s : ByteArray} (h : isHex s) : unhexE s = 0 := if_pos h
theorem unhexT_no {s : ByteArray} (h : ¬ isHex s) : unhexT s = ⟨#[]⟩ := if_neg h
theorem unhexE_no {s : ByteArray} (h : ¬ isHex s) : unhexE s = 20 := if_neg h
theorem Unhex_any (s : ByteArray) (w : World) (hs : s.size ≤ 1073741824) :
    Calls Tryd.prog 33 #[.string s] w fun e w' => e = .returned (.tuple #[.string (unhexT s), .int .i64 (unhexE s)]) ∧ Below w.heap.size w w' := by
  by_cases h : s.size % 2 = 0
  · refine (Unhex_even s w hs h).mono ?_
    rintro e w' ⟨hr | hr, hb⟩
    · have hx : isHex s := ⟨h, hr.1⟩
      exact ⟨by rw [hr.2, unhexT_yes hx, unhexE_yes hx], hb⟩
    · have hx : ¬ isHex s := fun hx => hr.1 hx.2
      exact ⟨by rw [hr.2, unhexT_no hx, unhexE_no hx], hb⟩
  · refine (Unhex_odd s w hs (by omega)).mono ?_
    rintro e w' ⟨he, hb⟩
    have hx : ¬ isHex s := fun hx => h hx.1
    exact ⟨by rw [he, unhexT_no hx, unhexE_no hx], hb⟩
def hx (s : ByteArray) : ByteArray := strOfNums (hexTo s s.size)
theorem hx_size (s : ByteArray) : (hx s).size = 2 * s.size := by unfold hx; rw [strOfNums_size, hexTo_length]
theorem hexD_range (n : Int) (h0 : 0 ≤ n) (h1 : n < 16) : 48 ≤ hexD n ∧ hexD n ≤ 102 := by unfold hexD; split <;> omega
theorem dg_hexD (n : Int) (h0 : 0 ≤ n) (h1 : n < 16) : dg (hexD n) = n := by
  unfold dg hexD
  split
  · rw [if_pos (by omega)]; omega
  · rw [if_neg (by omega), if_pos (by omega)]; omega
theorem hexTo_get (s : ByteArray) (k : Nat) : ∀ i, i < k → (hexTo s k).getD (2 * i) 0 = hexD (bt s i / 16) ∧ (hexTo s k).getD (2 * i + 1) 0 = hexD (bt s i % 16) := by
  induction k with
  | zero => intro i hi; omega
  | succ k ih =>
    intro i hi
    have hl := hexTo_length s k
    simp only [hexTo, hexI]
    by_cases h : i < k
    · have := ih i h
      rw [getD_left _ _ _ (by omega), getD_left _ _ _ (by omega)]
      exact this
    · obtain rfl : i = k := by omega
      rw [getD_right _ _ _ (by omega), getD_right _ _ _ (by omega), hl]
      simp
theorem hx_bt (s : ByteArray) (i : Nat) (hi : i < s.size) : bt (hx s) (2 * i : Nat) = hexD (bt s i / 16) ∧ bt (hx s) (2 * i + 1 : Nat) = hexD (bt s i % 16) := by
  have hr := bt_range s i
  have hl := hexTo_length s s.size
  have hg := hexTo_get s s.size i hi
  have r1 := hexD_range (bt s i / 16) (by omega) (by omega)
  have r2 := hexD_range (bt s i % 16) (by omega) (by omega)
  unfold hx
  constructor
  · rw [bt_strOfNums _ _ (by omega) (by rw [hg.1]; omega) (by rw [hg.1]; omega)]; exact hg.1
  · rw [bt_strOfNums _ _ (by omega) (by rw [hg.2]; omega) (by rw [hg.2]; omega)]; exact hg.2
theorem hx_isHex (s : ByteArray) : isHex (hx s) := by
  have hs := hx_size s
  refine ⟨by omega, fun j hj => ?_⟩
  have hb := hx_bt s (j / 2) (by omega)
  have hr := bt_range s (j / 2 : Nat)
  rcases Nat.mod_two_eq_zero_or_one j with h | h
  · rw [show j = 2 * (j / 2) by omega, hb.1, dg_hexD _ (by omega) (by omega)]; omega
  · rw [show j = 2 * (j / 2) + 1 by omega, hb.2, dg_hexD _ (by omega) (by omega)]; omega
theorem vals_hx (s : ByteArray) : vals (hx s) = bytesOf s := by
  have hs := hx_size s
  apply List.ext_getElem
  · simp [vals, bytesOf_length, hs]
  · intro i h1 h2
    have hi : i < s.size := by rwa [bytesOf_length] at h2
    have hb := hx_bt s i hi
    have hr := bt_range s i
    have e : (bytesOf s)[i] = bt s i := by
      rw [← rd_bytesOf]; simp [rd, List.getD_eq_getElem?_getD, List.getElem?_eq_getElem h2]
    simp only [vals, List.getElem_map, List.getElem_range]
    rw [e]; unfold pr
    rw [hb.1, hb.2, dg_hexD _ (by omega) (by omega), dg_hexD _ (by omega) (by omega)]
    omega
theorem hx_back (s : ByteArray) : unhexT (hx s) = s := by
  rw [unhexT_yes (hx_isHex s), vals_hx, strOfNums_bytesOf]
theorem dg_inv (c : Int) (h0 : 0 ≤ c) (h1 : c ≤ 255) (h : 0 ≤ dg c) : hexD (dg c) = c ∧ dg c < 16 := by
  unfold dg at h ⊢
  unfold hexD
  split at h
  · rename_i hc; rw [if_pos hc, if_pos (by omega)]; omega
  · rename_i hc
    rw [if_neg hc]
    split at h
    · rename_i hd; rw [if_pos hd, if_neg (by omega)]; omega
    · omega
theorem hexD_digit (n : Int) (h0 : 0 ≤ n) (h1 : n < 16) : (48 ≤ hexD n ∧ hexD n ≤ 57) ∨ (97 ≤ hexD n ∧ hexD n ≤ 102) := by unfold hexD; split <;> omega
/-- every character that Hex writes is a digit -/
theorem hx_digit (s : ByteArray) (i : Nat) (hi : i < (hx s).size) : (48 ≤ bt (hx s) (i : Nat) ∧ bt (hx s) (i : Nat) ≤ 57) ∨ (97 ≤ bt (hx s) (i : Nat) ∧ bt (hx s) (i : Nat) ≤ 102) := by
  rw [hx_size] at hi
  have hb := hx_bt s (i / 2) (by omega)
  have hr : 0 ≤ bt s (i / 2 : Nat) ∧ bt s (i / 2 : Nat) ≤ 255 := bt_range s _
  rcases Nat.mod_two_eq_zero_or_one i with h | h
  · rw [show i = 2 * (i / 2) by omega, hb.1]; exact hexD_digit _ (by omega) (by omega)
  · rw [show i = 2 * (i / 2) + 1 by omega, hb.2]; exact hexD_digit _ (by omega) (by omega)
theorem bt_ext (a b : ByteArray) (hl : a.size = b.size) (h : ∀ i, i < a.size → bt a (i : Nat) = bt b (i : Nat)) : a = b := by
  have at_ : ∀ (x : ByteArray) (i : Nat) (h : i < (bytesOf x).length), (bytesOf x)[i] = bt x i := fun x i h => by
    rw [← rd_bytesOf]; simp [rd, List.getD_eq_getElem?_getD, List.getElem?_eq_getElem h]
  have e : bytesOf a = bytesOf b := by
    apply List.ext_getElem
    · rw [bytesOf_length, bytesOf_length, hl]
    · intro i h1 h2
      rw [at_ a i h1, at_ b i h2]
      exact h i (by rwa [bytesOf_length] at h1)
  rw [← strOfNums_bytesOf a, ← strOfNums_bytesOf b, e]
theorem vals_at (s : ByteArray) (h : isHex s) (j : Nat) (hj : j < s.size / 2) : bt (strOfNums (vals s)) (j : Nat) = 16 * dg (bt s (2 * j : Nat)) + dg (bt s (2 * j + 1 : Nat)) ∧ hexD (dg (bt s (2 * j : Nat))) = bt s (2 * j : Nat) ∧ hexD (dg (bt s (2 * j + 1 : Nat))) = bt s (2 * j + 1 : Nat) ∧ 0 ≤ dg (bt s (2 * j : Nat)) ∧ dg (bt s (2 * j : Nat)) < 16 ∧ 0 ≤ dg (bt s (2 * j + 1 : Nat)) ∧ dg (bt s (2 * j + 1 : Nat)) < 16 := by
  have g0 := h.2 (2 * j) (by omega)
  have g1 := h.2 (2 * j + 1) (by omega)
  have r0 := bt_range s (2 * j : Nat)
  have r1 := bt_range s (2 * j + 1 : Nat)
  have d0 := dg_inv _ r0.1 r0.2 g0
  have d1 := dg_inv _ r1.1 r1.2 g1
  have hv : (vals s).getD j 0 = pr s j := by simp [vals, List.getD_eq_getElem?_getD, hj]
  have hp : pr s j = 16 * dg (bt s (2 * j : Nat)) + dg (bt s (2 * j + 1 : Nat)) := rfl
  refine ⟨?_, d0.1, d1.1, g0, d0.2, g1, d1.2⟩
  rw [bt_strOfNums (vals s) j (by simpa [vals] using hj) (by rw [hv, hp]; omega) (by rw [hv, hp]; omega), hv, hp]
theorem hx_unhex (s : ByteArray) (h : isHex s) : hx (strOfNums (vals s)) = s := by
  have hl : (strOfNums (vals s)).size = s.size / 2 := by rw [strOfNums_size]; simp [vals]
  have h2 := h.1
  refine bt_ext _ _ (by rw [hx_size, hl]; omega) (fun i hi => ?_)
  rw [hx_size, hl] at hi
  have hb := hx_bt (strOfNums (vals s)) (i / 2) (by rw [hl]; omega)
  have hv := vals_at s h (i / 2) (by omega)
  obtain ⟨v0, v1, v2, v3, v4, v5, v6⟩ := hv
  rcases Nat.mod_two_eq_zero_or_one i with hm | hm
  · have e : i = 2 * (i / 2) := by omega
    rw [e, hb.1, v0, show (16 * dg (bt s (2 * (i / 2) : Nat)) + dg (bt s (2 * (i / 2) + 1 : Nat))) / 16 = dg (bt s (2 * (i / 2) : Nat)) by omega]
    exact v1
  · have e : i = 2 * (i / 2) + 1 := by omega
    rw [e, hb.2, v0, show (16 * dg (bt s (2 * (i / 2) : Nat)) + dg (bt s (2 * (i / 2) + 1 : Nat))) % 16 = dg (bt s (2 * (i / 2) + 1 : Nat)) by omega]
    exact v2
theorem not_hex_cap (s : ByteArray) : ¬ isHex (hx s ++ ⟨#[65, 48]⟩) := by
  intro h
  have hz : (hx s ++ (⟨#[65, 48]⟩ : ByteArray)).size = (hx s).size + 2 := by rw [ByteArray.size_append]; rfl
  have := h.2 (hx s).size (by rw [hz]; omega)
  have e : bt (hx s ++ (⟨#[65, 48]⟩ : ByteArray)) ((hx s).size : Nat) = 65 := by
    have hb : bytesOf (hx s ++ (⟨#[65, 48]⟩ : ByteArray)) = bytesOf (hx s) ++ [65, 48] := by simp [bytesOf]
    rw [← rd_bytesOf, hb]
    simp [rd, List.getD_eq_getElem?_getD, List.getElem?_append_right, bytesOf_length]
  rw [e] at this
  exact absurd this (by decide)
theorem not_hex_odd (s : ByteArray) : ¬ isHex (hx s ++ ⟨#[48]⟩) := by
  intro h
  have hz : (hx s ++ (⟨#[48]⟩ : ByteArray)).size = (hx s).size + 1 := by rw [ByteArray.size_append]; rfl
  have := h.1
  rw [hz, hx_size] at this
  omega
end Go.Proofs.YthnobhifepnakaaDoor.HexBack
