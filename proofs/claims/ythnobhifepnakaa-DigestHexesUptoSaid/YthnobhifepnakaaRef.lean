/- What the document's Hex and Unhex answer, as the program's do. -/
import Derived.Test.YthnobhifepnakaaHex
import Derived.Test.YthnobhifepnakaaUnhex
set_option linter.unusedVariables false
set_option linter.unusedSimpArgs false
namespace Go.Proofs.Ythnobhifepnakaa.Refs
open Go.RowKit Go.Proofs.YthnobhifepnakaaW.PrintWords Go.Proofs.YthnobhifepnakaaW.PrintLast Go.Proofs.YthnobhifepnakaaW.PrintMore
open Go.Proofs.Ythnobhifepnakaa.PDigestHexes Hexes Unhexes
theorem digit_nat : ∀ c : Nat, c < 256 → granaryref2_digit.f 17 c = some (dg c) := by decide +kernel
theorem digit_f (k : Nat) (hk : 17 ≤ k) (c : Int) (h0 : 0 ≤ c) (h1 : c ≤ 255) : granaryref2_digit.f k c = some (dg c) := by
  obtain ⟨n, rfl⟩ := Int.eq_ofNat_of_zero_le h0
  exact at_rounds (fun k => granaryref2_digit.mono _ k) hk (digit_nat n (by omega))
theorem w64 (x : Int) (h0 : -9223372036854775808 ≤ x) (h1 : x ≤ 9223372036854775807) : wrap64 x = x := by unfold wrap64; omega
theorem hex_l0 (s : ByteArray) (hs : s.size ≤ 1073741824) (d : Nat) : ∀ (k i : Nat), i ≤ s.size → s.size - i = d → d < k →
    granaryref2_Hex.l0 k s (hexTo s i) i = some (strOfNums (hexTo s s.size)) := by
  induction d with
  | zero =>
    intro k i h1 hd hk
    obtain ⟨k, rfl⟩ : ∃ m, k = m + 1 := ⟨k - 1, by omega⟩
    obtain rfl : i = s.size := by omega
    simp only [granaryref2_Hex.l0]; rw [if_neg (by omega)]
  | succ d ih =>
    intro k i h1 hd hk
    obtain ⟨k, rfl⟩ : ∃ m, k = m + 1 := ⟨k - 1, by omega⟩
    have hr := bt_range s (i : Int)
    have e1 : (Int.tdiv (bt s i) 16) % 256 = bt s i / 16 := by rw [Int.tdiv_eq_ediv_of_nonneg hr.1]; omega
    have e2 : Int.tmod (bt s i) 16 = bt s i % 16 := Int.tmod_eq_emod_of_nonneg hr.1
    have hl := hexTo_length s i
    have e3 := hexD_at (bt s i / 16) (by omega) (by omega)
    have e4 := hexD_at (bt s i % 16) (by omega) (by omega)
    have b3 : bt ⟨#[48, 49, 50, 51, 52, 53, 54, 55, 56, 57, 97, 98, 99, 100, 101, 102]⟩ (bt s i / 16) = hexD (bt s i / 16) := by
      rw [← bt_at _ _ (by show (bt s i / 16).toNat < 16; omega)]; exact e3 _
    have b4 : bt ⟨#[48, 49, 50, 51, 52, 53, 54, 55, 56, 57, 97, 98, 99, 100, 101, 102]⟩ (bt s i % 16) = hexD (bt s i % 16) := by
      rw [← bt_at _ _ (by show (bt s i % 16).toNat < 16; omega)]; exact e4 _
    simp only [granaryref2_Hex.l0, e1, e2, b3, b4, Option.bind_some]
    rw [if_pos (by omega), if_pos (by omega), if_pos (by omega), if_pos (by omega), if_pos (by omega), if_pos (by omega), if_pos (by omega), if_pos (by simp; omega)]
    rw [w64 _ (by omega) (by omega), List.append_assoc]
    exact ih k (i + 1) (by omega) (by omega) (by omega)
theorem hex_f (s : ByteArray) (hs : s.size ≤ 1073741824) : ∃ k, granaryref2_Hex.f k s = some (strOfNums (hexTo s s.size)) := ⟨s.size + 1, hex_l0 s hs s.size _ 0 (by omega) (by omega) (by omega)⟩
def valsTo (s : ByteArray) (i : Nat) : List Int := (List.range i).map (pr s)
theorem unhex_good (s : ByteArray) (hs : s.size ≤ 1073741824) (he : s.size % 2 = 0) (hg : good s s.size) (d : Nat) : ∀ (k i : Nat), 2 * i ≤ s.size → s.size - 2 * i = 2 * d → d + 17 < k →
    granaryref2_Unhex.l0 k s (valsTo s i) (2 * i : Nat) = some (strOfNums (vals s), 0) := by
  induction d with
  | zero =>
    intro k i h1 hd hk
    obtain ⟨k, rfl⟩ : ∃ m, k = m + 1 := ⟨k - 1, by omega⟩
    obtain rfl : i = s.size / 2 := by omega
    simp only [granaryref2_Unhex.l0]; rw [if_neg (by omega)]; rfl
  | succ d ih =>
    intro k i h1 hd hk
    obtain ⟨k, rfl⟩ : ∃ m, k = m + 1 := ⟨k - 1, by omega⟩
    have hr := bt_range s (2 * i : Nat)
    have hr' := bt_range s (2 * i + 1 : Nat)
    have e0 : wrap64 ((2 * i : Nat) + 1 : Int) = (2 * i + 1 : Nat) := by rw [w64 _ (by omega) (by omega)]; omega
    have e9 : wrap64 ((2 * i : Nat) + 2 : Int) = (2 * (i + 1) : Nat) := by rw [w64 _ (by omega) (by omega)]; omega
    have g1 := hg (2 * i) (by omega)
    have g2 := hg (2 * i + 1) (by omega)
    have r1 := dg_range (bt s (2 * i : Nat))
    have r2 := dg_range (bt s (2 * i + 1 : Nat))
    have ih := ih k (i + 1) (by omega) (by omega) (by omega)
    simp only [granaryref2_Unhex.l0, e0, digit_f k (by omega) _ hr.1 hr.2, digit_f k (by omega) _ hr'.1 hr'.2, Option.bind_some]
    rw [if_pos (by omega), if_pos (by omega), if_pos (by omega), if_pos (by omega), if_neg (by omega), if_neg (by omega), if_pos (by simp [valsTo]; omega), e9]
    have e5 : wrap64 (wrap64 (16 * dg (bt s (2 * i : Nat))) + dg (bt s (2 * i + 1 : Nat))) % 256 = pr s i := by
      rw [w64 (16 * _) (by omega) (by omega), w64 _ (by omega) (by omega)]; unfold pr; omega
    rw [e5]
    have e6 : valsTo s i ++ [pr s i] = valsTo s (i + 1) := by simp [valsTo, List.range_succ]
    rw [e6]
    exact ih
theorem unhex_bad (s : ByteArray) (hs : s.size ≤ 1073741824) (he : s.size % 2 = 0) (hg : ¬ good s s.size) (d : Nat) : ∀ (k i : Nat), good s (2 * i) → 2 * i ≤ s.size → s.size - 2 * i = 2 * d → d + 17 < k →
    granaryref2_Unhex.l0 k s (valsTo s i) (2 * i : Nat) = some (⟨#[]⟩, 20) := by
  induction d with
  | zero =>
    intro k i hi h1 hd hk
    exact absurd (by rwa [show 2 * i = s.size by omega] at hi) hg
  | succ d ih =>
    intro k i hi h1 hd hk
    obtain ⟨k, rfl⟩ : ∃ m, k = m + 1 := ⟨k - 1, by omega⟩
    have hr := bt_range s (2 * i : Nat)
    have hr' := bt_range s (2 * i + 1 : Nat)
    have e0 : wrap64 ((2 * i : Nat) + 1 : Int) = (2 * i + 1 : Nat) := by rw [w64 _ (by omega) (by omega)]; omega
    have e9 : wrap64 ((2 * i : Nat) + 2 : Int) = (2 * (i + 1) : Nat) := by rw [w64 _ (by omega) (by omega)]; omega
    have r1 := dg_range (bt s (2 * i : Nat))
    have r2 := dg_range (bt s (2 * i + 1 : Nat))
    simp only [granaryref2_Unhex.l0, e0, digit_f k (by omega) _ hr.1 hr.2, digit_f k (by omega) _ hr'.1 hr'.2, Option.bind_some]
    rw [if_pos (by omega), if_pos (by omega), if_pos (by omega), if_pos (by omega)]
    by_cases g1 : dg (bt s (2 * i : Nat)) < 0
    · rw [if_pos g1]
    · by_cases g2 : dg (bt s (2 * i + 1 : Nat)) < 0
      · rw [if_neg g1, if_pos g2]
      · rw [if_neg g1, if_neg g2, if_pos (by simp [valsTo]; omega), e9]
        have e5 : wrap64 (wrap64 (16 * dg (bt s (2 * i : Nat))) + dg (bt s (2 * i + 1 : Nat))) % 256 = pr s i := by
          rw [w64 (16 * _) (by omega) (by omega), w64 _ (by omega) (by omega)]; unfold pr; omega
        rw [e5]
        have e6 : valsTo s i ++ [pr s i] = valsTo s (i + 1) := by simp [valsTo, List.range_succ]
        rw [e6]
        exact ih k (i + 1) (good_next s (2 * i + 1) (good_next s (2 * i) hi (by omega)) (by omega)) (by omega) (by omega) (by omega)
end Go.Proofs.Ythnobhifepnakaa.Refs
