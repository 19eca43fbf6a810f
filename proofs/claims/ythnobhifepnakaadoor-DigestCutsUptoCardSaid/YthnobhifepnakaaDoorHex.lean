/- Hex of the digest package: what it answers. -/
import Derived.Test.YthnobhifepnakaaDoorWords
import Derived.StillTailTactics
import Derived.Outline
set_option linter.unusedVariables false
set_option linter.unusedSimpArgs false
namespace Go.Proofs.YthnobhifepnakaaDoor.Hexes
open Go.RowKit Go.Proofs.YthnobhifepnakaaDoorW.PrintWords Go.Proofs.YthnobhifepnakaaDoorW.PrintLast Go.Proofs.YthnobhifepnakaaDoorW.PrintMore
open Go.Proofs.YthnobhifepnakaaDoor.Base
open Go.Proofs.YthnobhifepnakaaDoor.Words (strOf strOf_toList strOf_size)
def hexD (n : Int) : Int := if n < 10 then 48 + n else 87 + n
def hexI (c : Int) : List Int := [hexD (c / 16), hexD (c % 16)]
def hexTo (s : ByteArray) : Nat → List Int
  | 0 => []
  | k + 1 => hexTo s k ++ hexI (bt s k)
theorem hexTo_length (s : ByteArray) (k : Nat) : (hexTo s k).length = 2 * k := by
  induction k with
  | zero => rfl
  | succ k ih => simp [hexTo, hexI, ih]; omega
theorem hexD_tab : ∀ n : Nat, n < 16 → bt ⟨#[48, 49, 50, 51, 52, 53, 54, 55, 56, 57, 97, 98, 99, 100, 101, 102]⟩ n = hexD n := by decide
theorem hexD_at (i : Int) (h0 : 0 ≤ i) (h1 : i < 16) : ∀ h : i.toNat < (⟨#[48, 49, 50, 51, 52, 53, 54, 55, 56, 57, 97, 98, 99, 100, 101, 102]⟩ : ByteArray).size,
    (((⟨#[48, 49, 50, 51, 52, 53, 54, 55, 56, 57, 97, 98, 99, 100, 101, 102]⟩ : ByteArray)[i.toNat]'h).toNat : Int) = hexD i := by
  intro h
  rw [bt_at]
  obtain ⟨n, rfl⟩ := Int.eq_ofNat_of_zero_le h0
  exact hexD_tab n (by omega)
theorem hexTo_next (s : ByteArray) (k : Nat) (h : k < s.size) : hexTo s (k + 1) = hexTo s k ++ [hexD ((s[k].toNat : Int) / 16), hexD ((s[k].toNat : Int) % 16)] := by
  have : bt s (k : Int) = (s[k].toNat : Int) := by simp [bt, h]
  simp only [hexTo, hexI, this]
set_option maxHeartbeats 1000000 in
theorem Hex_calls (s : ByteArray) (w : World) (hs : s.size ≤ 1073741824) :
    Calls Tryd.prog 25 #[.string s] w fun e w' => e = .returned (.string (strOfNums (hexTo s s.size))) ∧ Below w.heap.size w w' := by
  have hmk := make_cap (P := Tryd.prog) 64 5 (.int .u8 0) 1 Tryd.underlying64 info8 rfl (2 * (s.size : Int)) (by omega) (by omega) (by omega)
  have HM := Lib.hid (made_owns w (.int .u8 0) rfl (2 * s.size) (by simp only [maxLen]; omega) 5)
  go_enter Tryd.func25, Tryd.ntmps25
  go_wp2
  clear hmk
  go_loopw [3, 4] (fun v i wr => ∃ k : Nat, k ≤ s.size ∧ i = .int .i64 k ∧ Aside0 (wr.ownsRow w.heap.size 5 1 v (hexTo s k).length (nums .u8 (hexTo s k))) ∧ Aside0 (Below w.heap.size w wr)) (fun _ i _ => s.size - (intOf i).toNat)
  case atStart => exact ⟨0, Nat.zero_le _, rfl, ⟨HM.out⟩, ⟨(Below.refl _ _).alloc (Nat.le_refl _) _⟩⟩
  case round =>
    clear HM
    obtain ⟨k, hk, rfl, HO, HB⟩ := hrel
    by_cases hlt : k < s.size
    · have hc := s[k].toNat_lt
      have q1 : (0 ≤ (s[k].toNat : Int) / 16 ∧ (s[k].toNat : Int) / 16 < 16) = True := eq_true (by omega)
      have q2 : (0 ≤ (s[k].toNat : Int) % 16 ∧ (s[k].toNat : Int) % 16 < 16) = True := eq_true (by omega)
      have q3 := hexD_at ((s[k].toNat : Int) / 16) (by omega) (by omega)
      have q4 := hexD_at ((s[k].toNat : Int) % 16) (by omega) (by omega)
      have q5 := u8_and15 (s[k].toNat : Int) (by omega) (by omega)
      have hl2 := hexTo_length s k
      have HL := Lib.hid hl2
      clear hl2
      have hsz := HB.out.size
      have hcell := two_new wr (.int .u8 (hexD ((s[k].toNat : Int) / 16))) (.int .u8 (hexD ((s[k].toNat : Int) % 16))) 5
      go_wp2
      go_region_law (go_loud (refine step_append_at (P := Tryd.prog) (w0 := w) w.heap.size ?hw (.tmp 15) (.tmp 26) 64 5 (.int .u8 0) 1 rfl Tryd.underlying64 info8 rfl (by decide) u3 (hexTo s k).length (nums .u8 (hexTo s k)) wr.heap.size 2 2 [.int .u8 (hexD ((s[k].toNat : Int) / 16)), .int .u8 (hexD ((s[k].toNat : Int) % 16))] rfl rfl rfl ?h1 ?hc ?ho ?hb ?hs ?hl ?_); (case hw => simp [Region.wanted]); (case h1 => simp [Value.oneCell']); (case hc => exact hcell); (case ho => exact HO.out.alloc _); (case hb => exact below_drew (below_alloc HB.out _)); (case hs => simp; omega); (case hl => rw [HL.out]; omega); intro v1 w1 HO1 HB1 _)
      go_goals
      all_goals
        go_wp2
        go_roundw
        case rel => exact ⟨k + 1, by omega, by go_num, ⟨by rw [hexTo_next s k hlt, nums_append, List.length_append]; exact HO1⟩, ⟨HB1⟩⟩
        case measure => simp [intOf]; omega
    · have hcv := own_string (P := Tryd.prog) Tryd.underlying64 Tryd.underlying5 Tryd.underlying9 HO.out
      obtain rfl : k = s.size := by omega
      go_wp2
      go_ret
      exact ⟨rfl, HB.out⟩
def dig (n : Nat) : UInt8 := if n < 10 then UInt8.ofNat (48 + n) else UInt8.ofNat (87 + n)
def hexL (l : List UInt8) : List UInt8 := l.flatMap fun c => [dig (c.toNat / 16), dig (c.toNat % 16)]
theorem dig_eq (n : Nat) (h : n < 16) : UInt8.ofNat (hexD (n : Int)).toNat = dig n := by
  have : ∀ n : Nat, n < 16 → UInt8.ofNat (hexD (n : Int)).toNat = dig n := by decide
  exact this n h
theorem hexTo_map (s : ByteArray) (k : Nat) (h : k ≤ s.size) : (hexTo s k).map (fun n : Int => UInt8.ofNat n.toNat) = hexL (s.data.toList.take k) := by
  induction k with
  | zero => rfl
  | succ k ih =>
    have hc := s[k].toNat_lt
    rw [hexTo_next s k (by omega), List.map_append, ih (by omega), take_next s k (by omega)]
    unfold hexL
    rw [List.flatMap_append]
    congr 1
    have e1 := dig_eq (s[k].toNat / 16) (by omega)
    have e2 := dig_eq (s[k].toNat % 16) (by omega)
    rw [show ((s[k].toNat / 16 : Nat) : Int) = (s[k].toNat : Int) / 16 from rfl] at e1
    rw [show ((s[k].toNat % 16 : Nat) : Int) = (s[k].toNat : Int) % 16 from rfl] at e2
    simp only [List.map_cons, List.map_nil, List.flatMap_cons, List.flatMap_nil, List.append_nil, e1, e2]
theorem Hex_any (s : ByteArray) (w : World) (hs : s.size ≤ 1073741824) :
    Calls Tryd.prog 25 #[.string s] w fun e w' => e = .returned (.string (strOf (hexL s.data.toList))) ∧ Below w.heap.size w w' := by
  have e : strOfNums (hexTo s s.size) = strOf (hexL s.data.toList) := by
    unfold strOfNums strOf
    rw [hexTo_map s s.size (Nat.le_refl _), take_all]
  rw [← e]
  exact Hex_calls s w hs
end Go.Proofs.YthnobhifepnakaaDoor.Hexes
