/- Joined texts of this claim: TakeN -/
import Derived.Test.YtljjpdjknnhceaaDoorJRPlc11
import Derived.Test.YtljjpdjknnhceaaDoorJRPlc15
import Derived.Test.YtljjpdjknnhceaaDoorJRPlc2
set_option linter.unusedVariables false
set_option linter.unusedSimpArgs false
/- record.take, record.ReadNumber; the document's four. -/
set_option linter.unusedVariables false
set_option linter.unusedSimpArgs false
namespace Go.Proofs.YtljjpdjknnhceaaDoor.TakeN
open Go.RowKit Go.Proofs.YtljjpdjknnhceaaDoorW.PrintWords Go.Proofs.YtljjpdjknnhceaaDoorW.PrintLast Go.Proofs.YtljjpdjknnhceaaDoorW.PrintMore
open Go.Proofs.YtljjpdjknnhceaaDoor.Base Go.Proofs.YtljjpdjknnhceaaDoor.LocPure Go.Proofs.YtljjpdjknnhceaaDoor.Words Go.Proofs.YtljjpdjknnhceaaDoor.PRingLocates
theorem or_byte (n c : Nat) (hn : n < 16777216) (hc : c < 256) : bits .or .i64 ((n * 256 : Nat) : Int) (c : Int) = ((n * 256 + c : Nat) : Int) := by
  rw [i64_or_nat (n * 256) c (by omega) (by omega)]
  have e := Nat.two_pow_add_eq_or_of_lt (i := 8) (b := c) hc n
  rw [show n * 256 = 2 ^ 8 * n by omega, ← e]
set_option maxHeartbeats 2000000 in
theorem take_any (s : ByteArray) (w : World) (hs : s.size ≤ 4) : Calls Tryd.prog 81 #[.string s] w fun e w' => e = .returned (.int .i64 (beV s.data.toList : Nat)) ∧ Below w.heap.size w w' := by
  have kb := fun W => Lib.run_convert_string_bytes (P := Tryd.prog) W 9 109 5 s Tryd.underlying9 Tryd.underlying109 Tryd.underlying5
  have HB := Aside0.mk (below_bytes (Below.refl w.heap.size w) 5 s)
  have HC : Aside0 (∀ k, k < s.size → (Lib.bytesWorld w 5 s).cell? ⟨w.heap.size, k, none⟩ = some (.int .u8 (s.data.toList.getD k 0).toNat)) := ⟨fun k hk => Lib.bytesWorld_cell w 5 s k hk⟩
  have HL : Aside0 (∀ k, beV (s.data.toList.take k) < 256 ^ k) := ⟨fun k => beV_lt k _ (List.length_take_le _ _)⟩
  go_enter Tryd.func81, Tryd.ntmps81
  go_wp2_with fail
  clear kb
  generalize Lib.bytesWorld w 5 s = w1 at HB HC ⊢
  go_loop [3, 5, 9] (fun v3 _ v9 => ∃ k : Nat, k ≤ s.size ∧ v9 = .int .i64 ((k : Nat) : Int) ∧ v3 = .int .i64 ((beV (s.data.toList.take k) : Nat) : Int)) (fun _ _ v9 => s.size - (intOf v9).toNat)
  case atStart => exact ⟨0, Nat.zero_le _, rfl, rfl⟩
  case round =>
    obtain ⟨k, hk, rfl, rfl⟩ := hrel
    by_cases hlt : k < s.size
    · have hc := HC.out k hlt
      have hl := HL.out k
      have hk3 : k ≤ 3 := by omega
      have hp : 256 ^ k ≤ 16777216 := Nat.le_trans (Nat.pow_le_pow_right (by decide) hk3) (by decide)
      have HN : Aside0 (beV (s.data.toList.take (k + 1)) = beV (s.data.toList.take k) * 256 + (s.data.toList.getD k 0).toNat) := ⟨by
        rw [take_next s k hlt, beV_snoc]
        congr 2
        rw [List.getD_eq_getElem?_getD, getElem_list s k hlt]; rfl⟩
      have hx := (s.data.toList.getD k 0).toNat_lt
      generalize (s.data.toList.getD k 0).toNat = x at hc hx HN
      generalize beV (s.data.toList.take k) = n at hl HN ⊢
      have hn : n < 16777216 := by omega
      have ho := or_byte n x hn hx
      clear hl hp
      go_wp2_with fail
      go_round
      case rel => exact ⟨k + 1, by omega, by go_num, by rw [HN.out, show ((n : Int) * 256) = ((n * 256 : Nat) : Int) by omega, ho]⟩
      case measure => simp [intOf]; omega
    · obtain rfl : k = s.size := by omega
      rw [take_all]
      go_wp2_with fail
      go_ret
      exact ⟨rfl, HB.out⟩
theorem ext_list (s : ByteArray) (a b : Nat) : (s.extract a b).data.toList = (s.data.toList.drop a).take (b - a) := by
  rw [Lib.extract_data]
theorem ext_size (s : ByteArray) (a b : Nat) (h : b ≤ s.size) : (s.extract a b).size = b - a := by
  rw [ByteArray.size_extract]; omega
theorem readNumber_any (s : ByteArray) (a : Nat) (w : World) (h : a + 4 ≤ s.size) (hs : s.size ≤ 1048576) :
    Calls Tryd.prog 54 #[.string s, .int .i64 ((a : Nat) : Int), .int .i64 4] w fun e w' => e = .returned (.tuple #[.int .i64 (beV ((s.data.toList.drop a).take 4) : Nat), .int .i64 0]) ∧ Below w.heap.size w w' := by
  have HT : Aside0 (∀ W, Calls Tryd.prog 81 #[.string (s.extract a (a + 4))] W fun e w' => e = .returned (.int .i64 (beV ((s.data.toList.drop a).take 4) : Nat)) ∧ Below W.heap.size W w') := ⟨fun W => by
    have h1 := take_any (s.extract a (a + 4)) W (by rw [ext_size _ _ _ h]; omega)
    rw [ext_list, Nat.add_sub_cancel_left] at h1
    exact h1⟩
  go_enter Tryd.func54, Tryd.ntmps54
  go_wp2_with fail
  refine (HT.out w).mono ?_
  rintro e w1 ⟨rfl, hb⟩
  have HB := Aside0.mk hb
  clear hb
  go_wp2_with fail
  go_ret2
  exact ⟨rfl, HB.out⟩
theorem four_w (a b c d : Nat) (ha : a < 256) (hb : b < 256) (hc : c < 256) (hd : d < 256) : (wrap64 ((wrap64 ((wrap64 ((wrap64 ((wrap64 (a : Int)) * 16777216)) + (wrap64 ((wrap64 (b : Int)) * 65536)))) + (wrap64 ((wrap64 (c : Int)) * 256)))) + (wrap64 (d : Int)))) = ((a * 16777216 + b * 65536 + c * 256 + d : Nat) : Int) := by
  rw [w64 (a : Int) (by omega) (by omega), w64 (b : Int) (by omega) (by omega), w64 (c : Int) (by omega) (by omega), w64 (d : Int) (by omega) (by omega), w64 ((a : Int) * 16777216) (by omega) (by omega), w64 ((b : Int) * 65536) (by omega) (by omega), w64 ((c : Int) * 256) (by omega) (by omega)]
  rw [w64 ((a : Int) * 16777216 + (b : Int) * 65536) (by omega) (by omega), w64 ((a : Int) * 16777216 + (b : Int) * 65536 + (c : Int) * 256) (by omega) (by omega), w64 ((a : Int) * 16777216 + (b : Int) * 65536 + (c : Int) * 256 + (d : Int)) (by omega) (by omega)]
  omega
theorem list4 {l : List UInt8} (h : l.length = 4) : ∃ a b c d, l = [a, b, c, d] := by
  match l, h with
  | [a, b, c, d], _ => exact ⟨a, b, c, d, rfl⟩
theorem four_any (s : ByteArray) (w : World) (hs : s.size = 4) : Calls Tryd.prog 56 #[.string s] w fun e w' => e = .returned (.int .i64 (beV s.data.toList : Nat)) ∧ Below w.heap.size w w' := by
  obtain ⟨a, b, c, d, hl⟩ := list4 (l := s.data.toList) (by rw [data_length]; exact hs)
  have hb : ∀ (i : Nat) (x : UInt8), s.data.toList[i]? = some x → bt s (i : Nat) = (x.toNat : Int) := fun i x hx => by
    have hi : i < s.size := by have := (List.getElem?_eq_some_iff.1 hx).1; rwa [data_length] at this
    rw [bt_nat s i hi]
    rw [getElem_list s i hi] at hx
    simp only [Option.some.injEq] at hx
    rw [hx]
  refine (granaryref6_four.calls s _ w ?_).mono fun e w' h => ⟨h.1, h.2.below⟩
  unfold granaryref6_four.f
  rw [if_pos (by omega), if_pos (by omega), if_pos (by omega), if_pos (by omega), hl, beV_four]
  have h0 : bt s 0 = (a.toNat : Int) := hb 0 a (by rw [hl]; rfl)
  have h1 : bt s 1 = (b.toNat : Int) := hb 1 b (by rw [hl]; rfl)
  have h2 : bt s 2 = (c.toNat : Int) := hb 2 c (by rw [hl]; rfl)
  have h3 : bt s 3 = (d.toNat : Int) := hb 3 d (by rw [hl]; rfl)
  rw [h0, h1, h2, h3, four_w _ _ _ _ a.toNat_lt b.toNat_lt c.toNat_lt d.toNat_lt]
end Go.Proofs.YtljjpdjknnhceaaDoor.TakeN
