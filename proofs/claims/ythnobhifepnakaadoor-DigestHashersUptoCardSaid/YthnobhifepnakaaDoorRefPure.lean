/- The document's MD5: its small functions. -/
import Derived.Test.YthnobhifepnakaaDoorMix
import Derived.Test.YthnobhifepnakaaDoorWords
import Derived.BigQuiet
set_option linter.unusedVariables false
set_option linter.unusedSimpArgs false
namespace Go.Proofs.YthnobhifepnakaaDoor.RefMD5
open Go.RowKit Go.Proofs.YthnobhifepnakaaDoorW.PrintWords Go.Proofs.YthnobhifepnakaaDoorW.PrintLast Go.Proofs.YthnobhifepnakaaDoorW.PrintMore
open Go.Proofs.YthnobhifepnakaaDoor.Base Go.Proofs.YthnobhifepnakaaDoor.StepsRef Go.Proofs.YthnobhifepnakaaDoor.Words Go.Proofs.YthnobhifepnakaaDoor.PDigestMD5s
open Go.Proofs.YthnobhifepnakaaDoor.Md5Pure (St mdStep mdSteps mdBlock wordAt fF gG K R M rotl plus bytes4 told first blkN tail md5 padN len8)
/-- the document's tables lie where they were laid -/
structure RTabs (w : World) : Prop where mk ::
  (sine : ∀ i, i < 64 → w.cell? ⟨5, i, none⟩ = some (.int .i64 (K i : Nat)))
  (turn : ∀ i, i < 16 → w.cell? ⟨6, i, none⟩ = some (.int .i64 (Md5Pure.turns.getD i 0 : Nat)))
  (pows : Pows w)
  (lts : 5 < w.heap.size) (ltt : 6 < w.heap.size)
theorem RTabs.below {w w1 : World} (h : RTabs w) (hb : Below w.heap.size w w1) : RTabs w1 :=
  ⟨fun i hi => (hb.cell (p := ⟨5, i, none⟩) h.lts).trans (h.sine i hi), fun i hi => (hb.cell (p := ⟨6, i, none⟩) h.ltt).trans (h.turn i hi), h.pows.below hb, Nat.lt_of_lt_of_le h.lts hb.size, Nat.lt_of_lt_of_le h.ltt hb.size⟩
theorem and_lt (a b : Nat) (h : b < 4294967296) : a &&& b < 4294967296 := Nat.and_lt_two_pow (n := 32) a h
theorem or_lt (a b : Nat) (h : a < 4294967296) (h2 : b < 4294967296) : a ||| b < 4294967296 := Nat.or_lt_two_pow (n := 32) h h2
theorem xor_lt (a b : Nat) (h : a < 4294967296) (h2 : b < 4294967296) : a ^^^ b < 4294967296 := Nat.xor_lt_two_pow (n := 32) h h2
theorem sub_eq (b : Nat) (h : b < 4294967296) : wrap64 (4294967295 - (b : Int)) = ((M - b : Nat) : Int) := by
  rw [w64 _ (by omega) (by omega)]; unfold M; omega
theorem M_lt (b : Nat) : M - b < 4294967296 := by unfold M; omega
theorem mixed_f (q b c d : Nat) (hb : b < 4294967296) (hc : c < 4294967296) (hd : d < 4294967296) : granaryref2_mixed.f (q : Int) (b : Int) (c : Int) (d : Int) = some ((fF q b c d : Nat) : Int) := by
  have b9 : b < 9223372036854775808 := by omega
  have c9 : c < 9223372036854775808 := by omega
  have d9 : d < 9223372036854775808 := by omega
  have m9 : ∀ x, M - x < 9223372036854775808 := fun x => by have := M_lt x; omega
  have a9 : ∀ x y, y < 4294967296 → x &&& y < 9223372036854775808 := fun x y h => by have := and_lt x y h; omega
  have o9 : ∀ x y, x < 4294967296 → y < 4294967296 → x ||| y < 9223372036854775808 := fun x y h h2 => by have := or_lt x y h h2; omega
  have x9 : ∀ x y, x < 4294967296 → y < 4294967296 → x ^^^ y < 9223372036854775808 := fun x y h h2 => by have := xor_lt x y h h2; omega
  unfold granaryref2_mixed.f fF
  by_cases h0 : q = 0
  · rw [if_pos (by omega), if_pos h0, sub_eq b hb, i64_and_nat _ _ b9 c9, i64_and_nat _ _ (m9 _) d9, i64_or_nat _ _ (a9 _ _ hc) (a9 _ _ hd)]
  · rw [if_neg (by omega), if_neg h0]
    by_cases h1 : q = 1
    · rw [if_pos (by omega), if_pos h1, sub_eq d hd, i64_and_nat _ _ d9 b9, i64_and_nat _ _ (m9 _) c9, i64_or_nat _ _ (a9 _ _ hb) (a9 _ _ hc)]
    · rw [if_neg (by omega), if_neg h1]
      by_cases h2 : q = 2
      · rw [if_pos (by omega), if_pos h2, i64_xor_nat _ _ b9 c9, i64_xor_nat _ _ (x9 _ _ hb hc) d9]
      · rw [if_neg (by omega), if_neg h2, sub_eq d hd, i64_or_nat _ _ b9 (m9 _), i64_xor_nat _ _ c9 (o9 _ _ hb (M_lt _))]
theorem mixed_any (q b c d : Nat) (w : World) (hb : b < 4294967296) (hc : c < 4294967296) (hd : d < 4294967296) :
    Calls Tryd.prog 55 #[.int .i64 (q : Nat), .int .i64 (b : Nat), .int .i64 (c : Nat), .int .i64 (d : Nat)] w fun e w' => e = .returned (.int .i64 (fF q b c d : Nat)) ∧ Drawn0 w w' :=
  granaryref2_mixed.calls _ _ _ _ _ w (mixed_f q b c d hb hc hd)
theorem which_f (i : Nat) (h : i < 64) : granaryref2_which.f (i : Int) = some ((gG i : Nat) : Int) := by
  have e : (i : Int).tdiv 16 = ((i / 16 : Nat) : Int) := by rw [Int.tdiv_eq_ediv_of_nonneg (by omega)]; omega
  unfold granaryref2_which.f gG
  rw [e, w64 ((i / 16 : Nat) : Int) (by omega) (by omega), w64 (5 * (i : Int)) (by omega) (by omega), w64 (5 * (i : Int) + 1) (by omega) (by omega), w64 (3 * (i : Int)) (by omega) (by omega), w64 (3 * (i : Int) + 5) (by omega) (by omega), w64 (7 * (i : Int)) (by omega) (by omega),
    Int.tmod_eq_emod_of_nonneg (by omega), Int.tmod_eq_emod_of_nonneg (by omega), Int.tmod_eq_emod_of_nonneg (by omega)]
  by_cases h0 : i / 16 = 0
  · rw [if_pos (by omega), if_pos h0]
  · rw [if_neg (by omega), if_neg h0]
    by_cases h1 : i / 16 = 1
    · rw [if_pos (by omega), if_pos h1]; congr 1
    · rw [if_neg (by omega), if_neg h1]
      by_cases h2 : i / 16 = 2
      · rw [if_pos (by omega), if_pos h2]; congr 1
      · rw [if_neg (by omega), if_neg h2]; congr 1
theorem which_any (i : Nat) (h : i < 64) (w : World) : Calls Tryd.prog 56 #[.int .i64 (i : Nat)] w fun e w' => e = .returned (.int .i64 (gG i : Nat)) ∧ Drawn0 w w' := granaryref2_which.calls _ _ w (which_f i h)
/-- 64 bytes of t from at on -/
def blk (t : ByteArray) (at_ : Nat) : List UInt8 := (t.data.toList.drop at_).take 64
theorem blk_bt (t : ByteArray) (at_ i : Nat) (h : at_ + 64 ≤ t.size) (hi : i < 64) : bt t ((at_ : Int) + (i : Int)) = (((blk t at_).getD i 0).toNat : Int) := by
  have h2 : at_ + i < t.size := by omega
  rw [show (at_ : Int) + (i : Int) = ((at_ + i : Nat) : Int) by omega, bt_nat t _ h2]
  have e := getElem_list t (at_ + i) h2
  unfold blk
  rw [List.getD_eq_getElem?_getD, List.getElem?_take, if_pos hi, List.getElem?_drop, e]
  rfl
theorem four_pure (t : ByteArray) (a x0 x1 x2 x3 : Int) (hA : 0 ≤ a) (hB : a + 3 < (t.size : Int)) (ht : t.size ≤ 4611686018427387904)
    (b0 : bt t a = x0) (b1 : bt t (a + 1) = x1) (b2 : bt t (a + 2) = x2) (b3 : bt t (a + 3) = x3) (r0 : 0 ≤ x0 ∧ x0 ≤ 255) (r1 : 0 ≤ x1 ∧ x1 ≤ 255) (r2 : 0 ≤ x2 ∧ x2 ≤ 255) (r3 : 0 ≤ x3 ∧ x3 ≤ 255) :
    granaryref2_four.f t a = some (x0 + 256 * x1 + 65536 * x2 + 16777216 * x3) := by
  have w1 : wrap64 (a + 1) = a + 1 := w64 _ (by omega) (by omega)
  have w2 : wrap64 (a + 2) = a + 2 := w64 _ (by omega) (by omega)
  have w3 : wrap64 (a + 3) = a + 3 := w64 _ (by omega) (by omega)
  have c1 : a < (t.size : Int) := by omega
  have c2 : 0 ≤ a + 1 := by omega
  have c3 : a + 1 < (t.size : Int) := by omega
  have c4 : 0 ≤ a + 2 := by omega
  have c5 : a + 2 < (t.size : Int) := by omega
  have c6 : 0 ≤ a + 3 := by omega
  have v0 : wrap64 x0 = x0 := w64 _ (by omega) (by omega)
  have v1 : wrap64 x1 = x1 := w64 _ (by omega) (by omega)
  have v2 : wrap64 x2 = x2 := w64 _ (by omega) (by omega)
  have v3 : wrap64 x3 = x3 := w64 _ (by omega) (by omega)
  have u1 : wrap64 (256 * x1) = 256 * x1 := w64 _ (by omega) (by omega)
  have u2 : wrap64 (65536 * x2) = 65536 * x2 := w64 _ (by omega) (by omega)
  have u3 : wrap64 (16777216 * x3) = 16777216 * x3 := w64 _ (by omega) (by omega)
  have s1 : wrap64 (x0 + 256 * x1) = x0 + 256 * x1 := w64 _ (by omega) (by omega)
  have s2 : wrap64 (x0 + 256 * x1 + 65536 * x2) = x0 + 256 * x1 + 65536 * x2 := w64 _ (by omega) (by omega)
  have s3 : wrap64 (x0 + 256 * x1 + 65536 * x2 + 16777216 * x3) = x0 + 256 * x1 + 65536 * x2 + 16777216 * x3 := w64 _ (by omega) (by omega)
  unfold granaryref2_four.f
  simp only [w1, w2, w3, b0, b1, b2, b3, v0, v1, v2, v3, u1, u2, u3, s1, s2, s3, if_pos hA, if_pos c1, if_pos c2, if_pos c3, if_pos c4, if_pos c5, if_pos c6, if_pos hB]
theorem four_f (t : ByteArray) (at_ g : Nat) (h : at_ + 64 ≤ t.size) (hg : g < 16) (ht : t.size ≤ 4611686018427387904) : granaryref2_four.f t ((at_ : Int) + 4 * (g : Int)) = some ((wordAt (blk t at_) g : Nat) : Int) := by
  have b0 := blk_bt t at_ (4 * g) h (by omega)
  have b1 := blk_bt t at_ (4 * g + 1) h (by omega)
  have b2 := blk_bt t at_ (4 * g + 2) h (by omega)
  have b3 := blk_bt t at_ (4 * g + 3) h (by omega)
  have r : ∀ i, 0 ≤ (((blk t at_).getD i 0).toNat : Int) ∧ (((blk t at_).getD i 0).toNat : Int) ≤ 255 := fun i => by have := ((blk t at_).getD i 0).toNat_lt; omega
  rw [show (at_ : Int) + ((4 * g : Nat) : Int) = (at_ : Int) + 4 * (g : Int) by omega] at b0
  rw [show (at_ : Int) + ((4 * g + 1 : Nat) : Int) = (at_ : Int) + 4 * (g : Int) + 1 by omega] at b1
  rw [show (at_ : Int) + ((4 * g + 2 : Nat) : Int) = (at_ : Int) + 4 * (g : Int) + 2 by omega] at b2
  rw [show (at_ : Int) + ((4 * g + 3 : Nat) : Int) = (at_ : Int) + 4 * (g : Int) + 3 by omega] at b3
  rw [four_pure t _ _ _ _ _ (by omega) (by omega) ht b0 b1 b2 b3 (r _) (r _) (r _) (r _)]
  unfold wordAt
  simp only [Int.natCast_add, Int.natCast_mul]
  rfl
theorem four_any (t : ByteArray) (at_ g : Nat) (h : at_ + 64 ≤ t.size) (hg : g < 16) (ht : t.size ≤ 4611686018427387904) (w : World) :
    Calls Tryd.prog 57 #[.string t, .int .i64 ((at_ : Int) + 4 * (g : Int))] w fun e w' => e = .returned (.int .i64 (wordAt (blk t at_) g : Nat)) ∧ Drawn0 w w' := granaryref2_four.calls _ _ _ w (four_f t at_ g h hg ht)
theorem turn_any (x s : Nat) (hx : x < 4294967296) (h0 : 0 < s) (h1 : s < 32) (w : World) (hP : Pows w) :
    Calls Tryd.prog 58 #[.int .i64 (x : Nat), .int .i64 (s : Nat)] w fun e w' => e = .returned (.int .i64 (rotl x s : Nat)) ∧ Drawn0 w w' := by
  have hc1 := hP.cell s h1
  have hc2 := hP.cell (32 - s) (by omega)
  have hp1 := pw_le s h1
  have hp2 := pw_pos (32 - s)
  have hr : rotl x s = x * pw s % 4294967296 + x / pw (32 - s) := rfl
  have HR := Lib.hid hr
  have hm : x * pw s ≤ 4294967296 * 2147483648 := Nat.mul_le_mul (by omega) hp1
  clear hr hP
  generalize pw s = y at *
  generalize pw (32 - s) = z at *
  have hsub : (32 : Int) - (s : Int) = ((32 - s : Nat) : Int) := by omega
  have hz : 1 ≤ (z : Int) := by omega
  have hq0 : 0 ≤ (x : Int) / (z : Int) := Int.ediv_nonneg (by omega) (by omega)
  have hq1 : (x : Int) / (z : Int) ≤ 4294967296 := Int.le_trans (Int.ediv_le_self _ (by omega)) (by omega)
  have hmI : (x : Int) * (y : Int) ≤ 9223372036854775807 := by
    rw [← Int.natCast_mul]
    have : x * y ≤ 4294967295 * 2147483648 := Nat.mul_le_mul (by omega) hp1
    omega
  have hm0 : 0 ≤ (x : Int) * (y : Int) := by rw [← Int.natCast_mul]; omega
  have hw := w64 ((x : Int) * (y : Int)) (by omega) hmI
  go_enter Tryd.func58, Tryd.ntmps58
  go_wp2
  go_quiet (fail)
  go_wp2
  go_ret
  have he : ((x * y % 4294967296 + x / z : Nat) : Int) = (x : Int) * (y : Int) % 4294967296 + (x : Int) / (z : Int) := by
    simp only [Int.natCast_add, Int.natCast_emod, Int.natCast_ediv, Int.natCast_mul]; rfl
  rw [HR.out, he]
  exact ⟨rfl, ⟨⟨nq, rfl⟩⟩⟩
end Go.Proofs.YthnobhifepnakaaDoor.RefMD5
