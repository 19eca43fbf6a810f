/- The program's CRCJoin: what it answers. -/
import Derived.Test.YthnobhifepnakaaDoorRefJoin
set_option linter.unusedVariables false
set_option linter.unusedSimpArgs false
namespace Go.Proofs.YthnobhifepnakaaDoor.JoinPure
open Go.RowKit Go.Proofs.YthnobhifepnakaaDoorW.PrintWords Go.Proofs.YthnobhifepnakaaDoorW.PrintLast Go.Proofs.YthnobhifepnakaaDoorW.PrintMore
open Go.Proofs.YthnobhifepnakaaDoor.Base Go.Proofs.YthnobhifepnakaaDoor.CrcPure Go.Proofs.YthnobhifepnakaaDoor.PDigestJoins Go.Proofs.YthnobhifepnakaaDoor.StepsRef Go.Proofs.YthnobhifepnakaaDoor.RefJoin
theorem and_pow (a j : Nat) (h : j < 32) : (a &&& 2 ^ j = 0) ↔ a.testBit j = false := by
  constructor
  · intro e
    have := congrArg (fun x => x.testBit j) e
    simpa [Nat.testBit_and, Nat.testBit_two_pow] using this
  · intro e
    apply Nat.eq_of_testBit_eq; intro i
    rw [Nat.testBit_and, Nat.testBit_two_pow, Nat.zero_testBit]
    by_cases hi : j = i
    · subst hi; simp [e]
    · simp [hi]
theorem mulTo_lt (a b : Nat) (hb : b < 4294967296) (i : Nat) : mulTo a b i < 4294967296 := by
  induction i with
  | zero => simp [mulTo]
  | succ i ih =>
    simp only [mulTo]
    split
    · exact Nat.xor_lt_two_pow (n := 32) ih (steps_lt i hb)
    · exact ih
/-- the bit that is looked at -/
def bitAt (i : Nat) : Nat := 2147483648 / 2 ^ i
theorem bitAt_pow (i : Nat) (h : i < 32) : bitAt i = 2 ^ (31 - i) := by
  unfold bitAt
  rw [show 2147483648 = 2 ^ 31 from rfl, Nat.pow_div (by omega) (by decide)]
theorem bitAt_next (i : Nat) : bitAt (i + 1) = bitAt i / 2 := by
  unfold bitAt; rw [Nat.pow_succ, Nat.div_div_eq_div_mul]
theorem times_ev (a b : Nat) (ha : a < 4294967296) (hb : b < 4294967296) (d : Nat) : ∀ i : Nat, i ≤ 32 → 32 - i = d →
    Ev (fun k => digest_times.l0 k (a : Nat) (steps i b : Nat) (mulTo a b i : Nat) (bitAt i : Nat)) ((mul a b : Nat) : Int) := by
  induction d with
  | zero =>
    intro i h1 hd
    obtain rfl : i = 32 := by omega
    refine Ev.step (f := fun _ => some _) (fun k => ?_) (Ev.now _)
    simp only [digest_times.l0]
    rw [if_pos (by decide)]; rfl
  | succ d ih =>
    intro i h1 hd
    have hs := steps_lt i hb
    have hm := mulTo_lt a b hb i
    have hbt := bitAt_pow i (by omega)
    have hb2 : bitAt i < 4294967296 := by rw [hbt]; exact Nat.pow_lt_pow_right (a := 2) (m := 31 - i) (n := 32) (by decide) (by omega)
    have hb1 : 0 < bitAt i := by rw [hbt]; exact Nat.two_pow_pos _
    refine Ev.step (fun k => ?_) (ih (i + 1) (by omega) (by omega))
    have e1 := u32_and_nat a (bitAt i) ha hb2
    have e2 : bits .and .u32 ((steps i b : Nat) : Int) 1 = ((steps i b % 2 : Nat) : Int) := by have := u32_and_nat (steps i b) 1 hs (by decide); rwa [and1] at this
    have e3 := u32_xor_nat (mulTo a b i) (steps i b) hm hs
    have e4 := u32_xor_nat (steps i b / 2) 3988292384 (by omega) (by decide)
    have e5 : ((steps i b : Nat) : Int) / 2 = ((steps i b / 2 : Nat) : Int) := by omega
    have e6 : ((bitAt i : Nat) : Int) / 2 = ((bitAt i / 2 : Nat) : Int) := by omega
    have e7 : steps (i + 1) b = CrcPure.step (steps i b) := by rw [steps_add]; rfl
    have e8 := and_pow a (31 - i) (by omega)
    simp only [digest_times.l0, e1, e2, e3, e5, e6]
    rw [if_neg (by omega), bitAt_next, e7]
    have e9 : (bits .xor .u32 ((steps i b / 2 : Nat) : Int) 3988292384) = ((steps i b / 2 ^^^ 3988292384 : Nat) : Int) := e4
    rw [e9]
    rw [hbt]
    by_cases ht : a.testBit (31 - i) = true
    · have n1 : ¬ (((a &&& 2 ^ (31 - i) : Nat) : Int) = 0) := by
        intro h
        have := e8.1 (Int.ofNat_eq_zero.1 h)
        rw [this] at ht; cases ht
      have n2 : mulTo a b (i + 1) = mulTo a b i ^^^ steps i b := by simp only [mulTo]; rw [if_pos ht]
      rw [if_neg n1, n2]
      by_cases hp : steps i b % 2 = 0
      · rw [if_pos (by omega), show CrcPure.step (steps i b) = steps i b / 2 from if_pos hp]
      · rw [if_neg (by omega), show CrcPure.step (steps i b) = steps i b / 2 ^^^ poly from if_neg hp]; rfl
    · have n1 : (((a &&& 2 ^ (31 - i) : Nat) : Int) = 0) := by
        have := e8.2 (by simpa using ht)
        rw [this]; rfl
      have n2 : mulTo a b (i + 1) = mulTo a b i := by simp only [mulTo]; rw [if_neg ht]
      rw [if_pos n1, n2]
      by_cases hp : steps i b % 2 = 0
      · rw [if_pos (by omega), show CrcPure.step (steps i b) = steps i b / 2 from if_pos hp]
      · rw [if_neg (by omega), show CrcPure.step (steps i b) = steps i b / 2 ^^^ poly from if_neg hp]; rfl
theorem times_f (a b : Nat) (ha : a < 4294967296) (hb : b < 4294967296) : Ev (fun k => digest_times.f k (a : Nat) (b : Nat)) ((mul a b : Nat) : Int) := by
  refine Ev.congr (fun k => ?_) (times_ev a b ha hb 32 0 (by omega) (by omega))
  rfl
theorem mul_lt (a b : Nat) (hb : b < 4294967296) : mul a b < 4294967296 := mulTo_lt a b hb 32
theorem shiftLoop_stop (k p s : Nat) : shiftLoop k 0 p s = p := by cases k <;> simp [shiftLoop]
theorem shifted_ev (d : Nat) : ∀ (n p s : Nat), n < 2 ^ d → n ≤ 9007199254740992 → p < 4294967296 → s < 4294967296 →
    Ev (fun k => digest_shifted.l0 k (n : Nat) (p : Nat) (s : Nat)) ((shiftLoop d n p s : Nat) : Int) := by
  induction d with
  | zero =>
    intro n p s h _ _ _
    obtain rfl : n = 0 := by omega
    refine Ev.step (f := fun _ => some _) (fun k => ?_) (Ev.now _)
    simp only [digest_shifted.l0]; rw [if_neg (by omega)]; rfl
  | succ d ih =>
    intro n p s h hn hp hs
    by_cases h0 : n = 0
    · subst h0
      refine Ev.step (f := fun _ => some _) (fun k => ?_) (Ev.now _)
      simp only [digest_shifted.l0]; rw [if_neg (by omega), shiftLoop_stop]
    · have hn2 : n / 2 < 2 ^ d := by rw [Nat.pow_succ] at h; omega
      have e2 : bits .and .i64 ((n : Nat) : Int) 1 = ((n % 2 : Nat) : Int) := by have := i64_and_nat n 1 (by omega) (by decide); rwa [and1] at this
      have e3 : ((n : Nat) : Int) / 2 = ((n / 2 : Nat) : Int) := by omega
      simp only [shiftLoop]
      rw [if_neg h0]
      by_cases hodd : n % 2 = 1
      · rw [if_pos hodd]
        refine Ev.step (f := fun k => (digest_times.f k (p : Nat) (s : Nat)).bind fun t => (digest_times.f k (s : Nat) (s : Nat)).bind fun u => digest_shifted.l0 k ((n / 2 : Nat) : Int) t u) (fun k => ?_) ?_
        · simp only [digest_shifted.l0, e2, e3]; rw [if_pos (by omega), if_pos (by omega)]
        · exact Ev.bind (times_f p s hp hs) (Ev.bind (times_f s s hs hs) (ih (n / 2) _ _ hn2 (by omega) (mul_lt p s hs) (mul_lt s s hs)))
      · rw [if_neg hodd]
        refine Ev.step (f := fun k => (digest_times.f k (s : Nat) (s : Nat)).bind fun u => digest_shifted.l0 k ((n / 2 : Nat) : Int) (p : Nat) u) (fun k => ?_) ?_
        · simp only [digest_shifted.l0, e2, e3]; rw [if_pos (by omega), if_neg (by omega)]
        · exact Ev.bind (times_f s s hs hs) (ih (n / 2) _ _ hn2 (by omega) hp (mul_lt s s hs))
theorem shifted_f (n : Nat) (hn : n ≤ 9007199254740992) : Ev (fun k => digest_shifted.f k (n : Nat)) ((shiftLoop 54 n x0 8388608 : Nat) : Int) := by
  refine Ev.congr (fun k => ?_) (shifted_ev 54 n x0 8388608 (by omega) hn (by decide) (by decide))
  rfl
theorem shift_lt (n : Nat) (hn : n ≤ 9007199254740992) : shiftLoop 54 n x0 8388608 < 4294967296 := by
  have := shiftLoop_eq 54 n 0 8 (by omega)
  rw [x8] at this
  simp only [steps] at this
  rw [this]; exact steps_x0_lt _
theorem join_f (a b n : Nat) (ha : a < 4294967296) (hb : b < 4294967296) (hn : n ≤ 9007199254740992) :
    ∃ k, digest_CRCJoin.f k (a : Nat) (b : Nat) (n : Nat) = some (((steps (8 * n) a ^^^ b : Nat) : Int), 0) := by
  have hj := join_eq ha n 54 (by omega)
  have hm : steps (8 * n) a < 4294967296 := steps_lt _ ha
  refine Ev.rounds (g := fun k => digest_CRCJoin.f k (a : Nat) (b : Nat) (n : Nat)) ?_
  refine Ev.congr (f := fun k => digest_CRCJoin.j0 k (a : Nat) (b : Nat) (n : Nat) false) (fun k => ?_) ?_
  · unfold digest_CRCJoin.f digest_sumOK.f
    rw [if_pos (by omega), if_pos (by omega)]
    simp only [Option.bind_some]
    rw [if_pos (decide_eq_true (by omega)), if_pos (decide_eq_true (by omega)), if_neg (by omega), decide_eq_false (by omega)]
  · refine Ev.step (f := fun k => (digest_shifted.f k (n : Nat)).bind fun t => (digest_times.f k ((a : Nat) : Int) t).bind fun u => some (wrap64 (bits .xor .u32 u ((b : Nat) : Int)), 0)) (fun k => ?_) ?_
    · simp only [digest_CRCJoin.j0]
      rw [if_neg (by simp), show ((a : Nat) : Int) % 4294967296 = (a : Nat) by omega, show ((b : Nat) : Int) % 4294967296 = (b : Nat) by omega]
    · refine Ev.bind (shifted_f n hn) (Ev.bind (times_f a _ ha (shift_lt n hn)) ?_)
      rw [hj, u32_xor_nat _ b hm hb]
      have hx : steps (8 * n) a ^^^ b < 4294967296 := Nat.xor_lt_two_pow (n := 32) hm hb
      rw [w64 _ (by omega) (by omega)]
      exact Ev.now _
theorem join_bad (a b n : Int) (h : ¬ valid a b n) : ∃ k, digest_CRCJoin.f k a b n = some (0, 21) := by
  refine ⟨1, ?_⟩
  unfold digest_CRCJoin.f digest_sumOK.f
  unfold valid at h
  by_cases h1 : 0 ≤ a
  · rw [if_pos h1]
    simp only [Option.bind_some, digest_CRCJoin.j0]
    by_cases h2 : a ≤ 4294967295
    · rw [if_pos (decide_eq_true h2)]
      by_cases h3 : 0 ≤ b
      · rw [if_pos h3]
        simp only [Option.bind_some]
        by_cases h4 : b ≤ 4294967295
        · rw [if_pos (decide_eq_true h4)]
          by_cases h5 : n < 0
          · rw [if_pos h5]; rfl
          · rw [if_neg h5, if_pos (decide_eq_true (by omega))]
        · rw [if_neg (by simp; omega)]; rfl
      · rw [if_neg h3]; rfl
    · rw [if_neg (by simp; omega)]; rfl
  · rw [if_neg h1]; rfl
theorem join_good_any (a b n : Nat) (w : World) (ha : a < 4294967296) (hb : b < 4294967296) (hn : n ≤ 9007199254740992) :
    Calls Tryd.prog 18 #[.int .i64 (a : Nat), .int .i64 (b : Nat), .int .i64 (n : Nat)] w fun e w' => e = .returned (.tuple #[.int .i64 ((steps (8 * n) a ^^^ b : Nat) : Int), .int .i64 0]) ∧ Drawn0 w w' := by
  obtain ⟨k, hk⟩ := join_f a b n ha hb hn
  exact digest_CRCJoin.calls k _ _ _ _ _ w hk
theorem join_bad_any (a b n : Int) (w : World) (h : ¬ valid a b n) :
    Calls Tryd.prog 18 #[.int .i64 a, .int .i64 b, .int .i64 n] w fun e w' => e = .returned (.tuple #[.int .i64 0, .int .i64 21]) ∧ Drawn0 w w' := by
  obtain ⟨k, hk⟩ := join_bad a b n h
  exact digest_CRCJoin.calls k _ _ _ _ _ w hk
set_option maxHeartbeats 1000000 in
theorem law_good (a b n : Nat) (w : World) (ha : a < 4294967296) (hb : b < 4294967296) (hn : n ≤ 9007199254740992) (hP : Pows w) :
    Calls Tryd.prog 4 #[.int .i64 (a : Nat), .int .i64 (b : Nat), .int .i64 (n : Nat)] w fun e w' => e = .returned (.bool true) ∧ Below w.heap.size w w' := by
  have HP := Aside0.mk hP
  clear hP
  go_enter Tryd.func4, Tryd.ntmps4
  go_wp2_with fail
  refine (join_good_any a b n w ha hb hn).mono ?_
  rintro e w1 ⟨rfl, ⟨⟨m1, rfl⟩⟩⟩
  go_wp2_with fail
  refine (refjoin_good a b n _ ha hb hn (HP.out.below (pw_below_drewN (Below.refl _ _) m1))).mono ?_
  rintro e w2 ⟨rfl, hB⟩
  go_wp2_with (go_at_call 20; refine (granarylaw2_num.calls _ _ _ rfl).mono ?_; rintro e w3 ⟨rfl, ⟨⟨m3, rfl⟩⟩⟩)
  go_ret
  exact ⟨rfl, pw_below_drewN (below_drewN_left hB) _⟩
set_option maxHeartbeats 1000000 in
theorem law_bad (a b n : Int) (w : World) (h : ¬ valid a b n) :
    Calls Tryd.prog 4 #[.int .i64 a, .int .i64 b, .int .i64 n] w fun e w' => e = .returned (.bool true) ∧ Below w.heap.size w w' := by
  have H := Lib.hid h
  clear h
  go_enter Tryd.func4, Tryd.ntmps4
  go_wp2_with fail
  refine (join_bad_any a b n w H.out).mono ?_
  rintro e w1 ⟨rfl, ⟨⟨m1, rfl⟩⟩⟩
  go_wp2_with fail
  refine (refjoin_bad a b n _ H.out).mono ?_
  rintro e w2 ⟨rfl, hB⟩
  go_wp2_with (go_at_call 20; refine (granarylaw2_num.calls _ _ _ rfl).mono ?_; rintro e w3 ⟨rfl, ⟨⟨m3, rfl⟩⟩⟩)
  go_ret
  exact ⟨rfl, pw_below_drewN (below_drewN_left hB) _⟩
theorem law_calls (a b n : Int) (w : World) (hP : Pows w) :
    Calls Tryd.prog 4 #[.int .i64 a, .int .i64 b, .int .i64 n] w fun e w' => e = .returned (.bool true) ∧ Below w.heap.size w w' := by
  by_cases h : valid a b n
  · obtain ⟨⟨h1, h2⟩, ⟨h3, h4⟩, h5, h6⟩ := h
    obtain ⟨a, rfl⟩ := Int.eq_ofNat_of_zero_le h1
    obtain ⟨b, rfl⟩ := Int.eq_ofNat_of_zero_le h3
    obtain ⟨n, rfl⟩ := Int.eq_ofNat_of_zero_le h5
    exact law_good a b n w (by omega) (by omega) (by omega) hP
  · exact law_bad a b n w h
end Go.Proofs.YthnobhifepnakaaDoor.JoinPure
