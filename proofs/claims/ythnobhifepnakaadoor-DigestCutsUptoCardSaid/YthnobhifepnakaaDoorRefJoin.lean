/- The document's CRCJoin, and the law DigestJoins. -/
import Derived.Test.YthnobhifepnakaaDoorSteps
import Derived.Outline
set_option linter.unusedVariables false
set_option linter.unusedSimpArgs false
namespace Go.Proofs.YthnobhifepnakaaDoor.RefJoin
open Go.RowKit Go.Proofs.YthnobhifepnakaaDoorW.PrintWords Go.Proofs.YthnobhifepnakaaDoorW.PrintLast Go.Proofs.YthnobhifepnakaaDoorW.PrintMore
open Go.Proofs.YthnobhifepnakaaDoor.Base Go.Proofs.YthnobhifepnakaaDoor.CrcPure Go.Proofs.YthnobhifepnakaaDoor.PDigestJoins Go.Proofs.YthnobhifepnakaaDoor.StepsRef
theorem step_f (x : Nat) (h : x < 4294967296) : granaryref2_step.f (x : Int) = some ((CrcPure.step x : Nat) : Int) := by
  unfold granaryref2_step.f CrcPure.step
  have e1 : Int.tmod (x : Int) 2 = (x : Int) % 2 := Int.tmod_eq_emod_of_nonneg (by omega)
  have e2 : Int.tdiv (x : Int) 2 = (x : Int) / 2 := Int.tdiv_eq_ediv_of_nonneg (by omega)
  rw [e1, e2, w64 _ (by omega) (by omega)]
  by_cases h0 : x % 2 = 0
  · rw [if_pos (by omega), if_pos h0]; simp
  · rw [if_neg (by omega), if_neg h0]
    have := i64_xor_nat (x / 2) 3988292384 (by omega) (by decide)
    rw [show ((x / 2 : Nat) : Int) = (x : Int) / 2 by omega] at this
    exact congrArg some this
def valid (a b n : Int) : Prop := (0 ≤ a ∧ a < 4294967296) ∧ (0 ≤ b ∧ b < 4294967296) ∧ 0 ≤ n ∧ n ≤ 9007199254740992
set_option maxHeartbeats 2000000 in
theorem refjoin_bad (a b n : Int) (w : World) (h : ¬ valid a b n) :
    Calls Tryd.prog 19 #[.int .i64 a, .int .i64 b, .int .i64 n] w fun e w' => e = .returned (.tuple #[.int .i64 0, .int .i64 21]) ∧ Below w.heap.size w w' := by
  have H := Lib.hid h
  clear h
  go_enter Tryd.func19, Tryd.ntmps19
  by_cases h1 : a < 0
  · have d1 : decide (a < 0) = true := decide_eq_true h1
    clear h1
    go_wp2
    go_ret2
    exact ⟨rfl, Below.refl _ _⟩
  have d1 : decide (a < 0) = false := decide_eq_false h1
  by_cases h2 : 4294967296 ≤ a
  · have d2 : decide (4294967296 ≤ a) = true := decide_eq_true h2
    clear h1 h2
    go_wp2
    go_ret2
    exact ⟨rfl, Below.refl _ _⟩
  have d2 : decide (4294967296 ≤ a) = false := decide_eq_false h2
  by_cases h3 : b < 0
  · have d3 : decide (b < 0) = true := decide_eq_true h3
    clear h1 h2 h3
    go_wp2
    go_ret2
    exact ⟨rfl, Below.refl _ _⟩
  have d3 : decide (b < 0) = false := decide_eq_false h3
  by_cases h4 : 4294967296 ≤ b
  · have d4 : decide (4294967296 ≤ b) = true := decide_eq_true h4
    clear h1 h2 h3 h4
    go_wp2
    go_ret2
    exact ⟨rfl, Below.refl _ _⟩
  have d4 : decide (4294967296 ≤ b) = false := decide_eq_false h4
  by_cases h5 : n < 0
  · have d5 : decide (n < 0) = true := decide_eq_true h5
    clear h1 h2 h3 h4 h5
    go_wp2
    go_ret2
    exact ⟨rfl, Below.refl _ _⟩
  have d5 : decide (n < 0) = false := decide_eq_false h5
  by_cases h6 : 9007199254740992 < n
  · have d6 : decide (9007199254740992 < n) = true := decide_eq_true h6
    clear h1 h2 h3 h4 h5 h6
    go_wp2
    go_ret2
    exact ⟨rfl, Below.refl _ _⟩
  exact absurd ⟨⟨by omega, by omega⟩, ⟨by omega, by omega⟩, by omega, by omega⟩ H.out
theorem tabL_congr {T U : Nat → Nat} (h : ∀ i, i < 32 → T i = U i) : tabL T = tabL U := by
  unfold tabL
  exact List.map_congr_left fun i hi => by rw [h i (List.mem_range.1 hi)]
theorem there3 {w w3 : World} {b o n : Nat} (h : Below w.heap.size w w3) (hb : b < w.heap.size) (hr : w.there b o n) : w3.there b o n := fun j hj => by
  rw [h.cell (p := ⟨b, o + j, none⟩) hb, h.frozen (p := ⟨b, o + j, none⟩) hb]; exact hr j hj
theorem tab_info (T : Nat → Nat) : (Tryd.prog.info? 71).map (·.size) = some (tabL T).toArray.size := by rw [tabA_size]; kernel_rfl
theorem tab_one (T : Nat → Nat) : (tabL T).toArray.all (·.oneCell') = true := all_oneCell_toArray (by simp [tabL, Value.oneCell'])
theorem size_setCells (b : Nat) (vs : List Value) : ∀ (o : Nat) (w : World), (w.setCells b o vs).heap.size = w.heap.size := by
  induction vs with
  | nil => intro o w; rfl
  | cons v r ih => intro o w; show ((w.setCell ⟨b, o, none⟩ v).setCells b (o + 1) r).heap.size = _; rw [ih]; simp [World.setCell]
theorem odd_step (m left c : Nat) (h : left % 2 = 1) : steps ((m + m) * (left / 2)) (steps m c) = steps (m * left) c := by
  rw [← steps_add]
  congr 1
  have e : left = 2 * (left / 2) + 1 := by omega
  calc m + (m + m) * (left / 2) = m * (2 * (left / 2) + 1) := by rw [Nat.mul_add, Nat.mul_one, ← Nat.mul_assoc, Nat.mul_two]; omega
    _ = m * left := by rw [← e]
theorem even_step (m left c : Nat) (h : ¬ left % 2 = 1) : steps ((m + m) * (left / 2)) c = steps (m * left) c := by
  congr 1
  have e : left = 2 * (left / 2) := by omega
  calc (m + m) * (left / 2) = m * (2 * (left / 2)) := by rw [← Nat.mul_assoc, Nat.mul_two]
    _ = m * left := by rw [← e]
/-- the table behind m steps -/
def tab (m : Nat) (i : Nat) : Nat := steps m (2 ^ i)
theorem tab_lt (m i : Nat) (h : i < 32) : tab m i < 4294967296 := steps_lt m (Nat.pow_lt_pow_right (by decide) h)
theorem of_tab (m x : Nat) (h : x < 4294967296) : ofTo (tab m) x 32 = steps m x := of_steps h m
theorem twice_tab (m : Nat) : tabL (fun i => ofTo (tab m) (tab m i) 32) = tabL (tab (m + m)) :=
  tabL_congr fun i hi => by rw [of_tab m _ (tab_lt m i hi)]; unfold tab; rw [steps_add]
set_option maxRecDepth 100000 in
set_option maxHeartbeats 4000000 in
theorem refjoin_good (a b n : Nat) (w : World) (ha : a < 4294967296) (hb : b < 4294967296) (hn : n ≤ 9007199254740992) (hP : Pows w) :
    Calls Tryd.prog 19 #[.int .i64 (a : Nat), .int .i64 (b : Nat), .int .i64 (n : Nat)] w fun e w' => e = .returned (.tuple #[.int .i64 ((steps (8 * n) a ^^^ b : Nat) : Int), .int .i64 0]) ∧ Below w.heap.size w w' := by
  have HP := Aside0.mk hP
  have hB := (Below.refl w.heap.size w).alloc (Nat.le_refl _) (.cells (tabL fun _ => 0).toArray 71)
  have hR := World.rowIs_alloc w (tabL fun _ => 0).toArray 71 (fun i => cur (tab 1) (tab 1) 0 i) (by intro i hi; rw [tabA_size] at hi; rw [tabA_at _ i hi]; rfl)
  rw [zero32] at hB hR
  have HB0 := Aside0.mk hB
  have HR0 := Aside0.mk hR
  clear hP hB hR
  have d1 : decide ((a : Int) < 0) = false := decide_eq_false (by omega)
  have d2 : decide (4294967296 ≤ (a : Int)) = false := decide_eq_false (by omega)
  have d3 : decide ((b : Int) < 0) = false := decide_eq_false (by omega)
  have d4 : decide (4294967296 ≤ (b : Int)) = false := decide_eq_false (by omega)
  have d5 : decide ((n : Int) < 0) = false := decide_eq_false (by omega)
  have d6 : decide (9007199254740992 < (n : Int)) = false := decide_eq_false (by omega)
  go_enter Tryd.func19, Tryd.ntmps19
  go_wp2
  go_loopw [9] (fun i wr => ∃ k : Nat, k ≤ 32 ∧ i = .int .i64 k ∧ Aside0 (wr.rowIs w.heap.size 71 32 (cur (tab 1) (tab 1) k)) ∧ Aside0 (Below w.heap.size w wr)) (fun i _ => 32 - (intOf i).toNat)
  case atStart => exact ⟨0, Nat.zero_le _, rfl, HR0, HB0⟩
  case round =>
    clear HR0 HB0
    obtain ⟨k, hk, rfl, HO, HB⟩ := hrel
    by_cases hlt : k < 32
    · have hc := (HP.out.below HB.out).cell k hlt
      have hpl := pw_le k hlt
      have hq := step_f (pw k) (by omega)
      have HQ := Lib.hid hq
      have hcO := HO.out.cell hlt
      have hfO := HO.out.frozen k
      clear hq
      go_wp2_with (go_at_call 35; refine (granaryref2_step.calls _ _ _ HQ.out).mono ?_; rintro e w' ⟨rfl, ⟨⟨m1, rfl⟩⟩⟩)
      go_roundw
      case rel =>
        refine ⟨k + 1, by omega, by go_num, ⟨?_⟩, ⟨(pw_below_drewN HB.out m1).setCell (Nat.le_refl _) _⟩⟩
        exact (World.rowIs.set (w := wr.drewN m1) HO.out k _).congr (fun i hi => cur_next (tab 1) (tab 1) k i)
      case measure => simp [intOf]; omega
    · obtain rfl : k = 32 := by omega
      rw [show ((32 : Nat) : Int) = 32 from rfl]
      have hU := tab_of_rowIs (T := tab 1) HO.out (fun i hi => by simp [cur, hi])
      have HR1 := Aside0.mk (range_tab hU)
      have HT1 := Aside0.mk (there_tab hU 32 rfl)
      have hNlt := HO.out.lt
      have HE := Lib.hid (show steps (1 * (8 * n)) a = steps (8 * n) a by rw [Nat.one_mul])
      clear hU HO
      obtain ⟨wo, rfl⟩ : ∃ wo : World, wo = wr := ⟨_, rfl⟩
      go_wp2
      go_loopw [0, 10] (fun x l wr => ∃ m left c : Nat, l = .int .i64 left ∧ x = .int .i64 c ∧ left ≤ 72057594037927936 ∧ c < 4294967296 ∧ Aside0 (steps (m * left) c = steps (8 * n) a) ∧ Aside0 (wr.rangeAt w.heap.size 0 (tabL (tab m))) ∧ Aside0 (wr.there w.heap.size 0 32) ∧ Aside0 (w.heap.size < wr.heap.size) ∧ Aside0 (Below w.heap.size w wr)) (fun _ l _ => (intOf l).toNat)
      case atStart => exact ⟨1, 8 * n, a, by go_num, rfl, by omega, ha, ⟨HE.out⟩, HR1, HT1, ⟨hNlt⟩, HB⟩
      case round =>
        clear HE HR1 HT1 hNlt HB
        obtain ⟨m, left, c, rfl, rfl, hleft, hc, HE, HR, HTh, HL, HB⟩ := hrel
        by_cases h0 : left = 0
        · subst h0
          have hfin : c = steps (8 * n) a := by have := HE.out; rwa [Nat.mul_zero] at this
          subst hfin
          clear HE
          have hx := i64_xor_nat (steps (8 * n) a) b (by omega) (by omega)
          go_wp2
          go_ret2
          exact ⟨rfl, HB.out⟩
        · have hpos : 0 < left := by omega
          have hu := Tryd.underlying71
          have hi : (Tryd.prog.info? 71).map (·.size) = some (tabL (tab m)).length := by rw [tabL_length]; kernel_rfl
          by_cases hodd : left % 2 = 1
          · have hb1 : ((left : Int) % 2 == 1) = true := beq_iff_eq.2 (by omega)
            clear h0
            go_wp2_with ((with_reducible refine gate_load (ty := 71) (x := .tmp 8) rfl ?_); refine wpList_load_mid rfl 71 (.tmp 8) rfl w.heap.size 0 rfl (tabL (tab m)) _ HR.out hu rfl hi ?_)
            refine (of_any (tab m) c _ (fun i hi => tab_lt m i hi) hc (HP.out.below HB.out)).mono ?_
            rintro e w1 ⟨rfl, hb3⟩
            rw [of_tab m c hc]
            have HR1 := range3 hb3 HL.out HR.out
            have HLX : w.heap.size < w1.heap.size := Nat.lt_of_lt_of_le HL.out hb3.size
            have HTX := there3 hb3 HL.out HTh.out
            have HBX := below_then HB.out HB.out.size hb3
            have HSl : steps m c < 4294967296 := steps_lt m hc
            go_wp2_with ((with_reducible refine gate_load (ty := 71) (x := .tmp 8) rfl ?_); refine wpList_load_mid rfl 71 (.tmp 8) rfl w.heap.size 0 rfl (tabL (tab m)) _ HR1 hu rfl hi ?_)
            refine (twice_any (tab m) _ (fun i hi => tab_lt m i hi) (HP.out.below HBX)).mono ?_
            rintro e w2 ⟨rfl, hb2⟩
            rw [twice_tab]
            have hi2 := tab_info (tab (m + m))
            have hth : w2.there w.heap.size 0 (tabL (tab (m + m))).toArray.size := by rw [tabA_size]; exact there3 hb2 HLX HTX
            have h1c := tab_one (tab (m + m))
            go_wp2_with ((with_reducible refine gate_store (ty := 71) (x := .tmp 8) (y := .tmp 55) rfl ?_); refine wpList_store_mid rfl 71 (.tmp 8) (.tmp 55) rfl w.heap.size 0 _ rfl rfl hth hi2 h1c ?_)
            have hRN := World.rangeAt_setCells_same w2 w.heap.size 0 (tabL (tab (m + m))) (by simpa using hth)
            have hTN := World.there_setCells (there3 hb2 HLX HTX) w.heap.size 0 (tabL (tab (m + m)))
            have hBN := below_setCells (below_then HBX HBX.size hb2) (b := w.heap.size) (Nat.le_refl _) (tabL (tab (m + m))) 0
            have hLN : w.heap.size < (w2.setCells w.heap.size 0 (tabL (tab (m + m)))).heap.size := by rw [size_setCells]; exact Nat.lt_of_lt_of_le HLX hb2.size
            go_roundw
            case rel => exact ⟨m + m, left / 2, (steps m c), by go_num, rfl, by omega, HSl, ⟨by rw [← HE.out]; exact odd_step m left c hodd⟩, ⟨hRN⟩, ⟨hTN⟩, ⟨hLN⟩, ⟨hBN⟩⟩
            case measure => simp [intOf]; omega
          · have hb1 : ((left : Int) % 2 == 1) = false := beq_eq_false_iff_ne.2 (by omega)
            clear h0
            go_wp2_with ((with_reducible refine gate_load (ty := 71) (x := .tmp 8) rfl ?_); refine wpList_load_mid rfl 71 (.tmp 8) rfl w.heap.size 0 rfl (tabL (tab m)) _ HR.out hu rfl hi ?_)
            have HLX := HL.out
            have HTX := HTh.out
            have HBX := HB.out
            refine (twice_any (tab m) _ (fun i hi => tab_lt m i hi) (HP.out.below HBX)).mono ?_
            rintro e w2 ⟨rfl, hb2⟩
            rw [twice_tab]
            have hi2 := tab_info (tab (m + m))
            have hth : w2.there w.heap.size 0 (tabL (tab (m + m))).toArray.size := by rw [tabA_size]; exact there3 hb2 HLX HTX
            have h1c := tab_one (tab (m + m))
            go_wp2_with ((with_reducible refine gate_store (ty := 71) (x := .tmp 8) (y := .tmp 55) rfl ?_); refine wpList_store_mid rfl 71 (.tmp 8) (.tmp 55) rfl w.heap.size 0 _ rfl rfl hth hi2 h1c ?_)
            have hRN := World.rangeAt_setCells_same w2 w.heap.size 0 (tabL (tab (m + m))) (by simpa using hth)
            have hTN := World.there_setCells (there3 hb2 HLX HTX) w.heap.size 0 (tabL (tab (m + m)))
            have hBN := below_setCells (below_then HBX HBX.size hb2) (b := w.heap.size) (Nat.le_refl _) (tabL (tab (m + m))) 0
            have hLN : w.heap.size < (w2.setCells w.heap.size 0 (tabL (tab (m + m)))).heap.size := by rw [size_setCells]; exact Nat.lt_of_lt_of_le HLX hb2.size
            go_roundw
            case rel => exact ⟨m + m, left / 2, c, by go_num, rfl, by omega, hc, ⟨by rw [← HE.out]; exact even_step m left c hodd⟩, ⟨hRN⟩, ⟨hTN⟩, ⟨hLN⟩, ⟨hBN⟩⟩
            case measure => simp [intOf]; omega
end Go.Proofs.YthnobhifepnakaaDoor.RefJoin
