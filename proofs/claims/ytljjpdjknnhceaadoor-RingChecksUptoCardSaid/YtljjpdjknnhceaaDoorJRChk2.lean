/- Joined texts of this claim: Ref6, Count, NamedR, Dealt, Reg -/
import Derived.Test.YtljjpdjknnhceaaDoorJRChk1
import Derived.Deep.QuietTactic
import Derived.BigQuiet
import Derived.Test.YtljjpdjknnhceaaDoorJRChk0
import Derived.Test.YtljjpdjknnhceaaDoorPRingWalksx3
import Derived.Test.YtljjpdjknnhceaaDoorWWords
import Derived.Test.YtljjpdjknnhceaaDoorWLast
import Derived.Orders
import Derived.Below
/- The document's settings: all in a row; are they within their limits. -/
set_option linter.unusedVariables false
set_option linter.unusedSimpArgs false
namespace Go.Proofs.YtljjpdjknnhceaaDoor.Ref6
open Go.RowKit Go.Proofs.YtljjpdjknnhceaaDoorW.PrintWords Go.Proofs.YtljjpdjknnhceaaDoorW.PrintLast Go.Proofs.YtljjpdjknnhceaaDoorW.PrintMore
open Go.Proofs.YtljjpdjknnhceaaDoor.Base Go.Proofs.YtljjpdjknnhceaaDoor.RingPure Go.Proofs.YtljjpdjknnhceaaDoor.ChkPure Go.Proofs.YtljjpdjknnhceaaDoor.Clus Go.Proofs.YtljjpdjknnhceaaDoor.Mids Go.Proofs.YtljjpdjknnhceaaDoor.Chkd
def valL (c : Cl) : List Value := [.int .i64 c.replicas, .int .i64 c.width, .int .i64 c.chunks, .int .i64 c.retain, .int .i64 c.block, .int .i64 c.rate, .int .i64 c.per, .int .i64 c.burst, .int .i64 c.tries, .int .i64 c.base, .int .i64 c.most, .int .i64 c.quota, .int .i64 c.room, .int .i64 c.depot, .int .i64 c.resend, .int .i64 c.limit, .int .i64 c.patience, .int .i64 c.getwait, .int .i64 c.strikes, .int .i64 c.ban, .int .i64 c.home]
theorem infoV : (Tryd.prog.info? 102).map (·.size) = some 21 := by kernel_rfl
theorem valL_one (c : Cl) : (valL c).toArray.all (·.oneCell') = true := all_oneCell_toArray (by simp [valL, Value.oneCell'])
theorem valL_at (c : Cl) (i : Nat) (h : i < 21) : (valL c)[i]? = some (.int .i64 ((vals c).getD i 0)) := by
  have : i = 0 ∨ i = 1 ∨ i = 2 ∨ i = 3 ∨ i = 4 ∨ i = 5 ∨ i = 6 ∨ i = 7 ∨ i = 8 ∨ i = 9 ∨ i = 10 ∨ i = 11 ∨ i = 12 ∨ i = 13 ∨ i = 14 ∨ i = 15 ∨ i = 16 ∨ i = 17 ∨ i = 18 ∨ i = 19 ∨ i = 20 := by omega
  rcases this with rfl | rfl | rfl | rfl | rfl | rfl | rfl | rfl | rfl | rfl | rfl | rfl | rfl | rfl | rfl | rfl | rfl | rfl | rfl | rfl | rfl <;> rfl
theorem z_there (W : World) : (W.alloc (.cells #[.int .i64 0, .int .i64 0, .int .i64 0, .int .i64 0, .int .i64 0, .int .i64 0, .int .i64 0, .int .i64 0, .int .i64 0, .int .i64 0, .int .i64 0, .int .i64 0, .int .i64 0, .int .i64 0, .int .i64 0, .int .i64 0, .int .i64 0, .int .i64 0, .int .i64 0, .int .i64 0, .int .i64 0] 102)).there W.heap.size 0 21 := blk_there (cs := [.int .i64 0, .int .i64 0, .int .i64 0, .int .i64 0, .int .i64 0, .int .i64 0, .int .i64 0, .int .i64 0, .int .i64 0, .int .i64 0, .int .i64 0, .int .i64 0, .int .i64 0, .int .i64 0, .int .i64 0, .int .i64 0, .int .i64 0, .int .i64 0, .int .i64 0, .int .i64 0, .int .i64 0]) (Go.heap_alloc_new W _)
theorem z_new (W : World) (c : Cl) : ((W.alloc (.cells #[.int .i64 0, .int .i64 0, .int .i64 0, .int .i64 0, .int .i64 0, .int .i64 0, .int .i64 0, .int .i64 0, .int .i64 0, .int .i64 0, .int .i64 0, .int .i64 0, .int .i64 0, .int .i64 0, .int .i64 0, .int .i64 0, .int .i64 0, .int .i64 0, .int .i64 0, .int .i64 0, .int .i64 0] 102)).setCells W.heap.size 0 (valL c)).heap[W.heap.size]? = some (.cells (valL c).toArray 102 (0, 0)) :=
  setCells_whole (old := [.int .i64 0, .int .i64 0, .int .i64 0, .int .i64 0, .int .i64 0, .int .i64 0, .int .i64 0, .int .i64 0, .int .i64 0, .int .i64 0, .int .i64 0, .int .i64 0, .int .i64 0, .int .i64 0, .int .i64 0, .int .i64 0, .int .i64 0, .int .i64 0, .int .i64 0, .int .i64 0, .int .i64 0]) (Go.heap_alloc_new W _) rfl
theorem z_below (W : World) (c : Cl) : Below W.heap.size W ((W.alloc (.cells #[.int .i64 0, .int .i64 0, .int .i64 0, .int .i64 0, .int .i64 0, .int .i64 0, .int .i64 0, .int .i64 0, .int .i64 0, .int .i64 0, .int .i64 0, .int .i64 0, .int .i64 0, .int .i64 0, .int .i64 0, .int .i64 0, .int .i64 0, .int .i64 0, .int .i64 0, .int .i64 0, .int .i64 0] 102)).setCells W.heap.size 0 (valL c)) :=
  below_setCells ((Below.refl _ _).alloc (Nat.le_refl _) _) (Nat.le_refl _) _ _
/-- the world in which Values fills its row -/
structure VW (c : Cl) (nv : Value) (w w1 : World) : Prop where mk ::
  (box : CBox w1 w.heap.size c nv) (there : w1.there (w.heap.size + 1) 0 21)
  (new : (w1.setCells (w.heap.size + 1) 0 (valL c)).heap[w.heap.size + 1]? = some (.cells (valL c).toArray 102 (0, 0)))
  (bel : Below w.heap.size w (w1.setCells (w.heap.size + 1) 0 (valL c)))
theorem vw_of (c : Cl) (nv : Value) (w : World) : VW c nv w ((w.alloc (.cells (cL c nv).toArray 24)).alloc (.cells #[.int .i64 0, .int .i64 0, .int .i64 0, .int .i64 0, .int .i64 0, .int .i64 0, .int .i64 0, .int .i64 0, .int .i64 0, .int .i64 0, .int .i64 0, .int .i64 0, .int .i64 0, .int .i64 0, .int .i64 0, .int .i64 0, .int .i64 0, .int .i64 0, .int .i64 0, .int .i64 0, .int .i64 0] 102)) := by
  obtain ⟨w0, hw0⟩ : ∃ w0, w0 = w.alloc (.cells (cL c nv).toArray 24) := ⟨_, rfl⟩
  rw [← hw0]
  have hb0 : Below w.heap.size w w0 := by rw [hw0]; exact (Below.refl _ _).alloc (Nat.le_refl _) _
  have hs0 : w0.heap.size = w.heap.size + 1 := by rw [hw0]; simp
  have hb1 : Below w0.heap.size w0 (w0.alloc (.cells #[.int .i64 0, .int .i64 0, .int .i64 0, .int .i64 0, .int .i64 0, .int .i64 0, .int .i64 0, .int .i64 0, .int .i64 0, .int .i64 0, .int .i64 0, .int .i64 0, .int .i64 0, .int .i64 0, .int .i64 0, .int .i64 0, .int .i64 0, .int .i64 0, .int .i64 0, .int .i64 0, .int .i64 0] 102)) := (Below.refl _ _).alloc (Nat.le_refl _) _
  have hc : CBox w0 w.heap.size c nv := ⟨by rw [hw0]; exact Go.heap_alloc_new w _⟩
  refine ⟨hc.below hb1 hc.lt, ?_, ?_, ?_⟩
  · rw [← hs0]; exact z_there w0
  · rw [← hs0]; exact z_new w0 c
  · exact hb0.trans (by rw [← hs0]; exact (z_below w0 c).mono hb0.size)
theorem valL_range (w : World) (g : Nat) (c : Cl) (h : w.heap[g]? = some (.cells (valL c).toArray 102 (0, 0))) : w.rangeAt g 0 (valL c) := blk_range h
set_option maxRecDepth 100000 in
set_option maxHeartbeats 4000000 in
theorem values_any (c : Cl) (nv : Value) (w : World) : Calls Tryd.prog 68 #[.agg (cL c nv).toArray] w fun e w' => e = .returned (.agg (valL c).toArray) ∧ Below w.heap.size w w' := by
  have HV := Aside0.mk (vw_of c nv w)
  have hone := valL_one c
  go_enter Tryd.func68, Tryd.ntmps68
  go_upto_region 1 with fail
  generalize (w.alloc (.cells (cL c nv).toArray 24)).alloc (.cells #[.int .i64 0, .int .i64 0, .int .i64 0, .int .i64 0, .int .i64 0, .int .i64 0, .int .i64 0, .int .i64 0, .int .i64 0, .int .i64 0, .int .i64 0, .int .i64 0, .int .i64 0, .int .i64 0, .int .i64 0, .int .i64 0, .int .i64 0, .int .i64 0, .int .i64 0, .int .i64 0, .int .i64 0] 102) = w1 at HV ⊢
  have g1 : w1.cell? ⟨w.heap.size, 1, none⟩ = some (.int .i64 c.replicas) := HV.out.box.c 1
  have g2 : w1.cell? ⟨w.heap.size, 2, none⟩ = some (.int .i64 c.width) := HV.out.box.c 2
  have g3 : w1.cell? ⟨w.heap.size, 3, none⟩ = some (.int .i64 c.chunks) := HV.out.box.c 3
  have g4 : w1.cell? ⟨w.heap.size, 4, none⟩ = some (.int .i64 c.retain) := HV.out.box.c 4
  have g5 : w1.cell? ⟨w.heap.size, 5, none⟩ = some (.int .i64 c.block) := HV.out.box.c 5
  have g6 : w1.cell? ⟨w.heap.size, 6, none⟩ = some (.int .i64 c.rate) := HV.out.box.c 6
  have g7 : w1.cell? ⟨w.heap.size, 7, none⟩ = some (.int .i64 c.per) := HV.out.box.c 7
  have g8 : w1.cell? ⟨w.heap.size, 8, none⟩ = some (.int .i64 c.burst) := HV.out.box.c 8
  have g9 : w1.cell? ⟨w.heap.size, 9, none⟩ = some (.int .i64 c.tries) := HV.out.box.c 9
  have g10 : w1.cell? ⟨w.heap.size, 10, none⟩ = some (.int .i64 c.base) := HV.out.box.c 10
  have g11 : w1.cell? ⟨w.heap.size, 11, none⟩ = some (.int .i64 c.most) := HV.out.box.c 11
  have g12 : w1.cell? ⟨w.heap.size, 12, none⟩ = some (.int .i64 c.quota) := HV.out.box.c 12
  have g13 : w1.cell? ⟨w.heap.size, 13, none⟩ = some (.int .i64 c.room) := HV.out.box.c 13
  have g14 : w1.cell? ⟨w.heap.size, 14, none⟩ = some (.int .i64 c.depot) := HV.out.box.c 14
  have g15 : w1.cell? ⟨w.heap.size, 15, none⟩ = some (.int .i64 c.resend) := HV.out.box.c 15
  have g16 : w1.cell? ⟨w.heap.size, 16, none⟩ = some (.int .i64 c.limit) := HV.out.box.c 16
  have g17 : w1.cell? ⟨w.heap.size, 17, none⟩ = some (.int .i64 c.patience) := HV.out.box.c 17
  have g18 : w1.cell? ⟨w.heap.size, 18, none⟩ = some (.int .i64 c.getwait) := HV.out.box.c 18
  have g19 : w1.cell? ⟨w.heap.size, 19, none⟩ = some (.int .i64 c.strikes) := HV.out.box.c 19
  have g20 : w1.cell? ⟨w.heap.size, 20, none⟩ = some (.int .i64 c.ban) := HV.out.box.c 20
  have g21 : w1.cell? ⟨w.heap.size, 21, none⟩ = some (.int .i64 c.home) := HV.out.box.c 21
  have ht := HV.out.there
  go_wp2_with ((with_reducible refine gate_store (ty := 102) (x := .tmp 2) (y := .tmp 45) rfl ?_); go_loud (refine wpList_store_mid rfl 102 (.tmp 2) (.tmp 45) rfl (w.heap.size + 1) 0 (valL c).toArray rfl rfl ht infoV hone ?_))
  have HN := Aside0.mk HV.out.new
  refine bodyPost_ret (results_c_mid rfl _ _ _ _ _ _ rfl (valL_range _ _ _ HN.out) Tryd.underlying102 rfl infoV) rfl ⟨rfl, HV.out.bel⟩
/-- the document's table of the greatest settings -/
def GTab (w : World) : Prop := ∀ i, i < 21 → w.cell? ⟨1, i, none⟩ = some (.int .i64 (most.getD i 0))
theorem GTab.below {w w1 : World} (h : GTab w) (hb : Below w.heap.size w w1) : GTab w1 := fun i hi => cell_below hb (Nat.le_refl _) (h i hi)
set_option maxRecDepth 100000 in
set_option maxHeartbeats 8000000 in
theorem set_any (c : Cl) (nv : Value) (w : World) (hG : GTab w) : Calls Tryd.prog 47 #[.agg (cL c nv).toArray] w fun e w' => e = .returned (.bool (setB c)) ∧ Below w.heap.size w w' := by
  have hb0 := (Below.refl w.heap.size w).alloc (Nat.le_refl _) (.cells (cL c nv).toArray 24)
  have HG := Aside0.mk (hG.below hb0)
  have HB := Aside0.mk hb0
  have HC : Aside0 (CBox (w.alloc (.cells (cL c nv).toArray 24)) w.heap.size c nv) := ⟨⟨Go.heap_alloc_new w _⟩⟩
  clear hG hb0
  go_enter Tryd.func47, Tryd.ntmps47
  go_upto_region 1 with fail
  generalize w.alloc (.cells (cL c nv).toArray 24) = w1 at HG HB HC ⊢
  have hrg := blk_range HC.out.row
  go_wp2_with ((with_reducible refine gate_load (ty := 24) (x := .tmp 1) rfl ?_); refine wpList_load_mid rfl 24 (.tmp 1) rfl w.heap.size 0 rfl (cL c nv) _ hrg Tryd.underlying24 rfl infoC23 ?_)
  clear hrg
  refine (values_any c nv w1).mono ?_
  rintro e w2 ⟨rfl, hb⟩
  have HG2 := Aside0.mk (HG.out.below hb)
  have HB2 := Aside0.mk (HB.out.trans (hb.mono HB.out.size))
  have HC2 := Aside0.mk (HC.out.below hb HC.out.lt)
  have ht := z_there w2
  have hone := valL_one c
  clear hb HG HB HC
  have hzb := z_below w2 c
  have HG3 := Aside0.mk (HG2.out.below hzb)
  have HB3 := Aside0.mk (HB2.out.trans (hzb.mono HB2.out.size))
  have HC3 := Aside0.mk (HC2.out.below hzb HC2.out.lt)
  have HV3 := Aside0.mk (z_new w2 c)
  clear hzb HG2 HB2 HC2
  go_upto_region 2 with ((with_reducible refine gate_store (ty := 102) (x := .tmp 3) (y := .tmp 6) rfl ?_); go_loud (refine wpList_store_mid rfl 102 (.tmp 3) (.tmp 6) rfl w2.heap.size 0 (valL c).toArray rfl rfl ht infoV hone ?_))
  clear ht hone
  generalize hw3 : (w2.alloc (.cells #[.int .i64 0, .int .i64 0, .int .i64 0, .int .i64 0, .int .i64 0, .int .i64 0, .int .i64 0, .int .i64 0, .int .i64 0, .int .i64 0, .int .i64 0, .int .i64 0, .int .i64 0, .int .i64 0, .int .i64 0, .int .i64 0, .int .i64 0, .int .i64 0, .int .i64 0, .int .i64 0, .int .i64 0] 102)).setCells w2.heap.size 0 (valL c) = w3 at HG3 HB3 HC3 HV3 ⊢
  generalize w2.heap.size = g3 at HV3 hw3 ⊢
  clear hw3
  have h5 : w3.cell? ⟨w.heap.size, 5, none⟩ = some (.int .i64 c.block) := HC3.out.c 5
  have h8 : w3.cell? ⟨w.heap.size, 8, none⟩ = some (.int .i64 c.burst) := HC3.out.c 8
  have h10 : w3.cell? ⟨w.heap.size, 10, none⟩ = some (.int .i64 c.base) := HC3.out.c 10
  have h11 : w3.cell? ⟨w.heap.size, 11, none⟩ = some (.int .i64 c.most) := HC3.out.c 11
  have H5 := Aside0.mk h5
  have H8 := Aside0.mk h8
  have H10 := Aside0.mk h10
  have H11 := Aside0.mk h11
  clear h5 h8 h10 h11
  go_wp2_with fail
  go_loopw [4] (fun v4 wr => ∃ i : Nat, i ≤ 21 ∧ v4 = .int .i64 (i : Nat) ∧ Aside0 (∃ n, wr = w3.drewN n) ∧ Aside0 (∀ j, j < i → setAt c j = true)) (fun v4 _ => 21 - (intOf v4).toNat)
  case atStart => exact ⟨0, Nat.zero_le _, rfl, ⟨⟨0, rfl⟩⟩, ⟨fun j hj => absurd hj (Nat.not_lt_zero j)⟩⟩
  case round =>
    obtain ⟨i, hi, rfl, HD, HA⟩ := hrel
    obtain ⟨⟨nd, rfl⟩⟩ := HD
    by_cases hlt : i < 21
    · have hv : w3.cell? ⟨g3, i, none⟩ = some (.int .i64 ((vals c).getD i 0)) := by rw [blk_cell HV3.out, List.getElem?_toArray]; exact valL_at c i hlt
      have hg := HG3.out i hlt
      have HSA : Aside0 (setAt c i = (decide (least i ≤ (vals c).getD i 0) && decide ((vals c).getD i 0 ≤ most.getD i 0))) := ⟨rfl⟩
      generalize (vals c).getD i 0 = x at hv HSA
      generalize most.getD i 0 = m at hg HSA
      have hle : least i = if i < 20 then 1 else 0 := rfl
      rw [hle] at HSA
      clear hle
      have stop : setAt c i = false → setB c = false := setB_false hlt
      have STOP := Aside0.mk stop
      clear stop
      by_cases h1 : x < 0
      · have HF : Aside0 (setB c = false) := ⟨STOP.out (by rw [HSA.out]; split <;> rw [decide_eq_false (by omega)] <;> rfl)⟩
        go_wp2_with fail
        go_quiet (fail)
        go_wp2_with fail
        go_ret
        exact ⟨by rw [HF.out]; rfl, HB3.out.trans ((pw_below_drewN (pw_below_drewN (Below.refl _ _) _) _).mono HB3.out.size)⟩
      · have d1 : decide (x < 0) = false := by simpa using h1
        by_cases h2 : m < x
        · have HF : Aside0 (setB c = false) := ⟨STOP.out (by rw [HSA.out, decide_eq_false (show ¬ x ≤ m by omega), Bool.and_false])⟩
          go_wp2_with fail
          go_quiet (fail)
          go_wp2_with fail
          go_ret
          exact ⟨by rw [HF.out]; rfl, HB3.out.trans ((pw_below_drewN (pw_below_drewN (Below.refl _ _) _) _).mono HB3.out.size)⟩
        · have d2 : decide (m < x) = false := by simpa using h2
          by_cases h3 : x = 0
          · have d3 : (x == 0) = true := by rw [h3]; rfl
            by_cases h4 : i < 20
            · have HF : Aside0 (setB c = false) := ⟨STOP.out (by rw [HSA.out, if_pos h4, decide_eq_false (by omega), Bool.false_and])⟩
              clear h3
              go_wp2_with fail
              go_quiet (fail)
              go_wp2_with fail
              go_ret
              exact ⟨by rw [HF.out]; rfl, HB3.out.trans ((pw_below_drewN (pw_below_drewN (Below.refl _ _) _) _).mono HB3.out.size)⟩
            · have d4 : decide ((i : Int) < 20) = false := by simp; omega
              have HT : Aside0 (setAt c i = true) := ⟨by rw [HSA.out, if_neg h4, decide_eq_true (by omega), decide_eq_true (by omega)]; rfl⟩
              clear h3
              go_wp2_with fail
              go_quiet (fail)
              go_wp2_with fail
              go_roundw
              case rel =>
                refine ⟨i + 1, by omega, by go_num, ⟨⟨_, rfl⟩⟩, ⟨fun j hj => ?_⟩⟩
                by_cases e : j = i
                · rw [e]; exact HT.out
                · exact HA.out j (by omega)
              case measure => simp [intOf]; omega
          · have d3 : (x == 0) = false := by simpa using h3
            have HT : Aside0 (setAt c i = true) := ⟨by rw [HSA.out, decide_eq_true (show x ≤ m by omega)]; split <;> rw [decide_eq_true (by omega)] <;> rfl⟩
            clear h3
            go_wp2_with fail
            go_quiet (fail)
            go_wp2_with fail
            go_roundw
            case rel =>
              refine ⟨i + 1, by omega, by go_num, ⟨⟨_, rfl⟩⟩, ⟨fun j hj => ?_⟩⟩
              by_cases e : j = i
              · rw [e]; exact HT.out
              · exact HA.out j (by omega)
            case measure => simp [intOf]; omega
    · obtain rfl : i = 21 := by omega
      have HSB := Aside0.mk (setB_eq HA.out)
      have h5 := H5.out
      have h8 := H8.out
      have h10 := H10.out
      have h11 := H11.out
      have hbd := HB3.out.trans ((pw_below_drewN (Below.refl w3.heap.size w3) nd).mono HB3.out.size)
      have HBD := Aside0.mk hbd
      clear HA hlt hi hbd
      by_cases hb1 : c.block ≤ c.burst
      · by_cases hb2 : c.base ≤ c.most
        · have HF : Aside0 (setB c = true) := ⟨by rw [HSB.out, decide_eq_true hb1, decide_eq_true hb2]; rfl⟩
          go_wp2_with fail
          go_ret
          exact ⟨by rw [HF.out]; rfl, HBD.out⟩
        · have HF : Aside0 (setB c = false) := ⟨by rw [HSB.out, decide_eq_false hb2, Bool.and_false]⟩
          go_wp2_with fail
          go_ret
          exact ⟨by rw [HF.out]; rfl, HBD.out⟩
      · have HF : Aside0 (setB c = false) := ⟨by rw [HSB.out, decide_eq_false hb1, Bool.false_and]⟩
        go_wp2_with fail
        go_ret
        exact ⟨by rw [HF.out]; rfl, HBD.out⟩
end Go.Proofs.YtljjpdjknnhceaaDoor.Ref6

/- The document counts: partitions, places; seeks a home. -/
set_option linter.unusedVariables false
set_option linter.unusedSimpArgs false
namespace Go.Proofs.YtljjpdjknnhceaaDoor.Count
open Go.RowKit Go.Proofs.YtljjpdjknnhceaaDoorW.PrintWords Go.Proofs.YtljjpdjknnhceaaDoorW.PrintLast Go.Proofs.YtljjpdjknnhceaaDoorW.PrintMore
open Go.Proofs.YtljjpdjknnhceaaDoor.Base Go.Proofs.YtljjpdjknnhceaaDoor.RingPure Go.Proofs.YtljjpdjknnhceaaDoor.ChkPure Go.Proofs.YtljjpdjknnhceaaDoor.Clus
theorem times_snoc (ns : List Nd) (k : Nat) (n : Nd) (p : Int) (h : ns[k]? = some n) : times (ns.take (k + 1)) p = times (ns.take k) p + n.2.count p := by
  unfold times
  rw [List.take_add_one, h, List.map_append, List.sum_append]
  simp
theorem count_snoc (l : List Int) (j : Nat) (x p : Int) (h : l[j]? = some x) : (l.take (j + 1)).count p = (l.take j).count p + if x = p then 1 else 0 := by
  rw [List.take_add_one, h, List.count_append]
  by_cases e : x = p
  · subst e; simp
  · rw [if_neg e]; simp [List.count_singleton, e]
theorem count_le' (l : List Int) (j : Nat) (p : Int) : (l.take j).count p ≤ l.length := Nat.le_trans List.count_le_length (by rw [List.length_take]; omega)
theorem times_le (ns : List Nd) (p : Int) : times ns p ≤ cnt ns := by
  rw [times_flat, ← flat_length]; exact List.count_le_length
theorem cnt_le_of (ns : List Nd) (k : Nat) (n : Nd) (h : ns[k]? = some n) : n.2.length ≤ cnt ns := by
  have h1 := cnt_snoc ns k n h
  have h2 := cnt_take ns (k + 1)
  omega
theorem drop_at {α : Type} (l : List α) (k : Nat) (x : α) (h : l[k]? = some x) : l.drop k = x :: l.drop (k + 1) := by
  obtain ⟨hl, e⟩ := List.getElem?_eq_some_iff.1 h
  rw [List.drop_eq_getElem_cons hl, e]
set_option maxRecDepth 100000 in
set_option maxHeartbeats 4000000 in
theorem parts_any (c : Cl) (A : Option Addr) (cap : Nat) (ns : List Nd) (w : World) (hN : NodesAt w A ns) (hcap : ns.length ≤ cap) (hl : ns.length ≤ 1099511627776) (hc : cnt ns ≤ 1099511627776) :
    Calls Tryd.prog 49 #[.agg (cL c (.slice A ns.length cap)).toArray] w fun e w' => e = .returned (.int .i64 (cnt ns : Nat)) ∧ Below w.heap.size w w' := by
  have hb0 := (Below.refl w.heap.size w).alloc (Nat.le_refl _) (.cells (cL c (.slice A ns.length cap)).toArray 24)
  have HN := Aside0.mk (hN.below hb0)
  have HB := Aside0.mk hb0
  have HC : Aside0 (CBox (w.alloc (.cells (cL c (.slice A ns.length cap)).toArray 24)) w.heap.size c (.slice A ns.length cap)) := ⟨⟨Go.heap_alloc_new w _⟩⟩
  have HCT := Aside0.mk (fun k => cnt_take ns k)
  clear hN hb0
  go_enter Tryd.func49, Tryd.ntmps49
  go_wp2_with fail
  generalize w.alloc (.cells (cL c (.slice A ns.length cap)).toArray 24) = w1 at HN HB HC ⊢
  have h22 : w1.cell? ⟨w.heap.size, 22, none⟩ = some (.slice A ns.length cap) := HC.out.c 22
  go_loop [3, 4] (fun v3 v4 => ∃ k : Nat, k ≤ ns.length ∧ v3 = .int .i64 (cnt (ns.take k) : Nat) ∧ v4 = .int .i64 (k : Nat)) (fun _ v4 => ns.length - (intOf v4).toNat)
  case atStart => exact ⟨0, Nat.zero_le _, rfl, rfl⟩
  case round =>
    obtain ⟨k, hk, rfl, rfl⟩ := hrel
    have hct := HCT.out k
    by_cases hlt : k < ns.length
    · obtain ⟨n, hn⟩ : ∃ n, ns[k]? = some n := ⟨_, List.getElem?_eq_getElem hlt⟩
      obtain ⟨b, o, rfl, hz, B, cp, hp, hcp, hnm⟩ := HN.out.get hn
      have hsn := cnt_snoc ns k n hn
      have hct1 := HCT.out (k + 1)
      have HSN := Aside0.mk hsn
      have hq : cnt (ns.take k) + n.2.length ≤ 1099511627776 := by omega
      clear hn hsn hct1 hnm
      go_wp2_with fail
      go_round
      case rel => exact ⟨k + 1, by omega, by rw [HSN.out]; go_num, by go_num⟩
      case measure => simp [intOf]; omega
    · obtain rfl : k = ns.length := by omega
      rw [List.take_length]
      go_wp2_with fail
      go_ret
      exact ⟨rfl, HB.out⟩
set_option maxRecDepth 100000 in
set_option maxHeartbeats 4000000 in
theorem times_any (c : Cl) (A : Option Addr) (cap : Nat) (ns : List Nd) (p : Int) (w : World) (hN : NodesAt w A ns) (hcap : ns.length ≤ cap) (hl : ns.length ≤ 1099511627776) (hc : cnt ns ≤ 1099511627776) :
    Calls Tryd.prog 80 #[.agg (cL c (.slice A ns.length cap)).toArray, .int .i64 p] w fun e w' => e = .returned (.int .i64 (times ns p : Nat)) ∧ Below w.heap.size w w' := by
  have hb0 := (Below.refl w.heap.size w).alloc (Nat.le_refl _) (.cells (cL c (.slice A ns.length cap)).toArray 24)
  have HN := Aside0.mk (hN.below hb0)
  have HB := Aside0.mk hb0
  have HC : Aside0 (CBox (w.alloc (.cells (cL c (.slice A ns.length cap)).toArray 24)) w.heap.size c (.slice A ns.length cap)) := ⟨⟨Go.heap_alloc_new w _⟩⟩
  have HCT := Aside0.mk (fun k => cnt_take ns k)
  clear hN hb0
  go_enter Tryd.func80, Tryd.ntmps80
  go_wp2_with fail
  generalize w.alloc (.cells (cL c (.slice A ns.length cap)).toArray 24) = w1 at HN HB HC ⊢
  have h22 : w1.cell? ⟨w.heap.size, 22, none⟩ = some (.slice A ns.length cap) := HC.out.c 22
  go_loop [5, 6, 7] (fun v5 v6 _ => ∃ k : Nat, k ≤ ns.length ∧ v5 = .int .i64 (times (ns.take k) p : Nat) ∧ v6 = .int .i64 (k : Nat)) (fun _ v6 _ => ns.length - (intOf v6).toNat)
  case atStart => exact ⟨0, Nat.zero_le _, rfl, rfl⟩
  case round =>
    obtain ⟨k, hk, rfl, rfl⟩ := hrel
    have htl := times_le (ns.take k) p
    have hct := HCT.out k
    by_cases hlt : k < ns.length
    · obtain ⟨n, hn⟩ : ∃ n, ns[k]? = some n := ⟨_, List.getElem?_eq_getElem hlt⟩
      obtain ⟨b, o, rfl, hz, B, cp, hp, hcp, hnm⟩ := HN.out.get hn
      have HSN := Aside0.mk (times_snoc ns k n p hn)
      have hnl := cnt_le_of ns k n hn
      have HNM := Aside0.mk hnm
      obtain ⟨T, hT⟩ : ∃ T, T = times (ns.take k) p := ⟨_, rfl⟩
      rw [← hT] at htl HSN ⊢
      clear hn hnm hT
      go_wp2_with fail
      go_loop [5, 7] (fun v5 v7 => ∃ j : Nat, j ≤ n.2.length ∧ v5 = .int .i64 (T + (n.2.take j).count p : Nat) ∧ v7 = .int .i64 (j : Nat)) (fun _ v7 => n.2.length - (intOf v7).toNat)
      case atStart => exact ⟨0, Nat.zero_le _, by simp, rfl⟩
      case round =>
        obtain ⟨j, hj, rfl, rfl⟩ := hrel
        have hcl := count_le' n.2 j p
        by_cases hjl : j < n.2.length
        · obtain ⟨x, hx⟩ : ∃ x, n.2[j]? = some x := ⟨_, List.getElem?_eq_getElem hjl⟩
          obtain ⟨b2, o2, rfl, hpc⟩ := HNM.out.get hx
          have HCS := Aside0.mk (count_snoc n.2 j x p hx)
          obtain ⟨U, hU⟩ : ∃ U, U = (n.2.take j).count p := ⟨_, rfl⟩
          rw [← hU] at hcl HCS ⊢
          clear hx hU
          by_cases he : x = p
          · have hq : (x == p) = true := by rw [he]; simp
            have HCU : Aside0 ((n.2.take (j + 1)).count p = U + 1) := ⟨by rw [HCS.out, if_pos he]⟩
            clear he
            go_wp2_with fail
            go_round
            case rel => exact ⟨j + 1, by omega, by rw [HCU.out]; go_num, by go_num⟩
            case measure => simp [intOf]; omega
          · have hq : (x == p) = false := by simpa using he
            have HCU : Aside0 ((n.2.take (j + 1)).count p = U) := ⟨by rw [HCS.out, if_neg he]; rfl⟩
            clear he
            go_wp2_with fail
            go_round
            case rel => exact ⟨j + 1, by omega, by rw [HCU.out], by go_num⟩
            case measure => simp [intOf]; omega
        · obtain rfl : j = n.2.length := by omega
          rw [List.take_length]
          go_wp2_with fail
          go_round
          case rel => exact ⟨k + 1, by omega, by rw [HSN.out], by go_num⟩
          case measure => simp [intOf]; omega
    · obtain rfl : k = ns.length := by omega
      rw [List.take_length]
      go_wp2_with fail
      go_ret
      exact ⟨rfl, HB.out⟩
set_option maxRecDepth 100000 in
set_option maxHeartbeats 4000000 in
theorem homeR_any (c : Cl) (A : Option Addr) (cap : Nat) (ns : List Nd) (p : Int) (w : World) (hN : NodesAt w A ns) (hcap : ns.length ≤ cap) (hl : ns.length ≤ 1099511627776) (hc : cnt ns ≤ 1099511627776) :
    Calls Tryd.prog 53 #[.agg (cL c (.slice A ns.length cap)).toArray, .int .i64 p] w fun e w' => e = .returned (.int .i64 (homeFrom 0 ns p)) ∧ Below w.heap.size w w' := by
  have hb0 := (Below.refl w.heap.size w).alloc (Nat.le_refl _) (.cells (cL c (.slice A ns.length cap)).toArray 24)
  have HN := Aside0.mk (hN.below hb0)
  have HB := Aside0.mk hb0
  have HC : Aside0 (CBox (w.alloc (.cells (cL c (.slice A ns.length cap)).toArray 24)) w.heap.size c (.slice A ns.length cap)) := ⟨⟨Go.heap_alloc_new w _⟩⟩
  have HCT := Aside0.mk (fun k => cnt_take ns k)
  clear hN hb0
  obtain ⟨R, hR⟩ : ∃ R, R = homeFrom 0 ns p := ⟨_, rfl⟩
  have HI : Aside0 (homeFrom 0 (ns.drop 0) p = R) := ⟨by rw [hR, List.drop_zero]⟩
  rw [← hR]
  clear hR
  go_enter Tryd.func53, Tryd.ntmps53
  go_wp2_with fail
  generalize w.alloc (.cells (cL c (.slice A ns.length cap)).toArray 24) = w1 at HN HB HC ⊢
  have h22 : w1.cell? ⟨w.heap.size, 22, none⟩ = some (.slice A ns.length cap) := HC.out.c 22
  go_loop [5, 6] (fun v5 _ => ∃ k : Nat, k ≤ ns.length ∧ v5 = .int .i64 (k : Nat) ∧ Aside0 (homeFrom k (ns.drop k) p = R)) (fun v5 _ => ns.length - (intOf v5).toNat)
  case atStart => exact ⟨0, Nat.zero_le _, rfl, HI⟩
  case round =>
    clear HI
    obtain ⟨k, hk, rfl, HI⟩ := hrel
    by_cases hlt : k < ns.length
    · obtain ⟨n, hn⟩ : ∃ n, ns[k]? = some n := ⟨_, List.getElem?_eq_getElem hlt⟩
      obtain ⟨b, o, rfl, hz, B, cp, hp, hcp, hnm⟩ := HN.out.get hn
      have hnl := cnt_le_of ns k n hn
      have HNM := Aside0.mk hnm
      have HD : Aside0 ((if p ∈ n.2 then (k : Int) else homeFrom (k + 1) (ns.drop (k + 1)) p) = R) := ⟨by rw [← HI.out, drop_at ns k n hn]; rfl⟩
      clear hn hnm HI
      go_wp2_with fail
      go_loop [6] (fun v6 => ∃ j : Nat, j ≤ n.2.length ∧ v6 = .int .i64 (j : Nat) ∧ Aside0 (p ∉ n.2.take j)) (fun v6 => n.2.length - (intOf v6).toNat)
      case atStart => exact ⟨0, Nat.zero_le _, rfl, ⟨by simp⟩⟩
      case round =>
        obtain ⟨j, hj, rfl, HM⟩ := hrel
        by_cases hjl : j < n.2.length
        · obtain ⟨x, hx⟩ : ∃ x, n.2[j]? = some x := ⟨_, List.getElem?_eq_getElem hjl⟩
          obtain ⟨b2, o2, rfl, hpc⟩ := HNM.out.get hx
          have HX := Aside0.mk hx
          clear hx
          by_cases he : x = p
          · have hq : (x == p) = true := by rw [he]; simp
            have HE : Aside0 ((k : Int) = R) := ⟨by rw [← HD.out, if_pos (by rw [← he]; exact List.mem_of_getElem? HX.out)]⟩
            clear he
            go_wp2_with fail
            go_ret
            exact ⟨by rw [← HE.out]; rfl, HB.out⟩
          · have hq : (x == p) = false := by simpa using he
            have HM2 : Aside0 (p ∉ n.2.take (j + 1)) := ⟨by rw [List.take_add_one, HX.out]; simp only [Option.toList_some, List.mem_append, List.mem_singleton]; exact fun h => h.elim HM.out (fun e => he e.symm)⟩
            clear he
            go_wp2_with fail
            go_round
            case rel => exact ⟨j + 1, by omega, by go_num, HM2⟩
            case measure => simp [intOf]; omega
        · obtain rfl : j = n.2.length := by omega
          have HI2 : Aside0 (homeFrom (k + 1) (ns.drop (k + 1)) p = R) := ⟨by rw [← HD.out, if_neg (by have := HM.out; rwa [List.take_length] at this)]⟩
          go_wp2_with fail
          go_round
          case rel => exact ⟨k + 1, by omega, by go_num, HI2⟩
          case measure => simp [intOf]; omega
    · obtain rfl : k = ns.length := by omega
      have HE : Aside0 (R = -1) := ⟨by rw [← HI.out, List.drop_length]; rfl⟩
      go_wp2_with fail
      go_ret
      exact ⟨by rw [HE.out]; rfl, HB.out⟩
end Go.Proofs.YtljjpdjknnhceaaDoor.Count

/- The document's test of a store's name. -/
set_option linter.unusedVariables false
set_option linter.unusedSimpArgs false
namespace Go.Proofs.YtljjpdjknnhceaaDoor.NamedR
open Go.RowKit Go.Proofs.YtljjpdjknnhceaaDoorW.PrintWords Go.Proofs.YtljjpdjknnhceaaDoorW.PrintLast Go.Proofs.YtljjpdjknnhceaaDoorW.PrintMore
open Go.Proofs.YtljjpdjknnhceaaDoor.Base Go.Proofs.YtljjpdjknnhceaaDoor.Name Go.Proofs.YtljjpdjknnhceaaDoor.PRingWalks
def nr (x : Nat) : Bool := decide ((97 ≤ x ∧ x ≤ 122) ∨ (48 ≤ x ∧ x ≤ 57) ∨ x = 45)
def nrAt (s : ByteArray) (i : Nat) : Bool := nr (s.data.toList.getD i 0).toNat
theorem bt_at (s : ByteArray) (i : Nat) (h : i < s.size) : bt s (i : Int) = ((s.data.toList.getD i 0).toNat : Int) := by
  rw [bt_nat s i h, List.getD_eq_getElem?_getD, getElem_list s i h]; rfl
def allR (s : ByteArray) (i : Nat) : Bool := (List.range s.size).all fun j => decide (j < i) || nrAt s j
theorem allR_iff (s : ByteArray) (i : Nat) : allR s i = true ↔ ∀ j, i ≤ j → j < s.size → nrAt s j = true := by
  unfold allR
  rw [List.all_eq_true]
  simp only [List.mem_range, Bool.or_eq_true, decide_eq_true_eq]
  exact ⟨fun h j h1 h2 => (h j h2).elim (fun e => by omega) id, fun h j h2 => if e : j < i then .inl e else .inr (h j (by omega) h2)⟩
theorem allR_no {s : ByteArray} {i : Nat} (h : ¬ ∀ j, i ≤ j → j < s.size → nrAt s j = true) : allR s i = false := by
  rw [Bool.eq_false_iff]; exact fun e => h ((allR_iff s i).1 e)
theorem named_l0 (s : ByteArray) (hs : s.size ≤ 9223372036854775806) : ∀ (d i k : Nat), s.size - i = d → i ≤ s.size → d < k → granaryref6_named.l0 k s (i : Int) = some (allR s i)
  | 0, i, k, hd, hi, hk => by
    obtain ⟨k, rfl⟩ : ∃ m, k = m + 1 := ⟨k - 1, by omega⟩
    simp only [granaryref6_named.l0]
    rw [if_neg (by omega), (allR_iff s i).2 (fun j h1 h2 => by omega)]
  | d + 1, i, k, hd, hi, hk => by
    obtain ⟨k, rfl⟩ : ∃ m, k = m + 1 := ⟨k - 1, by omega⟩
    have ih := named_l0 s hs d (i + 1) k (by omega) (by omega) (by omega)
    have e : wrap64 ((i : Int) + 1) = ((i + 1 : Nat) : Int) := by unfold wrap64; omega
    obtain ⟨x, hx⟩ : ∃ x : Nat, x = (s.data.toList.getD i 0).toNat := ⟨_, rfl⟩
    simp only [granaryref6_named.l0]
    rw [if_pos (by omega), if_pos (by omega), bt_at s i (by omega), e, ih, ← hx]
    by_cases hn : nrAt s i = true
    · have : allR s i = allR s (i + 1) := by
        rw [Bool.eq_iff_iff, allR_iff, allR_iff]
        refine ⟨fun h j h1 h2 => h j (by omega) h2, fun h j h1 h2 => ?_⟩
        by_cases e : j = i
        · rw [e]; exact hn
        · exact h j (by omega) h2
      rw [this]
      unfold nrAt at hn
      rw [← hx] at hn
      unfold nr at hn
      have hn := of_decide_eq_true hn
      repeat (first | rfl | (exfalso; omega) | split)
    · have : allR s i = false := allR_no (fun h => hn (h i (Nat.le_refl _) (by omega)))
      rw [this]
      have hn' : nrAt s i = false := by simpa using hn
      unfold nrAt at hn'
      rw [← hx] at hn'
      unfold nr at hn'
      have hn' := of_decide_eq_false hn'
      repeat (first | rfl | (exfalso; omega) | split)
theorem named_f (s : ByteArray) (hs : s.size ≤ 9223372036854775806) : ∃ k, granaryref6_named.f k s = some (nmB s) := by
  refine ⟨s.size + 2, ?_⟩
  have hl := named_l0 s hs s.size 0 (s.size + 1) (by omega) (by omega) (by omega)
  have hj : ∀ b, granaryref6_named.j0 (s.size + 2) s b = if b = true then some false else granaryref6_named.l0 (s.size + 1) s 0 := fun b => rfl
  unfold granaryref6_named.f
  simp only [hj]
  have hz : s.toList = [] ↔ s.size = 0 := by
    constructor
    · intro h
      have := congrArg List.length h
      rw [ByteArray.toList_eq, data_length] at this
      simpa using this
    · intro h
      rw [ByteArray.toList_eq]
      exact List.eq_nil_of_length_eq_zero (by rw [data_length]; exact h)
  by_cases h0 : s.size = 0
  · rw [if_pos (hz.2 h0), nmB_size (by omega)]; rfl
  rw [if_neg (fun h => h0 (hz.1 h))]
  by_cases h40 : (s.size : Int) > 40
  · rw [if_pos h40, nmB_size (by omega)]; rfl
  have e0 : bt s (0 : Int) = ((s.data.toList.getD 0 0).toNat : Int) := bt_at s 0 (by omega)
  have hl0 : granaryref6_named.l0 (s.size + 1) s 0 = some (allR s 0) := hl
  rw [if_neg h40, if_pos (by omega), e0, hl0]
  obtain ⟨x, hx⟩ : ∃ x : Nat, x = (s.data.toList.getD 0 0).toNat := ⟨_, rfl⟩
  rw [← hx]
  have h0' : nbAt s 0 = nb x 0 := by unfold nbAt; rw [hx]
  by_cases hlet : 97 ≤ x ∧ x ≤ 122
  · rw [if_neg (by omega), if_neg (by simp; omega)]
    congr 1
    by_cases ha : ∀ j, 0 ≤ j → j < s.size → nrAt s j = true
    · rw [(allR_iff s 0).2 ha, nmB_true ⟨by omega, by omega⟩ (fun i hi => ?_)]
      by_cases e : i = 0
      · rw [e, h0']; unfold nb; exact decide_eq_true (.inl hlet)
      · have := ha i (Nat.zero_le _) hi
        unfold nrAt nr at this
        have := of_decide_eq_true this
        unfold nbAt nb
        exact decide_eq_true (by omega)
    · rw [allR_no ha]
      have : ∃ j, j < s.size ∧ nrAt s j = false := by
        refine Classical.byContradiction fun hn => ha fun j _ hj => ?_
        cases hb : nrAt s j with
        | true => rfl
        | false => exact absurd ⟨j, hj, hb⟩ hn
      obtain ⟨j, hj, hb⟩ := this
      refine (nmB_false hj ?_).symm
      unfold nrAt nr at hb
      have := of_decide_eq_false hb
      unfold nbAt nb
      exact decide_eq_false (by omega)
  · have hf : nmB s = false := nmB_false (show 0 < s.size by omega) (by rw [h0']; unfold nb; exact decide_eq_false (by omega))
    rw [hf]
    by_cases hx1 : (x : Int) < 97
    · rw [if_pos hx1]; rfl
    · rw [if_neg hx1, if_pos (by simp; omega)]
theorem named_any (s : ByteArray) (w : World) (hs : s.size ≤ 2147483647) : Calls Tryd.prog 46 #[.string s] w fun e w' => e = .returned (.bool (nmB s)) ∧ Drawn0 w w' := by
  obtain ⟨k, hk⟩ := named_f s (by omega)
  exact granaryref6_named.calls k s _ w hk
end Go.Proofs.YtljjpdjknnhceaaDoor.NamedR

/- The document's dealt and Check. -/
set_option linter.unusedVariables false
set_option linter.unusedSimpArgs false
namespace Go.Proofs.YtljjpdjknnhceaaDoor.Dealt
open Go.RowKit Go.Proofs.YtljjpdjknnhceaaDoorW.PrintWords Go.Proofs.YtljjpdjknnhceaaDoorW.PrintLast Go.Proofs.YtljjpdjknnhceaaDoorW.PrintMore
open Go.Proofs.YtljjpdjknnhceaaDoor.Base Go.Proofs.YtljjpdjknnhceaaDoor.RingPure Go.Proofs.YtljjpdjknnhceaaDoor.ChkPure Go.Proofs.YtljjpdjknnhceaaDoor.Clus Go.Proofs.YtljjpdjknnhceaaDoor.Mids Go.Proofs.YtljjpdjknnhceaaDoor.Chkd Go.Proofs.YtljjpdjknnhceaaDoor.Ref6 Go.Proofs.YtljjpdjknnhceaaDoor.Name
open Go.Proofs.YtljjpdjknnhceaaDoor.Count (parts_any times_any homeR_any)
theorem ris_iff : ∀ (l : List Int), ris l = true ↔ ∀ j, j + 1 < l.length → l.getD j 0 < l.getD (j + 1) 0
  | [] => by simp [ris]
  | [a] => by simp [ris]
  | a :: b :: l => by
    simp only [ris, Bool.and_eq_true, decide_eq_true_eq, ris_iff (b :: l)]
    constructor
    · rintro ⟨h1, h2⟩ j hj
      cases j with
      | zero => simpa using h1
      | succ j => simpa using h2 j (by simpa using hj)
    · intro h
      refine ⟨by simpa using h 0 (by simp), fun j hj => ?_⟩
      have := h (j + 1) (by simpa using hj)
      simpa using this
def DealtPost (ns : List Nd) (w : World) (e : Ending) (w' : World) : Prop := ∃ d : Bool, e = .returned (.bool d) ∧ (d = true ↔ dealt ns) ∧ Below w.heap.size w w'
theorem post_no {ns : List Nd} {w w' : World} (h : ¬ dealt ns) (hb : Below w.heap.size w w') : DealtPost ns w (.returned (.bool false)) w' := ⟨false, rfl, ⟨fun e => absurd e (by decide), fun e => absurd e h⟩, hb⟩
theorem post_yes {ns : List Nd} {w w' : World} (h : dealt ns) (hb : Below w.heap.size w w') : DealtPost ns w (.returned (.bool true)) w' := ⟨true, rfl, ⟨fun _ => h, fun _ => rfl⟩, hb⟩
set_option maxRecDepth 100000 in
set_option maxHeartbeats 8000000 in
theorem dealt_any (c : Cl) (A : Option Addr) (cap : Nat) (ns : List Nd) (w : World) (hN : NodesAt w A ns) (hcap : ns.length ≤ cap) (hl : ns.length ≤ 1099511627776) (hc : cnt ns ≤ 1099511627776) :
    Calls Tryd.prog 48 #[.agg (cL c (.slice A ns.length cap)).toArray] w (DealtPost ns w) := by
  have hb0 := (Below.refl w.heap.size w).alloc (Nat.le_refl _) (.cells (cL c (.slice A ns.length cap)).toArray 24)
  have HN := Aside0.mk (hN.below hb0)
  have HB := Aside0.mk hb0
  have HC : Aside0 (CBox (w.alloc (.cells (cL c (.slice A ns.length cap)).toArray 24)) w.heap.size c (.slice A ns.length cap)) := ⟨⟨Go.heap_alloc_new w _⟩⟩
  clear hN hb0
  go_enter Tryd.func48, Tryd.ntmps48
  go_upto_region 1 with fail
  generalize w.alloc (.cells (cL c (.slice A ns.length cap)).toArray 24) = w1 at HN HB HC ⊢
  generalize hgc : w.heap.size = gc at HC ⊢
  have hrg := blk_range HC.out.row
  go_wp2_with ((with_reducible refine gate_load (ty := 24) (x := .tmp 1) rfl ?_); refine wpList_load_mid rfl 24 (.tmp 1) rfl gc 0 rfl (cL c (.slice A ns.length cap)) _ hrg Tryd.underlying24 rfl infoC23 ?_)
  clear hrg
  refine (parts_any c A cap ns w1 HN.out hcap hl hc).mono ?_
  rintro e w2 ⟨rfl, hb⟩
  have HR2 := Aside0.mk hb
  clear hb hgc
  by_cases hcn : 1 ≤ cnt ns ∧ cnt ns ≤ 64
  · have HCN := Aside0.mk hcn
    obtain ⟨hc1, hc2⟩ := hcn
    obtain ⟨N, hNn⟩ : ∃ N, N = cnt ns := ⟨_, rfl⟩
    rw [← hNn] at hc1 hc2 ⊢
    have HNN := Aside0.mk hNn
    clear hNn
    go_wp2_with fail
    go_loopw [4] (fun v4 wr => ∃ i : Nat, i ≤ N ∧ v4 = .int .i64 (i : Nat) ∧ Aside0 (Below w1.heap.size w1 wr) ∧ Aside0 (∀ j : Nat, j < i → times ns (j : Int) = 1)) (fun v4 _ => N - (intOf v4).toNat)
    case atStart => exact ⟨0, Nat.zero_le _, rfl, HR2, ⟨fun j hj => absurd hj (Nat.not_lt_zero j)⟩⟩
    case round =>
      clear HR2
      obtain ⟨i, hi, rfl, HR, HT⟩ := hrel
      obtain ⟨wo, rfl⟩ : ∃ wo : World, wo = wr := ⟨_, rfl⟩
      have HC1 := Aside0.mk (HC.out.below HR.out HC.out.lt)
      by_cases hlt : i < N
      · have hrg := blk_range HC1.out.row
        go_wp2_with ((with_reducible refine gate_load (ty := 24) (x := .tmp 1) rfl ?_); refine wpList_load_mid rfl 24 (.tmp 1) rfl gc 0 rfl (cL c (.slice A ns.length cap)) _ hrg Tryd.underlying24 rfl infoC23 ?_)
        clear hrg
        refine (times_any c A cap ns (i : Nat) wo (HN.out.below HR.out) hcap hl hc).mono ?_
        rintro e w3 ⟨rfl, hb⟩
        have HR3 := Aside0.mk (HR.out.trans (hb.mono HR.out.size))
        clear hb HR HC1
        by_cases ht : times ns (i : Int) = 1
        · rw [ht]
          have HT1 := Aside0.mk ht
          clear ht
          go_wp2_with fail
          go_roundw
          case rel =>
            refine ⟨i + 1, by omega, by go_num, HR3, ⟨fun j hj => ?_⟩⟩
            by_cases e : j = i
            · rw [e]; exact HT1.out
            · exact HT.out j (by omega)
          case measure => simp [intOf]; omega
        · have HNO : Aside0 (¬ dealt ns) := ⟨fun h => ht (h.2.2.1 i (by rw [← HNN.out]; exact hlt))⟩
          have hne : ((times ns (i : Int) : Nat) : Int) ≠ 1 := by omega
          have hne2 : (((times ns (i : Int) : Nat) : Int) != 1) = true := by simp; omega
          have hne3 : (((times ns (i : Int) : Nat) : Int) == 1) = false := by simp; omega
          generalize times ns (i : Int) = T at hne hne2 hne3 ⊢
          clear ht
          go_wp2_with fail
          go_ret
          exact post_no HNO.out (HB.out.trans (HR3.out.mono HB.out.size))
      · obtain rfl : i = N := by omega
        clear hlt hi
        go_wp2_with fail
        go_loopw [5, 6, 7] (fun v5 _ _ wr => ∃ k : Nat, k ≤ ns.length ∧ v5 = .int .i64 (k : Nat) ∧ Aside0 (Below w1.heap.size w1 wr) ∧ Aside0 (∀ j n, j < k → ns[j]? = some n → ris n.2 = true)) (fun v5 _ _ _ => ns.length - (intOf v5).toNat)
        case atStart => exact ⟨0, Nat.zero_le _, rfl, HR, ⟨fun j n hj => absurd hj (Nat.not_lt_zero j)⟩⟩
        case round =>
          clear HR HC1
          obtain ⟨k, hk, rfl, HR, HZ⟩ := hrel
          obtain ⟨wo, rfl⟩ : ∃ wo : World, wo = wr := ⟨_, rfl⟩
          have h22 : wo.cell? ⟨gc, 22, none⟩ = some (.slice A ns.length cap) := (HC.out.below HR.out HC.out.lt).c 22
          by_cases hlt : k < ns.length
          · obtain ⟨n, hn⟩ : ∃ n, ns[k]? = some n := ⟨_, List.getElem?_eq_getElem hlt⟩
            obtain ⟨b, o, rfl, hz, B, cp, hp, hcp, hnm⟩ := (HN.out.below HR.out).get hn
            have hnl := Count.cnt_le_of ns k n hn
            have HNM := Aside0.mk hnm
            have HNI := Aside0.mk hn
            clear hn hnm
            go_wp2_with fail
            clear h22 hz hp
            go_loopw [7] (fun v7 wr => ∃ j : Nat, 1 ≤ j ∧ v7 = .int .i64 (j : Nat) ∧ Aside0 (∃ q, wr = wo.drewN q) ∧ Aside0 (∀ i, i + 1 < j → i + 1 < n.2.length → n.2.getD i 0 < n.2.getD (i + 1) 0) ∧ Aside0 (j ≤ n.2.length + 1)) (fun v7 _ => n.2.length - (intOf v7).toNat)
            case atStart => exact ⟨1, Nat.le_refl _, rfl, ⟨⟨0, rfl⟩⟩, ⟨fun i hi => absurd hi (by omega)⟩, ⟨by omega⟩⟩
            case round =>
              obtain ⟨j, hj, rfl, HD, HS, HJ⟩ := hrel
              obtain ⟨⟨nd, rfl⟩⟩ := HD
              by_cases hjl : j < n.2.length
              · obtain ⟨x, hx⟩ : ∃ x, n.2[j]? = some x := ⟨_, List.getElem?_eq_getElem hjl⟩
                obtain ⟨y, hy⟩ : ∃ y, n.2[j - 1]? = some y := ⟨_, List.getElem?_eq_getElem (by omega)⟩
                obtain ⟨b2, o2, rfl, hxc⟩ := HNM.out.get hx
                obtain ⟨b3, o3, he3, hyc⟩ := HNM.out.get hy
                have e2 : b3 = b2 ∧ o3 = o2 := by
                  injection he3 with he3
                  injection he3 with h1 h2
                  exact ⟨h1.symm, h2.symm⟩
                obtain ⟨rfl, rfl⟩ := e2
                clear he3
                have HX : Aside0 (n.2.getD j 0 = x ∧ n.2.getD (j - 1) 0 = y) := ⟨by rw [List.getD_eq_getElem?_getD, hx, List.getD_eq_getElem?_getD, hy]; exact ⟨rfl, rfl⟩⟩
                obtain ⟨q, rfl⟩ : ∃ q, j = q + 1 := ⟨j - 1, by omega⟩
                rw [Nat.add_sub_cancel] at hyc HX
                have hq1 : IntKind.i64.wrap (((q + 1 : Nat) : Int) - 1) = (q : Int) := by rw [IntWalk.i64_in _ (by omega)]; omega
                have hq2 : (0 : Int) ≤ (q : Int) := by omega
                have hq3 : ((q : Int)).toNat = q := by omega
                have hq4 : (0 : Int) ≤ ((q + 1 : Nat) : Int) := by omega
                clear hx hy
                by_cases hxy : x ≤ y
                · have HNO : Aside0 (¬ dealt ns) := ⟨fun h => by
                    have h1 := (ris_iff n.2).1 (h.2.2.2 n (List.mem_of_getElem? HNI.out)) q hjl
                    rw [HX.out.1, HX.out.2] at h1
                    omega⟩
                  go_wp2_with fail
                  go_quiet (fail)
                  clear hq1 hq2 hq3 hq4
                  go_wp2_with fail
                  go_ret
                  exact post_no HNO.out (HB.out.trans ((HR.out.trans ((pw_below_drewN (pw_below_drewN (Below.refl _ _) _) _).mono HR.out.size)).mono HB.out.size))
                · have HS2 : Aside0 (∀ i, i + 1 < q + 2 → i + 1 < n.2.length → n.2.getD i 0 < n.2.getD (i + 1) 0) := ⟨fun i h1 h2 => by
                    by_cases e : i = q
                    · rw [e, HX.out.1, HX.out.2]; omega
                    · exact HS.out i (by omega) h2⟩
                  go_wp2_with fail
                  go_quiet (fail)
                  clear hq1 hq2 hq3 hq4
                  go_wp2_with fail
                  go_roundw
                  case rel => exact ⟨q + 2, by omega, by go_num, ⟨⟨_, rfl⟩⟩, HS2, ⟨by omega⟩⟩
                  case measure => simp [intOf]; omega
              · have HRI : Aside0 (ris n.2 = true) := ⟨(ris_iff n.2).2 (fun i h1 => HS.out i (by omega) h1)⟩
                have HR5 : Aside0 (Below w1.heap.size w1 (wo.drewN nd)) := ⟨pw_below_drewN HR.out _⟩
                go_wp2_with fail
                go_roundw
                case rel =>
                  refine ⟨k + 1, by omega, by go_num, HR5, ⟨fun i m hi hm => ?_⟩⟩
                  by_cases e : i = k
                  · rw [e, HNI.out] at hm
                    injection hm with hm
                    rw [← hm]; exact HRI.out
                  · exact HZ.out i m (by omega) hm
                case measure => simp [intOf]; omega
          · obtain rfl : k = ns.length := by omega
            have HY : Aside0 (dealt ns) := ⟨⟨HCN.out.1, HCN.out.2, fun j hj => HT.out j (by rw [HNN.out]; exact hj), fun m hm => by
              obtain ⟨j, hj, e⟩ := List.getElem_of_mem hm
              exact HZ.out j m hj (by rw [List.getElem?_eq_getElem hj, e])⟩⟩
            go_wp2_with fail
            go_ret
            exact post_yes HY.out (HB.out.trans (HR.out.mono HB.out.size))
  · have HNO : Aside0 (¬ dealt ns) := ⟨fun h => hcn ⟨h.1, h.2.1⟩⟩
    by_cases h1 : cnt ns < 1
    · clear hcn
      go_wp2_with fail
      go_ret
      exact post_no HNO.out (HB.out.trans (HR2.out.mono HB.out.size))
    · have h2 : 64 < cnt ns := by omega
      clear hcn
      go_wp2_with fail
      go_ret
      exact post_no HNO.out (HB.out.trans (HR2.out.mono HB.out.size))
end Go.Proofs.YtljjpdjknnhceaaDoor.Dealt

/- A region that draws its order, walked without its order: each operation gives a value that stands in a relation to the world. -/
set_option linter.unusedVariables false
set_option linter.unusedSimpArgs false
namespace Go.Proofs.YtljjpdjknnhceaaDoor.Reg
open Go.RowKit Go.Proofs.YtljjpdjknnhceaaDoorW.PrintWords Go.Proofs.YtljjpdjknnhceaaDoorW.PrintLast
def srcFrom : List Oper → Nat → Tmp → Option Nat
  | [], _, _ => none
  | o :: l, k, t => if o.dst = some t then some k else srcFrom l (k + 1) t
theorem srcFrom_spec : ∀ (l : List Oper) (k : Nat) (t : Tmp) (j : Nat), srcFrom l k t = some j → ∃ i o, j = k + i ∧ l[i]? = some o ∧ o.dst = some t
  | [], _, _, _, h => by cases h
  | o :: l, k, t, j, h => by
    unfold srcFrom at h
    split at h
    · cases h; exact ⟨0, o, rfl, rfl, by assumption⟩
    · obtain ⟨i, o', hj, hi, hd⟩ := srcFrom_spec l (k + 1) t j h
      exact ⟨i + 1, o', by omega, hi, hd⟩
def predB (o : Oper) (j : Nat) : Bool := o.after.toList.any fun e => Region.binds .any e && (e.on == j)
def okOne (L : List Oper) (N : Nat) (o : Oper) (i : Nat) : Bool :=
  o.guard.isNone && (match o.op with | .select .. => false | _ => true) && (match o.dst with | some d => decide (d < N) && (srcFrom L 0 d == some i) | none => true) &&
  o.op.operands.all (fun x => match x with
    | .tmp t => decide (t < N) && (match srcFrom L 0 t with | some j => predB o j || (match L[j]? with | some oj => predB oj i | none => false) | none => true)
    | _ => true) && o.after.all fun e => !Region.binds .any e || decide (e.on < i)
def okFrom (L : List Oper) (N : Nat) : List Oper → Nat → Bool
  | [], _ => true
  | o :: r, i => okOne L N o i && okFrom L N r (i + 1)
theorem okFrom_spec (L : List Oper) (N : Nat) : ∀ (r : List Oper) (k j : Nat) (o : Oper), okFrom L N r k = true → r[j]? = some o → okOne L N o (k + j) = true
  | [], _, _, _, _, h => by simp at h
  | o :: r, k, 0, o', h, hj => by
    simp only [okFrom, Bool.and_eq_true] at h
    simp at hj
    subst hj
    exact h.1
  | o :: r, k, j + 1, o', h, hj => by
    simp only [okFrom, Bool.and_eq_true] at h
    have := okFrom_spec L N r (k + 1) j o' h.2 (by simpa using hj)
    rw [show k + (j + 1) = k + 1 + j by omega]
    exact this
/-- an operation's operands, out of what those ahead of it gave -/
def envOf (L : List Oper) (a0 : Act) (vs : Nat → Value) (o : Oper) : Operand → Value
  | .tmp t => match srcFrom L 0 t with
    | some j => if predB o j = true then vs j else a0.tmps.getD t undef
    | none => a0.tmps.getD t undef
  | x => a0.eval x
def slotV (L : List Oper) (a0 : Act) (listed : Array Bool) (vs : Nat → Value) (t : Tmp) : Value :=
  match srcFrom L 0 t with
  | some j => if listed.getD j false = true then vs j else a0.tmps.getD t undef
  | none => a0.tmps.getD t undef
def Framed (L : List Oper) (a0 : Act) (listed : Array Bool) (vs : Nat → Value) (a : Act) : Prop :=
  a.defers = a0.defers ∧ a.tmps.size = a0.tmps.size ∧ ∀ t, t < a0.tmps.size → a.tmps[t]? = some (slotV L a0 listed vs t)
def Closed (L : List Oper) (listed : Array Bool) : Prop := ∀ i o j, L[i]? = some o → listed.getD i false = true → predB o j = true → listed.getD j false = true
def upd (vs : Nat → Value) (i : Nat) (v : Value) : Nat → Value := fun j => if j = i then v else vs j
theorem getD_set (listed : Array Bool) (i j : Nat) (hi : i < listed.size) : (listed.setIfInBounds i true).getD j false = if j = i then true else listed.getD j false := by
  simp only [Array.getD_eq_getD_getElem?, Array.getElem?_setIfInBounds]
  by_cases h : j = i
  · subst h; simp [hi]
  · rw [if_neg (fun e => h e.symm), if_neg h]
theorem framed_put {L : List Oper} {a0 a : Act} {listed : Array Bool} {vs : Nat → Value} {i : Nat} {o : Oper} (v : Value) (hok : okOne L a0.tmps.size o i = true) (hi : L[i]? = some o) (hil : i < listed.size) (hun : listed.getD i false = false)
    (h : Framed L a0 listed vs a) : Framed L a0 (listed.setIfInBounds i true) (upd vs i v) (a.put o.dst v) := by
  obtain ⟨hd, hs, hv⟩ := h
  unfold okOne at hok
  simp only [Bool.and_eq_true] at hok
  obtain ⟨⟨⟨⟨_, _⟩, hdst⟩, _⟩, _⟩ := hok
  refine ⟨?_, ?_, ?_⟩
  · cases o.dst <;> exact hd
  · cases o.dst with
    | none => exact hs
    | some d => simp only [Act.put, Array.size_setIfInBounds]; exact hs
  · intro t ht
    have hsl : ∀ (hne : srcFrom L 0 t ≠ some i), slotV L a0 (listed.setIfInBounds i true) (upd vs i v) t = slotV L a0 listed vs t := by
      intro hne
      unfold slotV
      cases hsrc : srcFrom L 0 t with
      | none => rfl
      | some j =>
        have hji : j ≠ i := fun e => hne (by rw [hsrc, e])
        simp only
        rw [getD_set _ _ _ hil, if_neg hji]
        unfold upd
        rw [if_neg hji]
    cases hod : o.dst with
    | none =>
      have hne : srcFrom L 0 t ≠ some i := by
        intro he
        obtain ⟨k, o', hk, hk2, hk3⟩ := srcFrom_spec _ _ _ _ he
        rw [Nat.zero_add] at hk
        subst hk
        rw [hi] at hk2
        cases hk2
        rw [hod] at hk3
        cases hk3
      rw [hsl hne]
      exact hv t ht
    | some d =>
      rw [hod] at hdst
      simp only [Bool.and_eq_true, decide_eq_true_eq, beq_iff_eq] at hdst
      simp only [Act.put, Array.getElem?_setIfInBounds]
      by_cases hdt : d = t
      · subst hdt
        rw [if_pos rfl, if_pos (by rw [hs]; exact ht)]
        unfold slotV
        rw [hdst.2]
        simp only
        rw [getD_set _ _ _ hil, if_pos rfl, if_pos rfl]
        unfold upd
        rw [if_pos rfl]
      · rw [if_neg hdt]
        have hne : srcFrom L 0 t ≠ some i := by
          intro he
          obtain ⟨k, o', hk, hk2, hk3⟩ := srcFrom_spec _ _ _ _ he
          rw [Nat.zero_add] at hk
          subst hk
          rw [hi] at hk2
          cases hk2
          rw [hod] at hk3
          cases hk3
          exact hdt rfl
        rw [hsl hne]
        exact hv t ht
/-- what the region leaves, in the text's order -/
def fillFrom : List Oper → Nat → Act → (Nat → Value) → Act
  | [], _, a, _ => a
  | o :: l, k, a, vs => fillFrom l (k + 1) (a.put o.dst (vs k)) vs
theorem upd_self (vs : Nat → Value) (i : Nat) : upd vs i (vs i) = vs := by
  funext j; unfold upd; split
  · subst_vars; rfl
  · rfl
def firstK (n k : Nat) : Array Bool := ((List.range n).map fun j => decide (j < k)).toArray
theorem firstK_size (n k : Nat) : (firstK n k).size = n := by simp [firstK]
theorem firstK_getD (n k j : Nat) : (firstK n k).getD j false = (decide (j < n) && decide (j < k)) := by
  unfold firstK
  simp only [Array.getD_eq_getD_getElem?, List.getElem?_toArray, List.getElem?_map]
  by_cases h : j < n
  · rw [List.getElem?_range h]; simp [h]
  · rw [List.getElem?_eq_none (by simpa using h)]; simp [h]
theorem framed_congr {L : List Oper} {a0 a : Act} {l1 l2 : Array Bool} {vs : Nat → Value} (h : Framed L a0 l1 vs a) (e : ∀ j, j < L.length → l1.getD j false = l2.getD j false) : Framed L a0 l2 vs a := by
  refine ⟨h.1, h.2.1, fun t ht => ?_⟩
  rw [h.2.2 t ht]
  unfold slotV
  cases hs : srcFrom L 0 t with
  | none => rfl
  | some j =>
    obtain ⟨k, o', hk, hk2, hk3⟩ := srcFrom_spec _ _ _ _ hs
    have : j < L.length := by rw [hk, Nat.zero_add]; exact (List.getElem?_eq_some_iff.1 hk2).1
    simp only
    rw [e j this]
theorem framed_fill {L : List Oper} {a0 : Act} (hok : okFrom L a0.tmps.size L 0 = true) (vs : Nat → Value) : ∀ (r pre : List Oper) (a : Act), L = pre ++ r → Framed L a0 (firstK L.length pre.length) vs a → Framed L a0 (firstK L.length L.length) vs (fillFrom r pre.length a vs)
  | [], pre, a, hL, h => by
    have : L.length = pre.length := by rw [hL]; simp
    rw [← this] at h
    exact h
  | o :: r, pre, a, hL, h => by
    have hi : L[pre.length]? = some o := by rw [hL]; simp
    have ho := okFrom_spec L _ L 0 pre.length o hok hi
    rw [Nat.zero_add] at ho
    have hlt : pre.length < L.length := (List.getElem?_eq_some_iff.1 hi).1
    have h2 := framed_put (vs pre.length) ho hi (by rw [firstK_size]; exact hlt) (by rw [firstK_getD]; simp) h
    rw [upd_self] at h2
    have h3 := framed_congr (l2 := firstK L.length (pre ++ [o]).length) h2 (fun j hj => by
      rw [getD_set _ _ _ (by rw [firstK_size]; exact hlt), firstK_getD, firstK_getD]
      by_cases e : j = pre.length
      · subst e; simp [hlt]
      · rw [if_neg e]
        congr 1
        rw [Bool.eq_iff_iff]
        simp only [decide_eq_true_iff, List.length_append, List.length_singleton]
        omega)
    have h4 := framed_fill hok vs r (pre ++ [o]) _ (by rw [hL]; simp) h3
    have e : (pre ++ [o]).length = pre.length + 1 := by simp
    rw [e] at h4
    exact h4
theorem framed_unique {L : List Oper} {a0 a b : Act} {listed : Array Bool} {vs : Nat → Value} (ha : Framed L a0 listed vs a) (hb : Framed L a0 listed vs b) : a = b := by
  obtain ⟨a1, a2, a3⟩ := ha
  obtain ⟨b1, b2, b3⟩ := hb
  cases a with | mk at_ ad =>
  cases b with | mk bt_ bd =>
  simp only at a1 a2 a3 b1 b2 b3
  have e : at_ = bt_ := by
    apply Array.ext_getElem?
    intro t
    by_cases ht : t < a0.tmps.size
    · rw [a3 t ht, b3 t ht]
    · rw [Array.getElem?_eq_none (by omega), Array.getElem?_eq_none (by omega)]
  subst e
  rw [a1, b1]
def cnt (f : Nat → Bool) : Nat → Nat
  | 0 => 0
  | n + 1 => cnt f n + (if f n = true then 1 else 0)
theorem cnt_congr {f g : Nat → Bool} : ∀ n, (∀ j, j < n → f j = g j) → cnt f n = cnt g n
  | 0, _ => rfl
  | n + 1, h => by
    simp only [cnt]
    rw [cnt_congr n (fun j hj => h j (by omega)), h n (by omega)]
theorem cnt_upd {f g : Nat → Bool} {i : Nat} (hf : f i = true) (hg : g i = false) (h : ∀ j, j ≠ i → f j = g j) : ∀ n, i < n → cnt g n + 1 = cnt f n
  | 0, hi => by omega
  | n + 1, hi => by
    simp only [cnt]
    by_cases e : i = n
    · subst e
      rw [cnt_congr i (fun j hj => h j (by omega)), hf, hg]
      simp
    · have := cnt_upd hf hg h n (by omega)
      rw [h n (fun e2 => e e2.symm)]
      omega
theorem cnt_zero {f : Nat → Bool} : ∀ n, cnt f n = 0 → ∀ j, j < n → f j = false
  | 0, _, j, hj => by omega
  | n + 1, h, j, hj => by
    simp only [cnt] at h
    by_cases e : j = n
    · subst e
      cases hf : f j
      · rfl
      · rw [hf] at h; simp at h
    · exact cnt_zero n (by omega) j (by omega)
/-- what an operation does: it yields a value, or calls -/
def OpRel (P : Program) (S : World → World → Prop) (ρ : Operand → Value) (o : Oper) (w : World) (K : Value → World → Prop) : Prop :=
  (∃ v w', (execOp ρ o).run P w = .ok (.value v) w' ∧ S w w' ∧ K v w') ∨
  (∃ w', (execOp ρ o).run P w = .ok .skip w' ∧ S w w' ∧ K undef w') ∨
  (∃ f args, (execOp ρ o).run P w = .ok (.enter f args) w ∧ Calls P f args w fun e w' => ∃ v, e = .returned v ∧ S w w' ∧ K v w')
section
variable {P : Program} {Q : Exit → Act → World → Prop}
theorem wpAny_rel (L : List Oper) (a0 : Act) (hok : okFrom L a0.tmps.size L 0 = true) (Inv : World → Prop) (S : Nat → World → World → Prop) (R : Nat → (Nat → Value) → World → Prop)
    (hst : ∀ i j vs w w', i ≠ j → Inv w → R j vs w → S i w w' → R j vs w')
    (hcg : ∀ j o vs vs' w, L[j]? = some o → vs' j = vs j → (∀ k, predB o k = true → vs' k = vs k) → R j vs w → R j vs' w)
    (step : ∀ i o, L[i]? = some o → ∀ (vs : Nat → Value) (w : World), Inv w → (∀ j, predB o j = true → R j vs w) → OpRel P (S i) (envOf L a0 vs o) o w (fun v w' => Inv w' ∧ R i (upd vs i v) w'))
    (done : ∀ vs w, Inv w → (∀ j, j < L.length → R j vs w) → Q .normal (fillFrom L 0 a0 vs) w) :
    ∀ (fuel : Nat) (listed : Array Bool) (vs : Nat → Value) (a : Act) (w : World), listed.size = L.length → Closed L listed → Framed L a0 listed vs a → Inv w → (∀ j, listed.getD j false = true → R j vs w) →
      cnt (fun j => !listed.getD j false) L.length ≤ fuel → wpAny P .any L.toArray Q fuel listed a w := by
  have hall : ∀ (listed : Array Bool) (vs : Nat → Value) (a : Act) (w : World), listed.size = L.length → Framed L a0 listed vs a → Inv w → (∀ j, listed.getD j false = true → R j vs w) → (∀ j, j < L.length → listed.getD j false = true) → Q .normal a w := by
    intro listed vs a w hsz hF hI hR hl
    have h1 := framed_congr (l2 := firstK L.length L.length) hF (fun j hj => by rw [hl j hj, firstK_getD]; simp [hj])
    have h0 : Framed L a0 (firstK L.length ([] : List Oper).length) vs a0 := by
      refine ⟨rfl, rfl, fun t ht => ?_⟩
      have e : slotV L a0 (firstK L.length ([] : List Oper).length) vs t = a0.tmps.getD t undef := by
        unfold slotV
        cases srcFrom L 0 t with
        | none => rfl
        | some j => simp only; rw [firstK_getD]; simp
      rw [e]
      simp [Array.getD_eq_getD_getElem?, Array.getElem?_eq_getElem ht]
    have h2 := framed_fill hok vs L [] a0 rfl h0
    rw [framed_unique h1 h2]
    exact done vs w hI (fun j hj => hR j (hl j hj))
  have hready : ∀ (listed : Array Bool) (i : Nat), listed.size = L.length → i ∈ Region.ready .any L.toArray listed → ∃ o, L[i]? = some o ∧ i < L.length ∧ listed.getD i false = false ∧ ∀ j, predB o j = true → listed.getD j false = true := by
    intro listed i hsz hi
    unfold Region.ready at hi
    rw [List.mem_filter] at hi
    obtain ⟨hi1, hi2⟩ := hi
    have hlt : i < L.length := by simpa using hi1
    obtain ⟨o, ho⟩ : ∃ o, L[i]? = some o := ⟨_, List.getElem?_eq_getElem hlt⟩
    simp only [List.getElem?_toArray, ho, Option.map_some, Option.getD_some, Bool.and_eq_true, Bool.not_eq_true'] at hi2
    refine ⟨o, ho, hlt, ?_, fun j hj => ?_⟩
    · have := hi2.1
      simp only [Array.getD_eq_getD_getElem?] at this ⊢
      rw [Array.getElem?_eq_getElem (by omega)] at this ⊢
      simpa using this
    · unfold predB at hj
      obtain ⟨e, he, hj⟩ := List.any_eq_true.1 hj
      simp only [Bool.and_eq_true, beq_iff_eq] at hj
      have h3 := Array.all_eq_true'.1 hi2.2 e (by simpa using he)
      rw [hj.1] at h3
      simp only [Bool.not_true, Bool.false_or] at h3
      rw [← hj.2]
      exact h3
  have hnone : ∀ (listed : Array Bool), listed.size = L.length → Region.ready .any L.toArray listed = [] → ∀ j, j < L.length → listed.getD j false = true := by
    intro listed hsz hr
    have hs : ∀ n j, j < n → j < L.length → listed.getD j false = true := by
      intro n
      induction n with
      | zero => intro j hj; omega
      | succ n ih =>
        intro j hj hjl
        by_cases e : j < n
        · exact ih j e hjl
        · obtain rfl : j = n := by omega
          cases hb : listed.getD j false
          · exfalso
            obtain ⟨o, ho⟩ : ∃ o, L[j]? = some o := ⟨_, List.getElem?_eq_getElem hjl⟩
            have ho1 := okFrom_spec L _ L 0 j o hok ho
            rw [Nat.zero_add] at ho1
            unfold okOne at ho1
            simp only [Bool.and_eq_true] at ho1
            have haf := ho1.2
            have hm : j ∈ Region.ready .any L.toArray listed := by
              unfold Region.ready
              rw [List.mem_filter]
              refine ⟨by simpa using hjl, ?_⟩
              simp only [List.getElem?_toArray, ho, Option.map_some, Option.getD_some, Bool.and_eq_true, Bool.not_eq_true']
              refine ⟨?_, ?_⟩
              · simp only [Array.getD_eq_getD_getElem?] at hb ⊢
                rw [Array.getElem?_eq_getElem (by omega)] at hb ⊢
                simpa using hb
              · rw [Array.all_eq_true]
                intro k hk
                have h3 := Array.all_eq_true.1 haf k hk
                simp only [Bool.or_eq_true, decide_eq_true_eq] at h3 ⊢
                rcases h3 with h3 | h3
                · exact .inl h3
                · exact .inr (ih _ h3 (by omega))
            rw [hr] at hm
            cases hm
          · rfl
    intro j hj
    exact hs (j + 1) j (by omega) hj
  intro fuel
  induction fuel with
  | zero =>
    intro listed vs a w hsz hC hF hI hR hc
    have hz := cnt_zero (f := fun j => !listed.getD j false) L.length (by omega)
    have hl : ∀ j, j < L.length → listed.getD j false = true := fun j hj => by simpa using hz j hj
    refine ⟨?_, hall listed vs a w hsz hF hI hR hl⟩
    cases hr : Region.ready .any L.toArray listed with
    | nil => rfl
    | cons i r =>
      obtain ⟨o, _, hi, hun, _⟩ := hready listed i hsz (by rw [hr]; simp)
      rw [hl i hi] at hun
      cases hun
  | succ fuel ih =>
    intro listed vs a w hsz hC hF hI hR hc
    refine ⟨fun hr => hall listed vs a w hsz hF hI hR (hnone listed hsz hr), fun i hi => ?_⟩
    obtain ⟨o, ho, hil, hun, hp⟩ := hready listed i hsz hi
    have ho1 := okFrom_spec L _ L 0 i o hok ho
    rw [Nat.zero_add] at ho1
    have hok1 := ho1
    unfold okOne at ho1
    simp only [Bool.and_eq_true] at ho1
    obtain ⟨⟨⟨⟨hg, hsel⟩, hdst⟩, hops⟩, haf⟩ := ho1
    have hgn : o.guard = none := by simpa using hg
    have hns : ∀ cs b, o.op ≠ .select cs b := by
      intro cs b he
      rw [he] at hsel
      cases hsel
    have hev : ∀ x ∈ o.op.operands, a.eval x = envOf L a0 vs o x := by
      intro x hx
      have hx2 := Array.all_eq_true'.1 hops x hx
      cases x with
      | tmp t =>
        simp only [Bool.and_eq_true, decide_eq_true_eq] at hx2
        have hv := hF.2.2 t hx2.1
        have he : a.eval (.tmp t) = slotV L a0 listed vs t := by
          simp [Act.eval, Array.getD_eq_getD_getElem?, hv]
        have henv : envOf L a0 vs o (.tmp t) = (match srcFrom L 0 t with | some j => if predB o j = true then vs j else a0.tmps.getD t undef | none => a0.tmps.getD t undef) := rfl
        rw [he, henv]
        unfold slotV
        have hx3 := hx2.2
        cases hs : srcFrom L 0 t with
        | none => rfl
        | some j =>
          rw [hs] at hx3
          simp only at hx3 ⊢
          by_cases hpj : predB o j = true
          · rw [if_pos hpj, if_pos (hp j hpj)]
          · rw [if_neg hpj]
            have hpf : predB o j = false := by simpa using hpj
            rw [hpf, Bool.false_or] at hx3
            rw [if_neg]
            intro hlj
            cases hoj : L[j]? with
            | none => rw [hoj] at hx3; cases hx3
            | some oj =>
              rw [hoj] at hx3
              have := hC j oj i hoj hlj hx3
              rw [hun] at this
              cases this
      | const v => rfl
      | global g => rfl
      | func f => rfl
    have hw : Region.wanted o (yielded L.toArray a.tmps) = true := by unfold Region.wanted; rw [hgn]
    have hnext : ∀ v w', S i w w' → Inv w' → R i (upd vs i v) w' → wpAny P .any L.toArray Q fuel (listed.setIfInBounds i true) (a.put o.dst v) w' := by
      intro v w' hb hI' hRi
      refine ih (listed.setIfInBounds i true) (upd vs i v) (a.put o.dst v) w' (by simpa using hsz) ?_ (framed_put v hok1 ho (by omega) hun hF) hI' ?_ ?_
      · intro i' o' j' ho' hl' hp'
        rw [getD_set _ _ _ (by omega)] at hl' ⊢
        by_cases e : i' = i
        · subst e
          rw [ho] at ho'
          cases ho'
          split
          · rfl
          · exact hp j' hp'
        · rw [if_neg e] at hl'
          split
          · rfl
          · exact hC i' o' j' ho' hl' hp'
      · intro j hj
        rw [getD_set _ _ _ (by omega)] at hj
        by_cases e : j = i
        · subst e; exact hRi
        · rw [if_neg e] at hj
          have hjl : j < L.length := by
            rcases Nat.lt_or_ge j L.length with h | h
            · exact h
            · rw [Array.getD_eq_getD_getElem?, Array.getElem?_eq_none (by omega)] at hj; cases hj
          have hoj : L[j]? = some L[j] := List.getElem?_eq_getElem hjl
          refine hcg j _ vs _ w' hoj (by unfold upd; rw [if_neg e]) (fun k hk => ?_) (hst i j vs w w' (fun e2 => e e2.symm) hI (hR j hj) hb)
          have hkl := hC j _ k hoj hj hk
          unfold upd
          rw [if_neg]
          intro e2
          rw [e2, hun] at hkl
          cases hkl
      · have := cnt_upd (f := fun j => !listed.getD j false) (g := fun j => !(listed.setIfInBounds i true).getD j false) (i := i) (by simp [hun]) (by show (!(listed.setIfInBounds i true).getD i false) = false; rw [getD_set _ _ _ (by omega), if_pos rfl]; rfl) (fun j hj => by show (!listed.getD j false) = !(listed.setIfInBounds i true).getD j false; rw [getD_set _ _ _ (by omega), if_neg hj]) L.length hil
        omega
    unfold wpOp
    rw [List.getElem?_toArray, ho]
    simp only
    rw [if_pos hw]
    left
    have hex : execOp a.eval o = execOp (envOf L a0 vs o) o := execOp_congr o hns hev
    unfold Oper.wp
    rw [hex]
    rcases step i o ho vs w hI (fun j hj => hR j (hp j hj)) with ⟨v, w', hrun, hb, hI', hRi⟩ | ⟨w', hrun, hb, hI', hRi⟩ | ⟨f, args, hrun, hcall⟩
    · rw [hrun]
      exact hnext v w' hb hI' hRi
    · rw [hrun]
      exact hnext undef w' hb hI' hRi
    · rw [hrun, Oper.upon_enter]
      refine hcall.mono ?_
      rintro e w' ⟨v, rfl, hb, hI', hRi⟩
      exact hnext v w' hb hI' hRi
def AllOps (F : Nat → Oper → Prop) : List Oper → Nat → Prop
  | [], _ => True
  | o :: l, k => F k o ∧ AllOps F l (k + 1)
theorem allOps_nil {F : Nat → Oper → Prop} {k : Nat} : AllOps F [] k := trivial
theorem allOps_cons {F : Nat → Oper → Prop} {o : Oper} {l : List Oper} {k : Nat} (h : F k o) (t : AllOps F l (k + 1)) : AllOps F (o :: l) k := ⟨h, t⟩
theorem allOps_spec {F : Nat → Oper → Prop} : ∀ {L : List Oper} {k : Nat}, AllOps F L k → ∀ i o, L[i]? = some o → F (k + i) o
  | [], _, _, i, o, h => by simp at h
  | o :: l, k, hA, 0, o', h => by
    simp at h
    subst h
    exact hA.1
  | o :: l, k, hA, i + 1, o', h => by
    have := allOps_spec hA.2 i o' (by simpa using h)
    rw [show k + (i + 1) = k + 1 + i by omega]
    exact this
/-- what is to be shown of one operation -/
def OneOp (P : Program) (L : List Oper) (a0 : Act) (Inv : World → Prop) (S : Nat → World → World → Prop) (R : Nat → (Nat → Value) → World → Prop) (i : Nat) (o : Oper) : Prop :=
  ∀ (vs : Nat → Value) (w : World) (ρ : Operand → Value), (∀ x, ρ x = envOf L a0 vs o x) → (∀ c, ρ (.const c) = c) → (∀ g, ρ (.global g) = .pointer (some ⟨g, 0, none⟩)) → (∀ f, ρ (.func f) = .func (.func f) #[] #[]) →
    Inv w → (∀ j, predB o j = true → R j vs w) → OpRel P (S i) ρ o w (fun v w' => Inv w' ∧ R i (upd vs i v) w')
theorem rel_value {S : World → World → Prop} {ρ : Operand → Value} {o : Oper} {w : World} {K : Value → World → Prop} (v : Value) (h : (execOp ρ o).run P w = .ok (.value v) w) (hk : K v w) (hs : S w w := by exact Below.refl _ _) : OpRel P S ρ o w K := .inl ⟨v, w, h, hs, hk⟩
theorem rel_made {S : World → World → Prop} {ρ : Operand → Value} {o : Oper} {w w' : World} {K : Value → World → Prop} (v : Value) (h : (execOp ρ o).run P w = .ok (.value v) w') (hb : S w w') (hk : K v w') : OpRel P S ρ o w K := .inl ⟨v, w', h, hb, hk⟩
theorem rel_skip {S : World → World → Prop} {ρ : Operand → Value} {o : Oper} {w w' : World} {K : Value → World → Prop} (h : (execOp ρ o).run P w = .ok .skip w') (hb : S w w') (hk : K undef w') : OpRel P S ρ o w K := .inr (.inl ⟨w', h, hb, hk⟩)
theorem rel_call {S : World → World → Prop} {ρ : Operand → Value} {oi : Oper} {w : World} {K : Value → World → Prop} {f : FuncId} {fn : Func} {ars : Array Operand} {ts : Array TypeId} (hf : P.funcs[f]? = some fn) (hname : (fn.name == "runtime.NumGoroutine") = false) (hb : fn.body.isSome = true) (args : Array Value)
    (hop : oi.op = .call { callee := .value (.func f), args := ars, argTypes := ts }) (hfun : ρ (.func f) = .func (.func f) #[] #[]) (hargs : ars.map ρ = args)
    (h : Calls P f args w fun e w' => ∃ v, e = .returned v ∧ S w w' ∧ K v w') : OpRel P S ρ oi w K := by
  refine .inr (.inr ⟨f, args, ?_, h⟩)
  have he := enters_ hf hname hb args w
  unfold execOp
  simp [hop, resolve, Deferred.ofValue, invoke, hfun, hargs, he]
/-- the law: a region that draws its order -/
theorem wp_region_rel {id : Nat} (L : List Oper) (hm : P.follows .mixedOrders = true) (N : Nat) (a0 : Act) (w0 : World) (hN : a0.tmps.size = N) (hok : okFrom L N L 0 = true) (Inv : World → Prop) (S : Nat → World → World → Prop) (R : Nat → (Nat → Value) → World → Prop) (hI : Inv w0.drew)
    (hst : ∀ i j vs w w', i ≠ j → Inv w → R j vs w → S i w w' → R j vs w')
    (hcg : ∀ j o vs vs' w, L[j]? = some o → vs' j = vs j → (∀ k, predB o k = true → vs' k = vs k) → R j vs w → R j vs' w)
    (step : AllOps (OneOp P L a0 Inv S R) L 0)
    (done : ∀ vs w, Inv w → (∀ j, j < L.length → R j vs w) → Q .normal (fillFrom L 0 a0 vs) w) :
    (Code.region id L.toArray true).wp P Q a0 w0 := by
  subst hN
  have step' : ∀ i o, L[i]? = some o → ∀ (vs : Nat → Value) (w : World), Inv w → (∀ j, predB o j = true → R j vs w) → OpRel P (S i) (envOf L a0 vs o) o w (fun v w' => Inv w' ∧ R i (upd vs i v) w') := by
    intro i o ho vs w hI hp
    have h := allOps_spec step i o ho
    rw [Nat.zero_add] at h
    exact h vs w (envOf L a0 vs o) (fun _ => rfl) (fun _ => rfl) (fun _ => rfl) (fun _ => rfl) hI hp
  refine wp_region_any hm ?_
  refine wpAny_rel L a0 hok Inv S R hst hcg step' done L.toArray.size (Array.replicate L.toArray.size false) (fun _ => undef) a0 _ (by simp) ?_ ?_ hI ?_ ?_
  · intro i o j _ h
    simp [Array.getD_eq_getD_getElem?, Array.getElem?_replicate] at h
    split at h <;> simp at h
  · refine ⟨rfl, rfl, fun t ht => ?_⟩
    have e : slotV L a0 (Array.replicate L.toArray.size false) (fun _ => undef) t = a0.tmps.getD t undef := by
      unfold slotV
      cases srcFrom L 0 t with
      | none => rfl
      | some j =>
        simp only
        rw [if_neg]
        simp [Array.getD_eq_getD_getElem?, Array.getElem?_replicate]
        split <;> simp
    rw [e]
    simp [Array.getD_eq_getD_getElem?, Array.getElem?_eq_getElem ht]
  · intro j h
    simp [Array.getD_eq_getD_getElem?, Array.getElem?_replicate] at h
    split at h <;> simp at h
  · have : ∀ (f : Nat → Bool) n, cnt f n ≤ n := by
      intro f n
      induction n with
      | zero => exact Nat.le_refl _
      | succ n ih => simp only [cnt]; split <;> omega
    exact Nat.le_trans (this _ _) (by simp)
end
end Go.Proofs.YtljjpdjknnhceaaDoor.Reg
