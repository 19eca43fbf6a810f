/- Joined texts of this claim: Ref6, Count, PRingWalksx3, NamedR -/
import Derived.Test.YtljjpdjknnhceaaDoorJRLoc3
import Derived.Deep.QuietTactic
import Derived.BigQuiet
import Derived.Test.YtljjpdjknnhceaaDoorJRLoc0
import Derived.Test.YtljjpdjknnhceaaDoorJRLoc1
import Derived.Test.YtljjpdjknnhceaaDoorJRLoc2
set_option linter.unusedVariables false
set_option linter.unusedSimpArgs false
/- The document's settings: all in a row; are they within their limits. -/
set_option linter.unusedVariables false
set_option linter.unusedSimpArgs false
namespace Go.Proofs.YtljjpdjknnhceaaDoor.Ref6
open Go.RowKit Go.Proofs.YtljjpdjknnhceaaDoorW.PrintWords Go.Proofs.YtljjpdjknnhceaaDoorW.PrintLast Go.Proofs.YtljjpdjknnhceaaDoorW.PrintMore
open Go.Proofs.YtljjpdjknnhceaaDoor.Base Go.Proofs.YtljjpdjknnhceaaDoor.RingPure Go.Proofs.YtljjpdjknnhceaaDoor.ChkPure Go.Proofs.YtljjpdjknnhceaaDoor.Clus Go.Proofs.YtljjpdjknnhceaaDoor.Mids Go.Proofs.YtljjpdjknnhceaaDoor.Chkd
def valL (c : Cl) : List Value := [.int .i64 c.replicas, .int .i64 c.width, .int .i64 c.chunks, .int .i64 c.retain, .int .i64 c.block, .int .i64 c.rate, .int .i64 c.per, .int .i64 c.burst, .int .i64 c.tries, .int .i64 c.base, .int .i64 c.most, .int .i64 c.quota, .int .i64 c.room, .int .i64 c.depot, .int .i64 c.resend, .int .i64 c.limit, .int .i64 c.patience, .int .i64 c.getwait, .int .i64 c.strikes, .int .i64 c.ban, .int .i64 c.home]
theorem infoV : (Tryd.prog.info? 102).map (·.size) = some 21 := by kernel_rfl
theorem valL_one (c : Cl) : (valL c).toArray.all (·.oneCell') = true := all_oneCell_toArray (by simp [valL, Value.oneCell'])
theorem valL_at (c : Cl) (i : Nat) (h : i < 21) : (valL c)[i]? = some (.int .i64 ((vals c).getD i 0)) := by
  have : i = 0 ∨ i = 1 ∨ i = 2 ∨ i = 3 ∨ i = 4 ∨ i = 5 ∨ i = 6 ∨ i = 7 ∨ i = 8 ∨ i = 9 ∨ i = 10 ∨ i = 11 ∨ i = 12 ∨ i = 13 ∨ i = 14 ∨ i = 15 ∨ i = 16 ∨ i = 17 ∨ i = 18 ∨ i = 19 ∨ i = 20 := by omega
  rcases this with rfl | rfl | rfl | rfl | rfl | rfl | rfl | rfl | rfl | rfl | rfl | rfl | rfl | rfl | rfl | rfl | rfl | rfl | rfl | rfl | rfl <;> rfl
theorem z_there (W : World) : (W.alloc (.cells #[.int .i64 0, .int .i64 0, .int .i64 0, .int .i64 0, .int .i64 0, .int .i64 0, .int .i64 0, .int .i64 0, .int .i64 0, .int .i64 0, .int .i64 0, .int .i64 0, .int .i64 0, .int .i64 0, .int .i64 0, .int .i64 0, .int .i64 0, .int .i64 0, .int .i64 0, .int .i64 0, .int .i64 0] 102)).there W.heap.size 0 21 := blk_there (cs := [.int .i64 0, .int .i64 0, .int .i64 0, .int .i64 0, .int .i64 0, .int .i64 0, .int .i64 0, .int .i64 0, .int .i64 0, .int .i64 0, .int .i64 0, .int .i64 0, .int .i64 0, .int .i64 0, .int .i64 0, .int .i64 0, .int .i64 0, .int .i64 0, .int .i64 0, .int .i64 0, .int .i64 0]) (Go.heap_alloc_new W _)
theorem z_new (W : World) (c : Cl) : ((W.alloc (.cells #[.int .i64 0, .int .i64 0, .int .i64 0, .int .i64 0, .int .i64 0, .int .i64 0, .int .i64 0, .int .i64 0, .int .i64 0, .int .i64 0, .int .i64 0, .int .i64 0, .int .i64 0, .int .i64 0, .int .i64 0, .int .i64 0, .int .i64 0, .int .i64 0, .int .i64 0, .int .i64 0, .int .i64 0] 102)).setCells W.heap.size 0 (valL c)).heap[W.heap.size]? = some (.cells (valL c).toArray 102 (0, 0)) :=
  setCells_whole (old := [.int .i64 0, .int .i64 0, .int .i64 0, .int .i64 0, .int .i64 0, .int .i64 0, .int .i64 0, .int .i64 0, .int .i64 0, .int .i64 0, .int .i64 0, .int .i64 0, .int .i64 0, .int .i64 0, .int .i64 0, .int .i64 0, .int .i64 0, .int .i64 0, .int .i64 0, .int .i64 0, .int .i64 0]) (Go.heap_alloc_new W _) rfl
theorem z_below (W : World) (c : Cl) : Below W.heap.size W ((W.alloc (.cells #[.int .i64 0, .int .i64 0, .int .i64 0, .int .i64 0, .int .i64 0, .int .i64 0, .int .i64 0, .int .i64 0, .int .i64 0, .int .i64 0, .int .i64 0, .int .i64 0, .int .i64 0, .int .i64 0, .int .i64 0, .int .i64 0, .int .i64 0, .int .i64 0, .int .i64 0, .int .i64 0, .int .i64 0] 102)).setCells W.heap.size 0 (valL c)) :=
  below_setCells ((Below.refl _ _).alloc (Nat.le_refl _) _) (Nat.le_refl _) _ _
/-- the world in which Values fills its row -/
structure VW (c : Cl) (nv : Value) (w w1 : World) : Prop where mk ::
  (box : CBox w1 w.heap.size c nv) (there : w1.there (w.heap.size + 1) 0 21)
  (new : (w1.setCells (w.heap.size + 1) 0 (valL c)).heap[w.heap.size + 1]? = some (.cells (valL c).toArray 102 (0, 0)))
  (bel : Below w.heap.size w (w1.setCells (w.heap.size + 1) 0 (valL c)))
theorem vw_of (c : Cl) (nv : Value) (w : World) : VW c nv w ((w.alloc (.cells (cL c nv).toArray 24)).alloc (.cells #[.int .i64 0, .int .i64 0, .int .i64 0, .int .i64 0, .int .i64 0, .int .i64 0, .int .i64 0, .int .i64 0, .int .i64 0, .int .i64 0, .int .i64 0, .int .i64 0, .int .i64 0, .int .i64 0, .int .i64 0, .int .i64 0, .int .i64 0, .int .i64 0, .int .i64 0, .int .i64 0, .int .i64 0] 102)) := by
  obtain ⟨w0, hw0⟩ : ∃ w0, w0 = w.alloc (.cells (cL c nv).toArray 24) := ⟨_, rfl⟩
  rw [← hw0]
  have hb0 : Below w.heap.size w w0 := by rw [hw0]; exact (Below.refl _ _).alloc (Nat.le_refl _) _
  have hs0 : w0.heap.size = w.heap.size + 1 := by rw [hw0]; simp
  have hb1 : Below w0.heap.size w0 (w0.alloc (.cells #[.int .i64 0, .int .i64 0, .int .i64 0, .int .i64 0, .int .i64 0, .int .i64 0, .int .i64 0, .int .i64 0, .int .i64 0, .int .i64 0, .int .i64 0, .int .i64 0, .int .i64 0, .int .i64 0, .int .i64 0, .int .i64 0, .int .i64 0, .int .i64 0, .int .i64 0, .int .i64 0, .int .i64 0] 102)) := (Below.refl _ _).alloc (Nat.le_refl _) _
  have hc : CBox w0 w.heap.size c nv := ⟨by rw [hw0]; exact Go.heap_alloc_new w _⟩
  refine ⟨hc.below hb1 hc.lt, ?_, ?_, ?_⟩
  · rw [← hs0]; exact z_there w0
  · rw [← hs0]; exact z_new w0 c
  · exact hb0.trans (by rw [← hs0]; exact (z_below w0 c).mono hb0.size)
theorem valL_range (w : World) (g : Nat) (c : Cl) (h : w.heap[g]? = some (.cells (valL c).toArray 102 (0, 0))) : w.rangeAt g 0 (valL c) := blk_range h
set_option maxRecDepth 100000 in
set_option maxHeartbeats 4000000 in
theorem values_any (c : Cl) (nv : Value) (w : World) : Calls Tryd.prog 68 #[.agg (cL c nv).toArray] w fun e w' => e = .returned (.agg (valL c).toArray) ∧ Below w.heap.size w w' := by
  have HV := Aside0.mk (vw_of c nv w)
  have hone := valL_one c
  go_enter Tryd.func68, Tryd.ntmps68
  go_upto_region 1 with fail
  generalize (w.alloc (.cells (cL c nv).toArray 24)).alloc (.cells #[.int .i64 0, .int .i64 0, .int .i64 0, .int .i64 0, .int .i64 0, .int .i64 0, .int .i64 0, .int .i64 0, .int .i64 0, .int .i64 0, .int .i64 0, .int .i64 0, .int .i64 0, .int .i64 0, .int .i64 0, .int .i64 0, .int .i64 0, .int .i64 0, .int .i64 0, .int .i64 0, .int .i64 0] 102) = w1 at HV ⊢
  have g1 : w1.cell? ⟨w.heap.size, 1, none⟩ = some (.int .i64 c.replicas) := HV.out.box.c 1
  have g2 : w1.cell? ⟨w.heap.size, 2, none⟩ = some (.int .i64 c.width) := HV.out.box.c 2
  have g3 : w1.cell? ⟨w.heap.size, 3, none⟩ = some (.int .i64 c.chunks) := HV.out.box.c 3
  have g4 : w1.cell? ⟨w.heap.size, 4, none⟩ = some (.int .i64 c.retain) := HV.out.box.c 4
  have g5 : w1.cell? ⟨w.heap.size, 5, none⟩ = some (.int .i64 c.block) := HV.out.box.c 5
  have g6 : w1.cell? ⟨w.heap.size, 6, none⟩ = some (.int .i64 c.rate) := HV.out.box.c 6
  have g7 : w1.cell? ⟨w.heap.size, 7, none⟩ = some (.int .i64 c.per) := HV.out.box.c 7
  have g8 : w1.cell? ⟨w.heap.size, 8, none⟩ = some (.int .i64 c.burst) := HV.out.box.c 8
  have g9 : w1.cell? ⟨w.heap.size, 9, none⟩ = some (.int .i64 c.tries) := HV.out.box.c 9
  have g10 : w1.cell? ⟨w.heap.size, 10, none⟩ = some (.int .i64 c.base) := HV.out.box.c 10
  have g11 : w1.cell? ⟨w.heap.size, 11, none⟩ = some (.int .i64 c.most) := HV.out.box.c 11
  have g12 : w1.cell? ⟨w.heap.size, 12, none⟩ = some (.int .i64 c.quota) := HV.out.box.c 12
  have g13 : w1.cell? ⟨w.heap.size, 13, none⟩ = some (.int .i64 c.room) := HV.out.box.c 13
  have g14 : w1.cell? ⟨w.heap.size, 14, none⟩ = some (.int .i64 c.depot) := HV.out.box.c 14
  have g15 : w1.cell? ⟨w.heap.size, 15, none⟩ = some (.int .i64 c.resend) := HV.out.box.c 15
  have g16 : w1.cell? ⟨w.heap.size, 16, none⟩ = some (.int .i64 c.limit) := HV.out.box.c 16
  have g17 : w1.cell? ⟨w.heap.size, 17, none⟩ = some (.int .i64 c.patience) := HV.out.box.c 17
  have g18 : w1.cell? ⟨w.heap.size, 18, none⟩ = some (.int .i64 c.getwait) := HV.out.box.c 18
  have g19 : w1.cell? ⟨w.heap.size, 19, none⟩ = some (.int .i64 c.strikes) := HV.out.box.c 19
  have g20 : w1.cell? ⟨w.heap.size, 20, none⟩ = some (.int .i64 c.ban) := HV.out.box.c 20
  have g21 : w1.cell? ⟨w.heap.size, 21, none⟩ = some (.int .i64 c.home) := HV.out.box.c 21
  have ht := HV.out.there
  go_wp2_with ((with_reducible refine gate_store (ty := 102) (x := .tmp 2) (y := .tmp 45) rfl ?_); go_loud (refine wpList_store_mid rfl 102 (.tmp 2) (.tmp 45) rfl (w.heap.size + 1) 0 (valL c).toArray rfl rfl ht infoV hone ?_))
  have HN := Aside0.mk HV.out.new
  refine bodyPost_ret (results_c_mid rfl _ _ _ _ _ _ rfl (valL_range _ _ _ HN.out) Tryd.underlying102 rfl infoV) rfl ⟨rfl, HV.out.bel⟩
/-- the document's table of the greatest settings -/
def GTab (w : World) : Prop := ∀ i, i < 21 → w.cell? ⟨1, i, none⟩ = some (.int .i64 (most.getD i 0))
theorem GTab.below {w w1 : World} (h : GTab w) (hb : Below w.heap.size w w1) : GTab w1 := fun i hi => cell_below hb (Nat.le_refl _) (h i hi)
set_option maxRecDepth 100000 in
set_option maxHeartbeats 8000000 in
theorem set_any (c : Cl) (nv : Value) (w : World) (hG : GTab w) : Calls Tryd.prog 47 #[.agg (cL c nv).toArray] w fun e w' => e = .returned (.bool (setB c)) ∧ Below w.heap.size w w' := by
  have hb0 := (Below.refl w.heap.size w).alloc (Nat.le_refl _) (.cells (cL c nv).toArray 24)
  have HG := Aside0.mk (hG.below hb0)
  have HB := Aside0.mk hb0
  have HC : Aside0 (CBox (w.alloc (.cells (cL c nv).toArray 24)) w.heap.size c nv) := ⟨⟨Go.heap_alloc_new w _⟩⟩
  clear hG hb0
  go_enter Tryd.func47, Tryd.ntmps47
  go_upto_region 1 with fail
  generalize w.alloc (.cells (cL c nv).toArray 24) = w1 at HG HB HC ⊢
  have hrg := blk_range HC.out.row
  go_wp2_with ((with_reducible refine gate_load (ty := 24) (x := .tmp 1) rfl ?_); refine wpList_load_mid rfl 24 (.tmp 1) rfl w.heap.size 0 rfl (cL c nv) _ hrg Tryd.underlying24 rfl infoC23 ?_)
  clear hrg
  refine (values_any c nv w1).mono ?_
  rintro e w2 ⟨rfl, hb⟩
  have HG2 := Aside0.mk (HG.out.below hb)
  have HB2 := Aside0.mk (HB.out.trans (hb.mono HB.out.size))
  have HC2 := Aside0.mk (HC.out.below hb HC.out.lt)
  have ht := z_there w2
  have hone := valL_one c
  clear hb HG HB HC
  have hzb := z_below w2 c
  have HG3 := Aside0.mk (HG2.out.below hzb)
  have HB3 := Aside0.mk (HB2.out.trans (hzb.mono HB2.out.size))
  have HC3 := Aside0.mk (HC2.out.below hzb HC2.out.lt)
  have HV3 := Aside0.mk (z_new w2 c)
  clear hzb HG2 HB2 HC2
  go_upto_region 2 with ((with_reducible refine gate_store (ty := 102) (x := .tmp 3) (y := .tmp 6) rfl ?_); go_loud (refine wpList_store_mid rfl 102 (.tmp 3) (.tmp 6) rfl w2.heap.size 0 (valL c).toArray rfl rfl ht infoV hone ?_))
  clear ht hone
  generalize hw3 : (w2.alloc (.cells #[.int .i64 0, .int .i64 0, .int .i64 0, .int .i64 0, .int .i64 0, .int .i64 0, .int .i64 0, .int .i64 0, .int .i64 0, .int .i64 0, .int .i64 0, .int .i64 0, .int .i64 0, .int .i64 0, .int .i64 0, .int .i64 0, .int .i64 0, .int .i64 0, .int .i64 0, .int .i64 0, .int .i64 0] 102)).setCells w2.heap.size 0 (valL c) = w3 at HG3 HB3 HC3 HV3 ⊢
  generalize w2.heap.size = g3 at HV3 hw3 ⊢
  clear hw3
  have h5 : w3.cell? ⟨w.heap.size, 5, none⟩ = some (.int .i64 c.block) := HC3.out.c 5
  have h8 : w3.cell? ⟨w.heap.size, 8, none⟩ = some (.int .i64 c.burst) := HC3.out.c 8
  have h10 : w3.cell? ⟨w.heap.size, 10, none⟩ = some (.int .i64 c.base) := HC3.out.c 10
  have h11 : w3.cell? ⟨w.heap.size, 11, none⟩ = some (.int .i64 c.most) := HC3.out.c 11
  have H5 := Aside0.mk h5
  have H8 := Aside0.mk h8
  have H10 := Aside0.mk h10
  have H11 := Aside0.mk h11
  clear h5 h8 h10 h11
  go_wp2_with fail
  go_loopw [4] (fun v4 wr => ∃ i : Nat, i ≤ 21 ∧ v4 = .int .i64 (i : Nat) ∧ Aside0 (∃ n, wr = w3.drewN n) ∧ Aside0 (∀ j, j < i → setAt c j = true)) (fun v4 _ => 21 - (intOf v4).toNat)
  case atStart => exact ⟨0, Nat.zero_le _, rfl, ⟨⟨0, rfl⟩⟩, ⟨fun j hj => absurd hj (Nat.not_lt_zero j)⟩⟩
  case round =>
    obtain ⟨i, hi, rfl, HD, HA⟩ := hrel
    obtain ⟨⟨nd, rfl⟩⟩ := HD
    by_cases hlt : i < 21
    · have hv : w3.cell? ⟨g3, i, none⟩ = some (.int .i64 ((vals c).getD i 0)) := by rw [blk_cell HV3.out, List.getElem?_toArray]; exact valL_at c i hlt
      have hg := HG3.out i hlt
      have HSA : Aside0 (setAt c i = (decide (least i ≤ (vals c).getD i 0) && decide ((vals c).getD i 0 ≤ most.getD i 0))) := ⟨rfl⟩
      generalize (vals c).getD i 0 = x at hv HSA
      generalize most.getD i 0 = m at hg HSA
      have hle : least i = if i < 20 then 1 else 0 := rfl
      rw [hle] at HSA
      clear hle
      have stop : setAt c i = false → setB c = false := setB_false hlt
      have STOP := Aside0.mk stop
      clear stop
      by_cases h1 : x < 0
      · have HF : Aside0 (setB c = false) := ⟨STOP.out (by rw [HSA.out]; split <;> rw [decide_eq_false (by omega)] <;> rfl)⟩
        go_wp2_with fail
        go_quiet (fail)
        go_wp2_with fail
        go_ret
        exact ⟨by rw [HF.out]; rfl, HB3.out.trans ((pw_below_drewN (pw_below_drewN (Below.refl _ _) _) _).mono HB3.out.size)⟩
      · have d1 : decide (x < 0) = false := by simpa using h1
        by_cases h2 : m < x
        · have HF : Aside0 (setB c = false) := ⟨STOP.out (by rw [HSA.out, decide_eq_false (show ¬ x ≤ m by omega), Bool.and_false])⟩
          go_wp2_with fail
          go_quiet (fail)
          go_wp2_with fail
          go_ret
          exact ⟨by rw [HF.out]; rfl, HB3.out.trans ((pw_below_drewN (pw_below_drewN (Below.refl _ _) _) _).mono HB3.out.size)⟩
        · have d2 : decide (m < x) = false := by simpa using h2
          by_cases h3 : x = 0
          · have d3 : (x == 0) = true := by rw [h3]; rfl
            by_cases h4 : i < 20
            · have HF : Aside0 (setB c = false) := ⟨STOP.out (by rw [HSA.out, if_pos h4, decide_eq_false (by omega), Bool.false_and])⟩
              clear h3
              go_wp2_with fail
              go_quiet (fail)
              go_wp2_with fail
              go_ret
              exact ⟨by rw [HF.out]; rfl, HB3.out.trans ((pw_below_drewN (pw_below_drewN (Below.refl _ _) _) _).mono HB3.out.size)⟩
            · have d4 : decide ((i : Int) < 20) = false := by simp; omega
              have HT : Aside0 (setAt c i = true) := ⟨by rw [HSA.out, if_neg h4, decide_eq_true (by omega), decide_eq_true (by omega)]; rfl⟩
              clear h3
              go_wp2_with fail
              go_quiet (fail)
              go_wp2_with fail
              go_roundw
              case rel =>
                refine ⟨i + 1, by omega, by go_num, ⟨⟨_, rfl⟩⟩, ⟨fun j hj => ?_⟩⟩
                by_cases e : j = i
                · rw [e]; exact HT.out
                · exact HA.out j (by omega)
              case measure => simp [intOf]; omega
          · have d3 : (x == 0) = false := by simpa using h3
            have HT : Aside0 (setAt c i = true) := ⟨by rw [HSA.out, decide_eq_true (show x ≤ m by omega)]; split <;> rw [decide_eq_true (by omega)] <;> rfl⟩
            clear h3
            go_wp2_with fail
            go_quiet (fail)
            go_wp2_with fail
            go_roundw
            case rel =>
              refine ⟨i + 1, by omega, by go_num, ⟨⟨_, rfl⟩⟩, ⟨fun j hj => ?_⟩⟩
              by_cases e : j = i
              · rw [e]; exact HT.out
              · exact HA.out j (by omega)
            case measure => simp [intOf]; omega
    · obtain rfl : i = 21 := by omega
      have HSB := Aside0.mk (setB_eq HA.out)
      have h5 := H5.out
      have h8 := H8.out
      have h10 := H10.out
      have h11 := H11.out
      have hbd := HB3.out.trans ((pw_below_drewN (Below.refl w3.heap.size w3) nd).mono HB3.out.size)
      have HBD := Aside0.mk hbd
      clear HA hlt hi hbd
      by_cases hb1 : c.block ≤ c.burst
      · by_cases hb2 : c.base ≤ c.most
        · have HF : Aside0 (setB c = true) := ⟨by rw [HSB.out, decide_eq_true hb1, decide_eq_true hb2]; rfl⟩
          go_wp2_with fail
          go_ret
          exact ⟨by rw [HF.out]; rfl, HBD.out⟩
        · have HF : Aside0 (setB c = false) := ⟨by rw [HSB.out, decide_eq_false hb2, Bool.and_false]⟩
          go_wp2_with fail
          go_ret
          exact ⟨by rw [HF.out]; rfl, HBD.out⟩
      · have HF : Aside0 (setB c = false) := ⟨by rw [HSB.out, decide_eq_false hb1, Bool.false_and]⟩
        go_wp2_with fail
        go_ret
        exact ⟨by rw [HF.out]; rfl, HBD.out⟩
end Go.Proofs.YtljjpdjknnhceaaDoor.Ref6

/- The document counts: partitions, places; seeks a home. -/
set_option linter.unusedVariables false
set_option linter.unusedSimpArgs false
namespace Go.Proofs.YtljjpdjknnhceaaDoor.Count
open Go.RowKit Go.Proofs.YtljjpdjknnhceaaDoorW.PrintWords Go.Proofs.YtljjpdjknnhceaaDoorW.PrintLast Go.Proofs.YtljjpdjknnhceaaDoorW.PrintMore
open Go.Proofs.YtljjpdjknnhceaaDoor.Base Go.Proofs.YtljjpdjknnhceaaDoor.RingPure Go.Proofs.YtljjpdjknnhceaaDoor.ChkPure Go.Proofs.YtljjpdjknnhceaaDoor.Clus
theorem times_snoc (ns : List Nd) (k : Nat) (n : Nd) (p : Int) (h : ns[k]? = some n) : times (ns.take (k + 1)) p = times (ns.take k) p + n.2.count p := by
  unfold times
  rw [List.take_add_one, h, List.map_append, List.sum_append]
  simp
theorem count_snoc (l : List Int) (j : Nat) (x p : Int) (h : l[j]? = some x) : (l.take (j + 1)).count p = (l.take j).count p + if x = p then 1 else 0 := by
  rw [List.take_add_one, h, List.count_append]
  by_cases e : x = p
  · subst e; simp
  · rw [if_neg e]; simp [List.count_singleton, e]
theorem count_le' (l : List Int) (j : Nat) (p : Int) : (l.take j).count p ≤ l.length := Nat.le_trans List.count_le_length (by rw [List.length_take]; omega)
theorem times_le (ns : List Nd) (p : Int) : times ns p ≤ cnt ns := by
  rw [times_flat, ← flat_length]; exact List.count_le_length
theorem cnt_le_of (ns : List Nd) (k : Nat) (n : Nd) (h : ns[k]? = some n) : n.2.length ≤ cnt ns := by
  have h1 := cnt_snoc ns k n h
  have h2 := cnt_take ns (k + 1)
  omega
theorem drop_at {α : Type} (l : List α) (k : Nat) (x : α) (h : l[k]? = some x) : l.drop k = x :: l.drop (k + 1) := by
  obtain ⟨hl, e⟩ := List.getElem?_eq_some_iff.1 h
  rw [List.drop_eq_getElem_cons hl, e]
set_option maxRecDepth 100000 in
set_option maxHeartbeats 4000000 in
theorem parts_any (c : Cl) (A : Option Addr) (cap : Nat) (ns : List Nd) (w : World) (hN : NodesAt w A ns) (hcap : ns.length ≤ cap) (hl : ns.length ≤ 1099511627776) (hc : cnt ns ≤ 1099511627776) :
    Calls Tryd.prog 49 #[.agg (cL c (.slice A ns.length cap)).toArray] w fun e w' => e = .returned (.int .i64 (cnt ns : Nat)) ∧ Below w.heap.size w w' := by
  have hb0 := (Below.refl w.heap.size w).alloc (Nat.le_refl _) (.cells (cL c (.slice A ns.length cap)).toArray 24)
  have HN := Aside0.mk (hN.below hb0)
  have HB := Aside0.mk hb0
  have HC : Aside0 (CBox (w.alloc (.cells (cL c (.slice A ns.length cap)).toArray 24)) w.heap.size c (.slice A ns.length cap)) := ⟨⟨Go.heap_alloc_new w _⟩⟩
  have HCT := Aside0.mk (fun k => cnt_take ns k)
  clear hN hb0
  go_enter Tryd.func49, Tryd.ntmps49
  go_wp2_with fail
  generalize w.alloc (.cells (cL c (.slice A ns.length cap)).toArray 24) = w1 at HN HB HC ⊢
  have h22 : w1.cell? ⟨w.heap.size, 22, none⟩ = some (.slice A ns.length cap) := HC.out.c 22
  go_loop [3, 4] (fun v3 v4 => ∃ k : Nat, k ≤ ns.length ∧ v3 = .int .i64 (cnt (ns.take k) : Nat) ∧ v4 = .int .i64 (k : Nat)) (fun _ v4 => ns.length - (intOf v4).toNat)
  case atStart => exact ⟨0, Nat.zero_le _, rfl, rfl⟩
  case round =>
    obtain ⟨k, hk, rfl, rfl⟩ := hrel
    have hct := HCT.out k
    by_cases hlt : k < ns.length
    · obtain ⟨n, hn⟩ : ∃ n, ns[k]? = some n := ⟨_, List.getElem?_eq_getElem hlt⟩
      obtain ⟨b, o, rfl, hz, B, cp, hp, hcp, hnm⟩ := HN.out.get hn
      have hsn := cnt_snoc ns k n hn
      have hct1 := HCT.out (k + 1)
      have HSN := Aside0.mk hsn
      have hq : cnt (ns.take k) + n.2.length ≤ 1099511627776 := by omega
      clear hn hsn hct1 hnm
      go_wp2_with fail
      go_round
      case rel => exact ⟨k + 1, by omega, by rw [HSN.out]; go_num, by go_num⟩
      case measure => simp [intOf]; omega
    · obtain rfl : k = ns.length := by omega
      rw [List.take_length]
      go_wp2_with fail
      go_ret
      exact ⟨rfl, HB.out⟩
set_option maxRecDepth 100000 in
set_option maxHeartbeats 4000000 in
theorem times_any (c : Cl) (A : Option Addr) (cap : Nat) (ns : List Nd) (p : Int) (w : World) (hN : NodesAt w A ns) (hcap : ns.length ≤ cap) (hl : ns.length ≤ 1099511627776) (hc : cnt ns ≤ 1099511627776) :
    Calls Tryd.prog 80 #[.agg (cL c (.slice A ns.length cap)).toArray, .int .i64 p] w fun e w' => e = .returned (.int .i64 (times ns p : Nat)) ∧ Below w.heap.size w w' := by
  have hb0 := (Below.refl w.heap.size w).alloc (Nat.le_refl _) (.cells (cL c (.slice A ns.length cap)).toArray 24)
  have HN := Aside0.mk (hN.below hb0)
  have HB := Aside0.mk hb0
  have HC : Aside0 (CBox (w.alloc (.cells (cL c (.slice A ns.length cap)).toArray 24)) w.heap.size c (.slice A ns.length cap)) := ⟨⟨Go.heap_alloc_new w _⟩⟩
  have HCT := Aside0.mk (fun k => cnt_take ns k)
  clear hN hb0
  go_enter Tryd.func80, Tryd.ntmps80
  go_wp2_with fail
  generalize w.alloc (.cells (cL c (.slice A ns.length cap)).toArray 24) = w1 at HN HB HC ⊢
  have h22 : w1.cell? ⟨w.heap.size, 22, none⟩ = some (.slice A ns.length cap) := HC.out.c 22
  go_loop [5, 6, 7] (fun v5 v6 _ => ∃ k : Nat, k ≤ ns.length ∧ v5 = .int .i64 (times (ns.take k) p : Nat) ∧ v6 = .int .i64 (k : Nat)) (fun _ v6 _ => ns.length - (intOf v6).toNat)
  case atStart => exact ⟨0, Nat.zero_le _, rfl, rfl⟩
  case round =>
    obtain ⟨k, hk, rfl, rfl⟩ := hrel
    have htl := times_le (ns.take k) p
    have hct := HCT.out k
    by_cases hlt : k < ns.length
    · obtain ⟨n, hn⟩ : ∃ n, ns[k]? = some n := ⟨_, List.getElem?_eq_getElem hlt⟩
      obtain ⟨b, o, rfl, hz, B, cp, hp, hcp, hnm⟩ := HN.out.get hn
      have HSN := Aside0.mk (times_snoc ns k n p hn)
      have hnl := cnt_le_of ns k n hn
      have HNM := Aside0.mk hnm
      obtain ⟨T, hT⟩ : ∃ T, T = times (ns.take k) p := ⟨_, rfl⟩
      rw [← hT] at htl HSN ⊢
      clear hn hnm hT
      go_wp2_with fail
      go_loop [5, 7] (fun v5 v7 => ∃ j : Nat, j ≤ n.2.length ∧ v5 = .int .i64 (T + (n.2.take j).count p : Nat) ∧ v7 = .int .i64 (j : Nat)) (fun _ v7 => n.2.length - (intOf v7).toNat)
      case atStart => exact ⟨0, Nat.zero_le _, by simp, rfl⟩
      case round =>
        obtain ⟨j, hj, rfl, rfl⟩ := hrel
        have hcl := count_le' n.2 j p
        by_cases hjl : j < n.2.length
        · obtain ⟨x, hx⟩ : ∃ x, n.2[j]? = some x := ⟨_, List.getElem?_eq_getElem hjl⟩
          obtain ⟨b2, o2, rfl, hpc⟩ := HNM.out.get hx
          have HCS := Aside0.mk (count_snoc n.2 j x p hx)
          obtain ⟨U, hU⟩ : ∃ U, U = (n.2.take j).count p := ⟨_, rfl⟩
          rw [← hU] at hcl HCS ⊢
          clear hx hU
          by_cases he : x = p
          · have hq : (x == p) = true := by rw [he]; simp
            have HCU : Aside0 ((n.2.take (j + 1)).count p = U + 1) := ⟨by rw [HCS.out, if_pos he]⟩
            clear he
            go_wp2_with fail
            go_round
            case rel => exact ⟨j + 1, by omega, by rw [HCU.out]; go_num, by go_num⟩
            case measure => simp [intOf]; omega
          · have hq : (x == p) = false := by simpa using he
            have HCU : Aside0 ((n.2.take (j + 1)).count p = U) := ⟨by rw [HCS.out, if_neg he]; rfl⟩
            clear he
            go_wp2_with fail
            go_round
            case rel => exact ⟨j + 1, by omega, by rw [HCU.out], by go_num⟩
            case measure => simp [intOf]; omega
        · obtain rfl : j = n.2.length := by omega
          rw [List.take_length]
          go_wp2_with fail
          go_round
          case rel => exact ⟨k + 1, by omega, by rw [HSN.out], by go_num⟩
          case measure => simp [intOf]; omega
    · obtain rfl : k = ns.length := by omega
      rw [List.take_length]
      go_wp2_with fail
      go_ret
      exact ⟨rfl, HB.out⟩
set_option maxRecDepth 100000 in
set_option maxHeartbeats 4000000 in
theorem homeR_any (c : Cl) (A : Option Addr) (cap : Nat) (ns : List Nd) (p : Int) (w : World) (hN : NodesAt w A ns) (hcap : ns.length ≤ cap) (hl : ns.length ≤ 1099511627776) (hc : cnt ns ≤ 1099511627776) :
    Calls Tryd.prog 53 #[.agg (cL c (.slice A ns.length cap)).toArray, .int .i64 p] w fun e w' => e = .returned (.int .i64 (homeFrom 0 ns p)) ∧ Below w.heap.size w w' := by
  have hb0 := (Below.refl w.heap.size w).alloc (Nat.le_refl _) (.cells (cL c (.slice A ns.length cap)).toArray 24)
  have HN := Aside0.mk (hN.below hb0)
  have HB := Aside0.mk hb0
  have HC : Aside0 (CBox (w.alloc (.cells (cL c (.slice A ns.length cap)).toArray 24)) w.heap.size c (.slice A ns.length cap)) := ⟨⟨Go.heap_alloc_new w _⟩⟩
  have HCT := Aside0.mk (fun k => cnt_take ns k)
  clear hN hb0
  obtain ⟨R, hR⟩ : ∃ R, R = homeFrom 0 ns p := ⟨_, rfl⟩
  have HI : Aside0 (homeFrom 0 (ns.drop 0) p = R) := ⟨by rw [hR, List.drop_zero]⟩
  rw [← hR]
  clear hR
  go_enter Tryd.func53, Tryd.ntmps53
  go_wp2_with fail
  generalize w.alloc (.cells (cL c (.slice A ns.length cap)).toArray 24) = w1 at HN HB HC ⊢
  have h22 : w1.cell? ⟨w.heap.size, 22, none⟩ = some (.slice A ns.length cap) := HC.out.c 22
  go_loop [5, 6] (fun v5 _ => ∃ k : Nat, k ≤ ns.length ∧ v5 = .int .i64 (k : Nat) ∧ Aside0 (homeFrom k (ns.drop k) p = R)) (fun v5 _ => ns.length - (intOf v5).toNat)
  case atStart => exact ⟨0, Nat.zero_le _, rfl, HI⟩
  case round =>
    clear HI
    obtain ⟨k, hk, rfl, HI⟩ := hrel
    by_cases hlt : k < ns.length
    · obtain ⟨n, hn⟩ : ∃ n, ns[k]? = some n := ⟨_, List.getElem?_eq_getElem hlt⟩
      obtain ⟨b, o, rfl, hz, B, cp, hp, hcp, hnm⟩ := HN.out.get hn
      have hnl := cnt_le_of ns k n hn
      have HNM := Aside0.mk hnm
      have HD : Aside0 ((if p ∈ n.2 then (k : Int) else homeFrom (k + 1) (ns.drop (k + 1)) p) = R) := ⟨by rw [← HI.out, drop_at ns k n hn]; rfl⟩
      clear hn hnm HI
      go_wp2_with fail
      go_loop [6] (fun v6 => ∃ j : Nat, j ≤ n.2.length ∧ v6 = .int .i64 (j : Nat) ∧ Aside0 (p ∉ n.2.take j)) (fun v6 => n.2.length - (intOf v6).toNat)
      case atStart => exact ⟨0, Nat.zero_le _, rfl, ⟨by simp⟩⟩
      case round =>
        obtain ⟨j, hj, rfl, HM⟩ := hrel
        by_cases hjl : j < n.2.length
        · obtain ⟨x, hx⟩ : ∃ x, n.2[j]? = some x := ⟨_, List.getElem?_eq_getElem hjl⟩
          obtain ⟨b2, o2, rfl, hpc⟩ := HNM.out.get hx
          have HX := Aside0.mk hx
          clear hx
          by_cases he : x = p
          · have hq : (x == p) = true := by rw [he]; simp
            have HE : Aside0 ((k : Int) = R) := ⟨by rw [← HD.out, if_pos (by rw [← he]; exact List.mem_of_getElem? HX.out)]⟩
            clear he
            go_wp2_with fail
            go_ret
            exact ⟨by rw [← HE.out]; rfl, HB.out⟩
          · have hq : (x == p) = false := by simpa using he
            have HM2 : Aside0 (p ∉ n.2.take (j + 1)) := ⟨by rw [List.take_add_one, HX.out]; simp only [Option.toList_some, List.mem_append, List.mem_singleton]; exact fun h => h.elim HM.out (fun e => he e.symm)⟩
            clear he
            go_wp2_with fail
            go_round
            case rel => exact ⟨j + 1, by omega, by go_num, HM2⟩
            case measure => simp [intOf]; omega
        · obtain rfl : j = n.2.length := by omega
          have HI2 : Aside0 (homeFrom (k + 1) (ns.drop (k + 1)) p = R) := ⟨by rw [← HD.out, if_neg (by have := HM.out; rwa [List.take_length] at this)]⟩
          go_wp2_with fail
          go_round
          case rel => exact ⟨k + 1, by omega, by go_num, HI2⟩
          case measure => simp [intOf]; omega
    · obtain rfl : k = ns.length := by omega
      have HE : Aside0 (R = -1) := ⟨by rw [← HI.out, List.drop_length]; rfl⟩
      go_wp2_with fail
      go_ret
      exact ⟨by rw [HE.out]; rfl, HB.out⟩
end Go.Proofs.YtljjpdjknnhceaaDoor.Count

/- The text PRingWalksx3 that the printer wrote. -/
namespace Go.Proofs.YtljjpdjknnhceaaDoor.PRingWalks
open Go.RowKit Go.Proofs.YtljjpdjknnhceaaDoorW.PrintWords Go.Proofs.YtljjpdjknnhceaaDoorW.PrintLast Go.Proofs.YtljjpdjknnhceaaDoorW.PrintMore
attribute [local go_sem] max2_int min2_int max_two min_two max_three min_three max_four min_four   -- for this text's walks alone
set_option linter.unusedVariables false
set_option linter.unusedSimpArgs false

-- NOT PRINTED: function 45 (ring_checked)

-- NOT PRINTED: function 51 (ring_round)

-- NOT PRINTED: function 17 (ring_Walk)

/-! ### granaryref6_named: function 46 -/
mutual
def granaryref6_named.j0 : Nat → ByteArray → Bool → Option (Bool)
  | 0, _, _ => none
  | k + 1, x0, x21 => if x21 = true then (some false) else (granaryref6_named.l0 k x0 0)
def granaryref6_named.l0 : Nat → ByteArray → Int → Option (Bool)
  | 0, _, _ => none
  | k + 1, x0, x3 => if x3 < (x0.size : Int) then (if 0 ≤ x3 then (if (bt x0 x3) ≥ 97 then (if (bt x0 x3) ≤ 122 then (granaryref6_named.l0 k x0 (wrap64 (x3 + 1))) else (if (bt x0 x3) ≥ 48 then (if (bt x0 x3) ≤ 57 then (granaryref6_named.l0 k x0 (wrap64 (x3 + 1))) else (if ((bt x0 x3) = 45) then (granaryref6_named.l0 k x0 (wrap64 (x3 + 1))) else (some false))) else (if ((bt x0 x3) = 45) then (granaryref6_named.l0 k x0 (wrap64 (x3 + 1))) else (some false)))) else (if (bt x0 x3) ≥ 48 then (if (bt x0 x3) ≤ 57 then (granaryref6_named.l0 k x0 (wrap64 (x3 + 1))) else (if ((bt x0 x3) = 45) then (granaryref6_named.l0 k x0 (wrap64 (x3 + 1))) else (some false))) else (if ((bt x0 x3) = 45) then (granaryref6_named.l0 k x0 (wrap64 (x3 + 1))) else (some false)))) else (none)) else (some true)
end
def granaryref6_named.f (k : Nat) (a0 : ByteArray) : Option (Bool) := if a0.toList = ([] : List UInt8) then (granaryref6_named.j0 k a0 true) else (if (a0.size : Int) > 40 then (granaryref6_named.j0 k a0 true) else (if 0 < (a0.size : Int) then (if (bt a0 0) < 97 then (granaryref6_named.j0 k a0 true) else (granaryref6_named.j0 k a0 (decide ((bt a0 0) > 122)))) else (none)))
theorem granaryref6_named.mono_l : ∀ k, (∀ y0 y1, LeO (granaryref6_named.j0 k y0 y1) (granaryref6_named.j0 (k + 1) y0 y1)) ∧ (∀ y0 y1, LeO (granaryref6_named.l0 k y0 y1) (granaryref6_named.l0 (k + 1) y0 y1))
  | 0 => ⟨fun _ _ r h => by simp [granaryref6_named.j0] at h, fun _ _ r h => by simp [granaryref6_named.l0] at h⟩
  | k + 1 => by
    obtain ⟨ih0, ih1⟩ := granaryref6_named.mono_l k
    refine ⟨?_, ?_⟩
    · intro y0 y1
      unfold granaryref6_named.j0
      repeat' first
      | (with_reducible exact ih0 _ _)
      | (with_reducible exact ih1 _ _)
      | (with_reducible exact LeO.refl _)
      | (with_reducible exact LeO.none _)
      | (with_reducible refine LeO.ite ?_ ?_)
      | (with_reducible refine LeO.bind ?_ (fun _ => ?_))
      | exact ih0 _ _
      | exact ih1 _ _
      | exact LeO.none _
      | refine LeO.ite ?_ ?_
      | refine LeO.bind ?_ (fun _ => ?_)
    · intro y0 y1
      unfold granaryref6_named.l0
      repeat' first
      | (with_reducible exact ih0 _ _)
      | (with_reducible exact ih1 _ _)
      | (with_reducible exact LeO.refl _)
      | (with_reducible exact LeO.none _)
      | (with_reducible refine LeO.ite ?_ ?_)
      | (with_reducible refine LeO.bind ?_ (fun _ => ?_))
      | exact ih0 _ _
      | exact ih1 _ _
      | exact LeO.none _
      | refine LeO.ite ?_ ?_
      | refine LeO.bind ?_ (fun _ => ?_)
theorem granaryref6_named.mono : ∀ a0 k, LeO (granaryref6_named.f k a0) (granaryref6_named.f (k + 1) a0) := by
  intro a0 k
  obtain ⟨ih0, ih1⟩ := granaryref6_named.mono_l k
  unfold granaryref6_named.f
  repeat' first
      | (with_reducible exact ih0 _ _)
      | (with_reducible exact ih1 _ _)
      | (with_reducible exact LeO.refl _)
      | (with_reducible exact LeO.none _)
      | (with_reducible refine LeO.ite ?_ ?_)
      | (with_reducible refine LeO.bind ?_ (fun _ => ?_))
      | exact ih0 _ _
      | exact ih1 _ _
      | exact LeO.none _
      | refine LeO.ite ?_ ?_
      | refine LeO.bind ?_ (fun _ => ?_)
set_option maxHeartbeats 8000000 in
set_option maxRecDepth 100000 in
theorem granaryref6_named.calls (k : Nat) (a0 : ByteArray) (r : Bool) (w : World) (h : granaryref6_named.f k a0 = some r) :
    Calls Tryd.prog 46 #[.string a0] w fun e w' => e = .returned (.bool r) ∧ Drawn0 w w' := by
  have H : (if a0.toList = ([] : List UInt8) then (granaryref6_named.j0 k a0 true) else (if (a0.size : Int) > 40 then (granaryref6_named.j0 k a0 true) else (if 0 < (a0.size : Int) then (if (bt a0 0) < 97 then (granaryref6_named.j0 k a0 true) else (granaryref6_named.j0 k a0 (decide ((bt a0 0) > 122)))) else (none)))) = some r := h
  clear h
  have HC2 := Aside0.mk H
  clear H
  go_enter Tryd.func46, Tryd.ntmps46
  go_upto_region 1 with (fail)
  go_cut [21] (fun v21 wc => ∃ (kq : Nat) (x21_1 : Bool), v21 = .bool x21_1 ∧ Aside0 (granaryref6_named.j0 kq a0 x21_1 = some r) ∧ Aside0 (kq ≤ k) ∧ Drawn0 w wc)
  case first =>
    have H := HC2.out
    clear HC2
    by_cases c3 : a0.toList = ([] : List UInt8)
    · rw [if_pos c3] at H
      have c3b0 : (a0.toList == ([] : List UInt8)) = true := beq_iff_eq.mpr c3
      have c3b1 : (a0.toList != ([] : List UInt8)) = false := bne_eq_false_iff_eq.mpr c3
      clear c3
      (first | rw [c3b0] | (simp only [i64_w, i32_w]; rw [c3b0]) | skip)
      have H' := Aside0.mk H
      clear H
      go_wp2
      go_meet
      case rel => exact ⟨_, (true), (by first | rfl | (simp; done) | (simp [*]; done)), H', ⟨by first | omega | exact Nat.le_refl _⟩, by repeat (first | exact Drawn0.refl _ | apply Drawn0.step)⟩
    · rw [if_neg c3] at H
      have c3b0 : (a0.toList == ([] : List UInt8)) = false := beq_eq_false_iff_ne.mpr c3
      have c3b1 : (a0.toList != ([] : List UInt8)) = true := bne_iff_ne.mpr c3
      (first | rw [c3b0] | (simp only [i64_w, i32_w]; rw [c3b0]) | skip)
      by_cases c4 : (a0.size : Int) > 40
      · rw [if_pos c4] at H
        have c4b0 : decide (40 < (a0.size : Int)) = true := decide_eq_true c4
        have c4b1 : decide (40 < a0.size) = true := decide_eq_true (by omega)
        clear c4
        have H' := Aside0.mk H
        clear H
        go_wp2
        go_meet
        case rel => exact ⟨_, (true), (by first | rfl | (simp; done) | (simp [*]; done)), H', ⟨by first | omega | exact Nat.le_refl _⟩, by repeat (first | exact Drawn0.refl _ | apply Drawn0.step)⟩
      · rw [if_neg c4] at H
        have c4b0 : decide (40 < (a0.size : Int)) = false := decide_eq_false c4
        have c4b1 : decide (40 < a0.size) = false := decide_eq_false (by omega)
        clear c4
        by_cases c5 : 0 < (a0.size : Int)
        · rw [if_pos c5] at H
          have c5b0 : decide (0 < (a0.size : Int)) = true := decide_eq_true c5
          have c5b1 : decide (0 < a0.size) = true := decide_eq_true (by omega)
          clear c5
          by_cases c7 : (bt a0 0) < 97
          · rw [if_pos c7] at H
            have c7b0 : decide ((bt a0 0) < 97) = true := decide_eq_true c7
            clear c7
            have H' := Aside0.mk H
            clear H
            have p6 : 0 ≤ (0 : Int) := (by omega)
            have q6 : 0 < a0.size := (by have : (0 : Int) < (a0.size : Int) := of_decide_eq_true (by first | (with_reducible assumption) | assumption); omega)
            have hx6 : ∀ h : 0 < a0.size, ((a0[0]'h).toNat : Int) = bt a0 0 := bt_at a0 0
            clear p6
            have qi6 : (0 < (a0.size : Int)) = True := eq_true (of_decide_eq_true (by first | (with_reducible assumption) | assumption))
            replace q6 := eq_true q6
            go_wp2
            go_meet
            case rel => exact ⟨_, (true), (by first | rfl | (simp; done) | (simp [*]; done)), H', ⟨by first | omega | exact Nat.le_refl _⟩, by repeat (first | exact Drawn0.refl _ | apply Drawn0.step)⟩
          · rw [if_neg c7] at H
            have c7b0 : decide ((bt a0 0) < 97) = false := decide_eq_false c7
            clear c7
            have H' := Aside0.mk H
            clear H
            have p6 : 0 ≤ (0 : Int) := (by omega)
            have q6 : 0 < a0.size := (by have : (0 : Int) < (a0.size : Int) := of_decide_eq_true (by first | (with_reducible assumption) | assumption); omega)
            have hx6 : ∀ h : 0 < a0.size, ((a0[0]'h).toNat : Int) = bt a0 0 := bt_at a0 0
            clear p6
            have qi6 : (0 < (a0.size : Int)) = True := eq_true (of_decide_eq_true (by first | (with_reducible assumption) | assumption))
            replace q6 := eq_true q6
            have p8 : 0 ≤ (0 : Int) := (by omega)
            have q8 : 0 < a0.size := (by have : (0 : Int) < (a0.size : Int) := of_decide_eq_true (by first | (with_reducible assumption) | assumption); omega)
            have hx8 : ∀ h : 0 < a0.size, ((a0[0]'h).toNat : Int) = bt a0 0 := bt_at a0 0
            clear p8
            have qi8 : (0 < (a0.size : Int)) = True := eq_true (of_decide_eq_true (by first | (with_reducible assumption) | assumption))
            replace q8 := eq_true q8
            go_wp2
            go_meet
            case rel => exact ⟨_, (decide ((bt a0 0) > 122)), (by first | rfl | (simp; done) | (simp [*]; done)), H', ⟨by first | omega | exact Nat.le_refl _⟩, by repeat (first | exact Drawn0.refl _ | apply Drawn0.step)⟩
        · rw [if_neg c5] at H
          exact absurd H (by simp)
  case rest =>
    clear HC2
    try clear p2
    try clear c3
    try clear c3b0
    try clear c3b1
    try clear c4
    try clear c4b0
    try clear c4b1
    try clear c5
    try clear c5b0
    try clear c5b1
    try clear p6
    try clear q6
    try clear hx6
    try clear qi6
    try clear c7
    try clear c7b0
    try clear p8
    try clear q8
    try clear hx8
    try clear qi8
    try clear p6
    try clear p8
    try clear q6
    try clear q8
    obtain ⟨kq, x21_1, rfl, HA, HJ1, ⟨mc1, rfl⟩⟩ := hcut
    cases kq with
    | zero => exact absurd HA.out (by simp [granaryref6_named.j0])
    | succ kj1 =>
      have H := HA.out
      clear HA
      simp only [granaryref6_named.j0] at H
      by_cases c9 : x21_1 = true
      · subst c9
        have H1 : (some false) = some r := by rw [if_pos rfl] at H; exact H
        clear H
        have H := H1
        clear H1
        obtain rfl := Option.some.inj H
        go_wp2
        go_ret
        exact ⟨by first | rfl | (simp; done) | (simp [*]; done), by repeat (first | exact Drawn0.refl _ | apply Drawn0.step)⟩
      · replace c9 := Bool.eq_false_iff.mpr c9
        subst c9
        have H1 : (granaryref6_named.l0 kj1 a0 0) = some r := by rw [if_neg (show ¬ (false = true) by decide)] at H; exact H
        clear H
        have H := H1
        clear H1
        have H' := Aside0.mk H
        clear H
        go_wp2
        go_loopg [3] kj1 (fun kq v3 w' => ∃ (x3_2 : Int), v3 = .int .i64 x3_2 ∧ Aside0 (granaryref6_named.l0 kq a0 x3_2 = some r) ∧ Aside0 (kq ≤ kj1) ∧ Drawn0 w w')
        case atStart => exact ⟨(0), (by first | rfl | (simp; done) | (simp [*]; done)), H', ⟨Nat.le_refl _⟩, by repeat (first | exact Drawn0.refl _ | apply Drawn0.step)⟩
        case round =>
          clear H'
          try clear c1
          try clear p2
          try clear c3
          try clear c3b0
          try clear c3b1
          try clear c4
          try clear c4b0
          try clear c4b1
          try clear c5
          try clear c5b0
          try clear c5b1
          try clear p6
          try clear q6
          try clear hx6
          try clear qi6
          try clear c7
          try clear c7b0
          try clear p8
          try clear q8
          try clear hx8
          try clear qi8
          try clear c9
          try clear p2
          try clear p6
          try clear p8
          try clear q6
          try clear q8
          obtain ⟨x3_2, rfl, HA, HK2, ⟨m2, rfl⟩⟩ := hrel
          cases gk with
          | zero => exact absurd HA.out (by simp [granaryref6_named.l0])
          | succ k2 =>
            have H := HA.out
            clear HA
            simp only [granaryref6_named.l0] at H
            by_cases c10 : x3_2 < (a0.size : Int)
            · rw [if_pos c10] at H
              have c10b0 : decide (x3_2 < (a0.size : Int)) = true := decide_eq_true c10
              clear c10
              by_cases c11 : 0 ≤ x3_2
              · rw [if_pos c11] at H
                have c11b0 : decide (0 ≤ x3_2) = true := decide_eq_true c11
                clear c11
                by_cases c13 : (bt a0 x3_2) ≥ 97
                · rw [if_pos c13] at H
                  have c13b0 : decide (97 ≤ (bt a0 x3_2)) = true := decide_eq_true c13
                  clear c13
                  by_cases c14 : (bt a0 x3_2) ≤ 122
                  · rw [if_pos c14] at H
                    have c14b0 : decide ((bt a0 x3_2) ≤ 122) = true := decide_eq_true c14
                    clear c14
                    have H' := Aside0.mk H
                    clear H
                    have p12 : 0 ≤ (x3_2 : Int) := of_decide_eq_true (by first | (with_reducible assumption) | assumption)
                    have q12 : x3_2 < (a0.size : Int) := of_decide_eq_true (by first | (with_reducible assumption) | assumption)
                    have hx12 := bt_at a0 x3_2
                    replace p12 := eq_true p12
                    replace q12 := eq_true q12
                    go_wp2
                    go_roundg k2
                    case measure => have := HJ1.out; have := HK2.out; omega
                    case rel => exact ⟨(wrap64 (x3_2 + 1)), (by first | rfl | (simp; done) | (simp [*]; done)), H', ⟨by have := HJ1.out; have := HK2.out; omega⟩, by repeat (first | exact Drawn0.refl _ | apply Drawn0.step)⟩
                  · rw [if_neg c14] at H
                    have c14b0 : decide ((bt a0 x3_2) ≤ 122) = false := decide_eq_false c14
                    clear c14
                    by_cases c15 : (bt a0 x3_2) ≥ 48
                    · rw [if_pos c15] at H
                      have c15b0 : decide (48 ≤ (bt a0 x3_2)) = true := decide_eq_true c15
                      clear c15
                      by_cases c16 : (bt a0 x3_2) ≤ 57
                      · rw [if_pos c16] at H
                        have c16b0 : decide ((bt a0 x3_2) ≤ 57) = true := decide_eq_true c16
                        clear c16
                        have H' := Aside0.mk H
                        clear H
                        have p12 : 0 ≤ (x3_2 : Int) := of_decide_eq_true (by first | (with_reducible assumption) | assumption)
                        have q12 : x3_2 < (a0.size : Int) := of_decide_eq_true (by first | (with_reducible assumption) | assumption)
                        have hx12 := bt_at a0 x3_2
                        replace p12 := eq_true p12
                        replace q12 := eq_true q12
                        go_wp2
                        go_roundg k2
                        case measure => have := HJ1.out; have := HK2.out; omega
                        case rel => exact ⟨(wrap64 (x3_2 + 1)), (by first | rfl | (simp; done) | (simp [*]; done)), H', ⟨by have := HJ1.out; have := HK2.out; omega⟩, by repeat (first | exact Drawn0.refl _ | apply Drawn0.step)⟩
                      · rw [if_neg c16] at H
                        have c16b0 : decide ((bt a0 x3_2) ≤ 57) = false := decide_eq_false c16
                        clear c16
                        by_cases c17 : ((bt a0 x3_2) = 45)
                        · rw [if_pos c17] at H
                          have c17b0 : ((bt a0 x3_2) == 45) = true := beq_iff_eq.mpr c17
                          have c17b1 : ((bt a0 x3_2) != 45) = false := bne_eq_false_iff_eq.mpr c17
                          clear c17
                          have H' := Aside0.mk H
                          clear H
                          have p12 : 0 ≤ (x3_2 : Int) := of_decide_eq_true (by first | (with_reducible assumption) | assumption)
                          have q12 : x3_2 < (a0.size : Int) := of_decide_eq_true (by first | (with_reducible assumption) | assumption)
                          have hx12 := bt_at a0 x3_2
                          replace p12 := eq_true p12
                          replace q12 := eq_true q12
                          go_wp2
                          go_roundg k2
                          case measure => have := HJ1.out; have := HK2.out; omega
                          case rel => exact ⟨(wrap64 (x3_2 + 1)), (by first | rfl | (simp; done) | (simp [*]; done)), H', ⟨by have := HJ1.out; have := HK2.out; omega⟩, by repeat (first | exact Drawn0.refl _ | apply Drawn0.step)⟩
                        · rw [if_neg c17] at H
                          have c17b0 : ((bt a0 x3_2) == 45) = false := beq_eq_false_iff_ne.mpr c17
                          have c17b1 : ((bt a0 x3_2) != 45) = true := bne_iff_ne.mpr c17
                          obtain rfl := Option.some.inj H
                          have p12 : 0 ≤ (x3_2 : Int) := of_decide_eq_true (by first | (with_reducible assumption) | assumption)
                          have q12 : x3_2 < (a0.size : Int) := of_decide_eq_true (by first | (with_reducible assumption) | assumption)
                          have hx12 := bt_at a0 x3_2
                          replace p12 := eq_true p12
                          replace q12 := eq_true q12
                          go_wp2
                          go_ret
                          exact ⟨by first | rfl | (simp; done) | (simp [*]; done), by repeat (first | exact Drawn0.refl _ | apply Drawn0.step)⟩
                    · rw [if_neg c15] at H
                      have c15b0 : decide (48 ≤ (bt a0 x3_2)) = false := decide_eq_false c15
                      clear c15
                      by_cases c18 : ((bt a0 x3_2) = 45)
                      · rw [if_pos c18] at H
                        have c18b0 : ((bt a0 x3_2) == 45) = true := beq_iff_eq.mpr c18
                        have c18b1 : ((bt a0 x3_2) != 45) = false := bne_eq_false_iff_eq.mpr c18
                        clear c18
                        have H' := Aside0.mk H
                        clear H
                        have p12 : 0 ≤ (x3_2 : Int) := of_decide_eq_true (by first | (with_reducible assumption) | assumption)
                        have q12 : x3_2 < (a0.size : Int) := of_decide_eq_true (by first | (with_reducible assumption) | assumption)
                        have hx12 := bt_at a0 x3_2
                        replace p12 := eq_true p12
                        replace q12 := eq_true q12
                        go_wp2
                        go_roundg k2
                        case measure => have := HJ1.out; have := HK2.out; omega
                        case rel => exact ⟨(wrap64 (x3_2 + 1)), (by first | rfl | (simp; done) | (simp [*]; done)), H', ⟨by have := HJ1.out; have := HK2.out; omega⟩, by repeat (first | exact Drawn0.refl _ | apply Drawn0.step)⟩
                      · rw [if_neg c18] at H
                        have c18b0 : ((bt a0 x3_2) == 45) = false := beq_eq_false_iff_ne.mpr c18
                        have c18b1 : ((bt a0 x3_2) != 45) = true := bne_iff_ne.mpr c18
                        obtain rfl := Option.some.inj H
                        have p12 : 0 ≤ (x3_2 : Int) := of_decide_eq_true (by first | (with_reducible assumption) | assumption)
                        have q12 : x3_2 < (a0.size : Int) := of_decide_eq_true (by first | (with_reducible assumption) | assumption)
                        have hx12 := bt_at a0 x3_2
                        replace p12 := eq_true p12
                        replace q12 := eq_true q12
                        go_wp2
                        go_ret
                        exact ⟨by first | rfl | (simp; done) | (simp [*]; done), by repeat (first | exact Drawn0.refl _ | apply Drawn0.step)⟩
                · rw [if_neg c13] at H
                  have c13b0 : decide (97 ≤ (bt a0 x3_2)) = false := decide_eq_false c13
                  clear c13
                  by_cases c19 : (bt a0 x3_2) ≥ 48
                  · rw [if_pos c19] at H
                    have c19b0 : decide (48 ≤ (bt a0 x3_2)) = true := decide_eq_true c19
                    clear c19
                    by_cases c20 : (bt a0 x3_2) ≤ 57
                    · rw [if_pos c20] at H
                      have c20b0 : decide ((bt a0 x3_2) ≤ 57) = true := decide_eq_true c20
                      clear c20
                      have H' := Aside0.mk H
                      clear H
                      have p12 : 0 ≤ (x3_2 : Int) := of_decide_eq_true (by first | (with_reducible assumption) | assumption)
                      have q12 : x3_2 < (a0.size : Int) := of_decide_eq_true (by first | (with_reducible assumption) | assumption)
                      have hx12 := bt_at a0 x3_2
                      replace p12 := eq_true p12
                      replace q12 := eq_true q12
                      go_wp2
                      go_roundg k2
                      case measure => have := HJ1.out; have := HK2.out; omega
                      case rel => exact ⟨(wrap64 (x3_2 + 1)), (by first | rfl | (simp; done) | (simp [*]; done)), H', ⟨by have := HJ1.out; have := HK2.out; omega⟩, by repeat (first | exact Drawn0.refl _ | apply Drawn0.step)⟩
                    · rw [if_neg c20] at H
                      have c20b0 : decide ((bt a0 x3_2) ≤ 57) = false := decide_eq_false c20
                      clear c20
                      by_cases c21 : ((bt a0 x3_2) = 45)
                      · rw [if_pos c21] at H
                        have c21b0 : ((bt a0 x3_2) == 45) = true := beq_iff_eq.mpr c21
                        have c21b1 : ((bt a0 x3_2) != 45) = false := bne_eq_false_iff_eq.mpr c21
                        clear c21
                        have H' := Aside0.mk H
                        clear H
                        have p12 : 0 ≤ (x3_2 : Int) := of_decide_eq_true (by first | (with_reducible assumption) | assumption)
                        have q12 : x3_2 < (a0.size : Int) := of_decide_eq_true (by first | (with_reducible assumption) | assumption)
                        have hx12 := bt_at a0 x3_2
                        replace p12 := eq_true p12
                        replace q12 := eq_true q12
                        go_wp2
                        go_roundg k2
                        case measure => have := HJ1.out; have := HK2.out; omega
                        case rel => exact ⟨(wrap64 (x3_2 + 1)), (by first | rfl | (simp; done) | (simp [*]; done)), H', ⟨by have := HJ1.out; have := HK2.out; omega⟩, by repeat (first | exact Drawn0.refl _ | apply Drawn0.step)⟩
                      · rw [if_neg c21] at H
                        have c21b0 : ((bt a0 x3_2) == 45) = false := beq_eq_false_iff_ne.mpr c21
                        have c21b1 : ((bt a0 x3_2) != 45) = true := bne_iff_ne.mpr c21
                        obtain rfl := Option.some.inj H
                        have p12 : 0 ≤ (x3_2 : Int) := of_decide_eq_true (by first | (with_reducible assumption) | assumption)
                        have q12 : x3_2 < (a0.size : Int) := of_decide_eq_true (by first | (with_reducible assumption) | assumption)
                        have hx12 := bt_at a0 x3_2
                        replace p12 := eq_true p12
                        replace q12 := eq_true q12
                        go_wp2
                        go_ret
                        exact ⟨by first | rfl | (simp; done) | (simp [*]; done), by repeat (first | exact Drawn0.refl _ | apply Drawn0.step)⟩
                  · rw [if_neg c19] at H
                    have c19b0 : decide (48 ≤ (bt a0 x3_2)) = false := decide_eq_false c19
                    clear c19
                    by_cases c22 : ((bt a0 x3_2) = 45)
                    · rw [if_pos c22] at H
                      have c22b0 : ((bt a0 x3_2) == 45) = true := beq_iff_eq.mpr c22
                      have c22b1 : ((bt a0 x3_2) != 45) = false := bne_eq_false_iff_eq.mpr c22
                      clear c22
                      have H' := Aside0.mk H
                      clear H
                      have p12 : 0 ≤ (x3_2 : Int) := of_decide_eq_true (by first | (with_reducible assumption) | assumption)
                      have q12 : x3_2 < (a0.size : Int) := of_decide_eq_true (by first | (with_reducible assumption) | assumption)
                      have hx12 := bt_at a0 x3_2
                      replace p12 := eq_true p12
                      replace q12 := eq_true q12
                      go_wp2
                      go_roundg k2
                      case measure => have := HJ1.out; have := HK2.out; omega
                      case rel => exact ⟨(wrap64 (x3_2 + 1)), (by first | rfl | (simp; done) | (simp [*]; done)), H', ⟨by have := HJ1.out; have := HK2.out; omega⟩, by repeat (first | exact Drawn0.refl _ | apply Drawn0.step)⟩
                    · rw [if_neg c22] at H
                      have c22b0 : ((bt a0 x3_2) == 45) = false := beq_eq_false_iff_ne.mpr c22
                      have c22b1 : ((bt a0 x3_2) != 45) = true := bne_iff_ne.mpr c22
                      obtain rfl := Option.some.inj H
                      have p12 : 0 ≤ (x3_2 : Int) := of_decide_eq_true (by first | (with_reducible assumption) | assumption)
                      have q12 : x3_2 < (a0.size : Int) := of_decide_eq_true (by first | (with_reducible assumption) | assumption)
                      have hx12 := bt_at a0 x3_2
                      replace p12 := eq_true p12
                      replace q12 := eq_true q12
                      go_wp2
                      go_ret
                      exact ⟨by first | rfl | (simp; done) | (simp [*]; done), by repeat (first | exact Drawn0.refl _ | apply Drawn0.step)⟩
              · rw [if_neg c11] at H
                exact absurd H (by simp)
            · rw [if_neg c10] at H
              have c10b0 : decide (x3_2 < (a0.size : Int)) = false := decide_eq_false c10
              clear c10
              obtain rfl := Option.some.inj H
              go_wp2
              go_ret
              exact ⟨by first | rfl | (simp; done) | (simp [*]; done), by repeat (first | exact Drawn0.refl _ | apply Drawn0.step)⟩

-- NOT PRINTED: function 47 (granaryref6_set)

/-! ### granaryref6_Parts: function 49 -/
def granaryref6_Parts.l0 : Nat → Int → Int → ByteArray → Int → Int → Int → Int → Int → Int → Int → Int → Int → Int → Int → Int → Int → Int → Int → Int → Int → Int → Int → Int → Int → List (S56) → Option (Int)
  | 0, _, _, _, _, _, _, _, _, _, _, _, _, _, _, _, _, _, _, _, _, _, _, _, _, _ => none
  | k + 1, x3, x4, x134000, x134001, x134002, x134003, x134004, x134005, x134006, x134007, x134008, x134009, x134010, x134011, x134012, x134013, x134014, x134015, x134016, x134017, x134018, x134019, x134020, x134021, x134022 => if x4 < (x134022.length : Int) then (if 0 ≤ x4 then (granaryref6_Parts.l0 k (wrap64 (x3 + (((rd_T56 x134022 x4).f1).length : Int))) (wrap64 (x4 + 1)) x134000 x134001 x134002 x134003 x134004 x134005 x134006 x134007 x134008 x134009 x134010 x134011 x134012 x134013 x134014 x134015 x134016 x134017 x134018 x134019 x134020 x134021 x134022) else (none)) else (some x3)
def granaryref6_Parts.f (k : Nat) (a0_0 : ByteArray) (a0_1 : Int) (a0_2 : Int) (a0_3 : Int) (a0_4 : Int) (a0_5 : Int) (a0_6 : Int) (a0_7 : Int) (a0_8 : Int) (a0_9 : Int) (a0_10 : Int) (a0_11 : Int) (a0_12 : Int) (a0_13 : Int) (a0_14 : Int) (a0_15 : Int) (a0_16 : Int) (a0_17 : Int) (a0_18 : Int) (a0_19 : Int) (a0_20 : Int) (a0_21 : Int) (l0_22 : List (S56)) : Option (Int) := granaryref6_Parts.l0 k 0 0 a0_0 a0_1 a0_2 a0_3 a0_4 a0_5 a0_6 a0_7 a0_8 a0_9 a0_10 a0_11 a0_12 a0_13 a0_14 a0_15 a0_16 a0_17 a0_18 a0_19 a0_20 a0_21 l0_22
theorem granaryref6_Parts.mono_l : ∀ k, (∀ y0 y1 y2 y3 y4 y5 y6 y7 y8 y9 y10 y11 y12 y13 y14 y15 y16 y17 y18 y19 y20 y21 y22 y23 y24, LeO (granaryref6_Parts.l0 k y0 y1 y2 y3 y4 y5 y6 y7 y8 y9 y10 y11 y12 y13 y14 y15 y16 y17 y18 y19 y20 y21 y22 y23 y24) (granaryref6_Parts.l0 (k + 1) y0 y1 y2 y3 y4 y5 y6 y7 y8 y9 y10 y11 y12 y13 y14 y15 y16 y17 y18 y19 y20 y21 y22 y23 y24))
  | 0 => fun _ _ _ _ _ _ _ _ _ _ _ _ _ _ _ _ _ _ _ _ _ _ _ _ _ r h => by simp [granaryref6_Parts.l0] at h
  | k + 1 => by
    have ih0 := granaryref6_Parts.mono_l k
    · intro y0 y1 y2 y3 y4 y5 y6 y7 y8 y9 y10 y11 y12 y13 y14 y15 y16 y17 y18 y19 y20 y21 y22 y23 y24
      unfold granaryref6_Parts.l0
      repeat' first
      | (with_reducible exact ih0 _ _ _ _ _ _ _ _ _ _ _ _ _ _ _ _ _ _ _ _ _ _ _ _ _)
      | (with_reducible exact LeO.refl _)
      | (with_reducible exact LeO.none _)
      | (with_reducible refine LeO.ite ?_ ?_)
      | (with_reducible refine LeO.bind ?_ (fun _ => ?_))
      | exact ih0 _ _ _ _ _ _ _ _ _ _ _ _ _ _ _ _ _ _ _ _ _ _ _ _ _
      | exact LeO.none _
      | refine LeO.ite ?_ ?_
      | refine LeO.bind ?_ (fun _ => ?_)
theorem granaryref6_Parts.mono : ∀ a0 a1 a2 a3 a4 a5 a6 a7 a8 a9 a10 a11 a12 a13 a14 a15 a16 a17 a18 a19 a20 a21 a22 k, LeO (granaryref6_Parts.f k a0 a1 a2 a3 a4 a5 a6 a7 a8 a9 a10 a11 a12 a13 a14 a15 a16 a17 a18 a19 a20 a21 a22) (granaryref6_Parts.f (k + 1) a0 a1 a2 a3 a4 a5 a6 a7 a8 a9 a10 a11 a12 a13 a14 a15 a16 a17 a18 a19 a20 a21 a22) := by
  intro a0 a1 a2 a3 a4 a5 a6 a7 a8 a9 a10 a11 a12 a13 a14 a15 a16 a17 a18 a19 a20 a21 a22 k
  have ih0 := granaryref6_Parts.mono_l k
  unfold granaryref6_Parts.f
  repeat' first
      | (with_reducible exact ih0 _ _ _ _ _ _ _ _ _ _ _ _ _ _ _ _ _ _ _ _ _ _ _ _ _)
      | (with_reducible exact LeO.refl _)
      | (with_reducible exact LeO.none _)
      | (with_reducible refine LeO.ite ?_ ?_)
      | (with_reducible refine LeO.bind ?_ (fun _ => ?_))
      | exact ih0 _ _ _ _ _ _ _ _ _ _ _ _ _ _ _ _ _ _ _ _ _ _ _ _ _
      | exact LeO.none _
      | refine LeO.ite ?_ ?_
      | refine LeO.bind ?_ (fun _ => ?_)
set_option maxHeartbeats 8000000 in
set_option maxRecDepth 100000 in
theorem granaryref6_Parts.calls (k : Nat) (a0_0 : ByteArray) (a0_1 : Int) (a0_2 : Int) (a0_3 : Int) (a0_4 : Int) (a0_5 : Int) (a0_6 : Int) (a0_7 : Int) (a0_8 : Int) (a0_9 : Int) (a0_10 : Int) (a0_11 : Int) (a0_12 : Int) (a0_13 : Int) (a0_14 : Int) (a0_15 : Int) (a0_16 : Int) (a0_17 : Int) (a0_18 : Int) (a0_19 : Int) (a0_20 : Int) (a0_21 : Int) (A0_22 : Option Addr) (c0_22 : Nat) (l0_22 : List (S56)) (r : Int) (w : World) (hr0_22 : Kd.C k56 w A0_22 l0_22.length l0_22) (hc0_22 : l0_22.length ≤ c0_22) (h : granaryref6_Parts.f k a0_0 a0_1 a0_2 a0_3 a0_4 a0_5 a0_6 a0_7 a0_8 a0_9 a0_10 a0_11 a0_12 a0_13 a0_14 a0_15 a0_16 a0_17 a0_18 a0_19 a0_20 a0_21 l0_22 = some r) :
    Calls Tryd.prog 49 #[.agg #[.string a0_0, .int .i64 a0_1, .int .i64 a0_2, .int .i64 a0_3, .int .i64 a0_4, .int .i64 a0_5, .int .i64 a0_6, .int .i64 a0_7, .int .i64 a0_8, .int .i64 a0_9, .int .i64 a0_10, .int .i64 a0_11, .int .i64 a0_12, .int .i64 a0_13, .int .i64 a0_14, .int .i64 a0_15, .int .i64 a0_16, .int .i64 a0_17, .int .i64 a0_18, .int .i64 a0_19, .int .i64 a0_20, .int .i64 a0_21, .slice A0_22 l0_22.length c0_22]] w fun e w' => e = .returned (.int .i64 r) ∧ Below w.heap.size w w' := by
  have hu24 := Tryd.underlying24
  have HR0_22 := Aside0.mk hr0_22
  have HC0_22 := Aside0.mk hc0_22
  clear hr0_22 hc0_22
  have HB := Aside0.mk (Below.refl w.heap.size w)
  have H : (granaryref6_Parts.l0 k 0 0 a0_0 a0_1 a0_2 a0_3 a0_4 a0_5 a0_6 a0_7 a0_8 a0_9 a0_10 a0_11 a0_12 a0_13 a0_14 a0_15 a0_16 a0_17 a0_18 a0_19 a0_20 a0_21 l0_22) = some r := h
  clear h
  have H' := Aside0.mk H
  clear H
  go_enter Tryd.func49, Tryd.ntmps49
  go_wp2_with (first | ((with_reducible refine gate_dst (N := 1) rfl ?_); refine box_event ?hg (N := 1) ?hd (cs := #[.string a0_0, .int .i64 a0_1, .int .i64 a0_2, .int .i64 a0_3, .int .i64 a0_4, .int .i64 a0_5, .int .i64 a0_6, .int .i64 a0_7, .int .i64 a0_8, .int .i64 a0_9, .int .i64 a0_10, .int .i64 a0_11, .int .i64 a0_12, .int .i64 a0_13, .int .i64 a0_14, .int .i64 a0_15, .int .i64 a0_16, .int .i64 a0_17, .int .i64 a0_18, .int .i64 a0_19, .int .i64 a0_20, .int .i64 a0_21, .slice A0_22 l0_22.length c0_22]) (t := 24) ?hr ?_; (case hd => rfl); (case hg => rfl); (case hr => first | (go_simp; done) | (go_simp; rfl)); intro gb133 hg w2 hbox hb; have n0_ := Aside0.mk (below_step (by repeat (first | (with_reducible first | exact HB.out | apply below_alloc | apply pw_below_drewN | apply below_drew1) | exact HB.out)) hb); have n1_ := Aside0.mk (hbox); have n2_ := Aside0.mk ((by rw [hg]; exact (below_size (by repeat (first | (with_reducible first | exact HB.out | apply below_alloc | apply pw_below_drewN | apply below_drew1) | exact HB.out))) : w.heap.size ≤ gb133)); have n3_ := Aside0.mk ((by rw [hg]; exact (below_size (by repeat (first | (with_reducible first | exact HB.out | apply below_alloc | apply pw_below_drewN | apply below_drew1) | exact HB.out))) : w.heap.size ≤ gb133)); clear HB; have HB := n0_; have BK133 := n1_; have GW133 := n2_; have GE133 := n3_; clear n0_ n1_ n2_ n3_; clear hb hbox hg))
  go_loopg [3, 4] k (fun kq v3 v4 w' => ∃ (x3_1 : Int) (x4_1 : Int), v3 = .int .i64 x3_1 ∧ v4 = .int .i64 x4_1 ∧ Aside0 (granaryref6_Parts.l0 kq x3_1 x4_1 a0_0 a0_1 a0_2 a0_3 a0_4 a0_5 a0_6 a0_7 a0_8 a0_9 a0_10 a0_11 a0_12 a0_13 a0_14 a0_15 a0_16 a0_17 a0_18 a0_19 a0_20 a0_21 l0_22 = some r) ∧ Aside0 (kq ≤ k) ∧ Aside0 (w'.heap[gb133]? = some (.cells #[.string a0_0, .int .i64 a0_1, .int .i64 a0_2, .int .i64 a0_3, .int .i64 a0_4, .int .i64 a0_5, .int .i64 a0_6, .int .i64 a0_7, .int .i64 a0_8, .int .i64 a0_9, .int .i64 a0_10, .int .i64 a0_11, .int .i64 a0_12, .int .i64 a0_13, .int .i64 a0_14, .int .i64 a0_15, .int .i64 a0_16, .int .i64 a0_17, .int .i64 a0_18, .int .i64 a0_19, .int .i64 a0_20, .int .i64 a0_21, (.slice A0_22 l0_22.length c0_22)] 24 (0, 0))) ∧ Aside0 (Below w.heap.size w w'))
  case atStart => exact ⟨(0), (0), (by first | rfl | (simp; done) | (simp [*]; done)), (by first | rfl | (simp; done) | (simp [*]; done)), H', ⟨Nat.le_refl _⟩, ⟨by (with_reducible repeat (first | refine blk_drewN ?_ _ | refine blk_drew ?_ | refine blk_alloc ?_ _)); exact BK133.out⟩, ⟨by repeat (first | (with_reducible first | exact HB.out | apply below_alloc | apply pw_below_drewN | apply below_drew1 | refine below_set ?_ GE133.out) | exact HB.out)⟩⟩
  case round =>
    clear H'
    try clear p2
    obtain ⟨x3_1, x4_1, rfl, rfl, HA, HK1, BK133, HB⟩ := hrel
    cases gk with
    | zero => exact absurd HA.out (by simp [granaryref6_Parts.l0])
    | succ k1 =>
      have H := HA.out
      clear HA
      simp only [granaryref6_Parts.l0] at H
      by_cases c3 : x4_1 < (l0_22.length : Int)
      · rw [if_pos c3] at H
        have c3b0 : decide (x4_1 < (l0_22.length : Int)) = true := decide_eq_true c3
        clear c3
        by_cases c4 : 0 ≤ x4_1
        · rw [if_pos c4] at H
          have c4b0 : decide (0 ≤ x4_1) = true := decide_eq_true c4
          clear c4
          have H' := Aside0.mk H
          clear H
          have hcz5_0 : wr.cell? ⟨gb133, 0, none⟩ = some (.string a0_0) := (blk_cell BK133.out 0).trans rfl
          have hcz5_1 : wr.cell? ⟨gb133, 1, none⟩ = some (.int .i64 a0_1) := (blk_cell BK133.out 1).trans rfl
          have hcz5_2 : wr.cell? ⟨gb133, 2, none⟩ = some (.int .i64 a0_2) := (blk_cell BK133.out 2).trans rfl
          have hcz5_3 : wr.cell? ⟨gb133, 3, none⟩ = some (.int .i64 a0_3) := (blk_cell BK133.out 3).trans rfl
          have hcz5_4 : wr.cell? ⟨gb133, 4, none⟩ = some (.int .i64 a0_4) := (blk_cell BK133.out 4).trans rfl
          have hcz5_5 : wr.cell? ⟨gb133, 5, none⟩ = some (.int .i64 a0_5) := (blk_cell BK133.out 5).trans rfl
          have hcz5_6 : wr.cell? ⟨gb133, 6, none⟩ = some (.int .i64 a0_6) := (blk_cell BK133.out 6).trans rfl
          have hcz5_7 : wr.cell? ⟨gb133, 7, none⟩ = some (.int .i64 a0_7) := (blk_cell BK133.out 7).trans rfl
          have hcz5_8 : wr.cell? ⟨gb133, 8, none⟩ = some (.int .i64 a0_8) := (blk_cell BK133.out 8).trans rfl
          have hcz5_9 : wr.cell? ⟨gb133, 9, none⟩ = some (.int .i64 a0_9) := (blk_cell BK133.out 9).trans rfl
          have hcz5_10 : wr.cell? ⟨gb133, 10, none⟩ = some (.int .i64 a0_10) := (blk_cell BK133.out 10).trans rfl
          have hcz5_11 : wr.cell? ⟨gb133, 11, none⟩ = some (.int .i64 a0_11) := (blk_cell BK133.out 11).trans rfl
          have hcz5_12 : wr.cell? ⟨gb133, 12, none⟩ = some (.int .i64 a0_12) := (blk_cell BK133.out 12).trans rfl
          have hcz5_13 : wr.cell? ⟨gb133, 13, none⟩ = some (.int .i64 a0_13) := (blk_cell BK133.out 13).trans rfl
          have hcz5_14 : wr.cell? ⟨gb133, 14, none⟩ = some (.int .i64 a0_14) := (blk_cell BK133.out 14).trans rfl
          have hcz5_15 : wr.cell? ⟨gb133, 15, none⟩ = some (.int .i64 a0_15) := (blk_cell BK133.out 15).trans rfl
          have hcz5_16 : wr.cell? ⟨gb133, 16, none⟩ = some (.int .i64 a0_16) := (blk_cell BK133.out 16).trans rfl
          have hcz5_17 : wr.cell? ⟨gb133, 17, none⟩ = some (.int .i64 a0_17) := (blk_cell BK133.out 17).trans rfl
          have hcz5_18 : wr.cell? ⟨gb133, 18, none⟩ = some (.int .i64 a0_18) := (blk_cell BK133.out 18).trans rfl
          have hcz5_19 : wr.cell? ⟨gb133, 19, none⟩ = some (.int .i64 a0_19) := (blk_cell BK133.out 19).trans rfl
          have hcz5_20 : wr.cell? ⟨gb133, 20, none⟩ = some (.int .i64 a0_20) := (blk_cell BK133.out 20).trans rfl
          have hcz5_21 : wr.cell? ⟨gb133, 21, none⟩ = some (.int .i64 a0_21) := (blk_cell BK133.out 21).trans rfl
          have hcz5_22 : wr.cell? ⟨gb133, 22, none⟩ = some (.slice A0_22 l0_22.length c0_22) := (blk_cell BK133.out 22).trans rfl
          have hfz5_0 := blk_frozen BK133.out 0
          have hfz5_1 := blk_frozen BK133.out 1
          have hfz5_2 := blk_frozen BK133.out 2
          have hfz5_3 := blk_frozen BK133.out 3
          have hfz5_4 := blk_frozen BK133.out 4
          have hfz5_5 := blk_frozen BK133.out 5
          have hfz5_6 := blk_frozen BK133.out 6
          have hfz5_7 := blk_frozen BK133.out 7
          have hfz5_8 := blk_frozen BK133.out 8
          have hfz5_9 := blk_frozen BK133.out 9
          have hfz5_10 := blk_frozen BK133.out 10
          have hfz5_11 := blk_frozen BK133.out 11
          have hfz5_12 := blk_frozen BK133.out 12
          have hfz5_13 := blk_frozen BK133.out 13
          have hfz5_14 := blk_frozen BK133.out 14
          have hfz5_15 := blk_frozen BK133.out 15
          have hfz5_16 := blk_frozen BK133.out 16
          have hfz5_17 := blk_frozen BK133.out 17
          have hfz5_18 := blk_frozen BK133.out 18
          have hfz5_19 := blk_frozen BK133.out 19
          have hfz5_20 := blk_frozen BK133.out 20
          have hfz5_21 := blk_frozen BK133.out 21
          have hfz5_22 := blk_frozen BK133.out 22
          have p134 : 0 ≤ (x4_1 : Int) := of_decide_eq_true (by first | (with_reducible assumption) | assumption)
          have q134 : x4_1 < (l0_22.length : Int) := of_decide_eq_true (by first | (with_reducible assumption) | assumption)
          obtain ⟨ad134, A134_1, c134_1, e134, hx134_0, hx134_1, hl134_1, hi134_1⟩ := at_T56 HR0_22.out x4_1 p134 q134
          cases e134
          replace hx134_0 := (HB.out.cell (World.block_lt_of_cell? w _ hx134_0)).trans hx134_0
          replace hx134_1 := (HB.out.cell (World.block_lt_of_cell? w _ hx134_1)).trans hx134_1
          have HR134_1 := Aside0.mk hi134_1
          have HC134_1 := Aside0.mk hl134_1
          clear hi134_1 hl134_1
          replace p134 := eq_true p134
          replace q134 := eq_true q134
          go_wp2
          go_roundg k1
          case measure => have := HK1.out; omega
          case rel => exact ⟨(wrap64 (x3_1 + (((rd_T56 l0_22 x4_1).f1).length : Int))), (wrap64 (x4_1 + 1)), (by first | rfl | (simp; done) | (simp [*]; done)), (by first | rfl | (simp; done) | (simp [*]; done)), H', ⟨by have := HK1.out; omega⟩, ⟨by (with_reducible repeat (first | refine blk_drewN ?_ _ | refine blk_drew ?_ | refine blk_alloc ?_ _)); exact BK133.out⟩, ⟨by repeat (first | (with_reducible first | exact HB.out | apply below_alloc | apply pw_below_drewN | apply below_drew1 | refine below_set ?_ GE133.out) | exact HB.out)⟩⟩
        · rw [if_neg c4] at H
          exact absurd H (by simp)
      · rw [if_neg c3] at H
        have c3b0 : decide (x4_1 < (l0_22.length : Int)) = false := decide_eq_false c3
        clear c3
        obtain rfl := Option.some.inj H
        have hcz6_0 : wr.cell? ⟨gb133, 0, none⟩ = some (.string a0_0) := (blk_cell BK133.out 0).trans rfl
        have hcz6_1 : wr.cell? ⟨gb133, 1, none⟩ = some (.int .i64 a0_1) := (blk_cell BK133.out 1).trans rfl
        have hcz6_2 : wr.cell? ⟨gb133, 2, none⟩ = some (.int .i64 a0_2) := (blk_cell BK133.out 2).trans rfl
        have hcz6_3 : wr.cell? ⟨gb133, 3, none⟩ = some (.int .i64 a0_3) := (blk_cell BK133.out 3).trans rfl
        have hcz6_4 : wr.cell? ⟨gb133, 4, none⟩ = some (.int .i64 a0_4) := (blk_cell BK133.out 4).trans rfl
        have hcz6_5 : wr.cell? ⟨gb133, 5, none⟩ = some (.int .i64 a0_5) := (blk_cell BK133.out 5).trans rfl
        have hcz6_6 : wr.cell? ⟨gb133, 6, none⟩ = some (.int .i64 a0_6) := (blk_cell BK133.out 6).trans rfl
        have hcz6_7 : wr.cell? ⟨gb133, 7, none⟩ = some (.int .i64 a0_7) := (blk_cell BK133.out 7).trans rfl
        have hcz6_8 : wr.cell? ⟨gb133, 8, none⟩ = some (.int .i64 a0_8) := (blk_cell BK133.out 8).trans rfl
        have hcz6_9 : wr.cell? ⟨gb133, 9, none⟩ = some (.int .i64 a0_9) := (blk_cell BK133.out 9).trans rfl
        have hcz6_10 : wr.cell? ⟨gb133, 10, none⟩ = some (.int .i64 a0_10) := (blk_cell BK133.out 10).trans rfl
        have hcz6_11 : wr.cell? ⟨gb133, 11, none⟩ = some (.int .i64 a0_11) := (blk_cell BK133.out 11).trans rfl
        have hcz6_12 : wr.cell? ⟨gb133, 12, none⟩ = some (.int .i64 a0_12) := (blk_cell BK133.out 12).trans rfl
        have hcz6_13 : wr.cell? ⟨gb133, 13, none⟩ = some (.int .i64 a0_13) := (blk_cell BK133.out 13).trans rfl
        have hcz6_14 : wr.cell? ⟨gb133, 14, none⟩ = some (.int .i64 a0_14) := (blk_cell BK133.out 14).trans rfl
        have hcz6_15 : wr.cell? ⟨gb133, 15, none⟩ = some (.int .i64 a0_15) := (blk_cell BK133.out 15).trans rfl
        have hcz6_16 : wr.cell? ⟨gb133, 16, none⟩ = some (.int .i64 a0_16) := (blk_cell BK133.out 16).trans rfl
        have hcz6_17 : wr.cell? ⟨gb133, 17, none⟩ = some (.int .i64 a0_17) := (blk_cell BK133.out 17).trans rfl
        have hcz6_18 : wr.cell? ⟨gb133, 18, none⟩ = some (.int .i64 a0_18) := (blk_cell BK133.out 18).trans rfl
        have hcz6_19 : wr.cell? ⟨gb133, 19, none⟩ = some (.int .i64 a0_19) := (blk_cell BK133.out 19).trans rfl
        have hcz6_20 : wr.cell? ⟨gb133, 20, none⟩ = some (.int .i64 a0_20) := (blk_cell BK133.out 20).trans rfl
        have hcz6_21 : wr.cell? ⟨gb133, 21, none⟩ = some (.int .i64 a0_21) := (blk_cell BK133.out 21).trans rfl
        have hcz6_22 : wr.cell? ⟨gb133, 22, none⟩ = some (.slice A0_22 l0_22.length c0_22) := (blk_cell BK133.out 22).trans rfl
        have hfz6_0 := blk_frozen BK133.out 0
        have hfz6_1 := blk_frozen BK133.out 1
        have hfz6_2 := blk_frozen BK133.out 2
        have hfz6_3 := blk_frozen BK133.out 3
        have hfz6_4 := blk_frozen BK133.out 4
        have hfz6_5 := blk_frozen BK133.out 5
        have hfz6_6 := blk_frozen BK133.out 6
        have hfz6_7 := blk_frozen BK133.out 7
        have hfz6_8 := blk_frozen BK133.out 8
        have hfz6_9 := blk_frozen BK133.out 9
        have hfz6_10 := blk_frozen BK133.out 10
        have hfz6_11 := blk_frozen BK133.out 11
        have hfz6_12 := blk_frozen BK133.out 12
        have hfz6_13 := blk_frozen BK133.out 13
        have hfz6_14 := blk_frozen BK133.out 14
        have hfz6_15 := blk_frozen BK133.out 15
        have hfz6_16 := blk_frozen BK133.out 16
        have hfz6_17 := blk_frozen BK133.out 17
        have hfz6_18 := blk_frozen BK133.out 18
        have hfz6_19 := blk_frozen BK133.out 19
        have hfz6_20 := blk_frozen BK133.out 20
        have hfz6_21 := blk_frozen BK133.out 21
        have hfz6_22 := blk_frozen BK133.out 22
        go_wp2
        go_ret
        exact ⟨by first | rfl | (simp [errW_none, errW_some] <;> rfl) | (simp [*, errW_none, errW_some] <;> rfl), by repeat (first | (with_reducible first | exact HB.out | apply below_alloc | apply pw_below_drewN | apply below_drew1 | refine below_set ?_ GE133.out) | exact HB.out)⟩

end Go.Proofs.YtljjpdjknnhceaaDoor.PRingWalks

/- The document's test of a store's name. -/
set_option linter.unusedVariables false
set_option linter.unusedSimpArgs false
namespace Go.Proofs.YtljjpdjknnhceaaDoor.NamedR
open Go.RowKit Go.Proofs.YtljjpdjknnhceaaDoorW.PrintWords Go.Proofs.YtljjpdjknnhceaaDoorW.PrintLast Go.Proofs.YtljjpdjknnhceaaDoorW.PrintMore
open Go.Proofs.YtljjpdjknnhceaaDoor.Base Go.Proofs.YtljjpdjknnhceaaDoor.Name Go.Proofs.YtljjpdjknnhceaaDoor.PRingWalks
def nr (x : Nat) : Bool := decide ((97 ≤ x ∧ x ≤ 122) ∨ (48 ≤ x ∧ x ≤ 57) ∨ x = 45)
def nrAt (s : ByteArray) (i : Nat) : Bool := nr (s.data.toList.getD i 0).toNat
theorem bt_at (s : ByteArray) (i : Nat) (h : i < s.size) : bt s (i : Int) = ((s.data.toList.getD i 0).toNat : Int) := by
  rw [bt_nat s i h, List.getD_eq_getElem?_getD, getElem_list s i h]; rfl
def allR (s : ByteArray) (i : Nat) : Bool := (List.range s.size).all fun j => decide (j < i) || nrAt s j
theorem allR_iff (s : ByteArray) (i : Nat) : allR s i = true ↔ ∀ j, i ≤ j → j < s.size → nrAt s j = true := by
  unfold allR
  rw [List.all_eq_true]
  simp only [List.mem_range, Bool.or_eq_true, decide_eq_true_eq]
  exact ⟨fun h j h1 h2 => (h j h2).elim (fun e => by omega) id, fun h j h2 => if e : j < i then .inl e else .inr (h j (by omega) h2)⟩
theorem allR_no {s : ByteArray} {i : Nat} (h : ¬ ∀ j, i ≤ j → j < s.size → nrAt s j = true) : allR s i = false := by
  rw [Bool.eq_false_iff]; exact fun e => h ((allR_iff s i).1 e)
theorem named_l0 (s : ByteArray) (hs : s.size ≤ 9223372036854775806) : ∀ (d i k : Nat), s.size - i = d → i ≤ s.size → d < k → granaryref6_named.l0 k s (i : Int) = some (allR s i)
  | 0, i, k, hd, hi, hk => by
    obtain ⟨k, rfl⟩ : ∃ m, k = m + 1 := ⟨k - 1, by omega⟩
    simp only [granaryref6_named.l0]
    rw [if_neg (by omega), (allR_iff s i).2 (fun j h1 h2 => by omega)]
  | d + 1, i, k, hd, hi, hk => by
    obtain ⟨k, rfl⟩ : ∃ m, k = m + 1 := ⟨k - 1, by omega⟩
    have ih := named_l0 s hs d (i + 1) k (by omega) (by omega) (by omega)
    have e : wrap64 ((i : Int) + 1) = ((i + 1 : Nat) : Int) := by unfold wrap64; omega
    obtain ⟨x, hx⟩ : ∃ x : Nat, x = (s.data.toList.getD i 0).toNat := ⟨_, rfl⟩
    simp only [granaryref6_named.l0]
    rw [if_pos (by omega), if_pos (by omega), bt_at s i (by omega), e, ih, ← hx]
    by_cases hn : nrAt s i = true
    · have : allR s i = allR s (i + 1) := by
        rw [Bool.eq_iff_iff, allR_iff, allR_iff]
        refine ⟨fun h j h1 h2 => h j (by omega) h2, fun h j h1 h2 => ?_⟩
        by_cases e : j = i
        · rw [e]; exact hn
        · exact h j (by omega) h2
      rw [this]
      unfold nrAt at hn
      rw [← hx] at hn
      unfold nr at hn
      have hn := of_decide_eq_true hn
      repeat (first | rfl | (exfalso; omega) | split)
    · have : allR s i = false := allR_no (fun h => hn (h i (Nat.le_refl _) (by omega)))
      rw [this]
      have hn' : nrAt s i = false := by simpa using hn
      unfold nrAt at hn'
      rw [← hx] at hn'
      unfold nr at hn'
      have hn' := of_decide_eq_false hn'
      repeat (first | rfl | (exfalso; omega) | split)
theorem named_f (s : ByteArray) (hs : s.size ≤ 9223372036854775806) : ∃ k, granaryref6_named.f k s = some (nmB s) := by
  refine ⟨s.size + 2, ?_⟩
  have hl := named_l0 s hs s.size 0 (s.size + 1) (by omega) (by omega) (by omega)
  have hj : ∀ b, granaryref6_named.j0 (s.size + 2) s b = if b = true then some false else granaryref6_named.l0 (s.size + 1) s 0 := fun b => rfl
  unfold granaryref6_named.f
  simp only [hj]
  have hz : s.toList = [] ↔ s.size = 0 := by
    constructor
    · intro h
      have := congrArg List.length h
      rw [ByteArray.toList_eq, data_length] at this
      simpa using this
    · intro h
      rw [ByteArray.toList_eq]
      exact List.eq_nil_of_length_eq_zero (by rw [data_length]; exact h)
  by_cases h0 : s.size = 0
  · rw [if_pos (hz.2 h0), nmB_size (by omega)]; rfl
  rw [if_neg (fun h => h0 (hz.1 h))]
  by_cases h40 : (s.size : Int) > 40
  · rw [if_pos h40, nmB_size (by omega)]; rfl
  have e0 : bt s (0 : Int) = ((s.data.toList.getD 0 0).toNat : Int) := bt_at s 0 (by omega)
  have hl0 : granaryref6_named.l0 (s.size + 1) s 0 = some (allR s 0) := hl
  rw [if_neg h40, if_pos (by omega), e0, hl0]
  obtain ⟨x, hx⟩ : ∃ x : Nat, x = (s.data.toList.getD 0 0).toNat := ⟨_, rfl⟩
  rw [← hx]
  have h0' : nbAt s 0 = nb x 0 := by unfold nbAt; rw [hx]
  by_cases hlet : 97 ≤ x ∧ x ≤ 122
  · rw [if_neg (by omega), if_neg (by simp; omega)]
    congr 1
    by_cases ha : ∀ j, 0 ≤ j → j < s.size → nrAt s j = true
    · rw [(allR_iff s 0).2 ha, nmB_true ⟨by omega, by omega⟩ (fun i hi => ?_)]
      by_cases e : i = 0
      · rw [e, h0']; unfold nb; exact decide_eq_true (.inl hlet)
      · have := ha i (Nat.zero_le _) hi
        unfold nrAt nr at this
        have := of_decide_eq_true this
        unfold nbAt nb
        exact decide_eq_true (by omega)
    · rw [allR_no ha]
      have : ∃ j, j < s.size ∧ nrAt s j = false := by
        refine Classical.byContradiction fun hn => ha fun j _ hj => ?_
        cases hb : nrAt s j with
        | true => rfl
        | false => exact absurd ⟨j, hj, hb⟩ hn
      obtain ⟨j, hj, hb⟩ := this
      refine (nmB_false hj ?_).symm
      unfold nrAt nr at hb
      have := of_decide_eq_false hb
      unfold nbAt nb
      exact decide_eq_false (by omega)
  · have hf : nmB s = false := nmB_false (show 0 < s.size by omega) (by rw [h0']; unfold nb; exact decide_eq_false (by omega))
    rw [hf]
    by_cases hx1 : (x : Int) < 97
    · rw [if_pos hx1]; rfl
    · rw [if_neg hx1, if_pos (by simp; omega)]
theorem named_any (s : ByteArray) (w : World) (hs : s.size ≤ 2147483647) : Calls Tryd.prog 46 #[.string s] w fun e w' => e = .returned (.bool (nmB s)) ∧ Drawn0 w w' := by
  obtain ⟨k, hk⟩ := named_f s (by omega)
  exact granaryref6_named.calls k s _ w hk
end Go.Proofs.YtljjpdjknnhceaaDoor.NamedR
