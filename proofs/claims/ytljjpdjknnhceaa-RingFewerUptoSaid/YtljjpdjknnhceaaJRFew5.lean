/- Joined texts of this claim: FewR -/
import Derived.Test.YtljjpdjknnhceaaJRFew4
/- RingFewer's regions that draw their order. -/
set_option linter.unusedVariables false
set_option linter.unusedSimpArgs false
namespace Go.Proofs.Ytljjpdjknnhceaa.FewR
open Go.RowKit Go.Proofs.YtljjpdjknnhceaaW.PrintWords Go.Proofs.YtljjpdjknnhceaaW.PrintLast Go.Proofs.YtljjpdjknnhceaaW.PrintMore
open Go.Proofs.Ytljjpdjknnhceaa.Base Go.Proofs.Ytljjpdjknnhceaa.App Go.Proofs.Ytljjpdjknnhceaa.RingPure Go.Proofs.Ytljjpdjknnhceaa.ChkPure Go.Proofs.Ytljjpdjknnhceaa.Clus Go.Proofs.Ytljjpdjknnhceaa.Mids Go.Proofs.Ytljjpdjknnhceaa.Chkd Go.Proofs.Ytljjpdjknnhceaa.AppR Go.Proofs.Ytljjpdjknnhceaa.Twin Go.Proofs.Ytljjpdjknnhceaa.TwinW Go.Proofs.Ytljjpdjknnhceaa.RegA Go.Proofs.Ytljjpdjknnhceaa.FewKit
set_option maxRecDepth 100000 in
set_option maxHeartbeats 4000000 in
theorem few15 (Q : Exit → Act → World → Prop) (a0 : Act) (wi : World) (bq bo nq no cq co k : Nat) (x : Int) (hlbq : bq < wi.heap.size) (hcbq : wi.cell? ⟨bq, k, none⟩ = some (.int .i64 x)) (hk1 : k < nq) (hlbo : bo < wi.heap.size) (hcbo : wi.cell? ⟨bo, k, none⟩ = some (.int .i64 x)) (hk2 : k < no) (hkb : k ≤ 1024)
    (hN : a0.tmps.size = 119) (h10 : a0.tmps.getD 10 undef = .slice (some ⟨bq, 0, none⟩) nq cq) (h8 : a0.tmps.getD 8 undef = .slice (some ⟨bo, 0, none⟩) no co) (h14 : a0.tmps.getD 14 undef = .int .i64 ((k : Nat) : Int))
    (hQ : ∀ wv : World, Below wi.heap.size wi wv → Q .normal (putV [(some 93, .slice (some ⟨bq, 0, none⟩) nq cq), (some 94, .int .i64 ((k : Nat) : Int)), (some 95, .pointer (some ⟨bq, k, none⟩)), (some 96, .int .i64 x), (some 97, .slice (some ⟨bo, 0, none⟩) no co), (some 98, .int .i64 ((k : Nat) : Int)), (some 99, .pointer (some ⟨bo, k, none⟩)), (some 100, .int .i64 x), (some 101, .bool false)] a0) wv) :
    Code.wp Try.prog (regC 15 Try.f3) Q a0 wi := by
  conv => arg 2; whnf
  refine Reg.wp_region_rel _ (by kernel_rfl) _ _ _ hN (by kernel_rfl) (fun w' => Below wi.heap.size wi w') (fun _ w w' => Below w.heap.size w w') (fun jq vs w' => match jq with
    | 0 => vs 0 = .slice (some ⟨bq, 0, none⟩) nq cq
    | 1 => vs 1 = .int .i64 ((k : Nat) : Int)
    | 2 => vs 2 = .pointer (some ⟨bq, k, none⟩)
    | 3 => vs 3 = .int .i64 x
    | 4 => vs 4 = .slice (some ⟨bo, 0, none⟩) no co
    | 5 => vs 5 = .int .i64 ((k : Nat) : Int)
    | 6 => vs 6 = .pointer (some ⟨bo, k, none⟩)
    | 7 => vs 7 = .int .i64 x
    | 8 => vs 8 = .bool false
    | _ => True) (below_drew (Below.refl _ _)) ?_ ?_ ?_ ?_
  · intro i j vs w0 w' hij hI hR hb
    rcases j with _ | j
    · exact hR
    rcases j with _ | j
    · exact hR
    rcases j with _ | j
    · exact hR
    rcases j with _ | j
    · exact hR
    rcases j with _ | j
    · exact hR
    rcases j with _ | j
    · exact hR
    rcases j with _ | j
    · exact hR
    rcases j with _ | j
    · exact hR
    rcases j with _ | j
    · exact hR
    exact trivial
  · intro j o vs vs1 w0 ho he hp hR
    rcases j with _ | j
    · exact he.trans hR
    rcases j with _ | j
    · exact he.trans hR
    rcases j with _ | j
    · exact he.trans hR
    rcases j with _ | j
    · exact he.trans hR
    rcases j with _ | j
    · exact he.trans hR
    rcases j with _ | j
    · exact he.trans hR
    rcases j with _ | j
    · exact he.trans hR
    rcases j with _ | j
    · exact he.trans hR
    rcases j with _ | j
    · exact he.trans hR
    exact trivial
  · skip
    refine Reg.allOps_cons ?_ ?_
    · intro vs w0 ρ hρ hcst hglb hfun hI hp
      have e10 : ρ (.tmp 10) = .slice (some ⟨bq, 0, none⟩) nq cq := (hρ (.tmp 10)).trans h10
      clear hρ hp
      refine Reg.rel_value (.slice (some ⟨bq, 0, none⟩) nq cq) ?_ ⟨hI, rfl⟩
      go_simp
    refine Reg.allOps_cons ?_ ?_
    · intro vs w0 ρ hρ hcst hglb hfun hI hp
      have e14 : ρ (.tmp 14) = .int .i64 ((k : Nat) : Int) := (hρ (.tmp 14)).trans h14
      clear hρ hp
      refine Reg.rel_value (.int .i64 ((k : Nat) : Int)) ?_ ⟨hI, rfl⟩
      go_simp
    refine Reg.allOps_cons ?_ ?_
    · intro vs w0 ρ hρ hcst hglb hfun hI hp
      have e93 : ρ (.tmp 93) = .slice (some ⟨bq, 0, none⟩) nq cq := (hρ (.tmp 93)).trans (show vs 0 = .slice (some ⟨bq, 0, none⟩) nq cq from hp 0 rfl)
      have e94 : ρ (.tmp 94) = .int .i64 ((k : Nat) : Int) := (hρ (.tmp 94)).trans (show vs 1 = .int .i64 ((k : Nat) : Int) from hp 1 rfl)
      clear hρ hp
      refine Reg.rel_value (.pointer (some ⟨bq, k, none⟩)) ?_ ⟨hI, rfl⟩
      go_simp
    refine Reg.allOps_cons ?_ ?_
    · intro vs w0 ρ hρ hcst hglb hfun hI hp
      have e95 : ρ (.tmp 95) = .pointer (some ⟨bq, k, none⟩) := (hρ (.tmp 95)).trans (show vs 2 = .pointer (some ⟨bq, k, none⟩) from hp 2 rfl)
      clear hρ hp
      have hl2 : w0.cell? ⟨bq, k, none⟩ = some (.int .i64 x) := (World.cell?_of_block (hI.block bq hlbq)).trans hcbq
      refine Reg.rel_value (.int .i64 x) ?_ ⟨hI, rfl⟩
      go_simp
    refine Reg.allOps_cons ?_ ?_
    · intro vs w0 ρ hρ hcst hglb hfun hI hp
      have e8 : ρ (.tmp 8) = .slice (some ⟨bo, 0, none⟩) no co := (hρ (.tmp 8)).trans h8
      clear hρ hp
      refine Reg.rel_value (.slice (some ⟨bo, 0, none⟩) no co) ?_ ⟨hI, rfl⟩
      go_simp
    refine Reg.allOps_cons ?_ ?_
    · intro vs w0 ρ hρ hcst hglb hfun hI hp
      have e14 : ρ (.tmp 14) = .int .i64 ((k : Nat) : Int) := (hρ (.tmp 14)).trans h14
      clear hρ hp
      refine Reg.rel_value (.int .i64 ((k : Nat) : Int)) ?_ ⟨hI, rfl⟩
      go_simp
    refine Reg.allOps_cons ?_ ?_
    · intro vs w0 ρ hρ hcst hglb hfun hI hp
      have e97 : ρ (.tmp 97) = .slice (some ⟨bo, 0, none⟩) no co := (hρ (.tmp 97)).trans (show vs 4 = .slice (some ⟨bo, 0, none⟩) no co from hp 4 rfl)
      have e98 : ρ (.tmp 98) = .int .i64 ((k : Nat) : Int) := (hρ (.tmp 98)).trans (show vs 5 = .int .i64 ((k : Nat) : Int) from hp 5 rfl)
      clear hρ hp
      refine Reg.rel_value (.pointer (some ⟨bo, k, none⟩)) ?_ ⟨hI, rfl⟩
      go_simp
    refine Reg.allOps_cons ?_ ?_
    · intro vs w0 ρ hρ hcst hglb hfun hI hp
      have e99 : ρ (.tmp 99) = .pointer (some ⟨bo, k, none⟩) := (hρ (.tmp 99)).trans (show vs 6 = .pointer (some ⟨bo, k, none⟩) from hp 6 rfl)
      clear hρ hp
      have hl2 : w0.cell? ⟨bo, k, none⟩ = some (.int .i64 x) := (World.cell?_of_block (hI.block bo hlbo)).trans hcbo
      refine Reg.rel_value (.int .i64 x) ?_ ⟨hI, rfl⟩
      go_simp
    refine Reg.allOps_cons ?_ ?_
    · intro vs w0 ρ hρ hcst hglb hfun hI hp
      have e96 : ρ (.tmp 96) = .int .i64 x := (hρ (.tmp 96)).trans (show vs 3 = .int .i64 x from hp 3 rfl)
      have e100 : ρ (.tmp 100) = .int .i64 x := (hρ (.tmp 100)).trans (show vs 7 = .int .i64 x from hp 7 rfl)
      clear hρ hp
      refine Reg.rel_value (.bool false) ?_ ⟨hI, rfl⟩
      go_simp
    exact Reg.allOps_nil
  intro vs w0 hI hR
  have r0 : vs 0 = .slice (some ⟨bq, 0, none⟩) nq cq := hR 0 (by decide)
  have r1 : vs 1 = .int .i64 ((k : Nat) : Int) := hR 1 (by decide)
  have r2 : vs 2 = .pointer (some ⟨bq, k, none⟩) := hR 2 (by decide)
  have r3 : vs 3 = .int .i64 x := hR 3 (by decide)
  have r4 : vs 4 = .slice (some ⟨bo, 0, none⟩) no co := hR 4 (by decide)
  have r5 : vs 5 = .int .i64 ((k : Nat) : Int) := hR 5 (by decide)
  have r6 : vs 6 = .pointer (some ⟨bo, k, none⟩) := hR 6 (by decide)
  have r7 : vs 7 = .int .i64 x := hR 7 (by decide)
  have r8 : vs 8 = .bool false := hR 8 (by decide)
  have hq := hQ w0 hI
  simp only [RegA.putV, Act.put] at hq
  simp only [Reg.fillFrom, Act.put, r0, r1, r2, r3, r4, r5, r6, r7, r8]
  exact hq
set_option maxRecDepth 100000 in
set_option maxHeartbeats 4000000 in
theorem few20 (Q : Exit → Act → World → Prop) (a0 : Act) (wi : World) (bw bo nw no cw co k g5 n cap : Nat) (c : Cl) (A : Option Addr) (t x : Int) (hlbw : bw < wi.heap.size) (hcbw : wi.cell? ⟨bw, k, none⟩ = some (.int .i64 t)) (hk1 : k < nw) (hlbo : bo < wi.heap.size) (hcbo : wi.cell? ⟨bo, k, none⟩ = some (.int .i64 x)) (hk2 : k < no) (hkb : k ≤ 1024)
    (hg5 : wi.heap[g5]? = some (.cells (cL c (.slice A n cap)).toArray 27 (0, 0)))
    (hhome : ∀ wx : World, Below wi.heap.size wi wx → Calls Try.prog 11 #[.agg (cL c (.slice A n cap)).toArray, .int .i64 t] wx fun e w' => e = .returned (.int .i64 x) ∧ Below wx.heap.size wx w')
    (hN : a0.tmps.size = 119) (h12 : a0.tmps.getD 12 undef = .slice (some ⟨bw, 0, none⟩) nw cw) (h8 : a0.tmps.getD 8 undef = .slice (some ⟨bo, 0, none⟩) no co) (h15 : a0.tmps.getD 15 undef = .int .i64 ((k : Nat) : Int)) (h5 : a0.tmps.getD 5 undef = .pointer (some ⟨g5, 0, none⟩))
    (hQ : ∀ wv : World, Below wi.heap.size wi wv → Q .normal (putV [(some 108, .agg (cL c (.slice A n cap)).toArray), (some 109, .slice (some ⟨bw, 0, none⟩) nw cw), (some 110, .int .i64 ((k : Nat) : Int)), (some 111, .pointer (some ⟨bw, k, none⟩)), (some 112, .int .i64 t), (some 113, .int .i64 x), (some 114, .slice (some ⟨bo, 0, none⟩) no co), (some 115, .int .i64 ((k : Nat) : Int)), (some 116, .pointer (some ⟨bo, k, none⟩)), (some 117, .int .i64 x), (some 118, .bool false)] a0) wv) :
    Code.wp Try.prog (regC 20 Try.f3) Q a0 wi := by
  conv => arg 2; whnf
  refine Reg.wp_region_rel _ (by kernel_rfl) _ _ _ hN (by kernel_rfl) (fun w' => Below wi.heap.size wi w') (fun _ w w' => Below w.heap.size w w') (fun jq vs w' => match jq with
    | 0 => vs 0 = .agg (cL c (.slice A n cap)).toArray
    | 1 => vs 1 = .slice (some ⟨bw, 0, none⟩) nw cw
    | 2 => vs 2 = .int .i64 ((k : Nat) : Int)
    | 3 => vs 3 = .pointer (some ⟨bw, k, none⟩)
    | 4 => vs 4 = .int .i64 t
    | 5 => vs 5 = .int .i64 x
    | 6 => vs 6 = .slice (some ⟨bo, 0, none⟩) no co
    | 7 => vs 7 = .int .i64 ((k : Nat) : Int)
    | 8 => vs 8 = .pointer (some ⟨bo, k, none⟩)
    | 9 => vs 9 = .int .i64 x
    | 10 => vs 10 = .bool false
    | _ => True) (below_drew (Below.refl _ _)) ?_ ?_ ?_ ?_
  · intro i j vs w0 w' hij hI hR hb
    rcases j with _ | j
    · exact hR
    rcases j with _ | j
    · exact hR
    rcases j with _ | j
    · exact hR
    rcases j with _ | j
    · exact hR
    rcases j with _ | j
    · exact hR
    rcases j with _ | j
    · exact hR
    rcases j with _ | j
    · exact hR
    rcases j with _ | j
    · exact hR
    rcases j with _ | j
    · exact hR
    rcases j with _ | j
    · exact hR
    rcases j with _ | j
    · exact hR
    exact trivial
  · intro j o vs vs1 w0 ho he hp hR
    rcases j with _ | j
    · exact he.trans hR
    rcases j with _ | j
    · exact he.trans hR
    rcases j with _ | j
    · exact he.trans hR
    rcases j with _ | j
    · exact he.trans hR
    rcases j with _ | j
    · exact he.trans hR
    rcases j with _ | j
    · exact he.trans hR
    rcases j with _ | j
    · exact he.trans hR
    rcases j with _ | j
    · exact he.trans hR
    rcases j with _ | j
    · exact he.trans hR
    rcases j with _ | j
    · exact he.trans hR
    rcases j with _ | j
    · exact he.trans hR
    exact trivial
  · skip
    refine Reg.allOps_cons ?_ ?_
    · intro vs w0 ρ hρ hcst hglb hfun hI hp
      have e5 : ρ (.tmp 5) = .pointer (some ⟨g5, 0, none⟩) := (hρ (.tmp 5)).trans h5
      clear hρ hp
      refine Reg.rel_value (.agg (cL c (.slice A n cap)).toArray) (exec_load_mid 27 (.tmp 5) rfl g5 0 e5 _ _ (blk_range ((hI.block _ (blk_lt hg5)).trans hg5)) Try.underlying27 rfl infoC23) ⟨hI, rfl⟩
    refine Reg.allOps_cons ?_ ?_
    · intro vs w0 ρ hρ hcst hglb hfun hI hp
      have e12 : ρ (.tmp 12) = .slice (some ⟨bw, 0, none⟩) nw cw := (hρ (.tmp 12)).trans h12
      clear hρ hp
      refine Reg.rel_value (.slice (some ⟨bw, 0, none⟩) nw cw) ?_ ⟨hI, rfl⟩
      go_simp
    refine Reg.allOps_cons ?_ ?_
    · intro vs w0 ρ hρ hcst hglb hfun hI hp
      have e15 : ρ (.tmp 15) = .int .i64 ((k : Nat) : Int) := (hρ (.tmp 15)).trans h15
      clear hρ hp
      refine Reg.rel_value (.int .i64 ((k : Nat) : Int)) ?_ ⟨hI, rfl⟩
      go_simp
    refine Reg.allOps_cons ?_ ?_
    · intro vs w0 ρ hρ hcst hglb hfun hI hp
      have e109 : ρ (.tmp 109) = .slice (some ⟨bw, 0, none⟩) nw cw := (hρ (.tmp 109)).trans (show vs 1 = .slice (some ⟨bw, 0, none⟩) nw cw from hp 1 rfl)
      have e110 : ρ (.tmp 110) = .int .i64 ((k : Nat) : Int) := (hρ (.tmp 110)).trans (show vs 2 = .int .i64 ((k : Nat) : Int) from hp 2 rfl)
      clear hρ hp
      refine Reg.rel_value (.pointer (some ⟨bw, k, none⟩)) ?_ ⟨hI, rfl⟩
      go_simp
    refine Reg.allOps_cons ?_ ?_
    · intro vs w0 ρ hρ hcst hglb hfun hI hp
      have e111 : ρ (.tmp 111) = .pointer (some ⟨bw, k, none⟩) := (hρ (.tmp 111)).trans (show vs 3 = .pointer (some ⟨bw, k, none⟩) from hp 3 rfl)
      clear hρ hp
      have hl2 : w0.cell? ⟨bw, k, none⟩ = some (.int .i64 t) := (World.cell?_of_block (hI.block bw hlbw)).trans hcbw
      refine Reg.rel_value (.int .i64 t) ?_ ⟨hI, rfl⟩
      go_simp
    refine Reg.allOps_cons ?_ ?_
    · intro vs w0 ρ hρ hcst hglb hfun hI hp
      have e108 : ρ (.tmp 108) = .agg (cL c (.slice A n cap)).toArray := (hρ (.tmp 108)).trans (show vs 0 = .agg (cL c (.slice A n cap)).toArray from hp 0 rfl)
      have e112 : ρ (.tmp 112) = .int .i64 t := (hρ (.tmp 112)).trans (show vs 4 = .int .i64 t from hp 4 rfl)
      clear hρ hp
      refine Reg.rel_call Try.func11 (by kernel_rfl) rfl #[.agg (cL c (.slice A n cap)).toArray, .int .i64 t] rfl (hfun _) (by simp [e108, e112]) ?_
      refine (hhome w0 hI).mono ?_
      rintro e w3 ⟨rfl, hb⟩
      exact ⟨_, rfl, hb, hI.trans (hb.mono hI.size), rfl⟩
    refine Reg.allOps_cons ?_ ?_
    · intro vs w0 ρ hρ hcst hglb hfun hI hp
      have e8 : ρ (.tmp 8) = .slice (some ⟨bo, 0, none⟩) no co := (hρ (.tmp 8)).trans h8
      clear hρ hp
      refine Reg.rel_value (.slice (some ⟨bo, 0, none⟩) no co) ?_ ⟨hI, rfl⟩
      go_simp
    refine Reg.allOps_cons ?_ ?_
    · intro vs w0 ρ hρ hcst hglb hfun hI hp
      have e15 : ρ (.tmp 15) = .int .i64 ((k : Nat) : Int) := (hρ (.tmp 15)).trans h15
      clear hρ hp
      refine Reg.rel_value (.int .i64 ((k : Nat) : Int)) ?_ ⟨hI, rfl⟩
      go_simp
    refine Reg.allOps_cons ?_ ?_
    · intro vs w0 ρ hρ hcst hglb hfun hI hp
      have e114 : ρ (.tmp 114) = .slice (some ⟨bo, 0, none⟩) no co := (hρ (.tmp 114)).trans (show vs 6 = .slice (some ⟨bo, 0, none⟩) no co from hp 6 rfl)
      have e115 : ρ (.tmp 115) = .int .i64 ((k : Nat) : Int) := (hρ (.tmp 115)).trans (show vs 7 = .int .i64 ((k : Nat) : Int) from hp 7 rfl)
      clear hρ hp
      refine Reg.rel_value (.pointer (some ⟨bo, k, none⟩)) ?_ ⟨hI, rfl⟩
      go_simp
    refine Reg.allOps_cons ?_ ?_
    · intro vs w0 ρ hρ hcst hglb hfun hI hp
      have e116 : ρ (.tmp 116) = .pointer (some ⟨bo, k, none⟩) := (hρ (.tmp 116)).trans (show vs 8 = .pointer (some ⟨bo, k, none⟩) from hp 8 rfl)
      clear hρ hp
      have hl2 : w0.cell? ⟨bo, k, none⟩ = some (.int .i64 x) := (World.cell?_of_block (hI.block bo hlbo)).trans hcbo
      refine Reg.rel_value (.int .i64 x) ?_ ⟨hI, rfl⟩
      go_simp
    refine Reg.allOps_cons ?_ ?_
    · intro vs w0 ρ hρ hcst hglb hfun hI hp
      have e113 : ρ (.tmp 113) = .int .i64 x := (hρ (.tmp 113)).trans (show vs 5 = .int .i64 x from hp 5 rfl)
      have e117 : ρ (.tmp 117) = .int .i64 x := (hρ (.tmp 117)).trans (show vs 9 = .int .i64 x from hp 9 rfl)
      clear hρ hp
      refine Reg.rel_value (.bool false) ?_ ⟨hI, rfl⟩
      go_simp
    exact Reg.allOps_nil
  intro vs w0 hI hR
  have r0 : vs 0 = .agg (cL c (.slice A n cap)).toArray := hR 0 (by decide)
  have r1 : vs 1 = .slice (some ⟨bw, 0, none⟩) nw cw := hR 1 (by decide)
  have r2 : vs 2 = .int .i64 ((k : Nat) : Int) := hR 2 (by decide)
  have r3 : vs 3 = .pointer (some ⟨bw, k, none⟩) := hR 3 (by decide)
  have r4 : vs 4 = .int .i64 t := hR 4 (by decide)
  have r5 : vs 5 = .int .i64 x := hR 5 (by decide)
  have r6 : vs 6 = .slice (some ⟨bo, 0, none⟩) no co := hR 6 (by decide)
  have r7 : vs 7 = .int .i64 ((k : Nat) : Int) := hR 7 (by decide)
  have r8 : vs 8 = .pointer (some ⟨bo, k, none⟩) := hR 8 (by decide)
  have r9 : vs 9 = .int .i64 x := hR 9 (by decide)
  have r10 : vs 10 = .bool false := hR 10 (by decide)
  have hq := hQ w0 hI
  simp only [RegA.putV, Act.put] at hq
  simp only [Reg.fillFrom, Act.put, r0, r1, r2, r3, r4, r5, r6, r7, r8, r9, r10]
  exact hq
end Go.Proofs.Ytljjpdjknnhceaa.FewR
