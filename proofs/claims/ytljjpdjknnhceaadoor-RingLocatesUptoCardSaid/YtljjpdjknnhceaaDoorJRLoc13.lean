/- Joined texts of this claim: LocR, Loc, RefPure, RefBlock, RefTail -/
import Derived.Test.YtljjpdjknnhceaaDoorJRLoc11
import Derived.Test.YtljjpdjknnhceaaDoorJRLoc12
import Derived.Test.YtljjpdjknnhceaaDoorJRLoc10
import Derived.Test.YtljjpdjknnhceaaDoorJRLoc8
import Derived.Test.YtljjpdjknnhceaaDoorJRLoc9
import Derived.BigQuiet
set_option linter.unusedVariables false
set_option linter.unusedSimpArgs false
/- Locate's regions that draw their order. -/
set_option linter.unusedVariables false
set_option linter.unusedSimpArgs false
namespace Go.Proofs.YtljjpdjknnhceaaDoor.LocR
open Go.RowKit Go.Proofs.YtljjpdjknnhceaaDoorW.PrintWords Go.Proofs.YtljjpdjknnhceaaDoorW.PrintLast Go.Proofs.YtljjpdjknnhceaaDoorW.PrintMore
open Go.Proofs.YtljjpdjknnhceaaDoor.Base Go.Proofs.YtljjpdjknnhceaaDoor.App Go.Proofs.YtljjpdjknnhceaaDoor.RingPure Go.Proofs.YtljjpdjknnhceaaDoor.ChkPure Go.Proofs.YtljjpdjknnhceaaDoor.Clus Go.Proofs.YtljjpdjknnhceaaDoor.Mids Go.Proofs.YtljjpdjknnhceaaDoor.Chkd Go.Proofs.YtljjpdjknnhceaaDoor.LocPure Go.Proofs.YtljjpdjknnhceaaDoor.RegA Go.Proofs.YtljjpdjknnhceaaDoor.LocKit
open Go.Proofs.YtljjpdjknnhceaaDoor.Words (strOf strOf_size)
open Go.Proofs.YtljjpdjknnhceaaDoor.WithV (exec_build)
set_option maxRecDepth 100000 in
set_option maxHeartbeats 4000000 in
theorem loc13 (Q : Exit → Act → World → Prop) (a0 : Act) (w wi : World) (ga g n cap P W C X0 X4 : Nat) (c : Cl) (A : Option Addr) (M : List UInt8) (HB : Aside0 (Below w.heap.size w wi)) (HBX : Aside0 (wi.heap[ga]? = some (.cells (cL c (.slice A n cap)).toArray 24 (0, 0)))) (HR : Aside0 (wi.heap[ga + 1]? = some (.cells plZ.toArray 44 (0, 0)))) (hga : w.heap.size ≤ ga + 1)
    (HCE : Aside0 (c.chunks = (C : Int))) (HWE : Aside0 (c.width = (W : Int))) (hP1 : 1 ≤ P) (hP2 : P ≤ 64) (hC : 1 ≤ C ∧ C ≤ 16) (hW : 1 ≤ W ∧ W ≤ 16) (hX0 : X0 < 4294967296) (hX4 : X4 < 4294967296) (hM : M.length = 16)
    (hN : a0.tmps.size = 62) (h9 : a0.tmps.getD 9 undef = .int .i64 ((X0 : Nat) : Int)) (h6 : a0.tmps.getD 6 undef = .slice (some ⟨g, 0, none⟩) P P) (h10 : a0.tmps.getD 10 undef = .int .i64 ((X4 : Nat) : Int)) (h2 : a0.tmps.getD 2 undef = .pointer (some ⟨ga, 0, none⟩)) (h8 : a0.tmps.getD 8 undef = .string (strOf M)) (h4 : a0.tmps.getD 4 undef = .pointer (some ⟨ga + 1, 0, none⟩))
    (hQ : ∀ wv : World, Below w.heap.size w wv → wv.heap[ga + 1]? = some (.cells (plL ⟨0, ((X0 % P : Nat) : Int), ((X4 % C : Nat) : Int), M.drop (16 - W)⟩).toArray 44 (0, 0)) → Q .normal (putV [(some 46, .int .i64 ((X0 : Nat) : Int)), (some 47, .slice (some ⟨g, 0, none⟩) P P), (some 48, .int .i64 ((P : Nat) : Int)), (some 49, .int .i64 ((X0 % P : Nat) : Int)), (some 50, .int .i64 ((X4 : Nat) : Int)), (some 51, .pointer (some ⟨ga, 3, none⟩)), (some 52, .int .i64 ((C : Nat) : Int)), (some 53, .int .i64 ((X4 % C : Nat) : Int)), (some 54, .string (strOf M)), (some 55, .string (strOf M)), (some 56, .int .i64 16), (some 57, .pointer (some ⟨ga, 2, none⟩)), (some 58, .int .i64 ((W : Nat) : Int)), (some 59, .int .i64 ((16 - W : Nat) : Int)), (some 60, .string (strOf (M.drop (16 - W)))), (some 61, .agg (plL ⟨0, ((X0 % P : Nat) : Int), ((X4 % C : Nat) : Int), M.drop (16 - W)⟩).toArray), (none, undef), (some 5, .int .i64 0)] a0) wv) :
    Code.wp Tryd.prog (regC 13 Tryd.f22) Q a0 wi := by
  have HM1 : Aside0 ((X0 : Int) % (P : Int) = ((X0 % P : Nat) : Int)) := ⟨(Int.natCast_emod X0 P).symm⟩
  have HM2 : Aside0 ((X4 : Int) % (C : Int) = ((X4 % C : Nat) : Int)) := ⟨(Int.natCast_emod X4 C).symm⟩
  have HSZ : Aside0 ((strOf M).size = 16) := ⟨by rw [strOf_size]; exact hM⟩
  have HSB : Aside0 (IntKind.i64.wrap (16 - (W : Int)) = ((16 - W : Nat) : Int)) := ⟨by rw [IntWalk.i64_in _ (by omega)]; omega⟩
  have HSL : Aside0 (∀ wx : World, (Instr.slice 9 (.string (strOf M)) (some (.int .i64 ((16 - W : Nat) : Int))) none none).run Tryd.prog wx = .ok (.string (strOf (M.drop (16 - W)))) wx) := ⟨fun wx => slice_end M (16 - W) (by omega) wx⟩
  conv => arg 2; whnf
  refine Reg.wp_region_rel _ (by kernel_rfl) _ _ _ hN (by kernel_rfl) (fun w' => Below w.heap.size w w' ∧ w'.heap[ga]? = some (.cells (cL c (.slice A n cap)).toArray 24 (0, 0)) ∧ ∃ l : List Value, l.length = 3 ∧ w'.heap[ga + 1]? = some (.cells l.toArray 44 (0, 0))) (fun i w w' => if i = 16 then True else Below w.heap.size w w') (fun jq vs w' => match jq with
    | 0 => vs 0 = .int .i64 ((X0 : Nat) : Int)
    | 1 => vs 1 = .slice (some ⟨g, 0, none⟩) P P
    | 2 => vs 2 = .int .i64 ((P : Nat) : Int)
    | 3 => vs 3 = .int .i64 ((X0 % P : Nat) : Int)
    | 4 => vs 4 = .int .i64 ((X4 : Nat) : Int)
    | 5 => vs 5 = .pointer (some ⟨ga, 3, none⟩)
    | 6 => vs 6 = .int .i64 ((C : Nat) : Int)
    | 7 => vs 7 = .int .i64 ((X4 % C : Nat) : Int)
    | 8 => vs 8 = .string (strOf M)
    | 9 => vs 9 = .string (strOf M)
    | 10 => vs 10 = .int .i64 16
    | 11 => vs 11 = .pointer (some ⟨ga, 2, none⟩)
    | 12 => vs 12 = .int .i64 ((W : Nat) : Int)
    | 13 => vs 13 = .int .i64 ((16 - W : Nat) : Int)
    | 14 => vs 14 = .string (strOf (M.drop (16 - W)))
    | 15 => vs 15 = .agg (plL ⟨0, ((X0 % P : Nat) : Int), ((X4 % C : Nat) : Int), M.drop (16 - W)⟩).toArray
    | 16 => w'.heap[ga + 1]? = some (.cells (plL ⟨0, ((X0 % P : Nat) : Int), ((X4 % C : Nat) : Int), M.drop (16 - W)⟩).toArray 44 (0, 0))
    | 17 => vs 17 = .int .i64 0
    | _ => True) (⟨below_drew HB.out, HBX.out, plZ, rfl, HR.out⟩) ?_ ?_ ?_ ?_
  · intro i j vs w0 w' hij hI hR hb
    rcases j with _ | j
    · exact hR
    rcases j with _ | j
    · exact hR
    rcases j with _ | j
    · exact hR
    rcases j with _ | j
    · exact hR
    rcases j with _ | j
    · exact hR
    rcases j with _ | j
    · exact hR
    rcases j with _ | j
    · exact hR
    rcases j with _ | j
    · exact hR
    rcases j with _ | j
    · exact hR
    rcases j with _ | j
    · exact hR
    rcases j with _ | j
    · exact hR
    rcases j with _ | j
    · exact hR
    rcases j with _ | j
    · exact hR
    rcases j with _ | j
    · exact hR
    rcases j with _ | j
    · exact hR
    rcases j with _ | j
    · exact hR
    rcases j with _ | j
    · have hb' : Below w0.heap.size w0 w' := by simp only [if_neg hij] at hb; exact hb
      exact (hb'.block _ (blk_lt hR)).trans hR
    rcases j with _ | j
    · exact hR
    exact trivial
  · intro j o vs vs1 w0 ho he hp hR
    rcases j with _ | j
    · exact he.trans hR
    rcases j with _ | j
    · exact he.trans hR
    rcases j with _ | j
    · exact he.trans hR
    rcases j with _ | j
    · exact he.trans hR
    rcases j with _ | j
    · exact he.trans hR
    rcases j with _ | j
    · exact he.trans hR
    rcases j with _ | j
    · exact he.trans hR
    rcases j with _ | j
    · exact he.trans hR
    rcases j with _ | j
    · exact he.trans hR
    rcases j with _ | j
    · exact he.trans hR
    rcases j with _ | j
    · exact he.trans hR
    rcases j with _ | j
    · exact he.trans hR
    rcases j with _ | j
    · exact he.trans hR
    rcases j with _ | j
    · exact he.trans hR
    rcases j with _ | j
    · exact he.trans hR
    rcases j with _ | j
    · exact he.trans hR
    rcases j with _ | j
    · exact hR
    rcases j with _ | j
    · exact he.trans hR
    exact trivial
  · skip
    refine Reg.allOps_cons ?_ ?_
    · intro vs w0 ρ hρ hcst hglb hfun hI hp
      have e9 : ρ (.tmp 9) = .int .i64 ((X0 : Nat) : Int) := (hρ (.tmp 9)).trans h9
      clear hρ hp
      refine Reg.rel_value (.int .i64 ((X0 : Nat) : Int)) ?_ ⟨hI, rfl⟩
      go_simp
    refine Reg.allOps_cons ?_ ?_
    · intro vs w0 ρ hρ hcst hglb hfun hI hp
      have e6 : ρ (.tmp 6) = .slice (some ⟨g, 0, none⟩) P P := (hρ (.tmp 6)).trans h6
      clear hρ hp
      refine Reg.rel_value (.slice (some ⟨g, 0, none⟩) P P) ?_ ⟨hI, rfl⟩
      go_simp
    refine Reg.allOps_cons ?_ ?_
    · intro vs w0 ρ hρ hcst hglb hfun hI hp
      have e47 : ρ (.tmp 47) = .slice (some ⟨g, 0, none⟩) P P := (hρ (.tmp 47)).trans (show vs 1 = .slice (some ⟨g, 0, none⟩) P P from hp 1 rfl)
      clear hρ hp
      refine Reg.rel_value (.int .i64 ((P : Nat) : Int)) ?_ ⟨hI, rfl⟩
      go_simp
    refine Reg.allOps_cons ?_ ?_
    · intro vs w0 ρ hρ hcst hglb hfun hI hp
      have e46 : ρ (.tmp 46) = .int .i64 ((X0 : Nat) : Int) := (hρ (.tmp 46)).trans (show vs 0 = .int .i64 ((X0 : Nat) : Int) from hp 0 rfl)
      have e48 : ρ (.tmp 48) = .int .i64 ((P : Nat) : Int) := (hρ (.tmp 48)).trans (show vs 2 = .int .i64 ((P : Nat) : Int) from hp 2 rfl)
      clear hρ hp
      refine Reg.rel_value (.int .i64 ((X0 % P : Nat) : Int)) ?_ ⟨hI, rfl⟩
      clear hI
      go_simp
      rw [if_neg (by omega), Int.tmod_eq_emod_of_nonneg (Int.natCast_nonneg _)]
    refine Reg.allOps_cons ?_ ?_
    · intro vs w0 ρ hρ hcst hglb hfun hI hp
      have e10 : ρ (.tmp 10) = .int .i64 ((X4 : Nat) : Int) := (hρ (.tmp 10)).trans h10
      clear hρ hp
      refine Reg.rel_value (.int .i64 ((X4 : Nat) : Int)) ?_ ⟨hI, rfl⟩
      go_simp
    refine Reg.allOps_cons ?_ ?_
    · intro vs w0 ρ hρ hcst hglb hfun hI hp
      have e2 : ρ (.tmp 2) = .pointer (some ⟨ga, 0, none⟩) := (hρ (.tmp 2)).trans h2
      clear hρ hp
      refine Reg.rel_value (.pointer (some ⟨ga, 3, none⟩)) ?_ ⟨hI, rfl⟩
      go_simp
    refine Reg.allOps_cons ?_ ?_
    · intro vs w0 ρ hρ hcst hglb hfun hI hp
      have e51 : ρ (.tmp 51) = .pointer (some ⟨ga, 3, none⟩) := (hρ (.tmp 51)).trans (show vs 5 = .pointer (some ⟨ga, 3, none⟩) from hp 5 rfl)
      clear hρ hp
      obtain ⟨hB, hbx, hl3⟩ := hI
      have hl2 : w0.cell? ⟨ga, 3, none⟩ = some (.int .i64 ((C : Nat) : Int)) := by rw [blk_cell hbx, ← HCE.out]; rfl
      refine Reg.rel_value (.int .i64 ((C : Nat) : Int)) ?_ ⟨⟨hB, hbx, hl3⟩, rfl⟩
      clear hbx hl3
      go_simp
    refine Reg.allOps_cons ?_ ?_
    · intro vs w0 ρ hρ hcst hglb hfun hI hp
      have e50 : ρ (.tmp 50) = .int .i64 ((X4 : Nat) : Int) := (hρ (.tmp 50)).trans (show vs 4 = .int .i64 ((X4 : Nat) : Int) from hp 4 rfl)
      have e52 : ρ (.tmp 52) = .int .i64 ((C : Nat) : Int) := (hρ (.tmp 52)).trans (show vs 6 = .int .i64 ((C : Nat) : Int) from hp 6 rfl)
      clear hρ hp
      refine Reg.rel_value (.int .i64 ((X4 % C : Nat) : Int)) ?_ ⟨hI, rfl⟩
      clear hI
      go_simp
      rw [if_neg (by omega), Int.tmod_eq_emod_of_nonneg (Int.natCast_nonneg _)]
    refine Reg.allOps_cons ?_ ?_
    · intro vs w0 ρ hρ hcst hglb hfun hI hp
      have e8 : ρ (.tmp 8) = .string (strOf M) := (hρ (.tmp 8)).trans h8
      clear hρ hp
      refine Reg.rel_value (.string (strOf M)) ?_ ⟨hI, rfl⟩
      go_simp
    refine Reg.allOps_cons ?_ ?_
    · intro vs w0 ρ hρ hcst hglb hfun hI hp
      have e8 : ρ (.tmp 8) = .string (strOf M) := (hρ (.tmp 8)).trans h8
      clear hρ hp
      refine Reg.rel_value (.string (strOf M)) ?_ ⟨hI, rfl⟩
      go_simp
    refine Reg.allOps_cons ?_ ?_
    · intro vs w0 ρ hρ hcst hglb hfun hI hp
      have e55 : ρ (.tmp 55) = .string (strOf M) := (hρ (.tmp 55)).trans (show vs 9 = .string (strOf M) from hp 9 rfl)
      clear hρ hp
      refine Reg.rel_value (.int .i64 16) ?_ ⟨hI, rfl⟩
      clear hI
      have hq := HSZ.out
      go_simp
    refine Reg.allOps_cons ?_ ?_
    · intro vs w0 ρ hρ hcst hglb hfun hI hp
      have e2 : ρ (.tmp 2) = .pointer (some ⟨ga, 0, none⟩) := (hρ (.tmp 2)).trans h2
      clear hρ hp
      refine Reg.rel_value (.pointer (some ⟨ga, 2, none⟩)) ?_ ⟨hI, rfl⟩
      go_simp
    refine Reg.allOps_cons ?_ ?_
    · intro vs w0 ρ hρ hcst hglb hfun hI hp
      have e57 : ρ (.tmp 57) = .pointer (some ⟨ga, 2, none⟩) := (hρ (.tmp 57)).trans (show vs 11 = .pointer (some ⟨ga, 2, none⟩) from hp 11 rfl)
      clear hρ hp
      obtain ⟨hB, hbx, hl3⟩ := hI
      have hl2 : w0.cell? ⟨ga, 2, none⟩ = some (.int .i64 ((W : Nat) : Int)) := by rw [blk_cell hbx, ← HWE.out]; rfl
      refine Reg.rel_value (.int .i64 ((W : Nat) : Int)) ?_ ⟨⟨hB, hbx, hl3⟩, rfl⟩
      clear hbx hl3
      go_simp
    refine Reg.allOps_cons ?_ ?_
    · intro vs w0 ρ hρ hcst hglb hfun hI hp
      have e56 : ρ (.tmp 56) = .int .i64 16 := (hρ (.tmp 56)).trans (show vs 10 = .int .i64 16 from hp 10 rfl)
      have e58 : ρ (.tmp 58) = .int .i64 ((W : Nat) : Int) := (hρ (.tmp 58)).trans (show vs 12 = .int .i64 ((W : Nat) : Int) from hp 12 rfl)
      clear hρ hp
      refine Reg.rel_value (.int .i64 ((16 - W : Nat) : Int)) ?_ ⟨hI, rfl⟩
      clear hI
      have hq := HSB.out
      go_simp
    refine Reg.allOps_cons ?_ ?_
    · intro vs w0 ρ hρ hcst hglb hfun hI hp
      have e54 : ρ (.tmp 54) = .string (strOf M) := (hρ (.tmp 54)).trans (show vs 8 = .string (strOf M) from hp 8 rfl)
      have e59 : ρ (.tmp 59) = .int .i64 ((16 - W : Nat) : Int) := (hρ (.tmp 59)).trans (show vs 13 = .int .i64 ((16 - W : Nat) : Int) from hp 13 rfl)
      clear hρ hp
      refine Reg.rel_value (.string (strOf (M.drop (16 - W)))) ?_ ⟨hI, rfl⟩
      clear hI
      have hq := HSL.out
      go_simp
    refine Reg.allOps_cons ?_ ?_
    · intro vs w0 ρ hρ hcst hglb hfun hI hp
      have e49 : ρ (.tmp 49) = .int .i64 ((X0 % P : Nat) : Int) := (hρ (.tmp 49)).trans (show vs 3 = .int .i64 ((X0 % P : Nat) : Int) from hp 3 rfl)
      have e53 : ρ (.tmp 53) = .int .i64 ((X4 % C : Nat) : Int) := (hρ (.tmp 53)).trans (show vs 7 = .int .i64 ((X4 % C : Nat) : Int) from hp 7 rfl)
      have e60 : ρ (.tmp 60) = .string (strOf (M.drop (16 - W))) := (hρ (.tmp 60)).trans (show vs 14 = .string (strOf (M.drop (16 - W))) from hp 14 rfl)
      clear hρ hp
      refine Reg.rel_value (.agg (plL ⟨0, ((X0 % P : Nat) : Int), ((X4 % C : Nat) : Int), M.drop (16 - W)⟩).toArray) (exec_build 44 _ rfl _ ?_) ⟨hI, rfl⟩
      simp only [List.map_toArray, List.map_cons, List.map_nil, hcst, e49, e53, e60]
      exact built_pl _ _ _
    refine Reg.allOps_cons ?_ ?_
    · intro vs w0 ρ hρ hcst hglb hfun hI hp
      have e4 : ρ (.tmp 4) = .pointer (some ⟨ga + 1, 0, none⟩) := (hρ (.tmp 4)).trans h4
      have e61 : ρ (.tmp 61) = .agg (plL ⟨0, ((X0 % P : Nat) : Int), ((X4 % C : Nat) : Int), M.drop (16 - W)⟩).toArray := (hρ (.tmp 61)).trans (show vs 15 = .agg (plL ⟨0, ((X0 % P : Nat) : Int), ((X4 % C : Nat) : Int), M.drop (16 - W)⟩).toArray from hp 15 rfl)
      clear hρ hp
      obtain ⟨hB, hbx, l, hl, hr⟩ := hI
      have hth : w0.there (ga + 1) 0 l.length := blk_there hr
      rw [hl] at hth
      have hnew : (w0.setCells (ga + 1) 0 (plL ⟨0, ((X0 % P : Nat) : Int), ((X4 % C : Nat) : Int), M.drop (16 - W)⟩)).heap[ga + 1]? = some (.cells (plL ⟨0, ((X0 % P : Nat) : Int), ((X4 % C : Nat) : Int), M.drop (16 - W)⟩).toArray 44 (0, 0)) := setCells_whole hr (by rw [hl]; rfl)
      refine Reg.rel_skip (w' := w0.setCells (ga + 1) 0 (plL ⟨0, ((X0 % P : Nat) : Int), ((X4 % C : Nat) : Int), M.drop (16 - W)⟩)) (exec_store_mid 44 (.tmp 4) (.tmp 61) rfl (ga + 1) 0 (plL ⟨0, ((X0 % P : Nat) : Int), ((X4 % C : Nat) : Int), M.drop (16 - W)⟩).toArray e4 e61 hth infoP (plL_one _)) trivial ⟨⟨Go.Proofs.YtljjpdjknnhceaaDoor.Mids.below_setCells hB (by omega) _ _, (setCells_other (ga + 1) (by omega) _ _ _).trans hbx, _, rfl, hnew⟩, hnew⟩
    refine Reg.allOps_cons ?_ ?_
    · intro vs w0 ρ hρ hcst hglb hfun hI hp
      clear hρ hp
      refine Reg.rel_value (.int .i64 0) ?_ ⟨hI, rfl⟩
      go_simp
    exact Reg.allOps_nil
  intro vs w0 hI hR
  have r0 : vs 0 = .int .i64 ((X0 : Nat) : Int) := hR 0 (by decide)
  have r1 : vs 1 = .slice (some ⟨g, 0, none⟩) P P := hR 1 (by decide)
  have r2 : vs 2 = .int .i64 ((P : Nat) : Int) := hR 2 (by decide)
  have r3 : vs 3 = .int .i64 ((X0 % P : Nat) : Int) := hR 3 (by decide)
  have r4 : vs 4 = .int .i64 ((X4 : Nat) : Int) := hR 4 (by decide)
  have r5 : vs 5 = .pointer (some ⟨ga, 3, none⟩) := hR 5 (by decide)
  have r6 : vs 6 = .int .i64 ((C : Nat) : Int) := hR 6 (by decide)
  have r7 : vs 7 = .int .i64 ((X4 % C : Nat) : Int) := hR 7 (by decide)
  have r8 : vs 8 = .string (strOf M) := hR 8 (by decide)
  have r9 : vs 9 = .string (strOf M) := hR 9 (by decide)
  have r10 : vs 10 = .int .i64 16 := hR 10 (by decide)
  have r11 : vs 11 = .pointer (some ⟨ga, 2, none⟩) := hR 11 (by decide)
  have r12 : vs 12 = .int .i64 ((W : Nat) : Int) := hR 12 (by decide)
  have r13 : vs 13 = .int .i64 ((16 - W : Nat) : Int) := hR 13 (by decide)
  have r14 : vs 14 = .string (strOf (M.drop (16 - W))) := hR 14 (by decide)
  have r15 : vs 15 = .agg (plL ⟨0, ((X0 % P : Nat) : Int), ((X4 % C : Nat) : Int), M.drop (16 - W)⟩).toArray := hR 15 (by decide)
  have r17 : vs 17 = .int .i64 0 := hR 17 (by decide)
  have hblk := hR 16 (by decide)
  have hq := hQ w0 hI.1 hblk
  simp only [RegA.putV, Act.put] at hq
  simp only [Reg.fillFrom, Act.put, r0, r1, r2, r3, r4, r5, r6, r7, r8, r9, r10, r11, r12, r13, r14, r15, r17]
  exact hq
end Go.Proofs.YtljjpdjknnhceaaDoor.LocR

/- ring.Locate. -/
set_option linter.unusedVariables false
set_option linter.unusedSimpArgs false
namespace Go.Proofs.YtljjpdjknnhceaaDoor.Loc
open Go.RowKit Go.Proofs.YtljjpdjknnhceaaDoorW.PrintWords Go.Proofs.YtljjpdjknnhceaaDoorW.PrintLast Go.Proofs.YtljjpdjknnhceaaDoorW.PrintMore
open Go.Proofs.YtljjpdjknnhceaaDoor.Base Go.Proofs.YtljjpdjknnhceaaDoor.App Go.Proofs.YtljjpdjknnhceaaDoor.RingPure Go.Proofs.YtljjpdjknnhceaaDoor.ChkPure Go.Proofs.YtljjpdjknnhceaaDoor.Clus Go.Proofs.YtljjpdjknnhceaaDoor.Mids Go.Proofs.YtljjpdjknnhceaaDoor.Chkd Go.Proofs.YtljjpdjknnhceaaDoor.LocPure Go.Proofs.YtljjpdjknnhceaaDoor.LocKit Go.Proofs.YtljjpdjknnhceaaDoor.TakeN Go.Proofs.YtljjpdjknnhceaaDoor.Sort Go.Proofs.YtljjpdjknnhceaaDoor.Name
open Go.Proofs.YtljjpdjknnhceaaDoor.Words (strOf strOf_size)
open Go.Proofs.YtljjpdjknnhceaaDoor.WithV (list_build)
set_option maxRecDepth 100000 in
set_option maxHeartbeats 8000000 in
theorem locate_any (c : Cl) (A : Option Addr) (cap : Nat) (ns : List Nd) (key : ByteArray) (w : World) (hN : NodesAt w A ns) (hcap : ns.length ≤ cap) (hs : c.store.size ≤ 2147483647) (hl : ns.length ≤ 1099511627776) (hc : cnt ns ≤ 1099511627776) (hk : key.size ≤ 1073741824) (hG : Hasher.Glob w) :
    Calls Tryd.prog 22 #[.agg (cL c (.slice A ns.length cap)).toArray, .string key] w (LocPost (locP c ns key) w) := by
  have HW := Aside0.mk (lw_of c (.slice A ns.length cap) w)
  have HN := Aside0.mk (hN.below HW.out.bel)
  have HG := Aside0.mk (hG.below HW.out.bel)
  clear hN hG
  go_enter Tryd.func22, Tryd.ntmps22
  go_upto_region 1 with fail
  generalize (w.alloc (.cells (cL c (.slice A ns.length cap)).toArray 24)).alloc (.cells #[.int .i64 0, .int .i64 0, .string { data := #[] }] 44) = w1 at HN HW HG ⊢
  obtain ⟨ga, hga⟩ : ∃ ga, ga = w.heap.size := ⟨_, rfl⟩
  have HBX : Aside0 (w1.heap[ga]? = some (.cells (cL c (.slice A ns.length cap)).toArray 24 (0, 0))) := ⟨by rw [hga]; exact HW.out.box⟩
  have HRS : Aside0 (w1.heap[ga + 1]? = some (.cells plZ.toArray 44 (0, 0))) := ⟨by rw [hga]; exact HW.out.res⟩
  have HGA : Aside0 (w.heap.size ≤ ga + 1) := ⟨by omega⟩
  have HB := Aside0.mk HW.out.bel
  rw [← hga]
  clear hga HW
  have hrg := blk_range HBX.out
  go_wp2_with ((with_reducible refine gate_load (ty := 24) (x := .tmp 2) rfl ?_); refine wpList_load_mid rfl 24 (.tmp 2) rfl ga 0 rfl (cL c (.slice A ns.length cap)) _ hrg Tryd.underlying24 rfl infoC23 ?_)
  clear hrg
  refine (checked_any c A cap ns w1 HN.out hcap hs hl hc).mono ?_
  rintro e w2 ⟨hb, hcase⟩
  have HB2 := Aside0.mk (HB.out.trans (hb.mono HB.out.size))
  have HR2 : Aside0 (w2.heap[ga + 1]? = some (.cells plZ.toArray 44 (0, 0))) := ⟨(hb.block _ (blk_lt HRS.out)).trans HRS.out⟩
  have HBX2 : Aside0 (w2.heap[ga]? = some (.cells (cL c (.slice A ns.length cap)).toArray 24 (0, 0))) := ⟨(hb.block _ (blk_lt HBX.out)).trans HBX.out⟩
  have HG2 := Aside0.mk (HG.out.below hb)
  clear hb HB HRS HBX HG
  rcases hcase with ⟨h0, rfl⟩ | ⟨g, h0, rfl, hg, hrow⟩
  · have HE : Aside0 (locP c ns key = ⟨(chkC c ns).1, 0, 0, []⟩) := ⟨by unfold locP; rw [if_pos h0]⟩
    generalize (chkC c ns).1 = code at h0 HE ⊢
    have hne : (code != 0) = true := by simpa using h0
    have HTH : Aside0 (w2.there (ga + 1) 0 plZ.length) := ⟨blk_there HR2.out⟩
    have HX : Aside0 ((w2.setCells (ga + 1) 0 plZ).heap[ga + 1]? = some (.cells plZ.toArray 44 (0, 0))) := ⟨setCells_whole HR2.out rfl⟩
    have HBF : Aside0 (Below w.heap.size w (w2.setCells (ga + 1) 0 plZ)) := ⟨Go.Proofs.YtljjpdjknnhceaaDoor.Mids.below_setCells HB2.out HGA.out _ _⟩
    go_wp2_with (first | ((with_reducible refine gate_build (t := 44) (parts := #[]) rfl ?_); go_loud (refine list_build rfl 44 #[] rfl plZ.toArray built_z ?_)) | ((with_reducible refine gate_store (ty := 44) (x := .tmp 4) (y := .tmp 18) rfl ?_); go_loud (refine wpList_store_mid rfl 44 (.tmp 4) (.tmp 18) rfl (ga + 1) 0 plZ.toArray rfl rfl HTH.out infoP plZ_one ?_)))
    refine bodyPost_ret (v := .tuple #[.agg plZ.toArray, .int .i64 code]) ?_ rfl ⟨HBF.out, by rw [HE.out]; rfl⟩
    exact loc_results _ _ (ga + 1) plZ _ rfl rfl rfl HX.out
  · have HGOOD := Aside0.mk (chk_ok (nm := nmB c.store) h0)
    obtain ⟨hde, hhl, _⟩ := homes_some HGOOD.out.hom
    have hb6 := setAt_bounds HGOOD.out.set
    have hP1 := hde.1
    have hP2 := hde.2.1
    have HH0 := Aside0.mk h0
    obtain ⟨P, hP⟩ : ∃ P, P = cnt ns := ⟨_, rfl⟩
    have HPE := Aside0.mk hP
    have HHL : Aside0 ((chkC c ns).2.length = P) := ⟨hhl.trans hP.symm⟩
    rw [HHL.out]
    rw [← hP] at hP1 hP2
    obtain ⟨W, hW⟩ : ∃ W : Nat, c.width = (W : Int) := ⟨c.width.toNat, by omega⟩
    obtain ⟨C, hC⟩ : ∃ C : Nat, c.chunks = (C : Int) := ⟨c.chunks.toNat, by omega⟩
    have hWb : 1 ≤ W ∧ W ≤ 16 := by omega
    have hCb : 1 ≤ C ∧ C ≤ 16 := by omega
    have HWE := Aside0.mk hW
    have HCE := Aside0.mk hC
    clear h0 hde hhl hb6 hrow hg hP hW hC HN
    go_wp2_with fail
    refine (within_any _ _ _ _).mono ?_
    rintro e w3 ⟨rfl, hd⟩
    have hbd := hd.below
    have HB3 := Aside0.mk (HB2.out.trans (hbd.mono HB2.out.size))
    have HR3 : Aside0 (w3.heap[ga + 1]? = some (.cells plZ.toArray 44 (0, 0))) := ⟨(hbd.block _ (blk_lt HR2.out)).trans HR2.out⟩
    have HBX3 : Aside0 (w3.heap[ga]? = some (.cells (cL c (.slice A ns.length cap)).toArray 24 (0, 0))) := ⟨(hbd.block _ (blk_lt HBX2.out)).trans HBX2.out⟩
    have HG3 := Aside0.mk (HG2.out.below hbd)
    clear hd hbd HB2 HR2 HBX2 HG2
    by_cases hkey : key.size < 1 ∨ 255 < key.size
    · have HE : Aside0 (locP c ns key = ⟨32, 0, 0, []⟩) := ⟨by unfold locP; rw [if_neg (by rw [HH0.out]; decide), if_pos hkey]⟩
      have hwi : wiB (key.size : Int) 1 255 = false := by
        unfold wiB
        rcases hkey with h | h
        · rw [decide_eq_false (by omega), Bool.false_and]
        · rw [decide_eq_false (show ¬ ((key.size : Int) ≤ 255) by omega), Bool.and_false]
      rw [hwi]
      have HTH : Aside0 (w3.there (ga + 1) 0 plZ.length) := ⟨blk_there HR3.out⟩
      have HX : Aside0 ((w3.setCells (ga + 1) 0 plZ).heap[ga + 1]? = some (.cells plZ.toArray 44 (0, 0))) := ⟨setCells_whole HR3.out rfl⟩
      have HBF : Aside0 (Below w.heap.size w (w3.setCells (ga + 1) 0 plZ)) := ⟨Go.Proofs.YtljjpdjknnhceaaDoor.Mids.below_setCells HB3.out HGA.out _ _⟩
      clear hwi
      go_wp2_with (first | ((with_reducible refine gate_build (t := 44) (parts := #[]) rfl ?_); go_loud (refine list_build rfl 44 #[] rfl plZ.toArray built_z ?_)) | ((with_reducible refine gate_store (ty := 44) (x := .tmp 4) (y := .tmp 24) rfl ?_); go_loud (refine wpList_store_mid rfl 44 (.tmp 4) (.tmp 24) rfl (ga + 1) 0 plZ.toArray rfl rfl HTH.out infoP plZ_one ?_)))
      refine bodyPost_ret (v := .tuple #[.agg plZ.toArray, .int .i64 32]) ?_ rfl ⟨HBF.out, by rw [HE.out]; rfl⟩
      exact loc_results _ _ (ga + 1) plZ _ rfl rfl rfl HX.out
    · have HE : Aside0 (locP c ns key = ⟨0, ((num4 key 0 % P : Nat) : Int), ((num4 key 4 % C : Nat) : Int), (md key).drop (16 - W)⟩) := ⟨by
        unfold locP; rw [if_neg (by rw [HH0.out]; decide), if_neg hkey, HPE.out, HCE.out, HWE.out]; rfl⟩
      have hwi : wiB (key.size : Int) 1 255 = true := by
        unfold wiB
        rw [decide_eq_true (show (1 : Int) ≤ (key.size : Int) by omega), decide_eq_true (show ((key.size : Int) ≤ 255) by omega), Bool.true_and]
      rw [hwi]
      clear hwi hkey
      go_wp2_with fail
      have hc1 := strs_new w3 [key] 9 (by simp)
      have HA1 := Aside0.mk ((Below.refl w3.heap.size w3).alloc (Nat.le_refl _) (.cells (List.map Value.string [key]).toArray 9))
      have hfl : Crc.flat [key] = key.data.toList := by simp [Crc.flat]
      refine (Sum.md5_any (some ⟨w3.heap.size, 0, none⟩) 1 [key] _ hc1 (by simp) (HG3.out.below HA1.out) (by simp) (by rw [hfl, data_length]; omega)).mono ?_
      rintro e w4 ⟨rfl, hb⟩
      have hbd := HA1.out.trans (hb.mono HA1.out.size)
      have HB4 := Aside0.mk (HB3.out.trans (hbd.mono HB3.out.size))
      have HR4 : Aside0 (w4.heap[ga + 1]? = some (.cells plZ.toArray 44 (0, 0))) := ⟨(hbd.block _ (blk_lt HR3.out)).trans HR3.out⟩
      have HBX4 : Aside0 (w4.heap[ga]? = some (.cells (cL c (.slice A ns.length cap)).toArray 24 (0, 0))) := ⟨(hbd.block _ (blk_lt HBX3.out)).trans HBX3.out⟩
      rw [hfl]
      have HML := Aside0.mk (md_length key)
      have HN0 : Aside0 (num4 key 0 = beV (((strOf (md key)).data.toList.drop 0).take 4)) := ⟨rfl⟩
      have HN4 : Aside0 (num4 key 4 = beV (((strOf (md key)).data.toList.drop 4).take 4)) := ⟨rfl⟩
      have HL0 := Aside0.mk (num4_lt key 0)
      have HL4 := Aside0.mk (num4_lt key 4)
      rw [show Md5Pure.md5 key.data.toList = md key from rfl]
      clear hb hbd hc1 hfl HA1 HB3 HR3 HBX3 HG3
      obtain ⟨M, hM⟩ : ∃ M, M = md key := ⟨_, rfl⟩
      rw [← hM] at HN0 HN4 HML HE ⊢
      clear hM
      obtain ⟨X0, hX0⟩ : ∃ X, X = num4 key 0 := ⟨_, rfl⟩
      obtain ⟨X4, hX4⟩ : ∃ X, X = num4 key 4 := ⟨_, rfl⟩
      rw [← hX0] at HN0 HL0 HE
      rw [← hX4] at HN4 HL4 HE
      clear hX0 hX4
      have HSM : Aside0 ((strOf M).size = 16) := ⟨by rw [strOf_size]; exact HML.out⟩
      go_wp2_with fail
      refine (readNumber_any (strOf M) 0 w4 (by rw [HSM.out]; decide) (by rw [HSM.out]; decide)).mono ?_
      rintro e w5 ⟨rfl, hb⟩
      rw [← HN0.out]
      have HB5 := Aside0.mk (HB4.out.trans (hb.mono HB4.out.size))
      have HR5 : Aside0 (w5.heap[ga + 1]? = some (.cells plZ.toArray 44 (0, 0))) := ⟨(hb.block _ (blk_lt HR4.out)).trans HR4.out⟩
      have HBX5 : Aside0 (w5.heap[ga]? = some (.cells (cL c (.slice A ns.length cap)).toArray 24 (0, 0))) := ⟨(hb.block _ (blk_lt HBX4.out)).trans HBX4.out⟩
      clear hb HB4 HR4 HBX4
      go_wp2_with fail
      refine (readNumber_any (strOf M) 4 w5 (by rw [HSM.out]; decide) (by rw [HSM.out]; decide)).mono ?_
      rintro e w6 ⟨rfl, hb⟩
      rw [← HN4.out]
      have HB6 := Aside0.mk (HB5.out.trans (hb.mono HB5.out.size))
      have HR6 : Aside0 (w6.heap[ga + 1]? = some (.cells plZ.toArray 44 (0, 0))) := ⟨(hb.block _ (blk_lt HR5.out)).trans HR5.out⟩
      have HBX6 : Aside0 (w6.heap[ga]? = some (.cells (cL c (.slice A ns.length cap)).toArray 24 (0, 0))) := ⟨(hb.block _ (blk_lt HBX5.out)).trans HBX5.out⟩
      clear hb HB5 HR5 HBX5
      go_upto_region 13 with fail
      refine LocR.loc13 _ _ w w6 ga g ns.length cap P W C X0 X4 c A M HB6 HBX6 HR6 HGA.out HCE HWE hP1 hP2 hCb hWb HL0.out HL4.out HML.out rfl rfl rfl rfl rfl rfl rfl ?_
      intro wv hbv hrv
      have HBV := Aside0.mk hbv
      have HRV := Aside0.mk hrv
      clear hbv hrv
      simp only [RegA.putV, Act.put, List.setIfInBounds_toArray, List.set_cons_zero, List.set_cons_succ]
      go_wp2_with fail
      refine bodyPost_ret (v := .tuple #[.agg (plL ⟨0, ((X0 % P : Nat) : Int), ((X4 % C : Nat) : Int), M.drop (16 - W)⟩).toArray, .int .i64 0]) ?_ rfl ⟨HBV.out, by rw [HE.out]⟩
      exact loc_results _ _ (ga + 1) _ _ rfl rfl rfl HRV.out
end Go.Proofs.YtljjpdjknnhceaaDoor.Loc

/- The document's MD5: its small functions. -/
set_option linter.unusedVariables false
set_option linter.unusedSimpArgs false
namespace Go.Proofs.YtljjpdjknnhceaaDoor.RefMD5
open Go.RowKit Go.Proofs.YtljjpdjknnhceaaDoorW.PrintWords Go.Proofs.YtljjpdjknnhceaaDoorW.PrintLast Go.Proofs.YtljjpdjknnhceaaDoorW.PrintMore
open Go.Proofs.YtljjpdjknnhceaaDoor.Base Go.Proofs.YtljjpdjknnhceaaDoor.StepsRef Go.Proofs.YtljjpdjknnhceaaDoor.Words Go.Proofs.YtljjpdjknnhceaaDoor.PRingLocates
open Go.Proofs.YtljjpdjknnhceaaDoor.Md5Pure (St mdStep mdSteps mdBlock wordAt fF gG K R M rotl plus bytes4 told first blkN tail md5 padN len8)
/-- the document's tables lie where they were laid -/
structure RTabs (w : World) : Prop where mk ::
  (sine : ∀ i, i < 64 → w.cell? ⟨5, i, none⟩ = some (.int .i64 (K i : Nat)))
  (turn : ∀ i, i < 16 → w.cell? ⟨6, i, none⟩ = some (.int .i64 (Md5Pure.turns.getD i 0 : Nat)))
  (pows : Pows w)
  (lts : 5 < w.heap.size) (ltt : 6 < w.heap.size)
theorem RTabs.below {w w1 : World} (h : RTabs w) (hb : Below w.heap.size w w1) : RTabs w1 :=
  ⟨fun i hi => (hb.cell (p := ⟨5, i, none⟩) h.lts).trans (h.sine i hi), fun i hi => (hb.cell (p := ⟨6, i, none⟩) h.ltt).trans (h.turn i hi), h.pows.below hb, Nat.lt_of_lt_of_le h.lts hb.size, Nat.lt_of_lt_of_le h.ltt hb.size⟩
theorem and_lt (a b : Nat) (h : b < 4294967296) : a &&& b < 4294967296 := Nat.and_lt_two_pow (n := 32) a h
theorem or_lt (a b : Nat) (h : a < 4294967296) (h2 : b < 4294967296) : a ||| b < 4294967296 := Nat.or_lt_two_pow (n := 32) h h2
theorem xor_lt (a b : Nat) (h : a < 4294967296) (h2 : b < 4294967296) : a ^^^ b < 4294967296 := Nat.xor_lt_two_pow (n := 32) h h2
theorem sub_eq (b : Nat) (h : b < 4294967296) : wrap64 (4294967295 - (b : Int)) = ((M - b : Nat) : Int) := by
  rw [w64 _ (by omega) (by omega)]; unfold M; omega
theorem M_lt (b : Nat) : M - b < 4294967296 := by unfold M; omega
theorem mixed_f (q b c d : Nat) (hb : b < 4294967296) (hc : c < 4294967296) (hd : d < 4294967296) : granaryref2_mixed.f (q : Int) (b : Int) (c : Int) (d : Int) = some ((fF q b c d : Nat) : Int) := by
  have b9 : b < 9223372036854775808 := by omega
  have c9 : c < 9223372036854775808 := by omega
  have d9 : d < 9223372036854775808 := by omega
  have m9 : ∀ x, M - x < 9223372036854775808 := fun x => by have := M_lt x; omega
  have a9 : ∀ x y, y < 4294967296 → x &&& y < 9223372036854775808 := fun x y h => by have := and_lt x y h; omega
  have o9 : ∀ x y, x < 4294967296 → y < 4294967296 → x ||| y < 9223372036854775808 := fun x y h h2 => by have := or_lt x y h h2; omega
  have x9 : ∀ x y, x < 4294967296 → y < 4294967296 → x ^^^ y < 9223372036854775808 := fun x y h h2 => by have := xor_lt x y h h2; omega
  unfold granaryref2_mixed.f fF
  by_cases h0 : q = 0
  · rw [if_pos (by omega), if_pos h0, sub_eq b hb, i64_and_nat _ _ b9 c9, i64_and_nat _ _ (m9 _) d9, i64_or_nat _ _ (a9 _ _ hc) (a9 _ _ hd)]
  · rw [if_neg (by omega), if_neg h0]
    by_cases h1 : q = 1
    · rw [if_pos (by omega), if_pos h1, sub_eq d hd, i64_and_nat _ _ d9 b9, i64_and_nat _ _ (m9 _) c9, i64_or_nat _ _ (a9 _ _ hb) (a9 _ _ hc)]
    · rw [if_neg (by omega), if_neg h1]
      by_cases h2 : q = 2
      · rw [if_pos (by omega), if_pos h2, i64_xor_nat _ _ b9 c9, i64_xor_nat _ _ (x9 _ _ hb hc) d9]
      · rw [if_neg (by omega), if_neg h2, sub_eq d hd, i64_or_nat _ _ b9 (m9 _), i64_xor_nat _ _ c9 (o9 _ _ hb (M_lt _))]
theorem mixed_any (q b c d : Nat) (w : World) (hb : b < 4294967296) (hc : c < 4294967296) (hd : d < 4294967296) :
    Calls Tryd.prog 135 #[.int .i64 (q : Nat), .int .i64 (b : Nat), .int .i64 (c : Nat), .int .i64 (d : Nat)] w fun e w' => e = .returned (.int .i64 (fF q b c d : Nat)) ∧ Drawn0 w w' :=
  granaryref2_mixed.calls _ _ _ _ _ w (mixed_f q b c d hb hc hd)
theorem which_f (i : Nat) (h : i < 64) : granaryref2_which.f (i : Int) = some ((gG i : Nat) : Int) := by
  have e : (i : Int).tdiv 16 = ((i / 16 : Nat) : Int) := by rw [Int.tdiv_eq_ediv_of_nonneg (by omega)]; omega
  unfold granaryref2_which.f gG
  rw [e, w64 ((i / 16 : Nat) : Int) (by omega) (by omega), w64 (5 * (i : Int)) (by omega) (by omega), w64 (5 * (i : Int) + 1) (by omega) (by omega), w64 (3 * (i : Int)) (by omega) (by omega), w64 (3 * (i : Int) + 5) (by omega) (by omega), w64 (7 * (i : Int)) (by omega) (by omega),
    Int.tmod_eq_emod_of_nonneg (by omega), Int.tmod_eq_emod_of_nonneg (by omega), Int.tmod_eq_emod_of_nonneg (by omega)]
  by_cases h0 : i / 16 = 0
  · rw [if_pos (by omega), if_pos h0]
  · rw [if_neg (by omega), if_neg h0]
    by_cases h1 : i / 16 = 1
    · rw [if_pos (by omega), if_pos h1]; congr 1
    · rw [if_neg (by omega), if_neg h1]
      by_cases h2 : i / 16 = 2
      · rw [if_pos (by omega), if_pos h2]; congr 1
      · rw [if_neg (by omega), if_neg h2]; congr 1
theorem which_any (i : Nat) (h : i < 64) (w : World) : Calls Tryd.prog 136 #[.int .i64 (i : Nat)] w fun e w' => e = .returned (.int .i64 (gG i : Nat)) ∧ Drawn0 w w' := granaryref2_which.calls _ _ w (which_f i h)
/-- 64 bytes of t from at on -/
def blk (t : ByteArray) (at_ : Nat) : List UInt8 := (t.data.toList.drop at_).take 64
theorem blk_bt (t : ByteArray) (at_ i : Nat) (h : at_ + 64 ≤ t.size) (hi : i < 64) : bt t ((at_ : Int) + (i : Int)) = (((blk t at_).getD i 0).toNat : Int) := by
  have h2 : at_ + i < t.size := by omega
  rw [show (at_ : Int) + (i : Int) = ((at_ + i : Nat) : Int) by omega, bt_nat t _ h2]
  have e := getElem_list t (at_ + i) h2
  unfold blk
  rw [List.getD_eq_getElem?_getD, List.getElem?_take, if_pos hi, List.getElem?_drop, e]
  rfl
theorem four_pure (t : ByteArray) (a x0 x1 x2 x3 : Int) (hA : 0 ≤ a) (hB : a + 3 < (t.size : Int)) (ht : t.size ≤ 4611686018427387904)
    (b0 : bt t a = x0) (b1 : bt t (a + 1) = x1) (b2 : bt t (a + 2) = x2) (b3 : bt t (a + 3) = x3) (r0 : 0 ≤ x0 ∧ x0 ≤ 255) (r1 : 0 ≤ x1 ∧ x1 ≤ 255) (r2 : 0 ≤ x2 ∧ x2 ≤ 255) (r3 : 0 ≤ x3 ∧ x3 ≤ 255) :
    granaryref2_four.f t a = some (x0 + 256 * x1 + 65536 * x2 + 16777216 * x3) := by
  have w1 : wrap64 (a + 1) = a + 1 := w64 _ (by omega) (by omega)
  have w2 : wrap64 (a + 2) = a + 2 := w64 _ (by omega) (by omega)
  have w3 : wrap64 (a + 3) = a + 3 := w64 _ (by omega) (by omega)
  have c1 : a < (t.size : Int) := by omega
  have c2 : 0 ≤ a + 1 := by omega
  have c3 : a + 1 < (t.size : Int) := by omega
  have c4 : 0 ≤ a + 2 := by omega
  have c5 : a + 2 < (t.size : Int) := by omega
  have c6 : 0 ≤ a + 3 := by omega
  have v0 : wrap64 x0 = x0 := w64 _ (by omega) (by omega)
  have v1 : wrap64 x1 = x1 := w64 _ (by omega) (by omega)
  have v2 : wrap64 x2 = x2 := w64 _ (by omega) (by omega)
  have v3 : wrap64 x3 = x3 := w64 _ (by omega) (by omega)
  have u1 : wrap64 (256 * x1) = 256 * x1 := w64 _ (by omega) (by omega)
  have u2 : wrap64 (65536 * x2) = 65536 * x2 := w64 _ (by omega) (by omega)
  have u3 : wrap64 (16777216 * x3) = 16777216 * x3 := w64 _ (by omega) (by omega)
  have s1 : wrap64 (x0 + 256 * x1) = x0 + 256 * x1 := w64 _ (by omega) (by omega)
  have s2 : wrap64 (x0 + 256 * x1 + 65536 * x2) = x0 + 256 * x1 + 65536 * x2 := w64 _ (by omega) (by omega)
  have s3 : wrap64 (x0 + 256 * x1 + 65536 * x2 + 16777216 * x3) = x0 + 256 * x1 + 65536 * x2 + 16777216 * x3 := w64 _ (by omega) (by omega)
  unfold granaryref2_four.f
  simp only [w1, w2, w3, b0, b1, b2, b3, v0, v1, v2, v3, u1, u2, u3, s1, s2, s3, if_pos hA, if_pos c1, if_pos c2, if_pos c3, if_pos c4, if_pos c5, if_pos c6, if_pos hB]
theorem four_f (t : ByteArray) (at_ g : Nat) (h : at_ + 64 ≤ t.size) (hg : g < 16) (ht : t.size ≤ 4611686018427387904) : granaryref2_four.f t ((at_ : Int) + 4 * (g : Int)) = some ((wordAt (blk t at_) g : Nat) : Int) := by
  have b0 := blk_bt t at_ (4 * g) h (by omega)
  have b1 := blk_bt t at_ (4 * g + 1) h (by omega)
  have b2 := blk_bt t at_ (4 * g + 2) h (by omega)
  have b3 := blk_bt t at_ (4 * g + 3) h (by omega)
  have r : ∀ i, 0 ≤ (((blk t at_).getD i 0).toNat : Int) ∧ (((blk t at_).getD i 0).toNat : Int) ≤ 255 := fun i => by have := ((blk t at_).getD i 0).toNat_lt; omega
  rw [show (at_ : Int) + ((4 * g : Nat) : Int) = (at_ : Int) + 4 * (g : Int) by omega] at b0
  rw [show (at_ : Int) + ((4 * g + 1 : Nat) : Int) = (at_ : Int) + 4 * (g : Int) + 1 by omega] at b1
  rw [show (at_ : Int) + ((4 * g + 2 : Nat) : Int) = (at_ : Int) + 4 * (g : Int) + 2 by omega] at b2
  rw [show (at_ : Int) + ((4 * g + 3 : Nat) : Int) = (at_ : Int) + 4 * (g : Int) + 3 by omega] at b3
  rw [four_pure t _ _ _ _ _ (by omega) (by omega) ht b0 b1 b2 b3 (r _) (r _) (r _) (r _)]
  unfold wordAt
  simp only [Int.natCast_add, Int.natCast_mul]
  rfl
theorem four_any (t : ByteArray) (at_ g : Nat) (h : at_ + 64 ≤ t.size) (hg : g < 16) (ht : t.size ≤ 4611686018427387904) (w : World) :
    Calls Tryd.prog 137 #[.string t, .int .i64 ((at_ : Int) + 4 * (g : Int))] w fun e w' => e = .returned (.int .i64 (wordAt (blk t at_) g : Nat)) ∧ Drawn0 w w' := granaryref2_four.calls _ _ _ w (four_f t at_ g h hg ht)
theorem turn_any (x s : Nat) (hx : x < 4294967296) (h0 : 0 < s) (h1 : s < 32) (w : World) (hP : Pows w) :
    Calls Tryd.prog 138 #[.int .i64 (x : Nat), .int .i64 (s : Nat)] w fun e w' => e = .returned (.int .i64 (rotl x s : Nat)) ∧ Drawn0 w w' := by
  have hc1 := hP.cell s h1
  have hc2 := hP.cell (32 - s) (by omega)
  have hp1 := pw_le s h1
  have hp2 := pw_pos (32 - s)
  have hr : rotl x s = x * pw s % 4294967296 + x / pw (32 - s) := rfl
  have HR := Lib.hid hr
  have hm : x * pw s ≤ 4294967296 * 2147483648 := Nat.mul_le_mul (by omega) hp1
  clear hr hP
  generalize pw s = y at *
  generalize pw (32 - s) = z at *
  have hsub : (32 : Int) - (s : Int) = ((32 - s : Nat) : Int) := by omega
  have hz : 1 ≤ (z : Int) := by omega
  have hq0 : 0 ≤ (x : Int) / (z : Int) := Int.ediv_nonneg (by omega) (by omega)
  have hq1 : (x : Int) / (z : Int) ≤ 4294967296 := Int.le_trans (Int.ediv_le_self _ (by omega)) (by omega)
  have hmI : (x : Int) * (y : Int) ≤ 9223372036854775807 := by
    rw [← Int.natCast_mul]
    have : x * y ≤ 4294967295 * 2147483648 := Nat.mul_le_mul (by omega) hp1
    omega
  have hm0 : 0 ≤ (x : Int) * (y : Int) := by rw [← Int.natCast_mul]; omega
  have hw := w64 ((x : Int) * (y : Int)) (by omega) hmI
  go_enter Tryd.func138, Tryd.ntmps138
  go_wp2
  go_quiet (fail)
  go_wp2
  go_ret
  have he : ((x * y % 4294967296 + x / z : Nat) : Int) = (x : Int) * (y : Int) % 4294967296 + (x : Int) / (z : Int) := by
    simp only [Int.natCast_add, Int.natCast_emod, Int.natCast_ediv, Int.natCast_mul]; rfl
  rw [HR.out, he]
  exact ⟨rfl, ⟨⟨nq, rfl⟩⟩⟩
end Go.Proofs.YtljjpdjknnhceaaDoor.RefMD5

/- The document's MD5: one block, all blocks. -/
set_option linter.unusedVariables false
set_option linter.unusedSimpArgs false
namespace Go.Proofs.YtljjpdjknnhceaaDoor.RefMD5
open Go.RowKit Go.Proofs.YtljjpdjknnhceaaDoorW.PrintWords Go.Proofs.YtljjpdjknnhceaaDoorW.PrintLast Go.Proofs.YtljjpdjknnhceaaDoorW.PrintMore
open Go.Proofs.YtljjpdjknnhceaaDoor.Base Go.Proofs.YtljjpdjknnhceaaDoor.StepsRef Go.Proofs.YtljjpdjknnhceaaDoor.Words Go.Proofs.YtljjpdjknnhceaaDoor.PRingLocates
open Go.Proofs.YtljjpdjknnhceaaDoor.Md5Pure (St mdStep mdSteps mdBlock wordAt fF gG K R M rotl plus bytes4 told first blkN tail md5 padN len8)
def fL (s : St) : List Value := [.int .i64 (s.a : Nat), .int .i64 (s.b : Nat), .int .i64 (s.c : Nat), .int .i64 (s.d : Nat)]
def fV (s : St) : Array Value := #[.int .i64 (s.a : Nat), .int .i64 (s.b : Nat), .int .i64 (s.c : Nat), .int .i64 (s.d : Nat)]
def zeroF : Array Value := #[.int .i64 0, .int .i64 0, .int .i64 0, .int .i64 0]
/-- the document's row: a, d, c and the values of b -/
def rv (m : Nat → Nat) (s : St) : Nat → Nat
  | 0 => s.a
  | 1 => s.d
  | 2 => s.c
  | j + 3 => (mdSteps m s j).b
theorem rv_a (m : Nat → Nat) (s : St) : ∀ k, rv m s k = (mdSteps m s k).a
  | 0 => rfl
  | 1 => rfl
  | 2 => rfl
  | k + 3 => rfl
theorem rv_d (m : Nat → Nat) (s : St) : ∀ k, rv m s (k + 1) = (mdSteps m s k).d
  | 0 => rfl
  | 1 => rfl
  | k + 2 => rfl
theorem rv_c (m : Nat → Nat) (s : St) : ∀ k, rv m s (k + 2) = (mdSteps m s k).c
  | 0 => rfl
  | k + 1 => rfl
theorem rv_b (m : Nat → Nat) (s : St) (k : Nat) : rv m s (k + 3) = (mdSteps m s k).b := rfl
def cR (m : Nat → Nat) (s : St) (k i : Nat) : Value := .int .i64 ((if i < k then rv m s i else 0 : Nat) : Int)
theorem cR_next (m : Nat → Nat) (s : St) (k i : Nat) (x : Nat) (hx : x = rv m s k) : (if i = k then Value.int .i64 (x : Int) else cR m s k i) = cR m s (k + 1) i := by
  subst hx
  unfold cR
  by_cases h : i = k
  · subst h; rw [if_pos rfl, if_pos (by omega)]
  · rw [if_neg h]
    by_cases h2 : i < k
    · rw [if_pos h2, if_pos (by omega)]
    · rw [if_neg h2, if_neg (by omega)]
theorem cR_at (m : Nat → Nat) (s : St) (k i : Nat) (h : i < k) : cR m s k i = .int .i64 (rv m s i : Nat) := by unfold cR; rw [if_pos h]
theorem cR_zero (m : Nat → Nat) (s : St) (i : Nat) : cR m s 0 i = .int .i64 0 := by unfold cR; simp
/-- what the three blocks hold -/
structure Mem (w wr : World) (s : St) (f : Nat → Value) : Prop where mk ::
  (st : wr.heap[w.heap.size]? = some (.cells (fV s) 148 (0, 0)))
  (re : wr.heap[w.heap.size + 1]? = some (.cells zeroF 148 (0, 0))) (ms : wr.rowIs (w.heap.size + 1 + 1) 185 68 f) (be : Below w.heap.size w wr)
theorem Mem.after {w wr w3 : World} {s : St} {f : Nat → Value} (h : Mem w wr s f) (hb : Below wr.heap.size wr w3) : Mem w w3 s f := by
  have hlt := h.ms.lt
  exact ⟨(hb.block _ (by omega)).trans h.st, (hb.block _ (by omega)).trans h.re, h.ms.of_block (hb.block _ hlt), below_then h.be h.be.size hb⟩
theorem Mem.store {w wr : World} {s : St} {f : Nat → Value} (h : Mem w wr s f) (k : Nat) (v : Value) : Mem w (wr.setCell ⟨w.heap.size + 1 + 1, k, none⟩ v) s (fun i => if i = k then v else f i) := by
  refine ⟨?_, ?_, h.ms.set k v, h.be.setCell (by simp; omega) _⟩
  · rw [heap_setCell_other _ _ _ _ (by simp; omega)]; exact h.st
  · rw [heap_setCell_other _ _ _ _ (by simp)]; exact h.re
theorem Mem.congr {w wr : World} {s : St} {f g : Nat → Value} (h : Mem w wr s f) (e : ∀ i, i < 68 → f i = g i) : Mem w wr s g := ⟨h.st, h.re, h.ms.congr e, h.be⟩
theorem Mem.sts {w wr : World} {s : St} {f : Nat → Value} (h : Mem w wr s f) : wr.cell? ⟨w.heap.size, 0, none⟩ = some (.int .i64 (s.a : Nat)) ∧ wr.cell? ⟨w.heap.size, 1, none⟩ = some (.int .i64 (s.b : Nat)) ∧ wr.cell? ⟨w.heap.size, 2, none⟩ = some (.int .i64 (s.c : Nat)) ∧ wr.cell? ⟨w.heap.size, 3, none⟩ = some (.int .i64 (s.d : Nat)) :=
  ⟨cell_of_row _ _ _ _ _ _ h.st, cell_of_row _ _ _ _ _ _ h.st, cell_of_row _ _ _ _ _ _ h.st, cell_of_row _ _ _ _ _ _ h.st⟩
theorem three3 (w : World) (A B C : Obj) : (((w.alloc A).alloc B).alloc C).heap[w.heap.size]? = some A ∧ (((w.alloc A).alloc B).alloc C).heap[w.heap.size + 1]? = some B ∧ (((w.alloc A).alloc B).alloc C).heap[w.heap.size + 1 + 1]? = some C := by
  refine ⟨?_, ?_, ?_⟩
  · rw [Go.heap_alloc_old _ _ (by simp; omega), Go.heap_alloc_old _ _ (by simp), Go.heap_alloc_new]
  · rw [Go.heap_alloc_old _ _ (by simp)]; exact Go.heap_alloc_new (w.alloc A) B |> (by simpa using ·)
  · exact Go.heap_alloc_new ((w.alloc A).alloc B) C |> (by simpa using ·)
theorem zero68_row (w : World) (b : Nat) (t : TypeId) (f : Nat → Value) (h : w.heap[b]? = some (.cells Tryd.zeroCells185 t (0, 0))) (hf : ∀ i, i < 68 → f i = .int .i64 0) : w.rowIs b t 68 f := by
  refine ⟨_, h, rfl, fun i hi => ?_⟩
  rw [hf i hi]
  have : ∀ i : Fin 68, Tryd.zeroCells185[i.1]? = some (.int .i64 0) := by
    have e : Tryd.zeroCells185 = (List.replicate 68 (Value.int .i64 0)).toArray := rfl
    intro i
    rw [e, List.getElem?_toArray, List.getElem?_replicate, if_pos i.2]
  exact this ⟨i, hi⟩
set_option maxRecDepth 100000 in
set_option maxHeartbeats 4000000 in
theorem block_any (s : St) (t : ByteArray) (at_ : Nat) (w : World) (hs : s.ok) (h : at_ + 64 ≤ t.size) (ht : t.size ≤ 4611686018427387904) (hT : RTabs w) :
    Calls Tryd.prog 119 #[.agg (fV s), .string t, .int .i64 (at_ : Nat)] w fun e w' => e = .returned (.agg (fV (mdBlock s (blk t at_)))) ∧ Below w.heap.size w w' := by
  have HT := Aside0.mk hT
  clear hT
  obtain ⟨m, hm⟩ : ∃ m, m = wordAt (blk t at_) := ⟨_, rfl⟩
  have HMM := Aside0.mk hm
  clear hm
  have h3 := three3 w (.cells (fV s) 148) (.cells zeroF 148) (.cells Tryd.zeroCells185 185)
  have HM0 := Aside0.mk (Mem.mk h3.1 h3.2.1 (zero68_row _ _ _ (cR m s 0) h3.2.2 (fun i hi => cR_zero m s i)) ((((Below.refl w.heap.size w).alloc (Nat.le_refl _) _).alloc (by simp) _).alloc (by simp; omega) _))
  clear h3
  unfold zeroF at HM0
  go_enter Tryd.func119, Tryd.ntmps119
  go_wp2_with ((with_reducible refine gate_load (ty := 3) (x := .tmp 13) rfl ?_); have HM := Aside0.mk HM0.out; clear HM0; have hcs := HM.out.sts; generalize ((w.alloc (Obj.cells (fV s) 148)).alloc (Obj.cells #[Value.int IntKind.i64 0, Value.int IntKind.i64 0, Value.int IntKind.i64 0, Value.int IntKind.i64 0] 148)).alloc (Obj.cells Tryd.zeroCells185 185) = wr at HM hcs ⊢; obtain ⟨hca, hcb, hcc, hcd⟩ := hcs; have hz0 := HM.out.ms.cell (i := 0) (by decide); have hz1 := HM.out.ms.cell (i := 1) (by decide); have hz2 := HM.out.ms.cell (i := 2) (by decide); have hz3 := HM.out.ms.cell (i := 3) (by decide); have hf0 := HM.out.ms.frozen 0; have hf1 := HM.out.ms.frozen 1; have hf2 := HM.out.ms.frozen 2; have hf3 := HM.out.ms.frozen 3)
  have HM := Aside0.mk (((((HM.out.store 0 (.int .i64 (s.a : Nat))).store 1 (.int .i64 (s.d : Nat))).store 2 (.int .i64 (s.c : Nat))).store 3 (.int .i64 (s.b : Nat))).congr (g := cR m s 4) (fun i hi => by rw [cR_next m s 0 i s.a rfl, cR_next m s 1 i s.d rfl, cR_next m s 2 i s.c rfl, cR_next m s 3 i s.b rfl]))
  clear hca hcb hcc hcd hz0 hz1 hz2 hz3 hf0 hf1 hf2 hf3
  go_loopw [8, 9, 10, 11, 12] (fun iv _ _ _ _ wr => ∃ k : Nat, k ≤ 64 ∧ iv = .int .i64 k ∧ Aside0 (Mem w wr s (cR m s (k + 4)))) (fun iv _ _ _ _ _ => 64 - (intOf iv).toNat)
  case atStart => exact ⟨0, Nat.zero_le _, rfl, HM⟩
  case round =>
    clear HM
    obtain ⟨k, hk, rfl, HM⟩ := hrel
    obtain ⟨wo, rfl⟩ : ∃ wo : World, wo = wr := ⟨_, rfl⟩
    by_cases hlt : k < 64
    · have hok := Md5Pure.mdSteps_ok m s hs k
      have HN := Lib.hid (show (mdSteps m s (k + 1)).b = ((mdSteps m s k).b + Md5Pure.stepX m k (mdSteps m s k)) % 4294967296 from rfl)
      have HV0 := Aside0.mk (show some (cR m s (k + 4) k) = some (.int .i64 ((mdSteps m s k).a : Nat)) by rw [cR_at _ _ _ _ (by omega), rv_a])
      have HV1 := Aside0.mk (show some (cR m s (k + 4) (k + 1)) = some (.int .i64 ((mdSteps m s k).d : Nat)) by rw [cR_at _ _ _ _ (by omega), rv_d])
      have HV2 := Aside0.mk (show some (cR m s (k + 4) (k + 2)) = some (.int .i64 ((mdSteps m s k).c : Nat)) by rw [cR_at _ _ _ _ (by omega), rv_c])
      have HV3 := Aside0.mk (show some (cR m s (k + 4) (k + 3)) = some (.int .i64 ((mdSteps m s k).b : Nat)) by rw [cR_at _ _ _ _ (by omega), rv_b])
      generalize hte : mdSteps m s k = tt at hok HN HV0 HV1 HV2 HV3
      clear hte
      obtain ⟨ta, tb, tc, td⟩ := tt
      obtain ⟨ha, hb, hc, hd⟩ := hok
      simp only [] at HN HV0 HV1 HV2 HV3 ha hb hc hd
      have HRR := Aside0.mk (Md5Pure.R_range k hlt)
      have HG16 := Aside0.mk (Md5Pure.gG_lt k hlt)
      have HKL := Aside0.mk (Md5Pure.K_lt k hlt)
      have HFL := Aside0.mk (Md5Pure.fF_lt (k / 16) tb tc td hb hc hd)
      have HW := Aside0.mk (show ∀ at_ j, wordAt (blk t at_) j < 4294967296 from fun _ _ => Md5Pure.wordAt_lt _ _)
      obtain ⟨q, hqn⟩ : ∃ q : Nat, q = k / 16 := ⟨_, rfl⟩
      have hk0 : k < 68 := by omega
      have hk1 : k + 1 < 68 := by omega
      have hk2 : k + 2 < 68 := by omega
      have hk3 : k + 3 < 68 := by omega
      have hq : (k : Int) / 16 = (q : Int) := by omega
      have hqt : (k : Int).tdiv 16 = (q : Int) := by rw [Int.tdiv_eq_ediv_of_nonneg (by omega)]; exact hq
      have hv1 : Value.int .i64 (wrap64 ((k : Int) + 1)) = .int .i64 ((k : Int) + 1) := by rw [w64 _ (by omega) (by omega)]
      have hv2 : Value.int .i64 (wrap64 ((k : Int) + 2)) = .int .i64 ((k : Int) + 2) := by rw [w64 _ (by omega) (by omega)]
      have hv3 : Value.int .i64 (wrap64 ((k : Int) + 3)) = .int .i64 ((k : Int) + 3) := by rw [w64 _ (by omega) (by omega)]
      have hvq : Value.int .i64 (wrap64 (q : Int)) = .int .i64 (q : Int) := by rw [w64 _ (by omega) (by omega)]
      have hz1 : (0 ≤ (k : Int) + 1) = True := eq_true (by omega)
      have hz2 : (0 ≤ (k : Int) + 2) = True := eq_true (by omega)
      have hz3 : (0 ≤ (k : Int) + 3) = True := eq_true (by omega)
      have hl1 : ((k : Int) + 1 < 68) = True := eq_true (by omega)
      have hl2 : ((k : Int) + 2 < 68) = True := eq_true (by omega)
      have hl3 : ((k : Int) + 3 < 68) = True := eq_true (by omega)
      have ht1 : ((k : Int) + 1).toNat = k + 1 := by omega
      have ht2 : ((k : Int) + 2).toNat = k + 2 := by omega
      have ht3 : ((k : Int) + 3).toNat = k + 3 := by omega
      have HQ := Lib.hid hqn
      clear hqn
      have hc1 := (HM.out.ms.cell hk1).trans HV1.out
      have hc2 := (HM.out.ms.cell hk2).trans HV2.out
      have hc3 := (HM.out.ms.cell hk3).trans HV3.out
      go_wp2
      refine start_ (n := 16) (S := fun w' => w'.cell? ⟨w.heap.size + 1 + 1, k + 3, none⟩ = some (.int .i64 (tb : Nat)) ∧ w'.cell? ⟨w.heap.size + 1 + 1, k + 2, none⟩ = some (.int .i64 (tc : Nat)) ∧ w'.cell? ⟨w.heap.size + 1 + 1, k + 1, none⟩ = some (.int .i64 (td : Nat))) (ds := []) #[false, false, false, false, false, false, false, false, false, false, false, false, false, false, false, false] (by kernel_rfl) rfl rfl ⟨hc3, hc2, hc1⟩ (fun hHeld => ?_)
      refine pure_ (i := 0) (N := some 29) (v := ?_) (a' := ?_) #[true, false, false, false, false, false, false, false, false, false, false, false, false, false, false, false] rfl rfl (by kernel_rfl) (fun _ _ _ h => h) (Or.inl ⟨by rfl, ?_⟩) ?_ ?_
      rotate_left
      · intro w'
        go_simp
        with_reducible rfl
      rotate_left
      · simp only [Act.put, List.setIfInBounds_toArray, List.set_cons_zero, List.set_cons_succ, i64_w, i32_w]
        rfl
      refine pure_ (i := 1) (N := some 30) (v := ?_) (a' := ?_) #[true, true, false, false, false, false, false, false, false, false, false, false, false, false, false, false] rfl rfl (by kernel_rfl) (fun _ _ _ h => h) (Or.inl ⟨by rfl, ?_⟩) ?_ ?_
      rotate_left
      · intro w'
        go_simp
        with_reducible rfl
      rotate_left
      · simp only [Act.put, List.setIfInBounds_toArray, List.set_cons_zero, List.set_cons_succ, i64_w, i32_w]
        rfl
      refine pure_ (i := 2) (N := some 31) (v := ?_) (a' := ?_) #[true, true, true, false, false, false, false, false, false, false, false, false, false, false, false, false] rfl rfl (by kernel_rfl) (fun _ _ _ h => h) (Or.inl ⟨by rfl, ?_⟩) ?_ ?_
      rotate_left
      · intro w'
        go_simp
        with_reducible rfl
      rotate_left
      · simp only [Act.put, List.setIfInBounds_toArray, List.set_cons_zero, List.set_cons_succ, i64_w, i32_w]
        rfl
      refine pure_ (i := 3) (N := some 32) (v := ?_) (a' := ?_) #[true, true, true, true, false, false, false, false, false, false, false, false, false, false, false, false] rfl rfl (by kernel_rfl) (fun _ _ _ h => h) (Or.inl ⟨by rfl, ?_⟩) ?_ ?_
      rotate_left
      · intro w'
        go_simp
        with_reducible rfl
      rotate_left
      · simp only [Act.put, List.setIfInBounds_toArray, List.set_cons_zero, List.set_cons_succ, i64_w, i32_w]
        rfl
      refine pure_ (i := 4) (N := some 33) (v := ?_) (a' := ?_) #[true, true, true, true, true, false, false, false, false, false, false, false, false, false, false, false] rfl rfl (by kernel_rfl) (fun _ _ _ h => h) (Or.inl ⟨by rfl, ?_⟩) ?_ ?_
      rotate_left
      · intro w'
        go_simp
        with_reducible rfl
      rotate_left
      · simp only [Act.put, List.setIfInBounds_toArray, List.set_cons_zero, List.set_cons_succ, i64_w, i32_w]
        rfl
      refine pure_ (i := 6) (N := some 35) (v := ?_) (a' := ?_) #[true, true, true, true, true, false, true, false, false, false, false, false, false, false, false, false] rfl rfl (by kernel_rfl) (fun _ _ _ h => h) (Or.inl ⟨by rfl, ?_⟩) ?_ ?_
      rotate_left
      · intro w'
        go_simp
        with_reducible rfl
      rotate_left
      · simp only [Act.put, List.setIfInBounds_toArray, List.set_cons_zero, List.set_cons_succ, i64_w, i32_w]
        rfl
      refine pure_ (i := 7) (N := some 36) (v := ?_) (a' := ?_) #[true, true, true, true, true, false, true, true, false, false, false, false, false, false, false, false] rfl rfl (by kernel_rfl) (fun _ _ _ h => h) (Or.inl ⟨by rfl, ?_⟩) ?_ ?_
      rotate_left
      · intro w'
        go_simp
        with_reducible rfl
      rotate_left
      · simp only [Act.put, List.setIfInBounds_toArray, List.set_cons_zero, List.set_cons_succ, i64_w, i32_w]
        rfl
      refine pure_ (i := 8) (N := some 37) (v := ?_) (a' := ?_) #[true, true, true, true, true, false, true, true, true, false, false, false, false, false, false, false] rfl rfl (by kernel_rfl) (fun _ _ _ h => h) (Or.inl ⟨by rfl, ?_⟩) ?_ ?_
      rotate_left
      · intro w'
        go_simp
        with_reducible rfl
      rotate_left
      · simp only [Act.put, List.setIfInBounds_toArray, List.set_cons_zero, List.set_cons_succ, i64_w, i32_w]
        rfl
      refine pure_ (i := 10) (N := some 39) (v := ?_) (a' := ?_) #[true, true, true, true, true, false, true, true, true, false, true, false, false, false, false, false] rfl rfl (by kernel_rfl) (fun _ _ _ h => h) (Or.inl ⟨by rfl, ?_⟩) ?_ ?_
      rotate_left
      · intro w'
        go_simp
        with_reducible rfl
      rotate_left
      · simp only [Act.put, List.setIfInBounds_toArray, List.set_cons_zero, List.set_cons_succ, i64_w, i32_w]
        rfl
      refine pure_ (i := 11) (N := some 40) (v := ?_) (a' := ?_) #[true, true, true, true, true, false, true, true, true, false, true, true, false, false, false, false] rfl rfl (by kernel_rfl) (fun _ _ _ h => h) (Or.inl ⟨by rfl, ?_⟩) ?_ ?_
      rotate_left
      · intro w'
        go_simp
        with_reducible rfl
      rotate_left
      · simp only [Act.put, List.setIfInBounds_toArray, List.set_cons_zero, List.set_cons_succ, i64_w, i32_w]
        rfl
      refine pure_ (i := 12) (N := some 41) (v := ?_) (a' := ?_) #[true, true, true, true, true, false, true, true, true, false, true, true, true, false, false, false] rfl rfl (by kernel_rfl) (fun _ _ _ h => h) (Or.inl ⟨by rfl, ?_⟩) ?_ ?_
      rotate_left
      · intro w'
        go_simp
        with_reducible rfl
      rotate_left
      · simp only [Act.put, List.setIfInBounds_toArray, List.set_cons_zero, List.set_cons_succ, i64_w, i32_w]
        rfl
      refine take_ (i := 5) (N := some 34) (v := ?_) (a' := ?_) #[true, true, true, true, true, true, true, true, true, false, true, true, true, false, false, false] rfl rfl (by kernel_rfl) (fun _ _ _ h => h) (Or.inl ⟨by rfl, ?_⟩) hHeld ?_ ?_
      rotate_left
      · rintro w' ⟨s0, s1, s2⟩
        go_simp
        with_reducible rfl
      rotate_left
      · simp only [Act.put, List.setIfInBounds_toArray, List.set_cons_zero, List.set_cons_succ, i64_w, i32_w]
        rfl
      refine take_ (i := 9) (N := some 38) (v := ?_) (a' := ?_) #[true, true, true, true, true, true, true, true, true, true, true, true, true, false, false, false] rfl rfl (by kernel_rfl) (fun _ _ _ h => h) (Or.inl ⟨by rfl, ?_⟩) hHeld ?_ ?_
      rotate_left
      · rintro w' ⟨s0, s1, s2⟩
        go_simp
        with_reducible rfl
      rotate_left
      · simp only [Act.put, List.setIfInBounds_toArray, List.set_cons_zero, List.set_cons_succ, i64_w, i32_w]
        rfl
      refine take_ (i := 13) (N := some 42) (v := ?_) (a' := ?_) #[true, true, true, true, true, true, true, true, true, true, true, true, true, true, false, false] rfl rfl (by kernel_rfl) (fun _ _ _ h => h) (Or.inl ⟨by rfl, ?_⟩) hHeld ?_ ?_
      rotate_left
      · rintro w' ⟨s0, s1, s2⟩
        go_simp
        with_reducible rfl
      rotate_left
      · simp only [Act.put, List.setIfInBounds_toArray, List.set_cons_zero, List.set_cons_succ, i64_w, i32_w]
        rfl
      refine one_ (i := 14) (N := some 43) #[true, true, true, true, true, true, true, true, true, true, true, true, true, true, true, false] rfl rfl (by kernel_rfl) (by decide) (fun K hK => ?_)
      refine goes_ Tryd.func135 (by kernel_rfl) rfl #[.int .i64 (wrap64 ((q : Nat) : Int)), .int .i64 (tb : Nat), .int .i64 (tc : Nat), .int .i64 (td : Nat)] (by rfl) rfl rfl (by simp only [List.map_toArray, List.map_cons, List.map_nil]; rfl) ?_
      rw [hvq]
      with_reducible refine (mixed_any q tb tc td _ hb hc hd).mono ?_
      rintro e w3 ⟨rfl, hd3⟩
      have HM3 := Aside0.mk (HM.out.after (below_drew_left hd3.below))
      refine ⟨_, rfl, ?_⟩
      refine hK.out _ _ ⟨(HM3.out.ms.cell hk3).trans HV3.out, (HM3.out.ms.cell hk2).trans HV2.out, (HM3.out.ms.cell hk1).trans HV1.out⟩ (fun hHeld => ?_)
      clear hK K
      refine norm_ (a' := ?_) ?_ ?_
      rotate_left
      · show Act.put _ (some 43) _ = _
        simp only [Act.put, List.setIfInBounds_toArray, List.set_cons_zero, List.set_cons_succ, i64_w, i32_w]
        rfl
      refine pure_ (i := 15) (N := some 9) (v := ?_) (a' := ?_) #[true, true, true, true, true, true, true, true, true, true, true, true, true, true, true, true] rfl rfl (by kernel_rfl) (fun _ _ _ h => h) (Or.inl ⟨by rfl, ?_⟩) ?_ ?_
      rotate_left
      · intro w'
        go_simp
        with_reducible rfl
      rotate_left
      · simp only [Act.put, List.setIfInBounds_toArray, List.set_cons_zero, List.set_cons_succ, i64_w, i32_w]
        rfl
      refine done_ (by kernel_rfl) ?_
      clear hc1 hc2 hc3 hv1 hv2 hv3 hvq hz1 hz2 hz3 hl1 hl2 hl3 ht1 ht2 ht3 HM hd3
      have HM := HM3
      clear HM3
      go_wp2_with fail
      refine (which_any k hlt w3).mono ?_
      rintro e w4 ⟨rfl, hd⟩
      have HM := Aside0.mk (HM.out.after hd.below)
      clear hd
      generalize hgg : gG k = gg at HG16 ⊢
      have HGG := Lib.hid hgg
      have hgl := HG16.out
      clear hgg
      go_wp2_with fail
      refine (four_any t at_ gg h hgl ht w4).mono ?_
      rintro e w5 ⟨rfl, hd⟩
      have HM := Aside0.mk (HM.out.after hd.below)
      clear hd
      have hmm := HW.out at_ gg
      have HMG := Lib.hid (congrFun HMM.out gg)
      generalize wordAt (blk t at_) gg = mm at hmm HMG ⊢
      have hR := HRR.out
      have hKl := HKL.out
      have hff := HFL.out
      have HR := Aside0.mk (show (mdSteps m s (k + 1)).b = (tb + Md5Pure.rotl ((ta + fF q tb tc td + K k + mm) % 4294967296) (R k)) % 4294967296 by
        rw [HN.out]; unfold Md5Pure.stepX; simp only []; rw [HGG.out, HMG.out, ← HQ.out])
      rw [← HQ.out] at hff
      clear HN HFL
      generalize fF q tb tc td = ff at hff HR ⊢
      obtain ⟨ri, hrin⟩ : ∃ ri : Nat, ri = 4 * q + k % 4 := ⟨_, rfl⟩
      have hq4 : q < 4 := by rw [HQ.out]; omega
      have hri : ri < 16 := by omega
      have hcr0 : Md5Pure.turns.getD ri 0 = R k := by unfold Md5Pure.R; rw [← HQ.out, hrin]
      have HCR := Aside0.mk (show some (Value.int .i64 ((Md5Pure.turns.getD ri 0 : Nat) : Int)) = some (.int .i64 (R k : Nat)) by rw [hcr0])
      clear hcr0
      have hcs := (HT.out.below HM.out.be).sine k hlt
      have hct := ((HT.out.below HM.out.be).turn ri hri).trans HCR.out
      have hc0 := (HM.out.ms.cell hk0).trans HV0.out
      obtain ⟨kk, hkk⟩ : ∃ kk, kk = K k := ⟨_, rfl⟩
      rw [← hkk] at hKl hcs HR
      have HKE := Aside0.mk (show some (Value.int .i64 (K k : Nat)) = some (Value.int .i64 (kk : Nat)) by rw [hkk])
      obtain ⟨rr, hrr⟩ : ∃ rr, rr = R k := ⟨_, rfl⟩
      rw [← hrr] at hR hct HR HCR
      obtain ⟨xx, hxn⟩ : ∃ xx : Nat, xx = (ta + ff + kk + mm) % 4294967296 := ⟨_, rfl⟩
      rw [← hxn] at HR
      have hxx : xx < 4294967296 := by rw [hxn]; exact Nat.mod_lt _ (by decide)
      have HX := Lib.hid (show Int.tmod (wrap64 (wrap64 (wrap64 ((ta : Int) + (ff : Int)) + (kk : Int)) + (mm : Int))) 4294967296 = (xx : Int) by
        rw [w64 ((ta : Int) + (ff : Int)) (by omega) (by omega), w64 ((ta : Int) + (ff : Int) + (kk : Int)) (by omega) (by omega), w64 ((ta : Int) + (ff : Int) + (kk : Int) + (mm : Int)) (by omega) (by omega), Int.tmod_eq_emod_of_nonneg (by omega)]
        omega)
      obtain ⟨r4, hr4⟩ : ∃ r4 : Nat, (k : Int).tmod 4 = (r4 : Int) := ⟨k % 4, by rw [Int.tmod_eq_emod_of_nonneg (by omega)]; omega⟩
      have hr4e : (k : Int) % 4 = (r4 : Int) := by rw [← Int.tmod_eq_emod_of_nonneg (by omega)]; exact hr4
      have hvI : Value.int .i64 (wrap64 (wrap64 (4 * wrap64 (q : Int)) + (r4 : Int))) = .int .i64 (ri : Int) := by
        rw [w64 (q : Int) (by omega) (by omega), w64 (4 * (q : Int)) (by omega) (by omega), w64 _ (by omega) (by omega)]
        congr 1; omega
      have hrl : ((ri : Int) < 16) = True := eq_true (by omega)
      have hkl : ((k : Int) < 68) = True := eq_true (by omega)
      have hkl2 : ((k : Int) < 64) = True := eq_true (by omega)
      have HRI := Aside0.mk hrin
      have HXN := Aside0.mk hxn
      have HRR2 := Aside0.mk hrr
      have HKK2 := Aside0.mk hkk
      clear hrin hxn hrr hkk
      go_wp2
      refine start_ (n := 22) (S := fun w' => w'.cell? ⟨w.heap.size + 1 + 1, k, none⟩ = some (.int .i64 (ta : Nat)) ∧ w'.cell? ⟨5, k, none⟩ = some (.int .i64 (kk : Nat)) ∧ w'.cell? ⟨6, ri, none⟩ = some (.int .i64 (rr : Nat))) (ds := []) #[false, false, false, false, false, false, false, false, false, false, false, false, false, false, false, false, false, false, false, false, false, false] (by kernel_rfl) rfl rfl ⟨hc0, hcs, hct⟩ (fun hHeld => ?_)
      refine pure_ (i := 0) (N := some 52) (v := ?_) (a' := ?_) #[true, false, false, false, false, false, false, false, false, false, false, false, false, false, false, false, false, false, false, false, false, false] rfl rfl (by kernel_rfl) (fun _ _ _ h => h) (Or.inl ⟨by rfl, ?_⟩) ?_ ?_
      rotate_left
      · intro w'
        go_simp
        with_reducible rfl
      rotate_left
      · simp only [Act.put, List.setIfInBounds_toArray, List.set_cons_zero, List.set_cons_succ, i64_w, i32_w]
        rfl
      refine pure_ (i := 1) (N := some 53) (v := ?_) (a' := ?_) #[true, true, false, false, false, false, false, false, false, false, false, false, false, false, false, false, false, false, false, false, false, false] rfl rfl (by kernel_rfl) (fun _ _ _ h => h) (Or.inl ⟨by rfl, ?_⟩) ?_ ?_
      rotate_left
      · intro w'
        go_simp
        with_reducible rfl
      rotate_left
      · simp only [Act.put, List.setIfInBounds_toArray, List.set_cons_zero, List.set_cons_succ, i64_w, i32_w]
        rfl
      refine pure_ (i := 3) (N := some 55) (v := ?_) (a' := ?_) #[true, true, false, true, false, false, false, false, false, false, false, false, false, false, false, false, false, false, false, false, false, false] rfl rfl (by kernel_rfl) (fun _ _ _ h => h) (Or.inl ⟨by rfl, ?_⟩) ?_ ?_
      rotate_left
      · intro w'
        go_simp
        with_reducible rfl
      rotate_left
      · simp only [Act.put, List.setIfInBounds_toArray, List.set_cons_zero, List.set_cons_succ, i64_w, i32_w]
        rfl
      refine pure_ (i := 5) (N := some 57) (v := ?_) (a' := ?_) #[true, true, false, true, false, true, false, false, false, false, false, false, false, false, false, false, false, false, false, false, false, false] rfl rfl (by kernel_rfl) (fun _ _ _ h => h) (Or.inl ⟨by rfl, ?_⟩) ?_ ?_
      rotate_left
      · intro w'
        go_simp
        with_reducible rfl
      rotate_left
      · simp only [Act.put, List.setIfInBounds_toArray, List.set_cons_zero, List.set_cons_succ, i64_w, i32_w]
        rfl
      refine pure_ (i := 6) (N := some 58) (v := ?_) (a' := ?_) #[true, true, false, true, false, true, true, false, false, false, false, false, false, false, false, false, false, false, false, false, false, false] rfl rfl (by kernel_rfl) (fun _ _ _ h => h) (Or.inl ⟨by rfl, ?_⟩) ?_ ?_
      rotate_left
      · intro w'
        go_simp
        with_reducible rfl
      rotate_left
      · simp only [Act.put, List.setIfInBounds_toArray, List.set_cons_zero, List.set_cons_succ, i64_w, i32_w]
        rfl
      refine pure_ (i := 9) (N := some 61) (v := ?_) (a' := ?_) #[true, true, false, true, false, true, true, false, false, true, false, false, false, false, false, false, false, false, false, false, false, false] rfl rfl (by kernel_rfl) (fun _ _ _ h => h) (Or.inl ⟨by rfl, ?_⟩) ?_ ?_
      rotate_left
      · intro w'
        go_simp
        with_reducible rfl
      rotate_left
      · simp only [Act.put, List.setIfInBounds_toArray, List.set_cons_zero, List.set_cons_succ, i64_w, i32_w]
        rfl
      refine pure_ (i := 12) (N := some 64) (v := ?_) (a' := ?_) #[true, true, false, true, false, true, true, false, false, true, false, false, true, false, false, false, false, false, false, false, false, false] rfl rfl (by kernel_rfl) (fun _ _ _ h => h) (Or.inl ⟨by rfl, ?_⟩) ?_ ?_
      rotate_left
      · intro w'
        go_simp
        with_reducible rfl
      rotate_left
      · simp only [Act.put, List.setIfInBounds_toArray, List.set_cons_zero, List.set_cons_succ, i64_w, i32_w]
        rfl
      refine pure_ (i := 13) (N := some 65) (v := ?_) (a' := ?_) #[true, true, false, true, false, true, true, false, false, true, false, false, true, true, false, false, false, false, false, false, false, false] rfl rfl (by kernel_rfl) (fun _ _ _ h => h) (Or.inl ⟨by rfl, ?_⟩) ?_ ?_
      rotate_left
      · intro w'
        go_simp
        with_reducible rfl
      rotate_left
      · simp only [Act.put, List.setIfInBounds_toArray, List.set_cons_zero, List.set_cons_succ, i64_w, i32_w]
        rfl
      refine pure_ (i := 14) (N := some 66) (v := ?_) (a' := ?_) #[true, true, false, true, false, true, true, false, false, true, false, false, true, true, true, false, false, false, false, false, false, false] rfl rfl (by kernel_rfl) (fun _ _ _ h => h) (Or.inl ⟨by rfl, ?_⟩) ?_ ?_
      rotate_left
      · intro w'
        go_simp
        with_reducible rfl
      rotate_left
      · simp only [Act.put, List.setIfInBounds_toArray, List.set_cons_zero, List.set_cons_succ, i64_w, i32_w]
        rfl
      refine pure_ (i := 15) (N := some 67) (v := ?_) (a' := ?_) #[true, true, false, true, false, true, true, false, false, true, false, false, true, true, true, true, false, false, false, false, false, false] rfl rfl (by kernel_rfl) (fun _ _ _ h => h) (Or.inl ⟨by rfl, ?_⟩) ?_ ?_
      rotate_left
      · intro w'
        go_simp
        with_reducible rfl
      rotate_left
      · simp only [Act.put, List.setIfInBounds_toArray, List.set_cons_zero, List.set_cons_succ, i64_w, i32_w]
        rfl
      refine pure_ (i := 16) (N := some 68) (v := ?_) (a' := ?_) #[true, true, false, true, false, true, true, false, false, true, false, false, true, true, true, true, true, false, false, false, false, false] rfl rfl (by kernel_rfl) (fun _ _ _ h => h) (Or.inl ⟨by rfl, ?_⟩) ?_ ?_
      rotate_left
      · intro w'
        go_simp
        with_reducible rfl
      rotate_left
      · simp only [Act.put, List.setIfInBounds_toArray, List.set_cons_zero, List.set_cons_succ, i64_w, i32_w]
        rfl
      refine pure_ (i := 17) (N := some 69) (v := ?_) (a' := ?_) #[true, true, false, true, false, true, true, false, false, true, false, false, true, true, true, true, true, true, false, false, false, false] rfl rfl (by kernel_rfl) (fun _ _ _ h => h) (Or.inl ⟨by rfl, ?_⟩) ?_ ?_
      rotate_left
      · intro w'
        go_simp
        with_reducible rfl
      rotate_left
      · simp only [Act.put, List.setIfInBounds_toArray, List.set_cons_zero, List.set_cons_succ, i64_w, i32_w]
        rfl
      refine pure_ (i := 18) (N := some 70) (v := ?_) (a' := ?_) #[true, true, false, true, false, true, true, false, false, true, false, false, true, true, true, true, true, true, true, false, false, false] rfl rfl (by kernel_rfl) (fun _ _ _ h => h) (Or.inl ⟨by rfl, ?_⟩) ?_ ?_
      rotate_left
      · intro w'
        go_simp
        with_reducible rfl
      rotate_left
      · simp only [Act.put, List.setIfInBounds_toArray, List.set_cons_zero, List.set_cons_succ, i64_w, i32_w]
        rfl
      refine take_ (i := 2) (N := some 54) (v := ?_) (a' := ?_) #[true, true, true, true, false, true, true, false, false, true, false, false, true, true, true, true, true, true, true, false, false, false] rfl rfl (by kernel_rfl) (fun _ _ _ h => h) (Or.inl ⟨by rfl, ?_⟩) hHeld ?_ ?_
      rotate_left
      · rintro w' ⟨s0, s1, s2⟩
        go_simp
        with_reducible rfl
      rotate_left
      · simp only [Act.put, List.setIfInBounds_toArray, List.set_cons_zero, List.set_cons_succ, i64_w, i32_w]
        rfl
      refine pure_ (i := 4) (N := some 56) (v := ?_) (a' := ?_) #[true, true, true, true, true, true, true, false, false, true, false, false, true, true, true, true, true, true, true, false, false, false] rfl rfl (by kernel_rfl) (fun _ _ _ h => h) (Or.inl ⟨by rfl, ?_⟩) ?_ ?_
      rotate_left
      · intro w'
        go_simp
        with_reducible rfl
      rotate_left
      · simp only [Act.put, List.setIfInBounds_toArray, List.set_cons_zero, List.set_cons_succ, i64_w, i32_w]
        rfl
      refine take_ (i := 7) (N := some 59) (v := ?_) (a' := ?_) #[true, true, true, true, true, true, true, true, false, true, false, false, true, true, true, true, true, true, true, false, false, false] rfl rfl (by kernel_rfl) (fun _ _ _ h => h) (Or.inl ⟨by rfl, ?_⟩) hHeld ?_ ?_
      rotate_left
      · rintro w' ⟨s0, s1, s2⟩
        go_simp
        with_reducible rfl
      rotate_left
      · simp only [Act.put, List.setIfInBounds_toArray, List.set_cons_zero, List.set_cons_succ, i64_w, i32_w]
        rfl
      refine pure_ (i := 8) (N := some 60) (v := ?_) (a' := ?_) #[true, true, true, true, true, true, true, true, true, true, false, false, true, true, true, true, true, true, true, false, false, false] rfl rfl (by kernel_rfl) (fun _ _ _ h => h) (Or.inl ⟨by rfl, ?_⟩) ?_ ?_
      rotate_left
      · intro w'
        go_simp
        with_reducible rfl
      rotate_left
      · simp only [Act.put, List.setIfInBounds_toArray, List.set_cons_zero, List.set_cons_succ, i64_w, i32_w]
        rfl
      refine pure_ (i := 10) (N := some 62) (v := ?_) (a' := ?_) #[true, true, true, true, true, true, true, true, true, true, true, false, true, true, true, true, true, true, true, false, false, false] rfl rfl (by kernel_rfl) (fun _ _ _ h => h) (Or.inl ⟨by rfl, ?_⟩) ?_ ?_
      rotate_left
      · intro w'
        go_simp
        with_reducible rfl
      rotate_left
      · simp only [Act.put, List.setIfInBounds_toArray, List.set_cons_zero, List.set_cons_succ, i64_w, i32_w]
        rfl
      refine pure_ (i := 11) (N := some 63) (v := ?_) (a' := ?_) #[true, true, true, true, true, true, true, true, true, true, true, true, true, true, true, true, true, true, true, false, false, false] rfl rfl (by kernel_rfl) (fun _ _ _ h => h) (Or.inl ⟨by rfl, ?_⟩) ?_ ?_
      rotate_left
      · intro w'
        go_simp
        with_reducible rfl
      rotate_left
      · simp only [Act.put, List.setIfInBounds_toArray, List.set_cons_zero, List.set_cons_succ, i64_w, i32_w]
        rfl
      refine take_ (i := 19) (N := some 71) (v := ?_) (a' := ?_) #[true, true, true, true, true, true, true, true, true, true, true, true, true, true, true, true, true, true, true, true, false, false] rfl rfl (by kernel_rfl) (fun _ _ _ h => h) (Or.inl ⟨by rfl, ?_⟩) hHeld ?_ ?_
      rotate_left
      · rintro w' ⟨s0, s1, s2⟩
        go_simp
        with_reducible rfl
      rotate_left
      · simp only [Act.put, List.setIfInBounds_toArray, List.set_cons_zero, List.set_cons_succ, i64_w, i32_w]
        rfl
      refine one_ (i := 20) (N := some 72) #[true, true, true, true, true, true, true, true, true, true, true, true, true, true, true, true, true, true, true, true, true, false] rfl rfl (by kernel_rfl) (by decide) (fun K hK => ?_)
      refine goes_ Tryd.func138 (by kernel_rfl) rfl #[.int .i64 (Int.tmod (wrap64 (wrap64 (wrap64 ((ta : Int) + (ff : Int)) + (kk : Int)) + (mm : Int))) 4294967296), .int .i64 (rr : Nat)] (by rfl) rfl rfl (by simp only [List.map_toArray, List.map_cons, List.map_nil]; rfl) ?_
      rw [HX.out]
      with_reducible refine (turn_any xx rr hxx hR.1 hR.2 _ (HT.out.pows.below (below_drew HM.out.be))).mono ?_
      rintro e w3 ⟨rfl, hd3⟩
      have HM3 := Aside0.mk (HM.out.after (below_drew_left hd3.below))
      refine ⟨_, rfl, ?_⟩
      refine hK.out _ _ ⟨(HM3.out.ms.cell hk0).trans HV0.out, ((HT.out.below HM3.out.be).sine k hlt).trans HKE.out, ((HT.out.below HM3.out.be).turn ri hri).trans HCR.out⟩ (fun hHeld => ?_)
      clear hK K
      refine norm_ (a' := ?_) ?_ ?_
      rotate_left
      · show Act.put _ (some 72) _ = _
        simp only [Act.put, List.setIfInBounds_toArray, List.set_cons_zero, List.set_cons_succ, i64_w, i32_w]
        rfl
      refine pure_ (i := 21) (N := some 12) (v := ?_) (a' := ?_) #[true, true, true, true, true, true, true, true, true, true, true, true, true, true, true, true, true, true, true, true, true, true] rfl rfl (by kernel_rfl) (fun _ _ _ h => h) (Or.inl ⟨by rfl, ?_⟩) ?_ ?_
      rotate_left
      · intro w'
        go_simp
        with_reducible rfl
      rotate_left
      · simp only [Act.put, List.setIfInBounds_toArray, List.set_cons_zero, List.set_cons_succ, i64_w, i32_w]
        rfl
      refine done_ (by kernel_rfl) ?_
      have hrl2 := (Mix.rotl_lt xx rr hxx hR.1 hR.2).1
      clear hc0 hcs hct hvI hrl hkl hkl2 hr4 hr4e HX HM hd3 hq hqt
      generalize rotl xx rr = x at hrl2 HR ⊢
      have hc3 := (HM3.out.ms.cell hk3).trans HV3.out
      have hc4 := HM3.out.ms.cell (i := k + 4) (by omega)
      have hf4 := HM3.out.ms.frozen (k + 4)
      have hrb := rv_b m s (k + 1)
      have HRB := Aside0.mk (show (tb + x) % 4294967296 = rv m s (k + 4) from HR.out.symm)
      clear HR hrb
      go_wp2
      go_roundw
      case rel => exact ⟨k + 1, by omega, by go_num, ⟨(HM3.out.store (k + 4) _).congr (fun i hi => cR_next m s (k + 4) i ((tb + x) % 4294967296) HRB.out)⟩⟩
      case measure => simp [intOf]; omega
    · obtain rfl : k = 64 := by omega
      have hok := Md5Pure.mdSteps_ok m s hs 64
      have hc0 := (HM.out.ms.cell (i := 64) (by decide)).trans (show some (cR m s (64 + 4) 64) = some (.int .i64 ((mdSteps m s 64).a : Nat)) by rw [cR_at _ _ _ _ (by omega), rv_a])
      have hc1 := (HM.out.ms.cell (i := 65) (by decide)).trans (show some (cR m s (64 + 4) 65) = some (.int .i64 ((mdSteps m s 64).d : Nat)) by rw [cR_at _ _ _ _ (by omega), rv_d])
      have hc2 := (HM.out.ms.cell (i := 66) (by decide)).trans (show some (cR m s (64 + 4) 66) = some (.int .i64 ((mdSteps m s 64).c : Nat)) by rw [cR_at _ _ _ _ (by omega), rv_c])
      have hc3 := (HM.out.ms.cell (i := 67) (by decide)).trans (show some (cR m s (64 + 4) 67) = some (.int .i64 ((mdSteps m s 64).b : Nat)) by rw [cR_at _ _ _ _ (by omega), rv_b])
      obtain ⟨hca, hcb, hcc, hcd⟩ := HM.out.sts
      have hth : wo.there (w.heap.size + 1) 0 4 := by
        intro j hj
        rw [Nat.zero_add]
        refine ⟨?_, frozen_of_row _ _ j _ _ HM.out.re⟩
        rw [cell_of_row _ _ j _ _ _ HM.out.re]
        have e : j = 0 ∨ j = 1 ∨ j = 2 ∨ j = 3 := by omega
        rcases e with e | e | e | e <;> subst e <;> rfl
      have HE := Lib.hid (show mdBlock s (blk t at_) = plus s (mdSteps m s 64) by rw [HMM.out]; rfl)
      generalize mdSteps m s 64 = tt at hok HE hc0 hc1 hc2 hc3
      obtain ⟨ta, tb, tc, td⟩ := tt
      obtain ⟨ha, hb, hc, hd⟩ := hok
      obtain ⟨hsa, hsb, hsc, hsd⟩ := hs
      simp only [] at ha hb hc hd hc0 hc1 hc2 hc3
      have hi1 : (Tryd.prog.info? 148).map (·.size) = some 4 := by kernel_rfl
      have h1c : (List.toArray [Value.int .i64 ((((s.a : Nat) : Int) + (ta : Nat)) % 4294967296), .int .i64 ((((s.b : Nat) : Int) + (tb : Nat)) % 4294967296), .int .i64 ((((s.c : Nat) : Int) + (tc : Nat)) % 4294967296), .int .i64 ((((s.d : Nat) : Int) + (td : Nat)) % 4294967296)]).all (·.oneCell') = true := all_oneCell_toArray (by simp [Value.oneCell'])
      go_wp2_with ((with_reducible refine gate_store (ty := 148) (x := .tmp 6) (y := .tmp 107) rfl ?_); refine wpList_store_mid rfl 148 (.tmp 6) (.tmp 107) rfl (w.heap.size + 1) 0 (List.toArray [Value.int .i64 ((((s.a : Nat) : Int) + (ta : Nat)) % 4294967296), .int .i64 ((((s.b : Nat) : Int) + (tb : Nat)) % 4294967296), .int .i64 ((((s.c : Nat) : Int) + (tc : Nat)) % 4294967296), .int .i64 ((((s.d : Nat) : Int) + (td : Nat)) % 4294967296)]) rfl rfl hth hi1 h1c ?_)
      refine bodyPost_ret (v := .agg (fV (mdBlock s (blk t at_)))) ?_ rfl ⟨rfl, StepsRef.below_setCells HM.out.be (by omega) _ _⟩
      rw [HE.out]
      exact results_cell_mid (by rfl) _ _ (w.heap.size + 1) 0 [.int .i64 ((((s.a : Nat) : Int) + (ta : Nat)) % 4294967296), .int .i64 ((((s.b : Nat) : Int) + (tb : Nat)) % 4294967296), .int .i64 ((((s.c : Nat) : Int) + (tc : Nat)) % 4294967296), .int .i64 ((((s.d : Nat) : Int) + (td : Nat)) % 4294967296)] _ (by rfl) (World.rangeAt_setCells_same _ _ _ _ (by simpa using hth)) Tryd.underlying148 rfl hi1
end Go.Proofs.YtljjpdjknnhceaaDoor.RefMD5

/- The document's MD5: the padding, the four words as bytes. -/
set_option linter.unusedVariables false
set_option linter.unusedSimpArgs false
namespace Go.Proofs.YtljjpdjknnhceaaDoor.RefMD5
open Go.RowKit Go.Proofs.YtljjpdjknnhceaaDoorW.PrintWords Go.Proofs.YtljjpdjknnhceaaDoorW.PrintLast Go.Proofs.YtljjpdjknnhceaaDoorW.PrintMore
open Go.Proofs.YtljjpdjknnhceaaDoor.Base Go.Proofs.YtljjpdjknnhceaaDoor.StepsRef Go.Proofs.YtljjpdjknnhceaaDoor.Words Go.Proofs.YtljjpdjknnhceaaDoor.PRingLocates
open Go.Proofs.YtljjpdjknnhceaaDoor.Sum (endI endI_next endI_length endI_str lenI)
open Go.Proofs.YtljjpdjknnhceaaDoor.Md5Pure (St bytes4 told first tail md5 padN len8)
set_option maxRecDepth 100000 in
set_option maxHeartbeats 1000000 in
theorem bytes4_any (x : Nat) (w : World) (hx : x < 4294967296) : Calls Tryd.prog 120 #[.int .i64 (x : Nat)] w fun e w' => e = .returned (.string (strOf (bytes4 x))) ∧ Below w.heap.size w w' := by
  have hnew := news w [.int .u8 ((x : Int) % 256), .int .u8 ((x : Int) / 256 % 256), .int .u8 ((x : Int) / 65536 % 256), .int .u8 ((x : Int) / 16777216 % 256)] 5
  have hcv := run_convert_bytes_arg (P := Tryd.prog) (w.alloc (.cells [Value.int .u8 ((x : Int) % 256), .int .u8 ((x : Int) / 256 % 256), .int .u8 ((x : Int) / 65536 % 256), .int .u8 ((x : Int) / 16777216 % 256)].toArray 5)) 109 5 Tryd.underlying109 Tryd.underlying5 w.heap.size 0 4 4 (b4 x) rfl (fun i hi => by
    rw [Nat.zero_add]
    refine hnew i _ ?_
    have e : i = 0 ∨ i = 1 ∨ i = 2 ∨ i = 3 := by omega
    rcases e with e | e | e | e <;> subst e <;> simp [b4]) 9 Tryd.underlying9
  have e1 : strOfNums (b4 x) = strOf (bytes4 x) := by unfold strOfNums; rw [b4_bytes]; rfl
  rw [e1] at hcv
  have HB := Aside0.mk ((Below.refl w.heap.size w).alloc (Nat.le_refl _) (.cells [Value.int .u8 ((x : Int) % 256), .int .u8 ((x : Int) / 256 % 256), .int .u8 ((x : Int) / 65536 % 256), .int .u8 ((x : Int) / 16777216 % 256)].toArray 5))
  clear hnew e1
  go_enter Tryd.func120, Tryd.ntmps120
  go_wp2
  go_ret
  exact ⟨rfl, HB.out⟩
theorem lit_owns (w : World) (n : Nat) (e : TypeId) : (w.alloc (.cells #[.int .u8 128] e)).ownsRow w.heap.size e 1 (.slice (some ⟨w.heap.size, 0, none⟩) 1 1) (1 + 0) (nums .u8 (endI 0 n 0)) :=
  ⟨rfl, .inr ⟨w.heap.size, 1, _, rfl, Nat.le_refl _, heap_alloc_new w _, by omega, by simp only [maxLen]; omega, by simp, rfl⟩⟩
theorem own_slice {w : World} {base : Nat} {e : TypeId} {v : Value} {n : Nat} {xs : List Value} (h : w.ownsRow base e 1 v n xs) (hn : n ≠ 0) : ∃ g c, v = .slice (some ⟨g, 0, none⟩) n c := by
  rcases h.2 with ⟨_, h2⟩ | ⟨g, cap, cs, rfl, _⟩
  · exact absurd h2 hn
  · exact ⟨g, cap, rfl⟩
def lenV : Value → Nat
  | .slice _ n _ => n
  | _ => 0
theorem endI_pad (k n : Nat) : endI (k + 1) n 0 = endI k n 0 ++ [0] := by simp [endI, lenI, List.replicate_succ']
/-- what is left of the bits ahead of byte i -/
def left (n i : Nat) : Nat := if i = 0 then n else 8 * n / 2 ^ (8 * i)
theorem left_one (n : Nat) : n / 32 = left n (0 + 1) := by unfold left; simp; omega
theorem left_next (n i : Nat) (h : i ≠ 0) : left n i / 256 = left n (i + 1) := by
  unfold left
  rw [if_neg h, if_neg (by omega), Nat.div_div_eq_div_mul, show 8 * (i + 1) = 8 * i + 8 by omega, Nat.pow_add]
theorem left_le (n i : Nat) : left n i ≤ 8 * n := by unfold left; split; omega; exact Nat.div_le_self _ _
set_option maxRecDepth 100000 in
set_option maxHeartbeats 4000000 in
theorem tail_any (n : Nat) (w : World) (hn : n ≤ 1099511627776) :
    Calls Tryd.prog 84 #[.int .i64 (n : Nat)] w fun e w' => e = .returned (.string (strOf (tail n))) ∧ Below w.heap.size w w' := by
  have HO := Aside0.mk (lit_owns w n 5)
  have HB := Aside0.mk ((Below.refl w.heap.size w).alloc (Nat.le_refl _) (.cells #[.int .u8 128] 5))
  obtain ⟨p, hp⟩ : ∃ p : Nat, p = padN n := ⟨_, rfl⟩
  have hpn : p = (119 - n % 64) % 64 := hp
  have HP := Aside0.mk hp
  clear hp
  go_enter Tryd.func84, Tryd.ntmps84
  go_wp2
  go_loopw [3] (fun v wr => ∃ k : Nat, k ≤ p ∧ Aside0 (wr.ownsRow w.heap.size 5 1 v (1 + k) (nums .u8 (endI k n 0))) ∧ Aside0 (Below w.heap.size w wr)) (fun v _ => 65 - lenV v)
  case atStart => exact ⟨0, Nat.zero_le _, HO, HB⟩
  case round =>
    clear HO HB
    obtain ⟨k, hk, HO, HB⟩ := hrel
    obtain ⟨wo, rfl⟩ : ∃ wo : World, wo = wr := ⟨_, rfl⟩
    obtain ⟨g, c, rfl⟩ := own_slice HO.out (by omega)
    by_cases hlt : k < p
    · have hcd : (((n : Int) + (1 + (k : Int))) % 64 == 56) = false := beq_eq_false_iff_ne.2 (by omega)
      have hnew := news wo [.int .u8 0] 5
      have HN := Lib.hid (endI_pad k n)
      have HZ := Aside0.mk HB.out.size
      have hk64 : k < 64 := by omega
      clear hpn
      go_wp2_with (at_builtin; go_loud (refine list_append_at (P := Tryd.prog) (w0 := w) w.heap.size rfl (.tmp 14) (.tmp 15) 109 5 (.int .u8 0) 1 rfl Tryd.underlying109 info8 rfl (by decide) _ (1 + k) (nums .u8 (endI k n 0)) wo.heap.size 1 1 [.int .u8 0] rfl rfl rfl ?h1 ?hc (HO.out.alloc _) (HB.out.alloc HZ.out _) ?hs ?hl ?_); (case h1 => simp [Value.oneCell']); (case hc => exact hnew); (case hs => have := HZ.out; simp; omega); (case hl => omega); intro v1 w2 HO1 HB1 _)
      go_roundw
      case rel => exact ⟨k + 1, by omega, ⟨by rw [HN.out, nums_append]; exact HO1⟩, ⟨HB1⟩⟩
      case measure =>
        obtain ⟨g1, c1, rfl⟩ := own_slice HO1 (by omega)
        simp [lenV]; omega
    · obtain rfl : k = p := by omega
      have hcd : (((n : Int) + (1 + (k : Int))) % 64 == 56) = true := beq_iff_eq.2 (by omega)
      have hcd2 : (((n : Int) + (1 + (k : Int))) % 64 != 56) = false := by rw [bne, hcd]; rfl
      have hk64 : k < 64 := by omega
      clear hpn
      have HOa : Aside0 (wo.ownsRow w.heap.size 5 1 (.slice (some ⟨g, 0, none⟩) (1 + k) c) (1 + k + 0) (nums .u8 (endI k n 0))) := HO
      go_wp2
      go_loopw [3, 4, 5, 6] (fun v bv iv _ wr => ∃ i : Nat, i ≤ 8 ∧ iv = .int .i64 i ∧ bv = .int .i64 (left n i : Nat) ∧ Aside0 (wr.ownsRow w.heap.size 5 1 v (1 + k + i) (nums .u8 (endI k n i))) ∧ Aside0 (Below w.heap.size w wr)) (fun _ _ iv _ _ => 8 - (intOf iv).toNat)
      case atStart => exact ⟨0, by omega, rfl, rfl, HOa, HB⟩
      case round =>
        clear HOa HB HO
        obtain ⟨i, hi, rfl, rfl, HO, HB⟩ := hrel
        obtain ⟨wo, rfl⟩ : ∃ wo : World, wo = wr := ⟨_, rfl⟩
        by_cases hlt : i < 8
        · have HN := Lib.hid (endI_next k n i)
          have HZ := Aside0.mk HB.out.size
          by_cases h0 : i = 0
          · subst h0
            have hnew := news wo [.int .u8 ((n : Int) % 32 * 8)] 5
            have HV : Aside0 (((8 * n / 2 ^ (8 * 0) % 256 : Nat) : Int) = (n : Int) % 32 * 8) := ⟨by simp; omega⟩
            have HL := Aside0.mk (left_one n)
            have hl0 : left n 0 = n := rfl
            rw [hl0]
            go_wp2_with (at_builtin; go_loud (refine list_append_at (P := Tryd.prog) (w0 := w) w.heap.size rfl (.tmp 33) (.tmp 36) 109 5 (.int .u8 0) 1 rfl Tryd.underlying109 info8 rfl (by decide) _ (1 + k + 0) (nums .u8 (endI k n 0)) wo.heap.size 1 1 [.int .u8 ((n : Int) % 32 * 8)] rfl rfl rfl ?h1 ?hc (HO.out.alloc _) (HB.out.alloc HZ.out _) ?hs ?hl ?_); (case h1 => simp [Value.oneCell']); (case hc => exact hnew); (case hs => have := HZ.out; simp; omega); (case hl => omega); intro v1 w2 HO1 HB1 _)
            go_roundw
            case rel => exact ⟨0 + 1, by omega, by go_num, by rw [← HL.out]; go_num, ⟨by rw [HN.out, nums_append, HV.out]; exact HO1⟩, ⟨HB1⟩⟩
            case measure => simp [intOf]
          · have hle := left_le n i
            have hi0 : ((i : Int) == 0) = false := beq_eq_false_iff_ne.2 (by omega)
            have HL := Aside0.mk (left_next n i h0)
            have HV : Aside0 (((8 * n / 2 ^ (8 * i) % 256 : Nat) : Int) = ((left n i : Nat) : Int) % 256) := ⟨by unfold left; rw [if_neg h0]; omega⟩
            generalize left n i = q at hle HL HV ⊢
            have hnew := news wo [.int .u8 ((q : Int) % 256)] 5
            go_wp2_with (at_builtin; go_loud (refine list_append_at (P := Tryd.prog) (w0 := w) w.heap.size rfl (.tmp 33) (.tmp 36) 109 5 (.int .u8 0) 1 rfl Tryd.underlying109 info8 rfl (by decide) _ (1 + k + i) (nums .u8 (endI k n i)) wo.heap.size 1 1 [.int .u8 ((q : Int) % 256)] rfl rfl rfl ?h1 ?hc (HO.out.alloc _) (HB.out.alloc HZ.out _) ?hs ?hl ?_); (case h1 => simp [Value.oneCell']); (case hc => exact hnew); (case hs => have := HZ.out; simp; omega); (case hl => omega); intro v1 w2 HO1 HB1 _)
            go_roundw
            case rel => exact ⟨i + 1, by omega, by go_num, by rw [← HL.out]; go_num, ⟨by rw [HN.out, nums_append, HV.out]; exact HO1⟩, ⟨HB1⟩⟩
            case measure => simp [intOf]; omega
        · obtain rfl : i = 8 := by omega
          have hcv := own_string (P := Tryd.prog) Tryd.underlying109 Tryd.underlying5 Tryd.underlying9 HO.out
          rw [endI_str k n HP.out] at hcv
          go_wp2
          go_ret
          exact ⟨rfl, HB.out⟩
end Go.Proofs.YtljjpdjknnhceaaDoor.RefMD5
