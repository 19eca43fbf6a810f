/- Joined texts of this claim: PlcR, LocR, Loc -/
import Derived.Test.YtljjpdjknnhceaaDoorJRPlc17
import Derived.Test.YtljjpdjknnhceaaDoorJRPlc7
import Derived.Test.YtljjpdjknnhceaaDoorJRPlc18
import Derived.Test.YtljjpdjknnhceaaDoorJRPlc19
import Derived.Test.YtljjpdjknnhceaaDoorJRPlc3
import Derived.Test.YtljjpdjknnhceaaDoorJRPlc4
set_option linter.unusedVariables false
set_option linter.unusedSimpArgs false
/- RingPlaces' region that draws its order. -/
set_option linter.unusedVariables false
set_option linter.unusedSimpArgs false
namespace Go.Proofs.YtljjpdjknnhceaaDoor.PlcR
open Go.RowKit Go.Proofs.YtljjpdjknnhceaaDoorW.PrintWords Go.Proofs.YtljjpdjknnhceaaDoorW.PrintLast Go.Proofs.YtljjpdjknnhceaaDoorW.PrintMore
open Go.Proofs.YtljjpdjknnhceaaDoor.Base Go.Proofs.YtljjpdjknnhceaaDoor.App Go.Proofs.YtljjpdjknnhceaaDoor.RingPure Go.Proofs.YtljjpdjknnhceaaDoor.ChkPure Go.Proofs.YtljjpdjknnhceaaDoor.Clus Go.Proofs.YtljjpdjknnhceaaDoor.Mids Go.Proofs.YtljjpdjknnhceaaDoor.Chkd Go.Proofs.YtljjpdjknnhceaaDoor.LocPure Go.Proofs.YtljjpdjknnhceaaDoor.RegA Go.Proofs.YtljjpdjknnhceaaDoor.LocKit Go.Proofs.YtljjpdjknnhceaaDoor.ZoneKit
open Go.Proofs.YtljjpdjknnhceaaDoor.Words (strOf strOf_size)
set_option maxRecDepth 100000 in
set_option maxHeartbeats 4000000 in
theorem plc16 (Q : Exit → Act → World → Prop) (a0 : Act) (wi : World) (gp gq g9 g12 n cap cap2 W C W2 C2 q1 q2 q3 : Nat) (c : Cl) (A A2 : Option Addr) (M : List UInt8)
    (HP : Aside0 (wi.heap[gp]? = some (.cells (plL ⟨0, ((q1 : Nat) : Int), ((q2 : Nat) : Int), M.drop (16 - W)⟩).toArray 44 (0, 0)))) (HQ : Aside0 (wi.heap[gq]? = some (.cells (plL ⟨0, ((q1 : Nat) : Int), ((q3 : Nat) : Int), M.drop (16 - W2)⟩).toArray 44 (0, 0))))
    (H9 : Aside0 (wi.heap[g9]? = some (.cells (cL c (.slice A n cap)).toArray 24 (0, 0)))) (H12 : Aside0 (wi.heap[g12]? = some (.cells (cL (withWC c (W2 : Int) (C2 : Int)) (.slice A2 n cap2)).toArray 24 (0, 0))))
    (HCE : Aside0 (c.chunks = (C : Int))) (HWE : Aside0 (c.width = (W : Int))) (hC : 1 ≤ C ∧ C ≤ 16) (hC2 : 1 ≤ C2 ∧ C2 ≤ 16) (hW : 1 ≤ W ∧ W ≤ 16) (hW2 : 1 ≤ W2 ∧ W2 ≤ 16) (hM : M.length = 16) (HLT1 : Aside0 (q2 < C)) (HLT2 : Aside0 (q3 < C2))
    (hN : a0.tmps.size = 121) (h10 : a0.tmps.getD 10 undef = .pointer (some ⟨gp, 0, none⟩)) (h16 : a0.tmps.getD 16 undef = .string (strOf M)) (h9 : a0.tmps.getD 9 undef = .pointer (some ⟨g9, 0, none⟩)) (h14 : a0.tmps.getD 14 undef = .pointer (some ⟨gq, 0, none⟩)) (h12 : a0.tmps.getD 12 undef = .pointer (some ⟨g12, 0, none⟩))
    (hQ : ∀ wv : World, Below wi.heap.size wi wv → Q .normal (putV [(some 89, .pointer (some ⟨gp, 2, none⟩)), (some 90, .string (strOf (M.drop (16 - W)))), (some 91, .string (strOf M)), (some 92, .pointer (some ⟨g9, 2, none⟩)), (some 93, .int .i64 ((W : Nat) : Int)), (some 94, .int .i64 ((16 - W : Nat) : Int)), (some 95, .string (strOf (M.drop (16 - W)))), (some 96, .bool true), (some 97, .bool true), (some 98, .pointer (some ⟨gq, 2, none⟩)), (some 99, .string (strOf (M.drop (16 - W2)))), (some 100, .string (strOf M)), (some 101, .pointer (some ⟨g12, 2, none⟩)), (some 102, .int .i64 ((W2 : Nat) : Int)), (some 103, .int .i64 ((16 - W2 : Nat) : Int)), (some 104, .string (strOf (M.drop (16 - W2)))), (some 105, .bool true), (some 106, .bool true), (some 107, .bool true), (some 108, .pointer (some ⟨gq, 1, none⟩)), (some 109, .int .i64 ((q3 : Nat) : Int)), (some 110, .pointer (some ⟨g12, 3, none⟩)), (some 111, .int .i64 ((C2 : Nat) : Int)), (some 112, .bool true), (some 113, .bool true), (some 114, .bool true), (some 115, .pointer (some ⟨gp, 1, none⟩)), (some 116, .int .i64 ((q2 : Nat) : Int)), (some 117, .pointer (some ⟨g9, 3, none⟩)), (some 118, .int .i64 ((C : Nat) : Int)), (some 119, .bool true), (some 120, .bool true), (some 8, .bool true)] a0) wv) :
    Code.wp Tryd.prog (regC 16 Tryd.f6) Q a0 wi := by
  have HSB1 : Aside0 (IntKind.i64.wrap (16 - (W : Int)) = ((16 - W : Nat) : Int)) := ⟨by rw [IntWalk.i64_in _ (by omega)]; omega⟩
  have HSB2 : Aside0 (IntKind.i64.wrap (16 - (W2 : Int)) = ((16 - W2 : Nat) : Int)) := ⟨by rw [IntWalk.i64_in _ (by omega)]; omega⟩
  have HSL1 : Aside0 (∀ wx : World, (Instr.slice 9 (.string (strOf M)) (some (.int .i64 ((16 - W : Nat) : Int))) none none).run Tryd.prog wx = .ok (.string (strOf (M.drop (16 - W)))) wx) := ⟨fun wx => slice_end M (16 - W) (by omega) wx⟩
  have HSL2 : Aside0 (∀ wx : World, (Instr.slice 9 (.string (strOf M)) (some (.int .i64 ((16 - W2 : Nat) : Int))) none none).run Tryd.prog wx = .ok (.string (strOf (M.drop (16 - W2)))) wx) := ⟨fun wx => slice_end M (16 - W2) (by omega) wx⟩
  conv => arg 2; whnf
  refine RegG.wp_region_rel _ (by kernel_rfl) _ _ _ hN (by kernel_rfl) (fun w' => Below wi.heap.size wi w') (fun _ w w' => Below w.heap.size w w') (fun jq vs w' => match jq with
    | 0 => vs 0 = .pointer (some ⟨gp, 2, none⟩)
    | 1 => vs 1 = .string (strOf (M.drop (16 - W)))
    | 2 => vs 2 = .string (strOf M)
    | 3 => vs 3 = .pointer (some ⟨g9, 2, none⟩)
    | 4 => vs 4 = .int .i64 ((W : Nat) : Int)
    | 5 => vs 5 = .int .i64 ((16 - W : Nat) : Int)
    | 6 => vs 6 = .string (strOf (M.drop (16 - W)))
    | 7 => vs 7 = .bool true
    | 8 => vs 8 = .bool true
    | 9 => vs 9 = .pointer (some ⟨gq, 2, none⟩)
    | 10 => vs 10 = .string (strOf (M.drop (16 - W2)))
    | 11 => vs 11 = .string (strOf M)
    | 12 => vs 12 = .pointer (some ⟨g12, 2, none⟩)
    | 13 => vs 13 = .int .i64 ((W2 : Nat) : Int)
    | 14 => vs 14 = .int .i64 ((16 - W2 : Nat) : Int)
    | 15 => vs 15 = .string (strOf (M.drop (16 - W2)))
    | 16 => vs 16 = .bool true
    | 17 => vs 17 = .bool true
    | 18 => vs 18 = .bool true
    | 19 => vs 19 = .pointer (some ⟨gq, 1, none⟩)
    | 20 => vs 20 = .int .i64 ((q3 : Nat) : Int)
    | 21 => vs 21 = .pointer (some ⟨g12, 3, none⟩)
    | 22 => vs 22 = .int .i64 ((C2 : Nat) : Int)
    | 23 => vs 23 = .bool true
    | 24 => vs 24 = .bool true
    | 25 => vs 25 = .bool true
    | 26 => vs 26 = .pointer (some ⟨gp, 1, none⟩)
    | 27 => vs 27 = .int .i64 ((q2 : Nat) : Int)
    | 28 => vs 28 = .pointer (some ⟨g9, 3, none⟩)
    | 29 => vs 29 = .int .i64 ((C : Nat) : Int)
    | 30 => vs 30 = .bool true
    | 31 => vs 31 = .bool true
    | 32 => vs 32 = .bool true
    | _ => True) (below_drew (Below.refl _ _)) ?_ ?_ ?_ ?_ ?_
  · intro i j vs w0 w' hij hI hR hb
    rcases j with _ | j
    · exact hR
    rcases j with _ | j
    · exact hR
    rcases j with _ | j
    · exact hR
    rcases j with _ | j
    · exact hR
    rcases j with _ | j
    · exact hR
    rcases j with _ | j
    · exact hR
    rcases j with _ | j
    · exact hR
    rcases j with _ | j
    · exact hR
    rcases j with _ | j
    · exact hR
    rcases j with _ | j
    · exact hR
    rcases j with _ | j
    · exact hR
    rcases j with _ | j
    · exact hR
    rcases j with _ | j
    · exact hR
    rcases j with _ | j
    · exact hR
    rcases j with _ | j
    · exact hR
    rcases j with _ | j
    · exact hR
    rcases j with _ | j
    · exact hR
    rcases j with _ | j
    · exact hR
    rcases j with _ | j
    · exact hR
    rcases j with _ | j
    · exact hR
    rcases j with _ | j
    · exact hR
    rcases j with _ | j
    · exact hR
    rcases j with _ | j
    · exact hR
    rcases j with _ | j
    · exact hR
    rcases j with _ | j
    · exact hR
    rcases j with _ | j
    · exact hR
    rcases j with _ | j
    · exact hR
    rcases j with _ | j
    · exact hR
    rcases j with _ | j
    · exact hR
    rcases j with _ | j
    · exact hR
    rcases j with _ | j
    · exact hR
    rcases j with _ | j
    · exact hR
    rcases j with _ | j
    · exact hR
    exact trivial
  · intro j o vs vs1 w0 ho he hp hR
    rcases j with _ | j
    · exact he.trans hR
    rcases j with _ | j
    · exact he.trans hR
    rcases j with _ | j
    · exact he.trans hR
    rcases j with _ | j
    · exact he.trans hR
    rcases j with _ | j
    · exact he.trans hR
    rcases j with _ | j
    · exact he.trans hR
    rcases j with _ | j
    · exact he.trans hR
    rcases j with _ | j
    · exact he.trans hR
    rcases j with _ | j
    · exact he.trans hR
    rcases j with _ | j
    · exact he.trans hR
    rcases j with _ | j
    · exact he.trans hR
    rcases j with _ | j
    · exact he.trans hR
    rcases j with _ | j
    · exact he.trans hR
    rcases j with _ | j
    · exact he.trans hR
    rcases j with _ | j
    · exact he.trans hR
    rcases j with _ | j
    · exact he.trans hR
    rcases j with _ | j
    · exact he.trans hR
    rcases j with _ | j
    · exact he.trans hR
    rcases j with _ | j
    · exact he.trans hR
    rcases j with _ | j
    · exact he.trans hR
    rcases j with _ | j
    · exact he.trans hR
    rcases j with _ | j
    · exact he.trans hR
    rcases j with _ | j
    · exact he.trans hR
    rcases j with _ | j
    · exact he.trans hR
    rcases j with _ | j
    · exact he.trans hR
    rcases j with _ | j
    · exact he.trans hR
    rcases j with _ | j
    · exact he.trans hR
    rcases j with _ | j
    · exact he.trans hR
    rcases j with _ | j
    · exact he.trans hR
    rcases j with _ | j
    · exact he.trans hR
    rcases j with _ | j
    · exact he.trans hR
    rcases j with _ | j
    · exact he.trans hR
    rcases j with _ | j
    · exact he.trans hR
    exact trivial
  · skip
    refine RegG.allOps_cons ?_ ?_
    · intro j b hg vs w hR
      first
        | (cases hg; done)
        | (cases hg; exact hR)
    refine RegG.allOps_cons ?_ ?_
    · intro j b hg vs w hR
      first
        | (cases hg; done)
        | (cases hg; exact hR)
    refine RegG.allOps_cons ?_ ?_
    · intro j b hg vs w hR
      first
        | (cases hg; done)
        | (cases hg; exact hR)
    refine RegG.allOps_cons ?_ ?_
    · intro j b hg vs w hR
      first
        | (cases hg; done)
        | (cases hg; exact hR)
    refine RegG.allOps_cons ?_ ?_
    · intro j b hg vs w hR
      first
        | (cases hg; done)
        | (cases hg; exact hR)
    refine RegG.allOps_cons ?_ ?_
    · intro j b hg vs w hR
      first
        | (cases hg; done)
        | (cases hg; exact hR)
    refine RegG.allOps_cons ?_ ?_
    · intro j b hg vs w hR
      first
        | (cases hg; done)
        | (cases hg; exact hR)
    refine RegG.allOps_cons ?_ ?_
    · intro j b hg vs w hR
      first
        | (cases hg; done)
        | (cases hg; exact hR)
    refine RegG.allOps_cons ?_ ?_
    · intro j b hg vs w hR
      first
        | (cases hg; done)
        | (cases hg; exact hR)
    refine RegG.allOps_cons ?_ ?_
    · intro j b hg vs w hR
      first
        | (cases hg; done)
        | (cases hg; exact hR)
    refine RegG.allOps_cons ?_ ?_
    · intro j b hg vs w hR
      first
        | (cases hg; done)
        | (cases hg; exact hR)
    refine RegG.allOps_cons ?_ ?_
    · intro j b hg vs w hR
      first
        | (cases hg; done)
        | (cases hg; exact hR)
    refine RegG.allOps_cons ?_ ?_
    · intro j b hg vs w hR
      first
        | (cases hg; done)
        | (cases hg; exact hR)
    refine RegG.allOps_cons ?_ ?_
    · intro j b hg vs w hR
      first
        | (cases hg; done)
        | (cases hg; exact hR)
    refine RegG.allOps_cons ?_ ?_
    · intro j b hg vs w hR
      first
        | (cases hg; done)
        | (cases hg; exact hR)
    refine RegG.allOps_cons ?_ ?_
    · intro j b hg vs w hR
      first
        | (cases hg; done)
        | (cases hg; exact hR)
    refine RegG.allOps_cons ?_ ?_
    · intro j b hg vs w hR
      first
        | (cases hg; done)
        | (cases hg; exact hR)
    refine RegG.allOps_cons ?_ ?_
    · intro j b hg vs w hR
      first
        | (cases hg; done)
        | (cases hg; exact hR)
    refine RegG.allOps_cons ?_ ?_
    · intro j b hg vs w hR
      first
        | (cases hg; done)
        | (cases hg; exact hR)
    refine RegG.allOps_cons ?_ ?_
    · intro j b hg vs w hR
      first
        | (cases hg; done)
        | (cases hg; exact hR)
    refine RegG.allOps_cons ?_ ?_
    · intro j b hg vs w hR
      first
        | (cases hg; done)
        | (cases hg; exact hR)
    refine RegG.allOps_cons ?_ ?_
    · intro j b hg vs w hR
      first
        | (cases hg; done)
        | (cases hg; exact hR)
    refine RegG.allOps_cons ?_ ?_
    · intro j b hg vs w hR
      first
        | (cases hg; done)
        | (cases hg; exact hR)
    refine RegG.allOps_cons ?_ ?_
    · intro j b hg vs w hR
      first
        | (cases hg; done)
        | (cases hg; exact hR)
    refine RegG.allOps_cons ?_ ?_
    · intro j b hg vs w hR
      first
        | (cases hg; done)
        | (cases hg; exact hR)
    refine RegG.allOps_cons ?_ ?_
    · intro j b hg vs w hR
      first
        | (cases hg; done)
        | (cases hg; exact hR)
    refine RegG.allOps_cons ?_ ?_
    · intro j b hg vs w hR
      first
        | (cases hg; done)
        | (cases hg; exact hR)
    refine RegG.allOps_cons ?_ ?_
    · intro j b hg vs w hR
      first
        | (cases hg; done)
        | (cases hg; exact hR)
    refine RegG.allOps_cons ?_ ?_
    · intro j b hg vs w hR
      first
        | (cases hg; done)
        | (cases hg; exact hR)
    refine RegG.allOps_cons ?_ ?_
    · intro j b hg vs w hR
      first
        | (cases hg; done)
        | (cases hg; exact hR)
    refine RegG.allOps_cons ?_ ?_
    · intro j b hg vs w hR
      first
        | (cases hg; done)
        | (cases hg; exact hR)
    refine RegG.allOps_cons ?_ ?_
    · intro j b hg vs w hR
      first
        | (cases hg; done)
        | (cases hg; exact hR)
    refine RegG.allOps_cons ?_ ?_
    · intro j b hg vs w hR
      first
        | (cases hg; done)
        | (cases hg; exact hR)
    exact RegG.allOps_nil
  · skip
    refine RegG.allOps_cons ?_ ?_
    · intro vs w0 ρ hρ hcst hglb hfun hI hp
      have e10 : ρ (.tmp 10) = .pointer (some ⟨gp, 0, none⟩) := (hρ (.tmp 10)).trans h10
      clear hρ hp
      refine RegG.rel_value (.pointer (some ⟨gp, 2, none⟩)) ?_ ⟨hI, rfl⟩
      go_simp
    refine RegG.allOps_cons ?_ ?_
    · intro vs w0 ρ hρ hcst hglb hfun hI hp
      have e89 : ρ (.tmp 89) = .pointer (some ⟨gp, 2, none⟩) := (hρ (.tmp 89)).trans (show vs 0 = .pointer (some ⟨gp, 2, none⟩) from hp 0 rfl)
      clear hρ hp
      have hbx := (hI.block _ (blk_lt HP.out)).trans HP.out
      have hl2 : w0.cell? ⟨gp, 2, none⟩ = some (.string (strOf (M.drop (16 - W)))) := by rw [blk_cell hbx]; rfl
      clear hbx
      refine RegG.rel_value (.string (strOf (M.drop (16 - W)))) ?_ ⟨hI, rfl⟩
      clear hI
      go_simp
    refine RegG.allOps_cons ?_ ?_
    · intro vs w0 ρ hρ hcst hglb hfun hI hp
      have e16 : ρ (.tmp 16) = .string (strOf M) := (hρ (.tmp 16)).trans h16
      clear hρ hp
      refine RegG.rel_value (.string (strOf M)) ?_ ⟨hI, rfl⟩
      go_simp
    refine RegG.allOps_cons ?_ ?_
    · intro vs w0 ρ hρ hcst hglb hfun hI hp
      have e9 : ρ (.tmp 9) = .pointer (some ⟨g9, 0, none⟩) := (hρ (.tmp 9)).trans h9
      clear hρ hp
      refine RegG.rel_value (.pointer (some ⟨g9, 2, none⟩)) ?_ ⟨hI, rfl⟩
      go_simp
    refine RegG.allOps_cons ?_ ?_
    · intro vs w0 ρ hρ hcst hglb hfun hI hp
      have e92 : ρ (.tmp 92) = .pointer (some ⟨g9, 2, none⟩) := (hρ (.tmp 92)).trans (show vs 3 = .pointer (some ⟨g9, 2, none⟩) from hp 3 rfl)
      clear hρ hp
      have hbx := (hI.block _ (blk_lt H9.out)).trans H9.out
      have hl2 : w0.cell? ⟨g9, 2, none⟩ = some (.int .i64 ((W : Nat) : Int)) := by rw [blk_cell hbx, ← HWE.out]; rfl
      clear hbx
      refine RegG.rel_value (.int .i64 ((W : Nat) : Int)) ?_ ⟨hI, rfl⟩
      clear hI
      go_simp
    refine RegG.allOps_cons ?_ ?_
    · intro vs w0 ρ hρ hcst hglb hfun hI hp
      have e93 : ρ (.tmp 93) = .int .i64 ((W : Nat) : Int) := (hρ (.tmp 93)).trans (show vs 4 = .int .i64 ((W : Nat) : Int) from hp 4 rfl)
      clear hρ hp
      refine RegG.rel_value (.int .i64 ((16 - W : Nat) : Int)) ?_ ⟨hI, rfl⟩
      clear hI
      have hq := HSB1.out
      go_simp
    refine RegG.allOps_cons ?_ ?_
    · intro vs w0 ρ hρ hcst hglb hfun hI hp
      have e91 : ρ (.tmp 91) = .string (strOf M) := (hρ (.tmp 91)).trans (show vs 2 = .string (strOf M) from hp 2 rfl)
      have e94 : ρ (.tmp 94) = .int .i64 ((16 - W : Nat) : Int) := (hρ (.tmp 94)).trans (show vs 5 = .int .i64 ((16 - W : Nat) : Int) from hp 5 rfl)
      clear hρ hp
      refine RegG.rel_value (.string (strOf (M.drop (16 - W)))) ?_ ⟨hI, rfl⟩
      clear hI
      have hq := HSL1.out
      go_simp
    refine RegG.allOps_cons ?_ ?_
    · intro vs w0 ρ hρ hcst hglb hfun hI hp
      have e90 : ρ (.tmp 90) = .string (strOf (M.drop (16 - W))) := (hρ (.tmp 90)).trans (show vs 1 = .string (strOf (M.drop (16 - W))) from hp 1 rfl)
      have e95 : ρ (.tmp 95) = .string (strOf (M.drop (16 - W))) := (hρ (.tmp 95)).trans (show vs 6 = .string (strOf (M.drop (16 - W))) from hp 6 rfl)
      clear hρ hp
      refine RegG.rel_value (.bool true) ?_ ⟨hI, rfl⟩
      go_simp
    refine RegG.allOps_cons ?_ ?_
    · intro vs w0 ρ hρ hcst hglb hfun hI hp
      have e96 : ρ (.tmp 96) = .bool true := (hρ (.tmp 96)).trans (show vs 7 = .bool true from hp 7 rfl)
      clear hρ hp
      refine RegG.rel_value (.bool true) ?_ ⟨hI, rfl⟩
      go_simp
    refine RegG.allOps_cons ?_ ?_
    · intro vs w0 ρ hρ hcst hglb hfun hI hp
      have e14 : ρ (.tmp 14) = .pointer (some ⟨gq, 0, none⟩) := (hρ (.tmp 14)).trans h14
      clear hρ hp
      refine RegG.rel_value (.pointer (some ⟨gq, 2, none⟩)) ?_ ⟨hI, rfl⟩
      go_simp
    refine RegG.allOps_cons ?_ ?_
    · intro vs w0 ρ hρ hcst hglb hfun hI hp
      have e98 : ρ (.tmp 98) = .pointer (some ⟨gq, 2, none⟩) := (hρ (.tmp 98)).trans (show vs 9 = .pointer (some ⟨gq, 2, none⟩) from hp 9 rfl)
      clear hρ hp
      have hbx := (hI.block _ (blk_lt HQ.out)).trans HQ.out
      have hl2 : w0.cell? ⟨gq, 2, none⟩ = some (.string (strOf (M.drop (16 - W2)))) := by rw [blk_cell hbx]; rfl
      clear hbx
      refine RegG.rel_value (.string (strOf (M.drop (16 - W2)))) ?_ ⟨hI, rfl⟩
      clear hI
      go_simp
    refine RegG.allOps_cons ?_ ?_
    · intro vs w0 ρ hρ hcst hglb hfun hI hp
      have e16 : ρ (.tmp 16) = .string (strOf M) := (hρ (.tmp 16)).trans h16
      clear hρ hp
      refine RegG.rel_value (.string (strOf M)) ?_ ⟨hI, rfl⟩
      go_simp
    refine RegG.allOps_cons ?_ ?_
    · intro vs w0 ρ hρ hcst hglb hfun hI hp
      have e12 : ρ (.tmp 12) = .pointer (some ⟨g12, 0, none⟩) := (hρ (.tmp 12)).trans h12
      clear hρ hp
      refine RegG.rel_value (.pointer (some ⟨g12, 2, none⟩)) ?_ ⟨hI, rfl⟩
      go_simp
    refine RegG.allOps_cons ?_ ?_
    · intro vs w0 ρ hρ hcst hglb hfun hI hp
      have e101 : ρ (.tmp 101) = .pointer (some ⟨g12, 2, none⟩) := (hρ (.tmp 101)).trans (show vs 12 = .pointer (some ⟨g12, 2, none⟩) from hp 12 rfl)
      clear hρ hp
      have hbx := (hI.block _ (blk_lt H12.out)).trans H12.out
      have hl2 : w0.cell? ⟨g12, 2, none⟩ = some (.int .i64 ((W2 : Nat) : Int)) := by rw [blk_cell hbx]; rfl
      clear hbx
      refine RegG.rel_value (.int .i64 ((W2 : Nat) : Int)) ?_ ⟨hI, rfl⟩
      clear hI
      go_simp
    refine RegG.allOps_cons ?_ ?_
    · intro vs w0 ρ hρ hcst hglb hfun hI hp
      have e102 : ρ (.tmp 102) = .int .i64 ((W2 : Nat) : Int) := (hρ (.tmp 102)).trans (show vs 13 = .int .i64 ((W2 : Nat) : Int) from hp 13 rfl)
      clear hρ hp
      refine RegG.rel_value (.int .i64 ((16 - W2 : Nat) : Int)) ?_ ⟨hI, rfl⟩
      clear hI
      have hq := HSB2.out
      go_simp
    refine RegG.allOps_cons ?_ ?_
    · intro vs w0 ρ hρ hcst hglb hfun hI hp
      have e100 : ρ (.tmp 100) = .string (strOf M) := (hρ (.tmp 100)).trans (show vs 11 = .string (strOf M) from hp 11 rfl)
      have e103 : ρ (.tmp 103) = .int .i64 ((16 - W2 : Nat) : Int) := (hρ (.tmp 103)).trans (show vs 14 = .int .i64 ((16 - W2 : Nat) : Int) from hp 14 rfl)
      clear hρ hp
      refine RegG.rel_value (.string (strOf (M.drop (16 - W2)))) ?_ ⟨hI, rfl⟩
      clear hI
      have hq := HSL2.out
      go_simp
    refine RegG.allOps_cons ?_ ?_
    · intro vs w0 ρ hρ hcst hglb hfun hI hp
      have e99 : ρ (.tmp 99) = .string (strOf (M.drop (16 - W2))) := (hρ (.tmp 99)).trans (show vs 10 = .string (strOf (M.drop (16 - W2))) from hp 10 rfl)
      have e104 : ρ (.tmp 104) = .string (strOf (M.drop (16 - W2))) := (hρ (.tmp 104)).trans (show vs 15 = .string (strOf (M.drop (16 - W2))) from hp 15 rfl)
      clear hρ hp
      refine RegG.rel_value (.bool true) ?_ ⟨hI, rfl⟩
      go_simp
    refine RegG.allOps_cons ?_ ?_
    · intro vs w0 ρ hρ hcst hglb hfun hI hp
      have e97 : ρ (.tmp 97) = .bool true := (hρ (.tmp 97)).trans (show vs 8 = .bool true from hp 8 rfl)
      have e105 : ρ (.tmp 105) = .bool true := (hρ (.tmp 105)).trans (show vs 16 = .bool true from hp 16 rfl)
      clear hρ hp
      refine RegG.rel_value (.bool true) ?_ ⟨hI, rfl⟩
      go_simp
    refine RegG.allOps_cons ?_ ?_
    · intro vs w0 ρ hρ hcst hglb hfun hI hp
      have e106 : ρ (.tmp 106) = .bool true := (hρ (.tmp 106)).trans (show vs 17 = .bool true from hp 17 rfl)
      clear hρ hp
      refine RegG.rel_value (.bool true) ?_ ⟨hI, rfl⟩
      go_simp
    refine RegG.allOps_cons ?_ ?_
    · intro vs w0 ρ hρ hcst hglb hfun hI hp
      have e14 : ρ (.tmp 14) = .pointer (some ⟨gq, 0, none⟩) := (hρ (.tmp 14)).trans h14
      clear hρ hp
      refine RegG.rel_value (.pointer (some ⟨gq, 1, none⟩)) ?_ ⟨hI, rfl⟩
      go_simp
    refine RegG.allOps_cons ?_ ?_
    · intro vs w0 ρ hρ hcst hglb hfun hI hp
      have e108 : ρ (.tmp 108) = .pointer (some ⟨gq, 1, none⟩) := (hρ (.tmp 108)).trans (show vs 19 = .pointer (some ⟨gq, 1, none⟩) from hp 19 rfl)
      clear hρ hp
      have hbx := (hI.block _ (blk_lt HQ.out)).trans HQ.out
      have hl2 : w0.cell? ⟨gq, 1, none⟩ = some (.int .i64 ((q3 : Nat) : Int)) := by rw [blk_cell hbx]; rfl
      clear hbx
      refine RegG.rel_value (.int .i64 ((q3 : Nat) : Int)) ?_ ⟨hI, rfl⟩
      clear hI
      go_simp
    refine RegG.allOps_cons ?_ ?_
    · intro vs w0 ρ hρ hcst hglb hfun hI hp
      have e12 : ρ (.tmp 12) = .pointer (some ⟨g12, 0, none⟩) := (hρ (.tmp 12)).trans h12
      clear hρ hp
      refine RegG.rel_value (.pointer (some ⟨g12, 3, none⟩)) ?_ ⟨hI, rfl⟩
      go_simp
    refine RegG.allOps_cons ?_ ?_
    · intro vs w0 ρ hρ hcst hglb hfun hI hp
      have e110 : ρ (.tmp 110) = .pointer (some ⟨g12, 3, none⟩) := (hρ (.tmp 110)).trans (show vs 21 = .pointer (some ⟨g12, 3, none⟩) from hp 21 rfl)
      clear hρ hp
      have hbx := (hI.block _ (blk_lt H12.out)).trans H12.out
      have hl2 : w0.cell? ⟨g12, 3, none⟩ = some (.int .i64 ((C2 : Nat) : Int)) := by rw [blk_cell hbx]; rfl
      clear hbx
      refine RegG.rel_value (.int .i64 ((C2 : Nat) : Int)) ?_ ⟨hI, rfl⟩
      clear hI
      go_simp
    refine RegG.allOps_cons ?_ ?_
    · intro vs w0 ρ hρ hcst hglb hfun hI hp
      have e109 : ρ (.tmp 109) = .int .i64 ((q3 : Nat) : Int) := (hρ (.tmp 109)).trans (show vs 20 = .int .i64 ((q3 : Nat) : Int) from hp 20 rfl)
      have e111 : ρ (.tmp 111) = .int .i64 ((C2 : Nat) : Int) := (hρ (.tmp 111)).trans (show vs 22 = .int .i64 ((C2 : Nat) : Int) from hp 22 rfl)
      clear hρ hp
      refine RegG.rel_value (.bool true) ?_ ⟨hI, rfl⟩
      clear hI
      go_simp
      have hq := HLT2.out
      exact_mod_cast hq
    refine RegG.allOps_cons ?_ ?_
    · intro vs w0 ρ hρ hcst hglb hfun hI hp
      have e107 : ρ (.tmp 107) = .bool true := (hρ (.tmp 107)).trans (show vs 18 = .bool true from hp 18 rfl)
      have e112 : ρ (.tmp 112) = .bool true := (hρ (.tmp 112)).trans (show vs 23 = .bool true from hp 23 rfl)
      clear hρ hp
      refine RegG.rel_value (.bool true) ?_ ⟨hI, rfl⟩
      go_simp
    refine RegG.allOps_cons ?_ ?_
    · intro vs w0 ρ hρ hcst hglb hfun hI hp
      have e113 : ρ (.tmp 113) = .bool true := (hρ (.tmp 113)).trans (show vs 24 = .bool true from hp 24 rfl)
      clear hρ hp
      refine RegG.rel_value (.bool true) ?_ ⟨hI, rfl⟩
      go_simp
    refine RegG.allOps_cons ?_ ?_
    · intro vs w0 ρ hρ hcst hglb hfun hI hp
      have e10 : ρ (.tmp 10) = .pointer (some ⟨gp, 0, none⟩) := (hρ (.tmp 10)).trans h10
      clear hρ hp
      refine RegG.rel_value (.pointer (some ⟨gp, 1, none⟩)) ?_ ⟨hI, rfl⟩
      go_simp
    refine RegG.allOps_cons ?_ ?_
    · intro vs w0 ρ hρ hcst hglb hfun hI hp
      have e115 : ρ (.tmp 115) = .pointer (some ⟨gp, 1, none⟩) := (hρ (.tmp 115)).trans (show vs 26 = .pointer (some ⟨gp, 1, none⟩) from hp 26 rfl)
      clear hρ hp
      have hbx := (hI.block _ (blk_lt HP.out)).trans HP.out
      have hl2 : w0.cell? ⟨gp, 1, none⟩ = some (.int .i64 ((q2 : Nat) : Int)) := by rw [blk_cell hbx]; rfl
      clear hbx
      refine RegG.rel_value (.int .i64 ((q2 : Nat) : Int)) ?_ ⟨hI, rfl⟩
      clear hI
      go_simp
    refine RegG.allOps_cons ?_ ?_
    · intro vs w0 ρ hρ hcst hglb hfun hI hp
      have e9 : ρ (.tmp 9) = .pointer (some ⟨g9, 0, none⟩) := (hρ (.tmp 9)).trans h9
      clear hρ hp
      refine RegG.rel_value (.pointer (some ⟨g9, 3, none⟩)) ?_ ⟨hI, rfl⟩
      go_simp
    refine RegG.allOps_cons ?_ ?_
    · intro vs w0 ρ hρ hcst hglb hfun hI hp
      have e117 : ρ (.tmp 117) = .pointer (some ⟨g9, 3, none⟩) := (hρ (.tmp 117)).trans (show vs 28 = .pointer (some ⟨g9, 3, none⟩) from hp 28 rfl)
      clear hρ hp
      have hbx := (hI.block _ (blk_lt H9.out)).trans H9.out
      have hl2 : w0.cell? ⟨g9, 3, none⟩ = some (.int .i64 ((C : Nat) : Int)) := by rw [blk_cell hbx, ← HCE.out]; rfl
      clear hbx
      refine RegG.rel_value (.int .i64 ((C : Nat) : Int)) ?_ ⟨hI, rfl⟩
      clear hI
      go_simp
    refine RegG.allOps_cons ?_ ?_
    · intro vs w0 ρ hρ hcst hglb hfun hI hp
      have e116 : ρ (.tmp 116) = .int .i64 ((q2 : Nat) : Int) := (hρ (.tmp 116)).trans (show vs 27 = .int .i64 ((q2 : Nat) : Int) from hp 27 rfl)
      have e118 : ρ (.tmp 118) = .int .i64 ((C : Nat) : Int) := (hρ (.tmp 118)).trans (show vs 29 = .int .i64 ((C : Nat) : Int) from hp 29 rfl)
      clear hρ hp
      refine RegG.rel_value (.bool true) ?_ ⟨hI, rfl⟩
      clear hI
      go_simp
      have hq := HLT1.out
      exact_mod_cast hq
    refine RegG.allOps_cons ?_ ?_
    · intro vs w0 ρ hρ hcst hglb hfun hI hp
      have e114 : ρ (.tmp 114) = .bool true := (hρ (.tmp 114)).trans (show vs 25 = .bool true from hp 25 rfl)
      have e119 : ρ (.tmp 119) = .bool true := (hρ (.tmp 119)).trans (show vs 30 = .bool true from hp 30 rfl)
      clear hρ hp
      refine RegG.rel_value (.bool true) ?_ ⟨hI, rfl⟩
      go_simp
    refine RegG.allOps_cons ?_ ?_
    · intro vs w0 ρ hρ hcst hglb hfun hI hp
      have e120 : ρ (.tmp 120) = .bool true := (hρ (.tmp 120)).trans (show vs 31 = .bool true from hp 31 rfl)
      clear hρ hp
      refine RegG.rel_value (.bool true) ?_ ⟨hI, rfl⟩
      go_simp
    exact RegG.allOps_nil
  intro vs w0 hI hR
  have r0 : vs 0 = .pointer (some ⟨gp, 2, none⟩) := hR 0 (by decide)
  have r1 : vs 1 = .string (strOf (M.drop (16 - W))) := hR 1 (by decide)
  have r2 : vs 2 = .string (strOf M) := hR 2 (by decide)
  have r3 : vs 3 = .pointer (some ⟨g9, 2, none⟩) := hR 3 (by decide)
  have r4 : vs 4 = .int .i64 ((W : Nat) : Int) := hR 4 (by decide)
  have r5 : vs 5 = .int .i64 ((16 - W : Nat) : Int) := hR 5 (by decide)
  have r6 : vs 6 = .string (strOf (M.drop (16 - W))) := hR 6 (by decide)
  have r7 : vs 7 = .bool true := hR 7 (by decide)
  have r8 : vs 8 = .bool true := hR 8 (by decide)
  have r9 : vs 9 = .pointer (some ⟨gq, 2, none⟩) := hR 9 (by decide)
  have r10 : vs 10 = .string (strOf (M.drop (16 - W2))) := hR 10 (by decide)
  have r11 : vs 11 = .string (strOf M) := hR 11 (by decide)
  have r12 : vs 12 = .pointer (some ⟨g12, 2, none⟩) := hR 12 (by decide)
  have r13 : vs 13 = .int .i64 ((W2 : Nat) : Int) := hR 13 (by decide)
  have r14 : vs 14 = .int .i64 ((16 - W2 : Nat) : Int) := hR 14 (by decide)
  have r15 : vs 15 = .string (strOf (M.drop (16 - W2))) := hR 15 (by decide)
  have r16 : vs 16 = .bool true := hR 16 (by decide)
  have r17 : vs 17 = .bool true := hR 17 (by decide)
  have r18 : vs 18 = .bool true := hR 18 (by decide)
  have r19 : vs 19 = .pointer (some ⟨gq, 1, none⟩) := hR 19 (by decide)
  have r20 : vs 20 = .int .i64 ((q3 : Nat) : Int) := hR 20 (by decide)
  have r21 : vs 21 = .pointer (some ⟨g12, 3, none⟩) := hR 21 (by decide)
  have r22 : vs 22 = .int .i64 ((C2 : Nat) : Int) := hR 22 (by decide)
  have r23 : vs 23 = .bool true := hR 23 (by decide)
  have r24 : vs 24 = .bool true := hR 24 (by decide)
  have r25 : vs 25 = .bool true := hR 25 (by decide)
  have r26 : vs 26 = .pointer (some ⟨gp, 1, none⟩) := hR 26 (by decide)
  have r27 : vs 27 = .int .i64 ((q2 : Nat) : Int) := hR 27 (by decide)
  have r28 : vs 28 = .pointer (some ⟨g9, 3, none⟩) := hR 28 (by decide)
  have r29 : vs 29 = .int .i64 ((C : Nat) : Int) := hR 29 (by decide)
  have r30 : vs 30 = .bool true := hR 30 (by decide)
  have r31 : vs 31 = .bool true := hR 31 (by decide)
  have r32 : vs 32 = .bool true := hR 32 (by decide)
  have hq := hQ w0 hI
  simp only [RegA.putV, Act.put] at hq
  simp only [RegG.fillFrom, Act.put, r0, r1, r2, r3, r4, r5, r6, r7, r8, r9, r10, r11, r12, r13, r14, r15, r16, r17, r18, r19, r20, r21, r22, r23, r24, r25, r26, r27, r28, r29, r30, r31, r32]
  exact hq
end Go.Proofs.YtljjpdjknnhceaaDoor.PlcR

/- Locate's regions that draw their order. -/
set_option linter.unusedVariables false
set_option linter.unusedSimpArgs false
namespace Go.Proofs.YtljjpdjknnhceaaDoor.LocR
open Go.RowKit Go.Proofs.YtljjpdjknnhceaaDoorW.PrintWords Go.Proofs.YtljjpdjknnhceaaDoorW.PrintLast Go.Proofs.YtljjpdjknnhceaaDoorW.PrintMore
open Go.Proofs.YtljjpdjknnhceaaDoor.Base Go.Proofs.YtljjpdjknnhceaaDoor.App Go.Proofs.YtljjpdjknnhceaaDoor.RingPure Go.Proofs.YtljjpdjknnhceaaDoor.ChkPure Go.Proofs.YtljjpdjknnhceaaDoor.Clus Go.Proofs.YtljjpdjknnhceaaDoor.Mids Go.Proofs.YtljjpdjknnhceaaDoor.Chkd Go.Proofs.YtljjpdjknnhceaaDoor.LocPure Go.Proofs.YtljjpdjknnhceaaDoor.RegA Go.Proofs.YtljjpdjknnhceaaDoor.LocKit
open Go.Proofs.YtljjpdjknnhceaaDoor.Words (strOf strOf_size)
open Go.Proofs.YtljjpdjknnhceaaDoor.WithV (exec_build)
set_option maxRecDepth 100000 in
set_option maxHeartbeats 4000000 in
theorem loc13 (Q : Exit → Act → World → Prop) (a0 : Act) (w wi : World) (ga g n cap P W C X0 X4 : Nat) (c : Cl) (A : Option Addr) (M : List UInt8) (HB : Aside0 (Below w.heap.size w wi)) (HBX : Aside0 (wi.heap[ga]? = some (.cells (cL c (.slice A n cap)).toArray 24 (0, 0)))) (HR : Aside0 (wi.heap[ga + 1]? = some (.cells plZ.toArray 44 (0, 0)))) (hga : w.heap.size ≤ ga + 1)
    (HCE : Aside0 (c.chunks = (C : Int))) (HWE : Aside0 (c.width = (W : Int))) (hP1 : 1 ≤ P) (hP2 : P ≤ 64) (hC : 1 ≤ C ∧ C ≤ 16) (hW : 1 ≤ W ∧ W ≤ 16) (hX0 : X0 < 4294967296) (hX4 : X4 < 4294967296) (hM : M.length = 16)
    (hN : a0.tmps.size = 62) (h9 : a0.tmps.getD 9 undef = .int .i64 ((X0 : Nat) : Int)) (h6 : a0.tmps.getD 6 undef = .slice (some ⟨g, 0, none⟩) P P) (h10 : a0.tmps.getD 10 undef = .int .i64 ((X4 : Nat) : Int)) (h2 : a0.tmps.getD 2 undef = .pointer (some ⟨ga, 0, none⟩)) (h8 : a0.tmps.getD 8 undef = .string (strOf M)) (h4 : a0.tmps.getD 4 undef = .pointer (some ⟨ga + 1, 0, none⟩))
    (hQ : ∀ wv : World, Below w.heap.size w wv → wv.heap[ga + 1]? = some (.cells (plL ⟨0, ((X0 % P : Nat) : Int), ((X4 % C : Nat) : Int), M.drop (16 - W)⟩).toArray 44 (0, 0)) → Q .normal (putV [(some 46, .int .i64 ((X0 : Nat) : Int)), (some 47, .slice (some ⟨g, 0, none⟩) P P), (some 48, .int .i64 ((P : Nat) : Int)), (some 49, .int .i64 ((X0 % P : Nat) : Int)), (some 50, .int .i64 ((X4 : Nat) : Int)), (some 51, .pointer (some ⟨ga, 3, none⟩)), (some 52, .int .i64 ((C : Nat) : Int)), (some 53, .int .i64 ((X4 % C : Nat) : Int)), (some 54, .string (strOf M)), (some 55, .string (strOf M)), (some 56, .int .i64 16), (some 57, .pointer (some ⟨ga, 2, none⟩)), (some 58, .int .i64 ((W : Nat) : Int)), (some 59, .int .i64 ((16 - W : Nat) : Int)), (some 60, .string (strOf (M.drop (16 - W)))), (some 61, .agg (plL ⟨0, ((X0 % P : Nat) : Int), ((X4 % C : Nat) : Int), M.drop (16 - W)⟩).toArray), (none, undef), (some 5, .int .i64 0)] a0) wv) :
    Code.wp Tryd.prog (regC 13 Tryd.f22) Q a0 wi := by
  have HM1 : Aside0 ((X0 : Int) % (P : Int) = ((X0 % P : Nat) : Int)) := ⟨(Int.natCast_emod X0 P).symm⟩
  have HM2 : Aside0 ((X4 : Int) % (C : Int) = ((X4 % C : Nat) : Int)) := ⟨(Int.natCast_emod X4 C).symm⟩
  have HSZ : Aside0 ((strOf M).size = 16) := ⟨by rw [strOf_size]; exact hM⟩
  have HSB : Aside0 (IntKind.i64.wrap (16 - (W : Int)) = ((16 - W : Nat) : Int)) := ⟨by rw [IntWalk.i64_in _ (by omega)]; omega⟩
  have HSL : Aside0 (∀ wx : World, (Instr.slice 9 (.string (strOf M)) (some (.int .i64 ((16 - W : Nat) : Int))) none none).run Tryd.prog wx = .ok (.string (strOf (M.drop (16 - W)))) wx) := ⟨fun wx => slice_end M (16 - W) (by omega) wx⟩
  conv => arg 2; whnf
  refine Reg.wp_region_rel _ (by kernel_rfl) _ _ _ hN (by kernel_rfl) (fun w' => Below w.heap.size w w' ∧ w'.heap[ga]? = some (.cells (cL c (.slice A n cap)).toArray 24 (0, 0)) ∧ ∃ l : List Value, l.length = 3 ∧ w'.heap[ga + 1]? = some (.cells l.toArray 44 (0, 0))) (fun i w w' => if i = 16 then True else Below w.heap.size w w') (fun jq vs w' => match jq with
    | 0 => vs 0 = .int .i64 ((X0 : Nat) : Int)
    | 1 => vs 1 = .slice (some ⟨g, 0, none⟩) P P
    | 2 => vs 2 = .int .i64 ((P : Nat) : Int)
    | 3 => vs 3 = .int .i64 ((X0 % P : Nat) : Int)
    | 4 => vs 4 = .int .i64 ((X4 : Nat) : Int)
    | 5 => vs 5 = .pointer (some ⟨ga, 3, none⟩)
    | 6 => vs 6 = .int .i64 ((C : Nat) : Int)
    | 7 => vs 7 = .int .i64 ((X4 % C : Nat) : Int)
    | 8 => vs 8 = .string (strOf M)
    | 9 => vs 9 = .string (strOf M)
    | 10 => vs 10 = .int .i64 16
    | 11 => vs 11 = .pointer (some ⟨ga, 2, none⟩)
    | 12 => vs 12 = .int .i64 ((W : Nat) : Int)
    | 13 => vs 13 = .int .i64 ((16 - W : Nat) : Int)
    | 14 => vs 14 = .string (strOf (M.drop (16 - W)))
    | 15 => vs 15 = .agg (plL ⟨0, ((X0 % P : Nat) : Int), ((X4 % C : Nat) : Int), M.drop (16 - W)⟩).toArray
    | 16 => w'.heap[ga + 1]? = some (.cells (plL ⟨0, ((X0 % P : Nat) : Int), ((X4 % C : Nat) : Int), M.drop (16 - W)⟩).toArray 44 (0, 0))
    | 17 => vs 17 = .int .i64 0
    | _ => True) (⟨below_drew HB.out, HBX.out, plZ, rfl, HR.out⟩) ?_ ?_ ?_ ?_
  · intro i j vs w0 w' hij hI hR hb
    rcases j with _ | j
    · exact hR
    rcases j with _ | j
    · exact hR
    rcases j with _ | j
    · exact hR
    rcases j with _ | j
    · exact hR
    rcases j with _ | j
    · exact hR
    rcases j with _ | j
    · exact hR
    rcases j with _ | j
    · exact hR
    rcases j with _ | j
    · exact hR
    rcases j with _ | j
    · exact hR
    rcases j with _ | j
    · exact hR
    rcases j with _ | j
    · exact hR
    rcases j with _ | j
    · exact hR
    rcases j with _ | j
    · exact hR
    rcases j with _ | j
    · exact hR
    rcases j with _ | j
    · exact hR
    rcases j with _ | j
    · exact hR
    rcases j with _ | j
    · have hb' : Below w0.heap.size w0 w' := by simp only [if_neg hij] at hb; exact hb
      exact (hb'.block _ (blk_lt hR)).trans hR
    rcases j with _ | j
    · exact hR
    exact trivial
  · intro j o vs vs1 w0 ho he hp hR
    rcases j with _ | j
    · exact he.trans hR
    rcases j with _ | j
    · exact he.trans hR
    rcases j with _ | j
    · exact he.trans hR
    rcases j with _ | j
    · exact he.trans hR
    rcases j with _ | j
    · exact he.trans hR
    rcases j with _ | j
    · exact he.trans hR
    rcases j with _ | j
    · exact he.trans hR
    rcases j with _ | j
    · exact he.trans hR
    rcases j with _ | j
    · exact he.trans hR
    rcases j with _ | j
    · exact he.trans hR
    rcases j with _ | j
    · exact he.trans hR
    rcases j with _ | j
    · exact he.trans hR
    rcases j with _ | j
    · exact he.trans hR
    rcases j with _ | j
    · exact he.trans hR
    rcases j with _ | j
    · exact he.trans hR
    rcases j with _ | j
    · exact he.trans hR
    rcases j with _ | j
    · exact hR
    rcases j with _ | j
    · exact he.trans hR
    exact trivial
  · skip
    refine Reg.allOps_cons ?_ ?_
    · intro vs w0 ρ hρ hcst hglb hfun hI hp
      have e9 : ρ (.tmp 9) = .int .i64 ((X0 : Nat) : Int) := (hρ (.tmp 9)).trans h9
      clear hρ hp
      refine Reg.rel_value (.int .i64 ((X0 : Nat) : Int)) ?_ ⟨hI, rfl⟩
      go_simp
    refine Reg.allOps_cons ?_ ?_
    · intro vs w0 ρ hρ hcst hglb hfun hI hp
      have e6 : ρ (.tmp 6) = .slice (some ⟨g, 0, none⟩) P P := (hρ (.tmp 6)).trans h6
      clear hρ hp
      refine Reg.rel_value (.slice (some ⟨g, 0, none⟩) P P) ?_ ⟨hI, rfl⟩
      go_simp
    refine Reg.allOps_cons ?_ ?_
    · intro vs w0 ρ hρ hcst hglb hfun hI hp
      have e47 : ρ (.tmp 47) = .slice (some ⟨g, 0, none⟩) P P := (hρ (.tmp 47)).trans (show vs 1 = .slice (some ⟨g, 0, none⟩) P P from hp 1 rfl)
      clear hρ hp
      refine Reg.rel_value (.int .i64 ((P : Nat) : Int)) ?_ ⟨hI, rfl⟩
      go_simp
    refine Reg.allOps_cons ?_ ?_
    · intro vs w0 ρ hρ hcst hglb hfun hI hp
      have e46 : ρ (.tmp 46) = .int .i64 ((X0 : Nat) : Int) := (hρ (.tmp 46)).trans (show vs 0 = .int .i64 ((X0 : Nat) : Int) from hp 0 rfl)
      have e48 : ρ (.tmp 48) = .int .i64 ((P : Nat) : Int) := (hρ (.tmp 48)).trans (show vs 2 = .int .i64 ((P : Nat) : Int) from hp 2 rfl)
      clear hρ hp
      refine Reg.rel_value (.int .i64 ((X0 % P : Nat) : Int)) ?_ ⟨hI, rfl⟩
      clear hI
      go_simp
      rw [if_neg (by omega), Int.tmod_eq_emod_of_nonneg (Int.natCast_nonneg _)]
    refine Reg.allOps_cons ?_ ?_
    · intro vs w0 ρ hρ hcst hglb hfun hI hp
      have e10 : ρ (.tmp 10) = .int .i64 ((X4 : Nat) : Int) := (hρ (.tmp 10)).trans h10
      clear hρ hp
      refine Reg.rel_value (.int .i64 ((X4 : Nat) : Int)) ?_ ⟨hI, rfl⟩
      go_simp
    refine Reg.allOps_cons ?_ ?_
    · intro vs w0 ρ hρ hcst hglb hfun hI hp
      have e2 : ρ (.tmp 2) = .pointer (some ⟨ga, 0, none⟩) := (hρ (.tmp 2)).trans h2
      clear hρ hp
      refine Reg.rel_value (.pointer (some ⟨ga, 3, none⟩)) ?_ ⟨hI, rfl⟩
      go_simp
    refine Reg.allOps_cons ?_ ?_
    · intro vs w0 ρ hρ hcst hglb hfun hI hp
      have e51 : ρ (.tmp 51) = .pointer (some ⟨ga, 3, none⟩) := (hρ (.tmp 51)).trans (show vs 5 = .pointer (some ⟨ga, 3, none⟩) from hp 5 rfl)
      clear hρ hp
      obtain ⟨hB, hbx, hl3⟩ := hI
      have hl2 : w0.cell? ⟨ga, 3, none⟩ = some (.int .i64 ((C : Nat) : Int)) := by rw [blk_cell hbx, ← HCE.out]; rfl
      refine Reg.rel_value (.int .i64 ((C : Nat) : Int)) ?_ ⟨⟨hB, hbx, hl3⟩, rfl⟩
      clear hbx hl3
      go_simp
    refine Reg.allOps_cons ?_ ?_
    · intro vs w0 ρ hρ hcst hglb hfun hI hp
      have e50 : ρ (.tmp 50) = .int .i64 ((X4 : Nat) : Int) := (hρ (.tmp 50)).trans (show vs 4 = .int .i64 ((X4 : Nat) : Int) from hp 4 rfl)
      have e52 : ρ (.tmp 52) = .int .i64 ((C : Nat) : Int) := (hρ (.tmp 52)).trans (show vs 6 = .int .i64 ((C : Nat) : Int) from hp 6 rfl)
      clear hρ hp
      refine Reg.rel_value (.int .i64 ((X4 % C : Nat) : Int)) ?_ ⟨hI, rfl⟩
      clear hI
      go_simp
      rw [if_neg (by omega), Int.tmod_eq_emod_of_nonneg (Int.natCast_nonneg _)]
    refine Reg.allOps_cons ?_ ?_
    · intro vs w0 ρ hρ hcst hglb hfun hI hp
      have e8 : ρ (.tmp 8) = .string (strOf M) := (hρ (.tmp 8)).trans h8
      clear hρ hp
      refine Reg.rel_value (.string (strOf M)) ?_ ⟨hI, rfl⟩
      go_simp
    refine Reg.allOps_cons ?_ ?_
    · intro vs w0 ρ hρ hcst hglb hfun hI hp
      have e8 : ρ (.tmp 8) = .string (strOf M) := (hρ (.tmp 8)).trans h8
      clear hρ hp
      refine Reg.rel_value (.string (strOf M)) ?_ ⟨hI, rfl⟩
      go_simp
    refine Reg.allOps_cons ?_ ?_
    · intro vs w0 ρ hρ hcst hglb hfun hI hp
      have e55 : ρ (.tmp 55) = .string (strOf M) := (hρ (.tmp 55)).trans (show vs 9 = .string (strOf M) from hp 9 rfl)
      clear hρ hp
      refine Reg.rel_value (.int .i64 16) ?_ ⟨hI, rfl⟩
      clear hI
      have hq := HSZ.out
      go_simp
    refine Reg.allOps_cons ?_ ?_
    · intro vs w0 ρ hρ hcst hglb hfun hI hp
      have e2 : ρ (.tmp 2) = .pointer (some ⟨ga, 0, none⟩) := (hρ (.tmp 2)).trans h2
      clear hρ hp
      refine Reg.rel_value (.pointer (some ⟨ga, 2, none⟩)) ?_ ⟨hI, rfl⟩
      go_simp
    refine Reg.allOps_cons ?_ ?_
    · intro vs w0 ρ hρ hcst hglb hfun hI hp
      have e57 : ρ (.tmp 57) = .pointer (some ⟨ga, 2, none⟩) := (hρ (.tmp 57)).trans (show vs 11 = .pointer (some ⟨ga, 2, none⟩) from hp 11 rfl)
      clear hρ hp
      obtain ⟨hB, hbx, hl3⟩ := hI
      have hl2 : w0.cell? ⟨ga, 2, none⟩ = some (.int .i64 ((W : Nat) : Int)) := by rw [blk_cell hbx, ← HWE.out]; rfl
      refine Reg.rel_value (.int .i64 ((W : Nat) : Int)) ?_ ⟨⟨hB, hbx, hl3⟩, rfl⟩
      clear hbx hl3
      go_simp
    refine Reg.allOps_cons ?_ ?_
    · intro vs w0 ρ hρ hcst hglb hfun hI hp
      have e56 : ρ (.tmp 56) = .int .i64 16 := (hρ (.tmp 56)).trans (show vs 10 = .int .i64 16 from hp 10 rfl)
      have e58 : ρ (.tmp 58) = .int .i64 ((W : Nat) : Int) := (hρ (.tmp 58)).trans (show vs 12 = .int .i64 ((W : Nat) : Int) from hp 12 rfl)
      clear hρ hp
      refine Reg.rel_value (.int .i64 ((16 - W : Nat) : Int)) ?_ ⟨hI, rfl⟩
      clear hI
      have hq := HSB.out
      go_simp
    refine Reg.allOps_cons ?_ ?_
    · intro vs w0 ρ hρ hcst hglb hfun hI hp
      have e54 : ρ (.tmp 54) = .string (strOf M) := (hρ (.tmp 54)).trans (show vs 8 = .string (strOf M) from hp 8 rfl)
      have e59 : ρ (.tmp 59) = .int .i64 ((16 - W : Nat) : Int) := (hρ (.tmp 59)).trans (show vs 13 = .int .i64 ((16 - W : Nat) : Int) from hp 13 rfl)
      clear hρ hp
      refine Reg.rel_value (.string (strOf (M.drop (16 - W)))) ?_ ⟨hI, rfl⟩
      clear hI
      have hq := HSL.out
      go_simp
    refine Reg.allOps_cons ?_ ?_
    · intro vs w0 ρ hρ hcst hglb hfun hI hp
      have e49 : ρ (.tmp 49) = .int .i64 ((X0 % P : Nat) : Int) := (hρ (.tmp 49)).trans (show vs 3 = .int .i64 ((X0 % P : Nat) : Int) from hp 3 rfl)
      have e53 : ρ (.tmp 53) = .int .i64 ((X4 % C : Nat) : Int) := (hρ (.tmp 53)).trans (show vs 7 = .int .i64 ((X4 % C : Nat) : Int) from hp 7 rfl)
      have e60 : ρ (.tmp 60) = .string (strOf (M.drop (16 - W))) := (hρ (.tmp 60)).trans (show vs 14 = .string (strOf (M.drop (16 - W))) from hp 14 rfl)
      clear hρ hp
      refine Reg.rel_value (.agg (plL ⟨0, ((X0 % P : Nat) : Int), ((X4 % C : Nat) : Int), M.drop (16 - W)⟩).toArray) (exec_build 44 _ rfl _ ?_) ⟨hI, rfl⟩
      simp only [List.map_toArray, List.map_cons, List.map_nil, hcst, e49, e53, e60]
      exact built_pl _ _ _
    refine Reg.allOps_cons ?_ ?_
    · intro vs w0 ρ hρ hcst hglb hfun hI hp
      have e4 : ρ (.tmp 4) = .pointer (some ⟨ga + 1, 0, none⟩) := (hρ (.tmp 4)).trans h4
      have e61 : ρ (.tmp 61) = .agg (plL ⟨0, ((X0 % P : Nat) : Int), ((X4 % C : Nat) : Int), M.drop (16 - W)⟩).toArray := (hρ (.tmp 61)).trans (show vs 15 = .agg (plL ⟨0, ((X0 % P : Nat) : Int), ((X4 % C : Nat) : Int), M.drop (16 - W)⟩).toArray from hp 15 rfl)
      clear hρ hp
      obtain ⟨hB, hbx, l, hl, hr⟩ := hI
      have hth : w0.there (ga + 1) 0 l.length := blk_there hr
      rw [hl] at hth
      have hnew : (w0.setCells (ga + 1) 0 (plL ⟨0, ((X0 % P : Nat) : Int), ((X4 % C : Nat) : Int), M.drop (16 - W)⟩)).heap[ga + 1]? = some (.cells (plL ⟨0, ((X0 % P : Nat) : Int), ((X4 % C : Nat) : Int), M.drop (16 - W)⟩).toArray 44 (0, 0)) := setCells_whole hr (by rw [hl]; rfl)
      refine Reg.rel_skip (w' := w0.setCells (ga + 1) 0 (plL ⟨0, ((X0 % P : Nat) : Int), ((X4 % C : Nat) : Int), M.drop (16 - W)⟩)) (exec_store_mid 44 (.tmp 4) (.tmp 61) rfl (ga + 1) 0 (plL ⟨0, ((X0 % P : Nat) : Int), ((X4 % C : Nat) : Int), M.drop (16 - W)⟩).toArray e4 e61 hth infoP (plL_one _)) trivial ⟨⟨Go.Proofs.YtljjpdjknnhceaaDoor.Mids.below_setCells hB (by omega) _ _, (setCells_other (ga + 1) (by omega) _ _ _).trans hbx, _, rfl, hnew⟩, hnew⟩
    refine Reg.allOps_cons ?_ ?_
    · intro vs w0 ρ hρ hcst hglb hfun hI hp
      clear hρ hp
      refine Reg.rel_value (.int .i64 0) ?_ ⟨hI, rfl⟩
      go_simp
    exact Reg.allOps_nil
  intro vs w0 hI hR
  have r0 : vs 0 = .int .i64 ((X0 : Nat) : Int) := hR 0 (by decide)
  have r1 : vs 1 = .slice (some ⟨g, 0, none⟩) P P := hR 1 (by decide)
  have r2 : vs 2 = .int .i64 ((P : Nat) : Int) := hR 2 (by decide)
  have r3 : vs 3 = .int .i64 ((X0 % P : Nat) : Int) := hR 3 (by decide)
  have r4 : vs 4 = .int .i64 ((X4 : Nat) : Int) := hR 4 (by decide)
  have r5 : vs 5 = .pointer (some ⟨ga, 3, none⟩) := hR 5 (by decide)
  have r6 : vs 6 = .int .i64 ((C : Nat) : Int) := hR 6 (by decide)
  have r7 : vs 7 = .int .i64 ((X4 % C : Nat) : Int) := hR 7 (by decide)
  have r8 : vs 8 = .string (strOf M) := hR 8 (by decide)
  have r9 : vs 9 = .string (strOf M) := hR 9 (by decide)
  have r10 : vs 10 = .int .i64 16 := hR 10 (by decide)
  have r11 : vs 11 = .pointer (some ⟨ga, 2, none⟩) := hR 11 (by decide)
  have r12 : vs 12 = .int .i64 ((W : Nat) : Int) := hR 12 (by decide)
  have r13 : vs 13 = .int .i64 ((16 - W : Nat) : Int) := hR 13 (by decide)
  have r14 : vs 14 = .string (strOf (M.drop (16 - W))) := hR 14 (by decide)
  have r15 : vs 15 = .agg (plL ⟨0, ((X0 % P : Nat) : Int), ((X4 % C : Nat) : Int), M.drop (16 - W)⟩).toArray := hR 15 (by decide)
  have r17 : vs 17 = .int .i64 0 := hR 17 (by decide)
  have hblk := hR 16 (by decide)
  have hq := hQ w0 hI.1 hblk
  simp only [RegA.putV, Act.put] at hq
  simp only [Reg.fillFrom, Act.put, r0, r1, r2, r3, r4, r5, r6, r7, r8, r9, r10, r11, r12, r13, r14, r15, r17]
  exact hq
end Go.Proofs.YtljjpdjknnhceaaDoor.LocR

/- ring.Locate. -/
set_option linter.unusedVariables false
set_option linter.unusedSimpArgs false
namespace Go.Proofs.YtljjpdjknnhceaaDoor.Loc
open Go.RowKit Go.Proofs.YtljjpdjknnhceaaDoorW.PrintWords Go.Proofs.YtljjpdjknnhceaaDoorW.PrintLast Go.Proofs.YtljjpdjknnhceaaDoorW.PrintMore
open Go.Proofs.YtljjpdjknnhceaaDoor.Base Go.Proofs.YtljjpdjknnhceaaDoor.App Go.Proofs.YtljjpdjknnhceaaDoor.RingPure Go.Proofs.YtljjpdjknnhceaaDoor.ChkPure Go.Proofs.YtljjpdjknnhceaaDoor.Clus Go.Proofs.YtljjpdjknnhceaaDoor.Mids Go.Proofs.YtljjpdjknnhceaaDoor.Chkd Go.Proofs.YtljjpdjknnhceaaDoor.LocPure Go.Proofs.YtljjpdjknnhceaaDoor.LocKit Go.Proofs.YtljjpdjknnhceaaDoor.TakeN Go.Proofs.YtljjpdjknnhceaaDoor.Sort Go.Proofs.YtljjpdjknnhceaaDoor.Name
open Go.Proofs.YtljjpdjknnhceaaDoor.Words (strOf strOf_size)
open Go.Proofs.YtljjpdjknnhceaaDoor.WithV (list_build)
set_option maxRecDepth 100000 in
set_option maxHeartbeats 8000000 in
theorem locate_any (c : Cl) (A : Option Addr) (cap : Nat) (ns : List Nd) (key : ByteArray) (w : World) (hN : NodesAt w A ns) (hcap : ns.length ≤ cap) (hs : c.store.size ≤ 2147483647) (hl : ns.length ≤ 1099511627776) (hc : cnt ns ≤ 1099511627776) (hk : key.size ≤ 1073741824) (hG : Hasher.Glob w) :
    Calls Tryd.prog 22 #[.agg (cL c (.slice A ns.length cap)).toArray, .string key] w (LocPost (locP c ns key) w) := by
  have HW := Aside0.mk (lw_of c (.slice A ns.length cap) w)
  have HN := Aside0.mk (hN.below HW.out.bel)
  have HG := Aside0.mk (hG.below HW.out.bel)
  clear hN hG
  go_enter Tryd.func22, Tryd.ntmps22
  go_upto_region 1 with fail
  generalize (w.alloc (.cells (cL c (.slice A ns.length cap)).toArray 24)).alloc (.cells #[.int .i64 0, .int .i64 0, .string { data := #[] }] 44) = w1 at HN HW HG ⊢
  obtain ⟨ga, hga⟩ : ∃ ga, ga = w.heap.size := ⟨_, rfl⟩
  have HBX : Aside0 (w1.heap[ga]? = some (.cells (cL c (.slice A ns.length cap)).toArray 24 (0, 0))) := ⟨by rw [hga]; exact HW.out.box⟩
  have HRS : Aside0 (w1.heap[ga + 1]? = some (.cells plZ.toArray 44 (0, 0))) := ⟨by rw [hga]; exact HW.out.res⟩
  have HGA : Aside0 (w.heap.size ≤ ga + 1) := ⟨by omega⟩
  have HB := Aside0.mk HW.out.bel
  rw [← hga]
  clear hga HW
  have hrg := blk_range HBX.out
  go_wp2_with ((with_reducible refine gate_load (ty := 24) (x := .tmp 2) rfl ?_); refine wpList_load_mid rfl 24 (.tmp 2) rfl ga 0 rfl (cL c (.slice A ns.length cap)) _ hrg Tryd.underlying24 rfl infoC23 ?_)
  clear hrg
  refine (checked_any c A cap ns w1 HN.out hcap hs hl hc).mono ?_
  rintro e w2 ⟨hb, hcase⟩
  have HB2 := Aside0.mk (HB.out.trans (hb.mono HB.out.size))
  have HR2 : Aside0 (w2.heap[ga + 1]? = some (.cells plZ.toArray 44 (0, 0))) := ⟨(hb.block _ (blk_lt HRS.out)).trans HRS.out⟩
  have HBX2 : Aside0 (w2.heap[ga]? = some (.cells (cL c (.slice A ns.length cap)).toArray 24 (0, 0))) := ⟨(hb.block _ (blk_lt HBX.out)).trans HBX.out⟩
  have HG2 := Aside0.mk (HG.out.below hb)
  clear hb HB HRS HBX HG
  rcases hcase with ⟨h0, rfl⟩ | ⟨g, h0, rfl, hg, hrow⟩
  · have HE : Aside0 (locP c ns key = ⟨(chkC c ns).1, 0, 0, []⟩) := ⟨by unfold locP; rw [if_pos h0]⟩
    generalize (chkC c ns).1 = code at h0 HE ⊢
    have hne : (code != 0) = true := by simpa using h0
    have HTH : Aside0 (w2.there (ga + 1) 0 plZ.length) := ⟨blk_there HR2.out⟩
    have HX : Aside0 ((w2.setCells (ga + 1) 0 plZ).heap[ga + 1]? = some (.cells plZ.toArray 44 (0, 0))) := ⟨setCells_whole HR2.out rfl⟩
    have HBF : Aside0 (Below w.heap.size w (w2.setCells (ga + 1) 0 plZ)) := ⟨Go.Proofs.YtljjpdjknnhceaaDoor.Mids.below_setCells HB2.out HGA.out _ _⟩
    go_wp2_with (first | ((with_reducible refine gate_build (t := 44) (parts := #[]) rfl ?_); go_loud (refine list_build rfl 44 #[] rfl plZ.toArray built_z ?_)) | ((with_reducible refine gate_store (ty := 44) (x := .tmp 4) (y := .tmp 18) rfl ?_); go_loud (refine wpList_store_mid rfl 44 (.tmp 4) (.tmp 18) rfl (ga + 1) 0 plZ.toArray rfl rfl HTH.out infoP plZ_one ?_)))
    refine bodyPost_ret (v := .tuple #[.agg plZ.toArray, .int .i64 code]) ?_ rfl ⟨HBF.out, by rw [HE.out]; rfl⟩
    exact loc_results _ _ (ga + 1) plZ _ rfl rfl rfl HX.out
  · have HGOOD := Aside0.mk (chk_ok (nm := nmB c.store) h0)
    obtain ⟨hde, hhl, _⟩ := homes_some HGOOD.out.hom
    have hb6 := setAt_bounds HGOOD.out.set
    have hP1 := hde.1
    have hP2 := hde.2.1
    have HH0 := Aside0.mk h0
    obtain ⟨P, hP⟩ : ∃ P, P = cnt ns := ⟨_, rfl⟩
    have HPE := Aside0.mk hP
    have HHL : Aside0 ((chkC c ns).2.length = P) := ⟨hhl.trans hP.symm⟩
    rw [HHL.out]
    rw [← hP] at hP1 hP2
    obtain ⟨W, hW⟩ : ∃ W : Nat, c.width = (W : Int) := ⟨c.width.toNat, by omega⟩
    obtain ⟨C, hC⟩ : ∃ C : Nat, c.chunks = (C : Int) := ⟨c.chunks.toNat, by omega⟩
    have hWb : 1 ≤ W ∧ W ≤ 16 := by omega
    have hCb : 1 ≤ C ∧ C ≤ 16 := by omega
    have HWE := Aside0.mk hW
    have HCE := Aside0.mk hC
    clear h0 hde hhl hb6 hrow hg hP hW hC HN
    go_wp2_with fail
    refine (within_any _ _ _ _).mono ?_
    rintro e w3 ⟨rfl, hd⟩
    have hbd := hd.below
    have HB3 := Aside0.mk (HB2.out.trans (hbd.mono HB2.out.size))
    have HR3 : Aside0 (w3.heap[ga + 1]? = some (.cells plZ.toArray 44 (0, 0))) := ⟨(hbd.block _ (blk_lt HR2.out)).trans HR2.out⟩
    have HBX3 : Aside0 (w3.heap[ga]? = some (.cells (cL c (.slice A ns.length cap)).toArray 24 (0, 0))) := ⟨(hbd.block _ (blk_lt HBX2.out)).trans HBX2.out⟩
    have HG3 := Aside0.mk (HG2.out.below hbd)
    clear hd hbd HB2 HR2 HBX2 HG2
    by_cases hkey : key.size < 1 ∨ 255 < key.size
    · have HE : Aside0 (locP c ns key = ⟨32, 0, 0, []⟩) := ⟨by unfold locP; rw [if_neg (by rw [HH0.out]; decide), if_pos hkey]⟩
      have hwi : wiB (key.size : Int) 1 255 = false := by
        unfold wiB
        rcases hkey with h | h
        · rw [decide_eq_false (by omega), Bool.false_and]
        · rw [decide_eq_false (show ¬ ((key.size : Int) ≤ 255) by omega), Bool.and_false]
      rw [hwi]
      have HTH : Aside0 (w3.there (ga + 1) 0 plZ.length) := ⟨blk_there HR3.out⟩
      have HX : Aside0 ((w3.setCells (ga + 1) 0 plZ).heap[ga + 1]? = some (.cells plZ.toArray 44 (0, 0))) := ⟨setCells_whole HR3.out rfl⟩
      have HBF : Aside0 (Below w.heap.size w (w3.setCells (ga + 1) 0 plZ)) := ⟨Go.Proofs.YtljjpdjknnhceaaDoor.Mids.below_setCells HB3.out HGA.out _ _⟩
      clear hwi
      go_wp2_with (first | ((with_reducible refine gate_build (t := 44) (parts := #[]) rfl ?_); go_loud (refine list_build rfl 44 #[] rfl plZ.toArray built_z ?_)) | ((with_reducible refine gate_store (ty := 44) (x := .tmp 4) (y := .tmp 24) rfl ?_); go_loud (refine wpList_store_mid rfl 44 (.tmp 4) (.tmp 24) rfl (ga + 1) 0 plZ.toArray rfl rfl HTH.out infoP plZ_one ?_)))
      refine bodyPost_ret (v := .tuple #[.agg plZ.toArray, .int .i64 32]) ?_ rfl ⟨HBF.out, by rw [HE.out]; rfl⟩
      exact loc_results _ _ (ga + 1) plZ _ rfl rfl rfl HX.out
    · have HE : Aside0 (locP c ns key = ⟨0, ((num4 key 0 % P : Nat) : Int), ((num4 key 4 % C : Nat) : Int), (md key).drop (16 - W)⟩) := ⟨by
        unfold locP; rw [if_neg (by rw [HH0.out]; decide), if_neg hkey, HPE.out, HCE.out, HWE.out]; rfl⟩
      have hwi : wiB (key.size : Int) 1 255 = true := by
        unfold wiB
        rw [decide_eq_true (show (1 : Int) ≤ (key.size : Int) by omega), decide_eq_true (show ((key.size : Int) ≤ 255) by omega), Bool.true_and]
      rw [hwi]
      clear hwi hkey
      go_wp2_with fail
      have hc1 := strs_new w3 [key] 9 (by simp)
      have HA1 := Aside0.mk ((Below.refl w3.heap.size w3).alloc (Nat.le_refl _) (.cells (List.map Value.string [key]).toArray 9))
      have hfl : Crc.flat [key] = key.data.toList := by simp [Crc.flat]
      refine (Sum.md5_any (some ⟨w3.heap.size, 0, none⟩) 1 [key] _ hc1 (by simp) (HG3.out.below HA1.out) (by simp) (by rw [hfl, data_length]; omega)).mono ?_
      rintro e w4 ⟨rfl, hb⟩
      have hbd := HA1.out.trans (hb.mono HA1.out.size)
      have HB4 := Aside0.mk (HB3.out.trans (hbd.mono HB3.out.size))
      have HR4 : Aside0 (w4.heap[ga + 1]? = some (.cells plZ.toArray 44 (0, 0))) := ⟨(hbd.block _ (blk_lt HR3.out)).trans HR3.out⟩
      have HBX4 : Aside0 (w4.heap[ga]? = some (.cells (cL c (.slice A ns.length cap)).toArray 24 (0, 0))) := ⟨(hbd.block _ (blk_lt HBX3.out)).trans HBX3.out⟩
      rw [hfl]
      have HML := Aside0.mk (md_length key)
      have HN0 : Aside0 (num4 key 0 = beV (((strOf (md key)).data.toList.drop 0).take 4)) := ⟨rfl⟩
      have HN4 : Aside0 (num4 key 4 = beV (((strOf (md key)).data.toList.drop 4).take 4)) := ⟨rfl⟩
      have HL0 := Aside0.mk (num4_lt key 0)
      have HL4 := Aside0.mk (num4_lt key 4)
      rw [show Md5Pure.md5 key.data.toList = md key from rfl]
      clear hb hbd hc1 hfl HA1 HB3 HR3 HBX3 HG3
      obtain ⟨M, hM⟩ : ∃ M, M = md key := ⟨_, rfl⟩
      rw [← hM] at HN0 HN4 HML HE ⊢
      clear hM
      obtain ⟨X0, hX0⟩ : ∃ X, X = num4 key 0 := ⟨_, rfl⟩
      obtain ⟨X4, hX4⟩ : ∃ X, X = num4 key 4 := ⟨_, rfl⟩
      rw [← hX0] at HN0 HL0 HE
      rw [← hX4] at HN4 HL4 HE
      clear hX0 hX4
      have HSM : Aside0 ((strOf M).size = 16) := ⟨by rw [strOf_size]; exact HML.out⟩
      go_wp2_with fail
      refine (readNumber_any (strOf M) 0 w4 (by rw [HSM.out]; decide) (by rw [HSM.out]; decide)).mono ?_
      rintro e w5 ⟨rfl, hb⟩
      rw [← HN0.out]
      have HB5 := Aside0.mk (HB4.out.trans (hb.mono HB4.out.size))
      have HR5 : Aside0 (w5.heap[ga + 1]? = some (.cells plZ.toArray 44 (0, 0))) := ⟨(hb.block _ (blk_lt HR4.out)).trans HR4.out⟩
      have HBX5 : Aside0 (w5.heap[ga]? = some (.cells (cL c (.slice A ns.length cap)).toArray 24 (0, 0))) := ⟨(hb.block _ (blk_lt HBX4.out)).trans HBX4.out⟩
      clear hb HB4 HR4 HBX4
      go_wp2_with fail
      refine (readNumber_any (strOf M) 4 w5 (by rw [HSM.out]; decide) (by rw [HSM.out]; decide)).mono ?_
      rintro e w6 ⟨rfl, hb⟩
      rw [← HN4.out]
      have HB6 := Aside0.mk (HB5.out.trans (hb.mono HB5.out.size))
      have HR6 : Aside0 (w6.heap[ga + 1]? = some (.cells plZ.toArray 44 (0, 0))) := ⟨(hb.block _ (blk_lt HR5.out)).trans HR5.out⟩
      have HBX6 : Aside0 (w6.heap[ga]? = some (.cells (cL c (.slice A ns.length cap)).toArray 24 (0, 0))) := ⟨(hb.block _ (blk_lt HBX5.out)).trans HBX5.out⟩
      clear hb HB5 HR5 HBX5
      go_upto_region 13 with fail
      refine LocR.loc13 _ _ w w6 ga g ns.length cap P W C X0 X4 c A M HB6 HBX6 HR6 HGA.out HCE HWE hP1 hP2 hCb hWb HL0.out HL4.out HML.out rfl rfl rfl rfl rfl rfl rfl ?_
      intro wv hbv hrv
      have HBV := Aside0.mk hbv
      have HRV := Aside0.mk hrv
      clear hbv hrv
      simp only [RegA.putV, Act.put, List.setIfInBounds_toArray, List.set_cons_zero, List.set_cons_succ]
      go_wp2_with fail
      refine bodyPost_ret (v := .tuple #[.agg (plL ⟨0, ((X0 % P : Nat) : Int), ((X4 % C : Nat) : Int), M.drop (16 - W)⟩).toArray, .int .i64 0]) ?_ rfl ⟨HBV.out, by rw [HE.out]⟩
      exact loc_results _ _ (ga + 1) _ _ rfl rfl rfl HRV.out
end Go.Proofs.YtljjpdjknnhceaaDoor.Loc
