/- Joined texts of this claim: MadeA, MadeB, MadeC -/
import Derived.Test.YtljjpdjknnhceaaDoorJRPlc7
set_option linter.unusedVariables false
set_option linter.unusedSimpArgs false
/- Made's regions that draw their order, each in a declaration of its own. -/
set_option linter.unusedVariables false
set_option linter.unusedSimpArgs false
namespace Go.Proofs.YtljjpdjknnhceaaDoor.MadeA
open Go.RowKit Go.Proofs.YtljjpdjknnhceaaDoorW.PrintWords Go.Proofs.YtljjpdjknnhceaaDoorW.PrintLast Go.Proofs.YtljjpdjknnhceaaDoorW.PrintMore
open Go.Proofs.YtljjpdjknnhceaaDoor.Base Go.Proofs.YtljjpdjknnhceaaDoor.App Go.Proofs.YtljjpdjknnhceaaDoor.RingPure Go.Proofs.YtljjpdjknnhceaaDoor.ChkPure Go.Proofs.YtljjpdjknnhceaaDoor.Clus Go.Proofs.YtljjpdjknnhceaaDoor.Mids Go.Proofs.YtljjpdjknnhceaaDoor.Chkd Go.Proofs.YtljjpdjknnhceaaDoor.AppR Go.Proofs.YtljjpdjknnhceaaDoor.Twin Go.Proofs.YtljjpdjknnhceaaDoor.TwinW Go.Proofs.YtljjpdjknnhceaaDoor.WithV Go.Proofs.YtljjpdjknnhceaaDoor.ModAt Go.Proofs.YtljjpdjknnhceaaDoor.MadePure Go.Proofs.YtljjpdjknnhceaaDoor.FewPure Go.Proofs.YtljjpdjknnhceaaDoor.MadeV Go.Proofs.YtljjpdjknnhceaaDoor.RegA
set_option maxRecDepth 100000 in
set_option maxHeartbeats 4000000 in
theorem made28 (Q : Exit → Act → World → Prop) (a0 : Act) (w4 : World) (gr : Nat) (nd rp wd ch : Int) (HA ZA NA : Option Addr) (hc zc nc : Nat) (H Z Nu : List Int) (R1 W1 C V3 V4 V5 V6 V8 V9 : Nat) (HRB4 : Aside0 (w4.heap[gr]? = some (.cells (rawL nd rp wd ch HA ZA NA hc zc nc H Z Nu).toArray 51 (0, 0)))) (HN4 : Aside0 (NumsAt w4 NA Nu)) (cN : Nu.length ≤ nc) (bN : Nu.length ≤ 1099511627776) (HWW : Aside0 (IntKind.i64.wrap (1 + md wd 16) = ((W1 : Nat) : Int))) (HL3 : Aside0 (IntKind.i64.wrap (1 + md (atL Nu 0) 8) = ((V3 : Nat) : Int))) (HL4 : Aside0 (IntKind.i64.wrap (1 + md (atL Nu 1) 4096) = ((V4 : Nat) : Int))) (HL5 : Aside0 (IntKind.i64.wrap (1 + md (atL Nu 2) 65536) = ((V5 : Nat) : Int))) (HL6 : Aside0 (IntKind.i64.wrap (1 + md (atL Nu 3) 1024) = ((V6 : Nat) : Int))) (HL8 : Aside0 (IntKind.i64.wrap (1 + md (atL Nu 5) 64) = ((V8 : Nat) : Int))) (HL9 : Aside0 (IntKind.i64.wrap (1 + md (atL Nu 6) 1024) = ((V9 : Nat) : Int)))
    (hN : a0.tmps.size = 212) (h1 : a0.tmps.getD 1 undef = .pointer (some ⟨gr, 0, none⟩)) (h11 : a0.tmps.getD 11 undef = .int .i64 ((R1 : Nat) : Int)) (h12 : a0.tmps.getD 12 undef = .int .i64 ((C : Nat) : Int))
    (hQ : ∀ (wv : World) (gv : Nat), w4.heap.size ≤ gv → Below w4.heap.size w4 wv → wv.heap[gv]? = some (.cells (vL R1 W1 C V3 V4 V5 V6 V8 V9).toArray 102 (0, 0)) → Q .normal (putV [(some 91, .int .i64 ((R1 : Nat) : Int)), (some 92, .pointer (some ⟨gr, 2, none⟩)), (some 93, .int .i64 wd), (some 94, .int .i64 (md wd 16)), (some 95, .int .i64 ((W1 : Nat) : Int)), (some 96, .int .i64 ((C : Nat) : Int)), (some 97, .pointer (some ⟨gr, 6, none⟩)), (some 98, .slice NA Nu.length nc), (some 99, .int .i64 (atL Nu 0)), (some 100, .int .i64 (md (atL Nu 0) 8)), (some 101, .int .i64 ((V3 : Nat) : Int)), (some 102, .pointer (some ⟨gr, 6, none⟩)), (some 103, .slice NA Nu.length nc), (some 104, .int .i64 (atL Nu 1)), (some 105, .int .i64 (md (atL Nu 1) 4096)), (some 106, .int .i64 ((V4 : Nat) : Int)), (some 107, .pointer (some ⟨gr, 6, none⟩)), (some 108, .slice NA Nu.length nc), (some 109, .int .i64 (atL Nu 2)), (some 110, .int .i64 (md (atL Nu 2) 65536)), (some 111, .int .i64 ((V5 : Nat) : Int)), (some 112, .pointer (some ⟨gr, 6, none⟩)), (some 113, .slice NA Nu.length nc), (some 114, .int .i64 (atL Nu 3)), (some 115, .int .i64 (md (atL Nu 3) 1024)), (some 116, .int .i64 ((V6 : Nat) : Int)), (some 117, .pointer (some ⟨gr, 6, none⟩)), (some 118, .slice NA Nu.length nc), (some 119, .int .i64 (atL Nu 5)), (some 120, .int .i64 (md (atL Nu 5) 64)), (some 121, .int .i64 ((V8 : Nat) : Int)), (some 122, .pointer (some ⟨gr, 6, none⟩)), (some 123, .slice NA Nu.length nc), (some 124, .int .i64 (atL Nu 6)), (some 125, .int .i64 (md (atL Nu 6) 1024)), (some 126, .int .i64 ((V9 : Nat) : Int)), (some 127, .agg (vL R1 W1 C V3 V4 V5 V6 V8 V9).toArray), (some 13, .pointer (some ⟨gv, 0, none⟩)), (none, undef)] a0) wv) :
    Code.wp Tryd.prog (regC 28 Tryd.f24) Q a0 w4 := by
  conv => arg 2; whnf
  refine Reg.wp_region_rel _ (by kernel_rfl) _ _ _ hN (by kernel_rfl) (fun w' => Below w4.heap.size w4 w') (fun i w w' => if i = 38 then ∃ g : Nat, w4.heap.size ≤ g ∧ w' = w.setCells g 0 (vL R1 W1 C V3 V4 V5 V6 V8 V9) else Below w.heap.size w w') (fun jq vs w' => match jq with
    | 0 => vs 0 = .int .i64 ((R1 : Nat) : Int)
    | 1 => vs 1 = .pointer (some ⟨gr, 2, none⟩)
    | 2 => vs 2 = .int .i64 wd
    | 3 => vs 3 = .int .i64 (md wd 16)
    | 4 => vs 4 = .int .i64 ((W1 : Nat) : Int)
    | 5 => vs 5 = .int .i64 ((C : Nat) : Int)
    | 6 => vs 6 = .pointer (some ⟨gr, 6, none⟩)
    | 7 => vs 7 = .slice NA Nu.length nc
    | 8 => vs 8 = .int .i64 (atL Nu 0)
    | 9 => vs 9 = .int .i64 (md (atL Nu 0) 8)
    | 10 => vs 10 = .int .i64 ((V3 : Nat) : Int)
    | 11 => vs 11 = .pointer (some ⟨gr, 6, none⟩)
    | 12 => vs 12 = .slice NA Nu.length nc
    | 13 => vs 13 = .int .i64 (atL Nu 1)
    | 14 => vs 14 = .int .i64 (md (atL Nu 1) 4096)
    | 15 => vs 15 = .int .i64 ((V4 : Nat) : Int)
    | 16 => vs 16 = .pointer (some ⟨gr, 6, none⟩)
    | 17 => vs 17 = .slice NA Nu.length nc
    | 18 => vs 18 = .int .i64 (atL Nu 2)
    | 19 => vs 19 = .int .i64 (md (atL Nu 2) 65536)
    | 20 => vs 20 = .int .i64 ((V5 : Nat) : Int)
    | 21 => vs 21 = .pointer (some ⟨gr, 6, none⟩)
    | 22 => vs 22 = .slice NA Nu.length nc
    | 23 => vs 23 = .int .i64 (atL Nu 3)
    | 24 => vs 24 = .int .i64 (md (atL Nu 3) 1024)
    | 25 => vs 25 = .int .i64 ((V6 : Nat) : Int)
    | 26 => vs 26 = .pointer (some ⟨gr, 6, none⟩)
    | 27 => vs 27 = .slice NA Nu.length nc
    | 28 => vs 28 = .int .i64 (atL Nu 5)
    | 29 => vs 29 = .int .i64 (md (atL Nu 5) 64)
    | 30 => vs 30 = .int .i64 ((V8 : Nat) : Int)
    | 31 => vs 31 = .pointer (some ⟨gr, 6, none⟩)
    | 32 => vs 32 = .slice NA Nu.length nc
    | 33 => vs 33 = .int .i64 (atL Nu 6)
    | 34 => vs 34 = .int .i64 (md (atL Nu 6) 1024)
    | 35 => vs 35 = .int .i64 ((V9 : Nat) : Int)
    | 36 => vs 36 = .agg (vL R1 W1 C V3 V4 V5 V6 V8 V9).toArray
    | 37 => ∃ g : Nat, (vs 37) = .pointer (some ⟨g, 0, none⟩) ∧ w4.heap.size ≤ g ∧ (w'.heap[g]? = some (.cells z21.toArray 102 (0, 0)) ∨ w'.heap[g]? = some (.cells (vL R1 W1 C V3 V4 V5 V6 V8 V9).toArray 102 (0, 0)))
    | 38 => ∃ g : Nat, vs 37 = .pointer (some ⟨g, 0, none⟩) ∧ w4.heap.size ≤ g ∧ w'.heap[g]? = some (.cells (vL R1 W1 C V3 V4 V5 V6 V8 V9).toArray 102 (0, 0))
    | _ => True) (below_drew (Below.refl _ _)) ?_ ?_ ?_ ?_
  · intro i j vs w0 w' hij hI hR hb
    rcases j with _ | j
    · exact hR
    rcases j with _ | j
    · exact hR
    rcases j with _ | j
    · exact hR
    rcases j with _ | j
    · exact hR
    rcases j with _ | j
    · exact hR
    rcases j with _ | j
    · exact hR
    rcases j with _ | j
    · exact hR
    rcases j with _ | j
    · exact hR
    rcases j with _ | j
    · exact hR
    rcases j with _ | j
    · exact hR
    rcases j with _ | j
    · exact hR
    rcases j with _ | j
    · exact hR
    rcases j with _ | j
    · exact hR
    rcases j with _ | j
    · exact hR
    rcases j with _ | j
    · exact hR
    rcases j with _ | j
    · exact hR
    rcases j with _ | j
    · exact hR
    rcases j with _ | j
    · exact hR
    rcases j with _ | j
    · exact hR
    rcases j with _ | j
    · exact hR
    rcases j with _ | j
    · exact hR
    rcases j with _ | j
    · exact hR
    rcases j with _ | j
    · exact hR
    rcases j with _ | j
    · exact hR
    rcases j with _ | j
    · exact hR
    rcases j with _ | j
    · exact hR
    rcases j with _ | j
    · exact hR
    rcases j with _ | j
    · exact hR
    rcases j with _ | j
    · exact hR
    rcases j with _ | j
    · exact hR
    rcases j with _ | j
    · exact hR
    rcases j with _ | j
    · exact hR
    rcases j with _ | j
    · exact hR
    rcases j with _ | j
    · exact hR
    rcases j with _ | j
    · exact hR
    rcases j with _ | j
    · exact hR
    rcases j with _ | j
    · exact hR
    rcases j with _ | j
    · obtain ⟨g, hv, hg, hblk⟩ := hR
      by_cases hi38 : i = 38
      · subst hi38
        obtain ⟨g', hg', hw⟩ := (show ∃ g : Nat, w4.heap.size ≤ g ∧ w' = w0.setCells g 0 (vL R1 W1 C V3 V4 V5 V6 V8 V9) from hb)
        refine ⟨g, hv, hg, ?_⟩
        by_cases hgg : g = g'
        · subst hgg
          rw [hw]
          rcases hblk with h | h
          · exact .inr (setCells_whole h rfl)
          · exact .inr (setCells_whole h rfl)
        · rw [hw, setCells_other g' hgg]
          exact hblk
      · have hb' : Below w0.heap.size w0 w' := by simp only [if_neg hi38] at hb; exact hb
        have hlt : g < w0.heap.size := by rcases hblk with h | h <;> exact blk_lt h
        exact ⟨g, hv, hg, by rw [hb'.block _ hlt]; exact hblk⟩
    rcases j with _ | j
    · obtain ⟨g, hv, hg, hblk⟩ := hR
      have hb' : Below w0.heap.size w0 w' := by simp only [if_neg hij] at hb; exact hb
      exact ⟨g, hv, hg, (hb'.block _ (blk_lt hblk)).trans hblk⟩
    exact trivial
  · intro j o vs vs1 w0 ho he hp hR
    rcases j with _ | j
    · exact he.trans hR
    rcases j with _ | j
    · exact he.trans hR
    rcases j with _ | j
    · exact he.trans hR
    rcases j with _ | j
    · exact he.trans hR
    rcases j with _ | j
    · exact he.trans hR
    rcases j with _ | j
    · exact he.trans hR
    rcases j with _ | j
    · exact he.trans hR
    rcases j with _ | j
    · exact he.trans hR
    rcases j with _ | j
    · exact he.trans hR
    rcases j with _ | j
    · exact he.trans hR
    rcases j with _ | j
    · exact he.trans hR
    rcases j with _ | j
    · exact he.trans hR
    rcases j with _ | j
    · exact he.trans hR
    rcases j with _ | j
    · exact he.trans hR
    rcases j with _ | j
    · exact he.trans hR
    rcases j with _ | j
    · exact he.trans hR
    rcases j with _ | j
    · exact he.trans hR
    rcases j with _ | j
    · exact he.trans hR
    rcases j with _ | j
    · exact he.trans hR
    rcases j with _ | j
    · exact he.trans hR
    rcases j with _ | j
    · exact he.trans hR
    rcases j with _ | j
    · exact he.trans hR
    rcases j with _ | j
    · exact he.trans hR
    rcases j with _ | j
    · exact he.trans hR
    rcases j with _ | j
    · exact he.trans hR
    rcases j with _ | j
    · exact he.trans hR
    rcases j with _ | j
    · exact he.trans hR
    rcases j with _ | j
    · exact he.trans hR
    rcases j with _ | j
    · exact he.trans hR
    rcases j with _ | j
    · exact he.trans hR
    rcases j with _ | j
    · exact he.trans hR
    rcases j with _ | j
    · exact he.trans hR
    rcases j with _ | j
    · exact he.trans hR
    rcases j with _ | j
    · exact he.trans hR
    rcases j with _ | j
    · exact he.trans hR
    rcases j with _ | j
    · exact he.trans hR
    rcases j with _ | j
    · exact he.trans hR
    rcases j with _ | j
    · show ∃ g : Nat, (vs1 37) = .pointer (some ⟨g, 0, none⟩) ∧ w4.heap.size ≤ g ∧ (w0.heap[g]? = some (.cells z21.toArray 102 (0, 0)) ∨ w0.heap[g]? = some (.cells (vL R1 W1 C V3 V4 V5 V6 V8 V9).toArray 102 (0, 0)))
      rw [he]; exact hR
    rcases j with _ | j
    · obtain ⟨g, hv, hg, hblk⟩ := hR
      exact ⟨g, (hp 37 (by have := Option.some.inj ho; subst this; rfl)).trans hv, hg, hblk⟩
    exact trivial
  · skip
    refine Reg.allOps_cons ?_ ?_
    · intro vs w0 ρ hρ hcst hglb hfun hI hp
      have e11 : ρ (.tmp 11) = .int .i64 ((R1 : Nat) : Int) := (hρ (.tmp 11)).trans h11
      clear hρ hp
      refine Reg.rel_value (.int .i64 ((R1 : Nat) : Int)) ?_ ⟨hI, rfl⟩
      go_simp
    refine Reg.allOps_cons ?_ ?_
    · intro vs w0 ρ hρ hcst hglb hfun hI hp
      have e1 : ρ (.tmp 1) = .pointer (some ⟨gr, 0, none⟩) := (hρ (.tmp 1)).trans h1
      clear hρ hp
      refine Reg.rel_value (.pointer (some ⟨gr, 2, none⟩)) ?_ ⟨hI, rfl⟩
      go_simp
    refine Reg.allOps_cons ?_ ?_
    · intro vs w0 ρ hρ hcst hglb hfun hI hp
      have e92 : ρ (.tmp 92) = .pointer (some ⟨gr, 2, none⟩) := (hρ (.tmp 92)).trans (show vs 1 = .pointer (some ⟨gr, 2, none⟩) from hp 1 rfl)
      clear hρ hp
      have hbx : w0.heap[gr]? = some (.cells (rawL nd rp wd ch HA ZA NA hc zc nc H Z Nu).toArray 51 (0, 0)) := (hI.block _ (blk_lt HRB4.out)).trans HRB4.out
      have hl2 : w0.cell? ⟨gr, 2, none⟩ = some (.int .i64 wd) := by rw [blk_cell hbx]; rfl
      clear hbx
      refine Reg.rel_value (.int .i64 wd) ?_ ⟨hI, rfl⟩
      go_simp
    refine Reg.allOps_cons ?_ ?_
    · intro vs w0 ρ hρ hcst hglb hfun hI hp
      have e93 : ρ (.tmp 93) = .int .i64 wd := (hρ (.tmp 93)).trans (show vs 2 = .int .i64 wd from hp 2 rfl)
      clear hρ hp
      refine Reg.rel_call Tryd.func26 (by kernel_rfl) rfl #[.int .i64 (wd), .int .i64 16] rfl (hfun _) (by simp [e93, hcst]) ?_
      refine (mod_any (wd) 16 w0 (by decide) (by decide)).mono ?_
      rintro e w3 ⟨rfl, hb⟩
      exact ⟨_, rfl, hb, hI.trans (hb.mono hI.size), rfl⟩
    refine Reg.allOps_cons ?_ ?_
    · intro vs w0 ρ hρ hcst hglb hfun hI hp
      have e94 : ρ (.tmp 94) = .int .i64 (md wd 16) := (hρ (.tmp 94)).trans (show vs 3 = .int .i64 (md wd 16) from hp 3 rfl)
      clear hρ hp
      refine Reg.rel_value (.int .i64 ((W1 : Nat) : Int)) ?_ ⟨hI, rfl⟩
      have hq := HWW.out
      go_simp
    refine Reg.allOps_cons ?_ ?_
    · intro vs w0 ρ hρ hcst hglb hfun hI hp
      have e12 : ρ (.tmp 12) = .int .i64 ((C : Nat) : Int) := (hρ (.tmp 12)).trans h12
      clear hρ hp
      refine Reg.rel_value (.int .i64 ((C : Nat) : Int)) ?_ ⟨hI, rfl⟩
      go_simp
    refine Reg.allOps_cons ?_ ?_
    · intro vs w0 ρ hρ hcst hglb hfun hI hp
      have e1 : ρ (.tmp 1) = .pointer (some ⟨gr, 0, none⟩) := (hρ (.tmp 1)).trans h1
      clear hρ hp
      refine Reg.rel_value (.pointer (some ⟨gr, 6, none⟩)) ?_ ⟨hI, rfl⟩
      go_simp
    refine Reg.allOps_cons ?_ ?_
    · intro vs w0 ρ hρ hcst hglb hfun hI hp
      have e97 : ρ (.tmp 97) = .pointer (some ⟨gr, 6, none⟩) := (hρ (.tmp 97)).trans (show vs 6 = .pointer (some ⟨gr, 6, none⟩) from hp 6 rfl)
      clear hρ hp
      have hbx : w0.heap[gr]? = some (.cells (rawL nd rp wd ch HA ZA NA hc zc nc H Z Nu).toArray 51 (0, 0)) := (hI.block _ (blk_lt HRB4.out)).trans HRB4.out
      have hl2 : w0.cell? ⟨gr, 6, none⟩ = some (.slice NA Nu.length nc) := by rw [blk_cell hbx]; rfl
      clear hbx
      refine Reg.rel_value (.slice NA Nu.length nc) ?_ ⟨hI, rfl⟩
      go_simp
    refine Reg.allOps_cons ?_ ?_
    · intro vs w0 ρ hρ hcst hglb hfun hI hp
      have e98 : ρ (.tmp 98) = .slice NA Nu.length nc := (hρ (.tmp 98)).trans (show vs 7 = .slice NA Nu.length nc from hp 7 rfl)
      clear hρ hp
      refine Reg.rel_call Tryd.func57 (by kernel_rfl) rfl #[.slice NA Nu.length nc, .int .i64 ((0 : Nat) : Int)] rfl (hfun _) (by simp [e98, hcst]) ?_
      refine (at_any NA nc Nu 0 w0 (HN4.out.below hI) cN bN).mono ?_
      rintro e w3 ⟨rfl, hb⟩
      exact ⟨_, rfl, hb, hI.trans (hb.mono hI.size), rfl⟩
    refine Reg.allOps_cons ?_ ?_
    · intro vs w0 ρ hρ hcst hglb hfun hI hp
      have e99 : ρ (.tmp 99) = .int .i64 (atL Nu 0) := (hρ (.tmp 99)).trans (show vs 8 = .int .i64 (atL Nu 0) from hp 8 rfl)
      clear hρ hp
      refine Reg.rel_call Tryd.func26 (by kernel_rfl) rfl #[.int .i64 (atL Nu 0), .int .i64 8] rfl (hfun _) (by simp [e99, hcst]) ?_
      refine (mod_any (atL Nu 0) 8 w0 (by decide) (by decide)).mono ?_
      rintro e w3 ⟨rfl, hb⟩
      exact ⟨_, rfl, hb, hI.trans (hb.mono hI.size), rfl⟩
    refine Reg.allOps_cons ?_ ?_
    · intro vs w0 ρ hρ hcst hglb hfun hI hp
      have e100 : ρ (.tmp 100) = .int .i64 (md (atL Nu 0) 8) := (hρ (.tmp 100)).trans (show vs 9 = .int .i64 (md (atL Nu 0) 8) from hp 9 rfl)
      clear hρ hp
      refine Reg.rel_value (.int .i64 ((V3 : Nat) : Int)) ?_ ⟨hI, rfl⟩
      have hq := HL3.out
      go_simp
    refine Reg.allOps_cons ?_ ?_
    · intro vs w0 ρ hρ hcst hglb hfun hI hp
      have e1 : ρ (.tmp 1) = .pointer (some ⟨gr, 0, none⟩) := (hρ (.tmp 1)).trans h1
      clear hρ hp
      refine Reg.rel_value (.pointer (some ⟨gr, 6, none⟩)) ?_ ⟨hI, rfl⟩
      go_simp
    refine Reg.allOps_cons ?_ ?_
    · intro vs w0 ρ hρ hcst hglb hfun hI hp
      have e102 : ρ (.tmp 102) = .pointer (some ⟨gr, 6, none⟩) := (hρ (.tmp 102)).trans (show vs 11 = .pointer (some ⟨gr, 6, none⟩) from hp 11 rfl)
      clear hρ hp
      have hbx : w0.heap[gr]? = some (.cells (rawL nd rp wd ch HA ZA NA hc zc nc H Z Nu).toArray 51 (0, 0)) := (hI.block _ (blk_lt HRB4.out)).trans HRB4.out
      have hl2 : w0.cell? ⟨gr, 6, none⟩ = some (.slice NA Nu.length nc) := by rw [blk_cell hbx]; rfl
      clear hbx
      refine Reg.rel_value (.slice NA Nu.length nc) ?_ ⟨hI, rfl⟩
      go_simp
    refine Reg.allOps_cons ?_ ?_
    · intro vs w0 ρ hρ hcst hglb hfun hI hp
      have e103 : ρ (.tmp 103) = .slice NA Nu.length nc := (hρ (.tmp 103)).trans (show vs 12 = .slice NA Nu.length nc from hp 12 rfl)
      clear hρ hp
      refine Reg.rel_call Tryd.func57 (by kernel_rfl) rfl #[.slice NA Nu.length nc, .int .i64 ((1 : Nat) : Int)] rfl (hfun _) (by simp [e103, hcst]) ?_
      refine (at_any NA nc Nu 1 w0 (HN4.out.below hI) cN bN).mono ?_
      rintro e w3 ⟨rfl, hb⟩
      exact ⟨_, rfl, hb, hI.trans (hb.mono hI.size), rfl⟩
    refine Reg.allOps_cons ?_ ?_
    · intro vs w0 ρ hρ hcst hglb hfun hI hp
      have e104 : ρ (.tmp 104) = .int .i64 (atL Nu 1) := (hρ (.tmp 104)).trans (show vs 13 = .int .i64 (atL Nu 1) from hp 13 rfl)
      clear hρ hp
      refine Reg.rel_call Tryd.func26 (by kernel_rfl) rfl #[.int .i64 (atL Nu 1), .int .i64 4096] rfl (hfun _) (by simp [e104, hcst]) ?_
      refine (mod_any (atL Nu 1) 4096 w0 (by decide) (by decide)).mono ?_
      rintro e w3 ⟨rfl, hb⟩
      exact ⟨_, rfl, hb, hI.trans (hb.mono hI.size), rfl⟩
    refine Reg.allOps_cons ?_ ?_
    · intro vs w0 ρ hρ hcst hglb hfun hI hp
      have e105 : ρ (.tmp 105) = .int .i64 (md (atL Nu 1) 4096) := (hρ (.tmp 105)).trans (show vs 14 = .int .i64 (md (atL Nu 1) 4096) from hp 14 rfl)
      clear hρ hp
      refine Reg.rel_value (.int .i64 ((V4 : Nat) : Int)) ?_ ⟨hI, rfl⟩
      have hq := HL4.out
      go_simp
    refine Reg.allOps_cons ?_ ?_
    · intro vs w0 ρ hρ hcst hglb hfun hI hp
      have e1 : ρ (.tmp 1) = .pointer (some ⟨gr, 0, none⟩) := (hρ (.tmp 1)).trans h1
      clear hρ hp
      refine Reg.rel_value (.pointer (some ⟨gr, 6, none⟩)) ?_ ⟨hI, rfl⟩
      go_simp
    refine Reg.allOps_cons ?_ ?_
    · intro vs w0 ρ hρ hcst hglb hfun hI hp
      have e107 : ρ (.tmp 107) = .pointer (some ⟨gr, 6, none⟩) := (hρ (.tmp 107)).trans (show vs 16 = .pointer (some ⟨gr, 6, none⟩) from hp 16 rfl)
      clear hρ hp
      have hbx : w0.heap[gr]? = some (.cells (rawL nd rp wd ch HA ZA NA hc zc nc H Z Nu).toArray 51 (0, 0)) := (hI.block _ (blk_lt HRB4.out)).trans HRB4.out
      have hl2 : w0.cell? ⟨gr, 6, none⟩ = some (.slice NA Nu.length nc) := by rw [blk_cell hbx]; rfl
      clear hbx
      refine Reg.rel_value (.slice NA Nu.length nc) ?_ ⟨hI, rfl⟩
      go_simp
    refine Reg.allOps_cons ?_ ?_
    · intro vs w0 ρ hρ hcst hglb hfun hI hp
      have e108 : ρ (.tmp 108) = .slice NA Nu.length nc := (hρ (.tmp 108)).trans (show vs 17 = .slice NA Nu.length nc from hp 17 rfl)
      clear hρ hp
      refine Reg.rel_call Tryd.func57 (by kernel_rfl) rfl #[.slice NA Nu.length nc, .int .i64 ((2 : Nat) : Int)] rfl (hfun _) (by simp [e108, hcst]) ?_
      refine (at_any NA nc Nu 2 w0 (HN4.out.below hI) cN bN).mono ?_
      rintro e w3 ⟨rfl, hb⟩
      exact ⟨_, rfl, hb, hI.trans (hb.mono hI.size), rfl⟩
    refine Reg.allOps_cons ?_ ?_
    · intro vs w0 ρ hρ hcst hglb hfun hI hp
      have e109 : ρ (.tmp 109) = .int .i64 (atL Nu 2) := (hρ (.tmp 109)).trans (show vs 18 = .int .i64 (atL Nu 2) from hp 18 rfl)
      clear hρ hp
      refine Reg.rel_call Tryd.func26 (by kernel_rfl) rfl #[.int .i64 (atL Nu 2), .int .i64 65536] rfl (hfun _) (by simp [e109, hcst]) ?_
      refine (mod_any (atL Nu 2) 65536 w0 (by decide) (by decide)).mono ?_
      rintro e w3 ⟨rfl, hb⟩
      exact ⟨_, rfl, hb, hI.trans (hb.mono hI.size), rfl⟩
    refine Reg.allOps_cons ?_ ?_
    · intro vs w0 ρ hρ hcst hglb hfun hI hp
      have e110 : ρ (.tmp 110) = .int .i64 (md (atL Nu 2) 65536) := (hρ (.tmp 110)).trans (show vs 19 = .int .i64 (md (atL Nu 2) 65536) from hp 19 rfl)
      clear hρ hp
      refine Reg.rel_value (.int .i64 ((V5 : Nat) : Int)) ?_ ⟨hI, rfl⟩
      have hq := HL5.out
      go_simp
    refine Reg.allOps_cons ?_ ?_
    · intro vs w0 ρ hρ hcst hglb hfun hI hp
      have e1 : ρ (.tmp 1) = .pointer (some ⟨gr, 0, none⟩) := (hρ (.tmp 1)).trans h1
      clear hρ hp
      refine Reg.rel_value (.pointer (some ⟨gr, 6, none⟩)) ?_ ⟨hI, rfl⟩
      go_simp
    refine Reg.allOps_cons ?_ ?_
    · intro vs w0 ρ hρ hcst hglb hfun hI hp
      have e112 : ρ (.tmp 112) = .pointer (some ⟨gr, 6, none⟩) := (hρ (.tmp 112)).trans (show vs 21 = .pointer (some ⟨gr, 6, none⟩) from hp 21 rfl)
      clear hρ hp
      have hbx : w0.heap[gr]? = some (.cells (rawL nd rp wd ch HA ZA NA hc zc nc H Z Nu).toArray 51 (0, 0)) := (hI.block _ (blk_lt HRB4.out)).trans HRB4.out
      have hl2 : w0.cell? ⟨gr, 6, none⟩ = some (.slice NA Nu.length nc) := by rw [blk_cell hbx]; rfl
      clear hbx
      refine Reg.rel_value (.slice NA Nu.length nc) ?_ ⟨hI, rfl⟩
      go_simp
    refine Reg.allOps_cons ?_ ?_
    · intro vs w0 ρ hρ hcst hglb hfun hI hp
      have e113 : ρ (.tmp 113) = .slice NA Nu.length nc := (hρ (.tmp 113)).trans (show vs 22 = .slice NA Nu.length nc from hp 22 rfl)
      clear hρ hp
      refine Reg.rel_call Tryd.func57 (by kernel_rfl) rfl #[.slice NA Nu.length nc, .int .i64 ((3 : Nat) : Int)] rfl (hfun _) (by simp [e113, hcst]) ?_
      refine (at_any NA nc Nu 3 w0 (HN4.out.below hI) cN bN).mono ?_
      rintro e w3 ⟨rfl, hb⟩
      exact ⟨_, rfl, hb, hI.trans (hb.mono hI.size), rfl⟩
    refine Reg.allOps_cons ?_ ?_
    · intro vs w0 ρ hρ hcst hglb hfun hI hp
      have e114 : ρ (.tmp 114) = .int .i64 (atL Nu 3) := (hρ (.tmp 114)).trans (show vs 23 = .int .i64 (atL Nu 3) from hp 23 rfl)
      clear hρ hp
      refine Reg.rel_call Tryd.func26 (by kernel_rfl) rfl #[.int .i64 (atL Nu 3), .int .i64 1024] rfl (hfun _) (by simp [e114, hcst]) ?_
      refine (mod_any (atL Nu 3) 1024 w0 (by decide) (by decide)).mono ?_
      rintro e w3 ⟨rfl, hb⟩
      exact ⟨_, rfl, hb, hI.trans (hb.mono hI.size), rfl⟩
    refine Reg.allOps_cons ?_ ?_
    · intro vs w0 ρ hρ hcst hglb hfun hI hp
      have e115 : ρ (.tmp 115) = .int .i64 (md (atL Nu 3) 1024) := (hρ (.tmp 115)).trans (show vs 24 = .int .i64 (md (atL Nu 3) 1024) from hp 24 rfl)
      clear hρ hp
      refine Reg.rel_value (.int .i64 ((V6 : Nat) : Int)) ?_ ⟨hI, rfl⟩
      have hq := HL6.out
      go_simp
    refine Reg.allOps_cons ?_ ?_
    · intro vs w0 ρ hρ hcst hglb hfun hI hp
      have e1 : ρ (.tmp 1) = .pointer (some ⟨gr, 0, none⟩) := (hρ (.tmp 1)).trans h1
      clear hρ hp
      refine Reg.rel_value (.pointer (some ⟨gr, 6, none⟩)) ?_ ⟨hI, rfl⟩
      go_simp
    refine Reg.allOps_cons ?_ ?_
    · intro vs w0 ρ hρ hcst hglb hfun hI hp
      have e117 : ρ (.tmp 117) = .pointer (some ⟨gr, 6, none⟩) := (hρ (.tmp 117)).trans (show vs 26 = .pointer (some ⟨gr, 6, none⟩) from hp 26 rfl)
      clear hρ hp
      have hbx : w0.heap[gr]? = some (.cells (rawL nd rp wd ch HA ZA NA hc zc nc H Z Nu).toArray 51 (0, 0)) := (hI.block _ (blk_lt HRB4.out)).trans HRB4.out
      have hl2 : w0.cell? ⟨gr, 6, none⟩ = some (.slice NA Nu.length nc) := by rw [blk_cell hbx]; rfl
      clear hbx
      refine Reg.rel_value (.slice NA Nu.length nc) ?_ ⟨hI, rfl⟩
      go_simp
    refine Reg.allOps_cons ?_ ?_
    · intro vs w0 ρ hρ hcst hglb hfun hI hp
      have e118 : ρ (.tmp 118) = .slice NA Nu.length nc := (hρ (.tmp 118)).trans (show vs 27 = .slice NA Nu.length nc from hp 27 rfl)
      clear hρ hp
      refine Reg.rel_call Tryd.func57 (by kernel_rfl) rfl #[.slice NA Nu.length nc, .int .i64 ((5 : Nat) : Int)] rfl (hfun _) (by simp [e118, hcst]) ?_
      refine (at_any NA nc Nu 5 w0 (HN4.out.below hI) cN bN).mono ?_
      rintro e w3 ⟨rfl, hb⟩
      exact ⟨_, rfl, hb, hI.trans (hb.mono hI.size), rfl⟩
    refine Reg.allOps_cons ?_ ?_
    · intro vs w0 ρ hρ hcst hglb hfun hI hp
      have e119 : ρ (.tmp 119) = .int .i64 (atL Nu 5) := (hρ (.tmp 119)).trans (show vs 28 = .int .i64 (atL Nu 5) from hp 28 rfl)
      clear hρ hp
      refine Reg.rel_call Tryd.func26 (by kernel_rfl) rfl #[.int .i64 (atL Nu 5), .int .i64 64] rfl (hfun _) (by simp [e119, hcst]) ?_
      refine (mod_any (atL Nu 5) 64 w0 (by decide) (by decide)).mono ?_
      rintro e w3 ⟨rfl, hb⟩
      exact ⟨_, rfl, hb, hI.trans (hb.mono hI.size), rfl⟩
    refine Reg.allOps_cons ?_ ?_
    · intro vs w0 ρ hρ hcst hglb hfun hI hp
      have e120 : ρ (.tmp 120) = .int .i64 (md (atL Nu 5) 64) := (hρ (.tmp 120)).trans (show vs 29 = .int .i64 (md (atL Nu 5) 64) from hp 29 rfl)
      clear hρ hp
      refine Reg.rel_value (.int .i64 ((V8 : Nat) : Int)) ?_ ⟨hI, rfl⟩
      have hq := HL8.out
      go_simp
    refine Reg.allOps_cons ?_ ?_
    · intro vs w0 ρ hρ hcst hglb hfun hI hp
      have e1 : ρ (.tmp 1) = .pointer (some ⟨gr, 0, none⟩) := (hρ (.tmp 1)).trans h1
      clear hρ hp
      refine Reg.rel_value (.pointer (some ⟨gr, 6, none⟩)) ?_ ⟨hI, rfl⟩
      go_simp
    refine Reg.allOps_cons ?_ ?_
    · intro vs w0 ρ hρ hcst hglb hfun hI hp
      have e122 : ρ (.tmp 122) = .pointer (some ⟨gr, 6, none⟩) := (hρ (.tmp 122)).trans (show vs 31 = .pointer (some ⟨gr, 6, none⟩) from hp 31 rfl)
      clear hρ hp
      have hbx : w0.heap[gr]? = some (.cells (rawL nd rp wd ch HA ZA NA hc zc nc H Z Nu).toArray 51 (0, 0)) := (hI.block _ (blk_lt HRB4.out)).trans HRB4.out
      have hl2 : w0.cell? ⟨gr, 6, none⟩ = some (.slice NA Nu.length nc) := by rw [blk_cell hbx]; rfl
      clear hbx
      refine Reg.rel_value (.slice NA Nu.length nc) ?_ ⟨hI, rfl⟩
      go_simp
    refine Reg.allOps_cons ?_ ?_
    · intro vs w0 ρ hρ hcst hglb hfun hI hp
      have e123 : ρ (.tmp 123) = .slice NA Nu.length nc := (hρ (.tmp 123)).trans (show vs 32 = .slice NA Nu.length nc from hp 32 rfl)
      clear hρ hp
      refine Reg.rel_call Tryd.func57 (by kernel_rfl) rfl #[.slice NA Nu.length nc, .int .i64 ((6 : Nat) : Int)] rfl (hfun _) (by simp [e123, hcst]) ?_
      refine (at_any NA nc Nu 6 w0 (HN4.out.below hI) cN bN).mono ?_
      rintro e w3 ⟨rfl, hb⟩
      exact ⟨_, rfl, hb, hI.trans (hb.mono hI.size), rfl⟩
    refine Reg.allOps_cons ?_ ?_
    · intro vs w0 ρ hρ hcst hglb hfun hI hp
      have e124 : ρ (.tmp 124) = .int .i64 (atL Nu 6) := (hρ (.tmp 124)).trans (show vs 33 = .int .i64 (atL Nu 6) from hp 33 rfl)
      clear hρ hp
      refine Reg.rel_call Tryd.func26 (by kernel_rfl) rfl #[.int .i64 (atL Nu 6), .int .i64 1024] rfl (hfun _) (by simp [e124, hcst]) ?_
      refine (mod_any (atL Nu 6) 1024 w0 (by decide) (by decide)).mono ?_
      rintro e w3 ⟨rfl, hb⟩
      exact ⟨_, rfl, hb, hI.trans (hb.mono hI.size), rfl⟩
    refine Reg.allOps_cons ?_ ?_
    · intro vs w0 ρ hρ hcst hglb hfun hI hp
      have e125 : ρ (.tmp 125) = .int .i64 (md (atL Nu 6) 1024) := (hρ (.tmp 125)).trans (show vs 34 = .int .i64 (md (atL Nu 6) 1024) from hp 34 rfl)
      clear hρ hp
      refine Reg.rel_value (.int .i64 ((V9 : Nat) : Int)) ?_ ⟨hI, rfl⟩
      have hq := HL9.out
      go_simp
    refine Reg.allOps_cons ?_ ?_
    · intro vs w0 ρ hρ hcst hglb hfun hI hp
      have e91 : ρ (.tmp 91) = .int .i64 ((R1 : Nat) : Int) := (hρ (.tmp 91)).trans (show vs 0 = .int .i64 ((R1 : Nat) : Int) from hp 0 rfl)
      have e95 : ρ (.tmp 95) = .int .i64 ((W1 : Nat) : Int) := (hρ (.tmp 95)).trans (show vs 4 = .int .i64 ((W1 : Nat) : Int) from hp 4 rfl)
      have e96 : ρ (.tmp 96) = .int .i64 ((C : Nat) : Int) := (hρ (.tmp 96)).trans (show vs 5 = .int .i64 ((C : Nat) : Int) from hp 5 rfl)
      have e101 : ρ (.tmp 101) = .int .i64 ((V3 : Nat) : Int) := (hρ (.tmp 101)).trans (show vs 10 = .int .i64 ((V3 : Nat) : Int) from hp 10 rfl)
      have e106 : ρ (.tmp 106) = .int .i64 ((V4 : Nat) : Int) := (hρ (.tmp 106)).trans (show vs 15 = .int .i64 ((V4 : Nat) : Int) from hp 15 rfl)
      have e111 : ρ (.tmp 111) = .int .i64 ((V5 : Nat) : Int) := (hρ (.tmp 111)).trans (show vs 20 = .int .i64 ((V5 : Nat) : Int) from hp 20 rfl)
      have e116 : ρ (.tmp 116) = .int .i64 ((V6 : Nat) : Int) := (hρ (.tmp 116)).trans (show vs 25 = .int .i64 ((V6 : Nat) : Int) from hp 25 rfl)
      have e121 : ρ (.tmp 121) = .int .i64 ((V8 : Nat) : Int) := (hρ (.tmp 121)).trans (show vs 30 = .int .i64 ((V8 : Nat) : Int) from hp 30 rfl)
      have e126 : ρ (.tmp 126) = .int .i64 ((V9 : Nat) : Int) := (hρ (.tmp 126)).trans (show vs 35 = .int .i64 ((V9 : Nat) : Int) from hp 35 rfl)
      clear hρ hp
      refine Reg.rel_value (.agg (vL R1 W1 C V3 V4 V5 V6 V8 V9).toArray) (exec_build 102 _ rfl _ ?_) ⟨hI, rfl⟩
      simp only [List.map_toArray, List.map_cons, List.map_nil, hcst, e91, e95, e96, e101, e106, e111, e116, e121, e126]
      exact built_v R1 W1 C V3 V4 V5 V6 V8 V9
    refine Reg.allOps_cons ?_ ?_
    · intro vs w0 ρ hρ hcst hglb hfun hI hp
      clear hρ hp
      refine Reg.rel_made (.pointer (some ⟨w0.heap.size, 0, none⟩)) (w' := w0.alloc (.cells z21.toArray 102)) ?_ ((Below.refl _ _).alloc (Nat.le_refl _) _) ⟨hI.alloc hI.size _, w0.heap.size, rfl, hI.size, .inl (Go.heap_alloc_new _ _)⟩
      unfold z21
      go_simp
    refine Reg.allOps_cons ?_ ?_
    · intro vs w0 ρ hρ hcst hglb hfun hI hp
      have r37 : ∃ g : Nat, (vs 37) = .pointer (some ⟨g, 0, none⟩) ∧ w4.heap.size ≤ g ∧ (w0.heap[g]? = some (.cells z21.toArray 102 (0, 0)) ∨ w0.heap[g]? = some (.cells (vL R1 W1 C V3 V4 V5 V6 V8 V9).toArray 102 (0, 0))) := hp 37 rfl
      have e13 : ρ (.tmp 13) = vs 37 := hρ (.tmp 13)
      have e127 : ρ (.tmp 127) = .agg (vL R1 W1 C V3 V4 V5 V6 V8 V9).toArray := (hρ (.tmp 127)).trans (show vs 36 = .agg (vL R1 W1 C V3 V4 V5 V6 V8 V9).toArray from hp 36 rfl)
      clear hρ hp
      obtain ⟨g, hv, hg, hblk⟩ := r37
      rw [hv] at e13
      have hth : w0.there g 0 (vL R1 W1 C V3 V4 V5 V6 V8 V9).toArray.size := by
        rcases hblk with h | h
        · exact (show w0.there g 0 z21.length from blk_there h)
        · exact (show w0.there g 0 (vL R1 W1 C V3 V4 V5 V6 V8 V9).length from blk_there h)
      refine Reg.rel_skip (w' := w0.setCells g 0 (vL R1 W1 C V3 V4 V5 V6 V8 V9)) (exec_store_mid 102 (.tmp 13) (.tmp 127) rfl g 0 (vL R1 W1 C V3 V4 V5 V6 V8 V9).toArray e13 e127 hth infoV21 (by simp [vL, Value.oneCell'])) ⟨g, hg, rfl⟩ ⟨below_setCells hI hg _ _, g, hv, hg, ?_⟩
      rcases hblk with h | h
      · exact setCells_whole h rfl
      · exact setCells_whole h rfl
    exact Reg.allOps_nil
  intro vs w0 hI hR
  have r0 : vs 0 = .int .i64 ((R1 : Nat) : Int) := hR 0 (by decide)
  have r1 : vs 1 = .pointer (some ⟨gr, 2, none⟩) := hR 1 (by decide)
  have r2 : vs 2 = .int .i64 wd := hR 2 (by decide)
  have r3 : vs 3 = .int .i64 (md wd 16) := hR 3 (by decide)
  have r4 : vs 4 = .int .i64 ((W1 : Nat) : Int) := hR 4 (by decide)
  have r5 : vs 5 = .int .i64 ((C : Nat) : Int) := hR 5 (by decide)
  have r6 : vs 6 = .pointer (some ⟨gr, 6, none⟩) := hR 6 (by decide)
  have r7 : vs 7 = .slice NA Nu.length nc := hR 7 (by decide)
  have r8 : vs 8 = .int .i64 (atL Nu 0) := hR 8 (by decide)
  have r9 : vs 9 = .int .i64 (md (atL Nu 0) 8) := hR 9 (by decide)
  have r10 : vs 10 = .int .i64 ((V3 : Nat) : Int) := hR 10 (by decide)
  have r11 : vs 11 = .pointer (some ⟨gr, 6, none⟩) := hR 11 (by decide)
  have r12 : vs 12 = .slice NA Nu.length nc := hR 12 (by decide)
  have r13 : vs 13 = .int .i64 (atL Nu 1) := hR 13 (by decide)
  have r14 : vs 14 = .int .i64 (md (atL Nu 1) 4096) := hR 14 (by decide)
  have r15 : vs 15 = .int .i64 ((V4 : Nat) : Int) := hR 15 (by decide)
  have r16 : vs 16 = .pointer (some ⟨gr, 6, none⟩) := hR 16 (by decide)
  have r17 : vs 17 = .slice NA Nu.length nc := hR 17 (by decide)
  have r18 : vs 18 = .int .i64 (atL Nu 2) := hR 18 (by decide)
  have r19 : vs 19 = .int .i64 (md (atL Nu 2) 65536) := hR 19 (by decide)
  have r20 : vs 20 = .int .i64 ((V5 : Nat) : Int) := hR 20 (by decide)
  have r21 : vs 21 = .pointer (some ⟨gr, 6, none⟩) := hR 21 (by decide)
  have r22 : vs 22 = .slice NA Nu.length nc := hR 22 (by decide)
  have r23 : vs 23 = .int .i64 (atL Nu 3) := hR 23 (by decide)
  have r24 : vs 24 = .int .i64 (md (atL Nu 3) 1024) := hR 24 (by decide)
  have r25 : vs 25 = .int .i64 ((V6 : Nat) : Int) := hR 25 (by decide)
  have r26 : vs 26 = .pointer (some ⟨gr, 6, none⟩) := hR 26 (by decide)
  have r27 : vs 27 = .slice NA Nu.length nc := hR 27 (by decide)
  have r28 : vs 28 = .int .i64 (atL Nu 5) := hR 28 (by decide)
  have r29 : vs 29 = .int .i64 (md (atL Nu 5) 64) := hR 29 (by decide)
  have r30 : vs 30 = .int .i64 ((V8 : Nat) : Int) := hR 30 (by decide)
  have r31 : vs 31 = .pointer (some ⟨gr, 6, none⟩) := hR 31 (by decide)
  have r32 : vs 32 = .slice NA Nu.length nc := hR 32 (by decide)
  have r33 : vs 33 = .int .i64 (atL Nu 6) := hR 33 (by decide)
  have r34 : vs 34 = .int .i64 (md (atL Nu 6) 1024) := hR 34 (by decide)
  have r35 : vs 35 = .int .i64 ((V9 : Nat) : Int) := hR 35 (by decide)
  have r36 : vs 36 = .agg (vL R1 W1 C V3 V4 V5 V6 V8 V9).toArray := hR 36 (by decide)
  obtain ⟨gv, r37, hgv, hblk⟩ := hR 38 (by decide)
  have hq := hQ w0 gv hgv hI hblk
  simp only [RegA.putV, Act.put] at hq
  simp only [Reg.fillFrom, Act.put, r0, r1, r2, r3, r4, r5, r6, r7, r8, r9, r10, r11, r12, r13, r14, r15, r16, r17, r18, r19, r20, r21, r22, r23, r24, r25, r26, r27, r28, r29, r30, r31, r32, r33, r34, r35, r36, r37]
  exact hq
end Go.Proofs.YtljjpdjknnhceaaDoor.MadeA

/- Made's regions that draw their order, each in a declaration of its own. -/
set_option linter.unusedVariables false
set_option linter.unusedSimpArgs false
namespace Go.Proofs.YtljjpdjknnhceaaDoor.MadeB
open Go.RowKit Go.Proofs.YtljjpdjknnhceaaDoorW.PrintWords Go.Proofs.YtljjpdjknnhceaaDoorW.PrintLast Go.Proofs.YtljjpdjknnhceaaDoorW.PrintMore
open Go.Proofs.YtljjpdjknnhceaaDoor.Base Go.Proofs.YtljjpdjknnhceaaDoor.App Go.Proofs.YtljjpdjknnhceaaDoor.RingPure Go.Proofs.YtljjpdjknnhceaaDoor.ChkPure Go.Proofs.YtljjpdjknnhceaaDoor.Clus Go.Proofs.YtljjpdjknnhceaaDoor.Mids Go.Proofs.YtljjpdjknnhceaaDoor.Chkd Go.Proofs.YtljjpdjknnhceaaDoor.AppR Go.Proofs.YtljjpdjknnhceaaDoor.Twin Go.Proofs.YtljjpdjknnhceaaDoor.TwinW Go.Proofs.YtljjpdjknnhceaaDoor.WithV Go.Proofs.YtljjpdjknnhceaaDoor.ModAt Go.Proofs.YtljjpdjknnhceaaDoor.MadePure Go.Proofs.YtljjpdjknnhceaaDoor.FewPure Go.Proofs.YtljjpdjknnhceaaDoor.MadeV Go.Proofs.YtljjpdjknnhceaaDoor.RegA
set_option maxRecDepth 100000 in
set_option maxHeartbeats 4000000 in
theorem made29 (Q : Exit → Act → World → Prop) (a0 : Act) (w4 w5 : World) (gr gv : Nat) (nd rp wd ch : Int) (HA ZA NA : Option Addr) (hc zc nc : Nat) (H Z Nu : List Int) (R1 W1 C V3 V4 V5 V6 V7 V8 V9 V10 D7 D10 : Nat) (HRB4 : Aside0 (w4.heap[gr]? = some (.cells (rawL nd rp wd ch HA ZA NA hc zc nc H Z Nu).toArray 51 (0, 0)))) (HN4 : Aside0 (NumsAt w4 NA Nu)) (cN : Nu.length ≤ nc) (bN : Nu.length ≤ 1099511627776) (HD7 : Aside0 (IntKind.i64.wrap (65537 - (V4 : Int)) = ((D7 : Nat) : Int))) (HL7 : Aside0 (IntKind.i64.wrap ((V4 : Int) + md (atL Nu 4) ((D7 : Nat) : Int)) = ((V7 : Nat) : Int))) (hd7 : D7 + V4 = 65537) (hv4 : V4 ≤ 4096)
    (hgv : w4.heap.size ≤ gv) (HV : Aside0 (Below w4.heap.size w4 w5) ∧ Aside0 (w5.heap[gv]? = some (.cells ([.int .i64 ((R1 : Nat) : Int), .int .i64 ((W1 : Nat) : Int), .int .i64 ((C : Nat) : Int), .int .i64 ((V3 : Nat) : Int), .int .i64 ((V4 : Nat) : Int), .int .i64 ((V5 : Nat) : Int), .int .i64 ((V6 : Nat) : Int), .int .i64 0, .int .i64 ((V8 : Nat) : Int), .int .i64 ((V9 : Nat) : Int), .int .i64 0, .int .i64 0, .int .i64 0, .int .i64 0, .int .i64 0, .int .i64 0, .int .i64 0, .int .i64 0, .int .i64 0, .int .i64 0, .int .i64 0] : List Value).toArray 102 (0, 0))))
    (hN : a0.tmps.size = 212) (h1 : a0.tmps.getD 1 undef = .pointer (some ⟨gr, 0, none⟩)) (h13 : a0.tmps.getD 13 undef = .pointer (some ⟨gv, 0, none⟩))
    (hQ : ∀ (wv : World), Below w4.heap.size w4 wv → wv.heap[gv]? = some (.cells ([.int .i64 ((R1 : Nat) : Int), .int .i64 ((W1 : Nat) : Int), .int .i64 ((C : Nat) : Int), .int .i64 ((V3 : Nat) : Int), .int .i64 ((V4 : Nat) : Int), .int .i64 ((V5 : Nat) : Int), .int .i64 ((V6 : Nat) : Int), .int .i64 ((V7 : Nat) : Int), .int .i64 ((V8 : Nat) : Int), .int .i64 ((V9 : Nat) : Int), .int .i64 0, .int .i64 0, .int .i64 0, .int .i64 0, .int .i64 0, .int .i64 0, .int .i64 0, .int .i64 0, .int .i64 0, .int .i64 0, .int .i64 0] : List Value).toArray 102 (0, 0)) → Q .normal (putV [(some 128, .pointer (some ⟨gv, 4, none⟩)), (some 129, .int .i64 ((V4 : Nat) : Int)), (some 130, .pointer (some ⟨gr, 6, none⟩)), (some 131, .slice NA Nu.length nc), (some 132, .int .i64 (atL Nu 4)), (some 133, .pointer (some ⟨gv, 4, none⟩)), (some 134, .int .i64 ((V4 : Nat) : Int)), (some 135, .int .i64 ((D7 : Nat) : Int)), (some 136, .int .i64 (md (atL Nu 4) ((D7 : Nat) : Int))), (some 137, .int .i64 ((V7 : Nat) : Int)), (some 138, .pointer (some ⟨gv, 7, none⟩)), (none, undef)] a0) wv) :
    Code.wp Tryd.prog (regC 29 Tryd.f24) Q a0 w5 := by
  conv => arg 2; whnf
  refine Reg.wp_region_rel _ (by kernel_rfl) _ _ _ hN (by kernel_rfl) (fun w' => Below w4.heap.size w4 w' ∧ ∃ u : Value, w'.heap[gv]? = some (.cells ([.int .i64 ((R1 : Nat) : Int), .int .i64 ((W1 : Nat) : Int), .int .i64 ((C : Nat) : Int), .int .i64 ((V3 : Nat) : Int), .int .i64 ((V4 : Nat) : Int), .int .i64 ((V5 : Nat) : Int), .int .i64 ((V6 : Nat) : Int), u, .int .i64 ((V8 : Nat) : Int), .int .i64 ((V9 : Nat) : Int), .int .i64 0, .int .i64 0, .int .i64 0, .int .i64 0, .int .i64 0, .int .i64 0, .int .i64 0, .int .i64 0, .int .i64 0, .int .i64 0, .int .i64 0] : List Value).toArray 102 (0, 0))) (fun i w w' => if i = 11 then True else Below w.heap.size w w') (fun jq vs w' => match jq with
    | 0 => vs 0 = .pointer (some ⟨gv, 4, none⟩)
    | 1 => vs 1 = .int .i64 ((V4 : Nat) : Int)
    | 2 => vs 2 = .pointer (some ⟨gr, 6, none⟩)
    | 3 => vs 3 = .slice NA Nu.length nc
    | 4 => vs 4 = .int .i64 (atL Nu 4)
    | 5 => vs 5 = .pointer (some ⟨gv, 4, none⟩)
    | 6 => vs 6 = .int .i64 ((V4 : Nat) : Int)
    | 7 => vs 7 = .int .i64 ((D7 : Nat) : Int)
    | 8 => vs 8 = .int .i64 (md (atL Nu 4) ((D7 : Nat) : Int))
    | 9 => vs 9 = .int .i64 ((V7 : Nat) : Int)
    | 10 => vs 10 = .pointer (some ⟨gv, 7, none⟩)
    | 11 => w'.heap[gv]? = some (.cells ([.int .i64 ((R1 : Nat) : Int), .int .i64 ((W1 : Nat) : Int), .int .i64 ((C : Nat) : Int), .int .i64 ((V3 : Nat) : Int), .int .i64 ((V4 : Nat) : Int), .int .i64 ((V5 : Nat) : Int), .int .i64 ((V6 : Nat) : Int), .int .i64 ((V7 : Nat) : Int), .int .i64 ((V8 : Nat) : Int), .int .i64 ((V9 : Nat) : Int), .int .i64 0, .int .i64 0, .int .i64 0, .int .i64 0, .int .i64 0, .int .i64 0, .int .i64 0, .int .i64 0, .int .i64 0, .int .i64 0, .int .i64 0] : List Value).toArray 102 (0, 0))
    | _ => True) (⟨below_drew HV.1.out, _, HV.2.out⟩) ?_ ?_ ?_ ?_
  · intro i j vs w0 w' hij hI hR hb
    rcases j with _ | j
    · exact hR
    rcases j with _ | j
    · exact hR
    rcases j with _ | j
    · exact hR
    rcases j with _ | j
    · exact hR
    rcases j with _ | j
    · exact hR
    rcases j with _ | j
    · exact hR
    rcases j with _ | j
    · exact hR
    rcases j with _ | j
    · exact hR
    rcases j with _ | j
    · exact hR
    rcases j with _ | j
    · exact hR
    rcases j with _ | j
    · exact hR
    rcases j with _ | j
    · have hb' : Below w0.heap.size w0 w' := by simp only [if_neg hij] at hb; exact hb
      exact (hb'.block _ (blk_lt hR)).trans hR
    exact trivial
  · intro j o vs vs1 w0 ho he hp hR
    rcases j with _ | j
    · exact he.trans hR
    rcases j with _ | j
    · exact he.trans hR
    rcases j with _ | j
    · exact he.trans hR
    rcases j with _ | j
    · exact he.trans hR
    rcases j with _ | j
    · exact he.trans hR
    rcases j with _ | j
    · exact he.trans hR
    rcases j with _ | j
    · exact he.trans hR
    rcases j with _ | j
    · exact he.trans hR
    rcases j with _ | j
    · exact he.trans hR
    rcases j with _ | j
    · exact he.trans hR
    rcases j with _ | j
    · exact he.trans hR
    rcases j with _ | j
    · exact hR
    exact trivial
  · skip
    refine Reg.allOps_cons ?_ ?_
    · intro vs w0 ρ hρ hcst hglb hfun hI hp
      have e13 : ρ (.tmp 13) = .pointer (some ⟨gv, 0, none⟩) := (hρ (.tmp 13)).trans h13
      clear hρ hp
      obtain ⟨hB, u, hu⟩ := hI
      refine Reg.rel_value (.pointer (some ⟨gv, 4, none⟩)) ?_ ⟨⟨hB, u, hu⟩, rfl⟩
      clear hu
      go_simp
    refine Reg.allOps_cons ?_ ?_
    · intro vs w0 ρ hρ hcst hglb hfun hI hp
      have e128 : ρ (.tmp 128) = .pointer (some ⟨gv, 4, none⟩) := (hρ (.tmp 128)).trans (show vs 0 = .pointer (some ⟨gv, 4, none⟩) from hp 0 rfl)
      clear hρ hp
      obtain ⟨hB, u, hu⟩ := hI
      have hvx : w0.cell? ⟨gv, 4, none⟩ = some (.int .i64 ((V4 : Nat) : Int)) := by rw [blk_cell hu]; rfl
      refine Reg.rel_value (.int .i64 ((V4 : Nat) : Int)) ?_ ⟨⟨hB, u, hu⟩, rfl⟩
      clear hu
      go_simp
    refine Reg.allOps_cons ?_ ?_
    · intro vs w0 ρ hρ hcst hglb hfun hI hp
      have e1 : ρ (.tmp 1) = .pointer (some ⟨gr, 0, none⟩) := (hρ (.tmp 1)).trans h1
      clear hρ hp
      obtain ⟨hB, u, hu⟩ := hI
      refine Reg.rel_value (.pointer (some ⟨gr, 6, none⟩)) ?_ ⟨⟨hB, u, hu⟩, rfl⟩
      clear hu
      go_simp
    refine Reg.allOps_cons ?_ ?_
    · intro vs w0 ρ hρ hcst hglb hfun hI hp
      have e130 : ρ (.tmp 130) = .pointer (some ⟨gr, 6, none⟩) := (hρ (.tmp 130)).trans (show vs 2 = .pointer (some ⟨gr, 6, none⟩) from hp 2 rfl)
      clear hρ hp
      obtain ⟨hB, u, hu⟩ := hI
      have hbx : w0.heap[gr]? = some (.cells (rawL nd rp wd ch HA ZA NA hc zc nc H Z Nu).toArray 51 (0, 0)) := (hB.block _ (blk_lt HRB4.out)).trans HRB4.out
      have hl2 : w0.cell? ⟨gr, 6, none⟩ = some (.slice NA Nu.length nc) := by rw [blk_cell hbx]; rfl
      clear hbx
      refine Reg.rel_value (.slice NA Nu.length nc) ?_ ⟨⟨hB, u, hu⟩, rfl⟩
      clear hu
      go_simp
    refine Reg.allOps_cons ?_ ?_
    · intro vs w0 ρ hρ hcst hglb hfun hI hp
      have e131 : ρ (.tmp 131) = .slice NA Nu.length nc := (hρ (.tmp 131)).trans (show vs 3 = .slice NA Nu.length nc from hp 3 rfl)
      clear hρ hp
      obtain ⟨hB, u, hu⟩ := hI
      refine Reg.rel_call Tryd.func57 (by kernel_rfl) rfl #[.slice NA Nu.length nc, .int .i64 ((4 : Nat) : Int)] rfl (hfun _) (by simp [e131, hcst]) ?_
      refine (at_any NA nc Nu 4 w0 (HN4.out.below hB) cN bN).mono ?_
      rintro e w3 ⟨rfl, hb⟩
      exact ⟨_, rfl, hb, ⟨hB.trans (hb.mono hB.size), u, (hb.block _ (blk_lt hu)).trans hu⟩, rfl⟩
    refine Reg.allOps_cons ?_ ?_
    · intro vs w0 ρ hρ hcst hglb hfun hI hp
      have e13 : ρ (.tmp 13) = .pointer (some ⟨gv, 0, none⟩) := (hρ (.tmp 13)).trans h13
      clear hρ hp
      obtain ⟨hB, u, hu⟩ := hI
      refine Reg.rel_value (.pointer (some ⟨gv, 4, none⟩)) ?_ ⟨⟨hB, u, hu⟩, rfl⟩
      clear hu
      go_simp
    refine Reg.allOps_cons ?_ ?_
    · intro vs w0 ρ hρ hcst hglb hfun hI hp
      have e133 : ρ (.tmp 133) = .pointer (some ⟨gv, 4, none⟩) := (hρ (.tmp 133)).trans (show vs 5 = .pointer (some ⟨gv, 4, none⟩) from hp 5 rfl)
      clear hρ hp
      obtain ⟨hB, u, hu⟩ := hI
      have hvx : w0.cell? ⟨gv, 4, none⟩ = some (.int .i64 ((V4 : Nat) : Int)) := by rw [blk_cell hu]; rfl
      refine Reg.rel_value (.int .i64 ((V4 : Nat) : Int)) ?_ ⟨⟨hB, u, hu⟩, rfl⟩
      clear hu
      go_simp
    refine Reg.allOps_cons ?_ ?_
    · intro vs w0 ρ hρ hcst hglb hfun hI hp
      have e134 : ρ (.tmp 134) = .int .i64 ((V4 : Nat) : Int) := (hρ (.tmp 134)).trans (show vs 6 = .int .i64 ((V4 : Nat) : Int) from hp 6 rfl)
      clear hρ hp
      refine Reg.rel_value (.int .i64 ((D7 : Nat) : Int)) ?_ ⟨hI, rfl⟩
      have hq := HD7.out
      go_simp
    refine Reg.allOps_cons ?_ ?_
    · intro vs w0 ρ hρ hcst hglb hfun hI hp
      have e132 : ρ (.tmp 132) = .int .i64 (atL Nu 4) := (hρ (.tmp 132)).trans (show vs 4 = .int .i64 (atL Nu 4) from hp 4 rfl)
      have e135 : ρ (.tmp 135) = .int .i64 ((D7 : Nat) : Int) := (hρ (.tmp 135)).trans (show vs 7 = .int .i64 ((D7 : Nat) : Int) from hp 7 rfl)
      clear hρ hp
      obtain ⟨hB, u, hu⟩ := hI
      refine Reg.rel_call Tryd.func26 (by kernel_rfl) rfl #[.int .i64 (atL Nu 4), .int .i64 ((D7 : Nat) : Int)] rfl (hfun _) (by simp [e132, e135]) ?_
      refine (mod_any (atL Nu 4) ((D7 : Nat) : Int) w0 (by omega) (by omega)).mono ?_
      rintro e w3 ⟨rfl, hb⟩
      exact ⟨_, rfl, hb, ⟨hB.trans (hb.mono hB.size), u, (hb.block _ (blk_lt hu)).trans hu⟩, rfl⟩
    refine Reg.allOps_cons ?_ ?_
    · intro vs w0 ρ hρ hcst hglb hfun hI hp
      have e129 : ρ (.tmp 129) = .int .i64 ((V4 : Nat) : Int) := (hρ (.tmp 129)).trans (show vs 1 = .int .i64 ((V4 : Nat) : Int) from hp 1 rfl)
      have e136 : ρ (.tmp 136) = .int .i64 (md (atL Nu 4) ((D7 : Nat) : Int)) := (hρ (.tmp 136)).trans (show vs 8 = .int .i64 (md (atL Nu 4) ((D7 : Nat) : Int)) from hp 8 rfl)
      clear hρ hp
      refine Reg.rel_value (.int .i64 ((V7 : Nat) : Int)) ?_ ⟨hI, rfl⟩
      have hq := HL7.out
      go_simp
    refine Reg.allOps_cons ?_ ?_
    · intro vs w0 ρ hρ hcst hglb hfun hI hp
      have e13 : ρ (.tmp 13) = .pointer (some ⟨gv, 0, none⟩) := (hρ (.tmp 13)).trans h13
      clear hρ hp
      obtain ⟨hB, u, hu⟩ := hI
      refine Reg.rel_value (.pointer (some ⟨gv, 7, none⟩)) ?_ ⟨⟨hB, u, hu⟩, rfl⟩
      clear hu
      go_simp
    refine Reg.allOps_cons ?_ ?_
    · intro vs w0 ρ hρ hcst hglb hfun hI hp
      have e138 : ρ (.tmp 138) = .pointer (some ⟨gv, 7, none⟩) := (hρ (.tmp 138)).trans (show vs 10 = .pointer (some ⟨gv, 7, none⟩) from hp 10 rfl)
      have e137 : ρ (.tmp 137) = .int .i64 ((V7 : Nat) : Int) := (hρ (.tmp 137)).trans (show vs 9 = .int .i64 ((V7 : Nat) : Int) from hp 9 rfl)
      clear hρ hp
      obtain ⟨hB, u, hu⟩ := hI
      have hcc : w0.cell? ⟨gv, 7, none⟩ = some u := by rw [blk_cell hu]; rfl
      have hfz : w0.frozen? ⟨gv, 7, none⟩ = false := blk_frozen hu 7
      have hnew : (w0.setCell ⟨gv, 7, none⟩ (.int .i64 ((V7 : Nat) : Int))).heap[gv]? = some (.cells ([.int .i64 ((R1 : Nat) : Int), .int .i64 ((W1 : Nat) : Int), .int .i64 ((C : Nat) : Int), .int .i64 ((V3 : Nat) : Int), .int .i64 ((V4 : Nat) : Int), .int .i64 ((V5 : Nat) : Int), .int .i64 ((V6 : Nat) : Int), .int .i64 ((V7 : Nat) : Int), .int .i64 ((V8 : Nat) : Int), .int .i64 ((V9 : Nat) : Int), .int .i64 0, .int .i64 0, .int .i64 0, .int .i64 0, .int .i64 0, .int .i64 0, .int .i64 0, .int .i64 0, .int .i64 0, .int .i64 0, .int .i64 0] : List Value).toArray 102 (0, 0)) := (blk_set hu _ _).trans rfl
      refine Reg.rel_skip (w' := w0.setCell ⟨gv, 7, none⟩ (.int .i64 ((V7 : Nat) : Int))) ?_ trivial ⟨⟨hB.setCell hgv _, _, hnew⟩, hnew⟩
      clear hu hnew
      go_simp
    exact Reg.allOps_nil
  intro vs w0 hI hR
  have r0 : vs 0 = .pointer (some ⟨gv, 4, none⟩) := hR 0 (by decide)
  have r1 : vs 1 = .int .i64 ((V4 : Nat) : Int) := hR 1 (by decide)
  have r2 : vs 2 = .pointer (some ⟨gr, 6, none⟩) := hR 2 (by decide)
  have r3 : vs 3 = .slice NA Nu.length nc := hR 3 (by decide)
  have r4 : vs 4 = .int .i64 (atL Nu 4) := hR 4 (by decide)
  have r5 : vs 5 = .pointer (some ⟨gv, 4, none⟩) := hR 5 (by decide)
  have r6 : vs 6 = .int .i64 ((V4 : Nat) : Int) := hR 6 (by decide)
  have r7 : vs 7 = .int .i64 ((D7 : Nat) : Int) := hR 7 (by decide)
  have r8 : vs 8 = .int .i64 (md (atL Nu 4) ((D7 : Nat) : Int)) := hR 8 (by decide)
  have r9 : vs 9 = .int .i64 ((V7 : Nat) : Int) := hR 9 (by decide)
  have r10 : vs 10 = .pointer (some ⟨gv, 7, none⟩) := hR 10 (by decide)
  have hblk := hR 11 (by decide)
  have hq := hQ w0 hI.1 hblk
  simp only [RegA.putV, Act.put] at hq
  simp only [Reg.fillFrom, Act.put, r0, r1, r2, r3, r4, r5, r6, r7, r8, r9, r10]
  exact hq
end Go.Proofs.YtljjpdjknnhceaaDoor.MadeB

/- Made's regions that draw their order, each in a declaration of its own. -/
set_option linter.unusedVariables false
set_option linter.unusedSimpArgs false
namespace Go.Proofs.YtljjpdjknnhceaaDoor.MadeC
open Go.RowKit Go.Proofs.YtljjpdjknnhceaaDoorW.PrintWords Go.Proofs.YtljjpdjknnhceaaDoorW.PrintLast Go.Proofs.YtljjpdjknnhceaaDoorW.PrintMore
open Go.Proofs.YtljjpdjknnhceaaDoor.Base Go.Proofs.YtljjpdjknnhceaaDoor.App Go.Proofs.YtljjpdjknnhceaaDoor.RingPure Go.Proofs.YtljjpdjknnhceaaDoor.ChkPure Go.Proofs.YtljjpdjknnhceaaDoor.Clus Go.Proofs.YtljjpdjknnhceaaDoor.Mids Go.Proofs.YtljjpdjknnhceaaDoor.Chkd Go.Proofs.YtljjpdjknnhceaaDoor.AppR Go.Proofs.YtljjpdjknnhceaaDoor.Twin Go.Proofs.YtljjpdjknnhceaaDoor.TwinW Go.Proofs.YtljjpdjknnhceaaDoor.WithV Go.Proofs.YtljjpdjknnhceaaDoor.ModAt Go.Proofs.YtljjpdjknnhceaaDoor.MadePure Go.Proofs.YtljjpdjknnhceaaDoor.FewPure Go.Proofs.YtljjpdjknnhceaaDoor.MadeV Go.Proofs.YtljjpdjknnhceaaDoor.RegA
set_option maxRecDepth 100000 in
set_option maxHeartbeats 4000000 in
theorem made30 (Q : Exit → Act → World → Prop) (a0 : Act) (w4 w5 : World) (gr gv : Nat) (nd rp wd ch : Int) (HA ZA NA : Option Addr) (hc zc nc : Nat) (H Z Nu : List Int) (R1 W1 C V3 V4 V5 V6 V7 V8 V9 V10 D7 D10 : Nat) (HRB4 : Aside0 (w4.heap[gr]? = some (.cells (rawL nd rp wd ch HA ZA NA hc zc nc H Z Nu).toArray 51 (0, 0)))) (HN4 : Aside0 (NumsAt w4 NA Nu)) (cN : Nu.length ≤ nc) (bN : Nu.length ≤ 1099511627776) (HD10 : Aside0 (IntKind.i64.wrap (1025 - (V9 : Int)) = ((D10 : Nat) : Int))) (HL10 : Aside0 (IntKind.i64.wrap ((V9 : Int) + md (atL Nu 7) ((D10 : Nat) : Int)) = ((V10 : Nat) : Int))) (hd10 : D10 + V9 = 1025) (hv9 : V9 ≤ 1024)
    (hgv : w4.heap.size ≤ gv) (HV : Aside0 (Below w4.heap.size w4 w5) ∧ Aside0 (w5.heap[gv]? = some (.cells ([.int .i64 ((R1 : Nat) : Int), .int .i64 ((W1 : Nat) : Int), .int .i64 ((C : Nat) : Int), .int .i64 ((V3 : Nat) : Int), .int .i64 ((V4 : Nat) : Int), .int .i64 ((V5 : Nat) : Int), .int .i64 ((V6 : Nat) : Int), .int .i64 ((V7 : Nat) : Int), .int .i64 ((V8 : Nat) : Int), .int .i64 ((V9 : Nat) : Int), .int .i64 0, .int .i64 0, .int .i64 0, .int .i64 0, .int .i64 0, .int .i64 0, .int .i64 0, .int .i64 0, .int .i64 0, .int .i64 0, .int .i64 0] : List Value).toArray 102 (0, 0))))
    (hN : a0.tmps.size = 212) (h1 : a0.tmps.getD 1 undef = .pointer (some ⟨gr, 0, none⟩)) (h13 : a0.tmps.getD 13 undef = .pointer (some ⟨gv, 0, none⟩))
    (hQ : ∀ (wv : World), Below w4.heap.size w4 wv → wv.heap[gv]? = some (.cells ([.int .i64 ((R1 : Nat) : Int), .int .i64 ((W1 : Nat) : Int), .int .i64 ((C : Nat) : Int), .int .i64 ((V3 : Nat) : Int), .int .i64 ((V4 : Nat) : Int), .int .i64 ((V5 : Nat) : Int), .int .i64 ((V6 : Nat) : Int), .int .i64 ((V7 : Nat) : Int), .int .i64 ((V8 : Nat) : Int), .int .i64 ((V9 : Nat) : Int), .int .i64 ((V10 : Nat) : Int), .int .i64 0, .int .i64 0, .int .i64 0, .int .i64 0, .int .i64 0, .int .i64 0, .int .i64 0, .int .i64 0, .int .i64 0, .int .i64 0] : List Value).toArray 102 (0, 0)) → Q .normal (putV [(some 139, .pointer (some ⟨gv, 9, none⟩)), (some 140, .int .i64 ((V9 : Nat) : Int)), (some 141, .pointer (some ⟨gr, 6, none⟩)), (some 142, .slice NA Nu.length nc), (some 143, .int .i64 (atL Nu 7)), (some 144, .pointer (some ⟨gv, 9, none⟩)), (some 145, .int .i64 ((V9 : Nat) : Int)), (some 146, .int .i64 ((D10 : Nat) : Int)), (some 147, .int .i64 (md (atL Nu 7) ((D10 : Nat) : Int))), (some 148, .int .i64 ((V10 : Nat) : Int)), (some 149, .pointer (some ⟨gv, 10, none⟩)), (none, undef)] a0) wv) :
    Code.wp Tryd.prog (regC 30 Tryd.f24) Q a0 w5 := by
  conv => arg 2; whnf
  refine Reg.wp_region_rel _ (by kernel_rfl) _ _ _ hN (by kernel_rfl) (fun w' => Below w4.heap.size w4 w' ∧ ∃ u : Value, w'.heap[gv]? = some (.cells ([.int .i64 ((R1 : Nat) : Int), .int .i64 ((W1 : Nat) : Int), .int .i64 ((C : Nat) : Int), .int .i64 ((V3 : Nat) : Int), .int .i64 ((V4 : Nat) : Int), .int .i64 ((V5 : Nat) : Int), .int .i64 ((V6 : Nat) : Int), .int .i64 ((V7 : Nat) : Int), .int .i64 ((V8 : Nat) : Int), .int .i64 ((V9 : Nat) : Int), u, .int .i64 0, .int .i64 0, .int .i64 0, .int .i64 0, .int .i64 0, .int .i64 0, .int .i64 0, .int .i64 0, .int .i64 0, .int .i64 0] : List Value).toArray 102 (0, 0))) (fun i w w' => if i = 11 then True else Below w.heap.size w w') (fun jq vs w' => match jq with
    | 0 => vs 0 = .pointer (some ⟨gv, 9, none⟩)
    | 1 => vs 1 = .int .i64 ((V9 : Nat) : Int)
    | 2 => vs 2 = .pointer (some ⟨gr, 6, none⟩)
    | 3 => vs 3 = .slice NA Nu.length nc
    | 4 => vs 4 = .int .i64 (atL Nu 7)
    | 5 => vs 5 = .pointer (some ⟨gv, 9, none⟩)
    | 6 => vs 6 = .int .i64 ((V9 : Nat) : Int)
    | 7 => vs 7 = .int .i64 ((D10 : Nat) : Int)
    | 8 => vs 8 = .int .i64 (md (atL Nu 7) ((D10 : Nat) : Int))
    | 9 => vs 9 = .int .i64 ((V10 : Nat) : Int)
    | 10 => vs 10 = .pointer (some ⟨gv, 10, none⟩)
    | 11 => w'.heap[gv]? = some (.cells ([.int .i64 ((R1 : Nat) : Int), .int .i64 ((W1 : Nat) : Int), .int .i64 ((C : Nat) : Int), .int .i64 ((V3 : Nat) : Int), .int .i64 ((V4 : Nat) : Int), .int .i64 ((V5 : Nat) : Int), .int .i64 ((V6 : Nat) : Int), .int .i64 ((V7 : Nat) : Int), .int .i64 ((V8 : Nat) : Int), .int .i64 ((V9 : Nat) : Int), .int .i64 ((V10 : Nat) : Int), .int .i64 0, .int .i64 0, .int .i64 0, .int .i64 0, .int .i64 0, .int .i64 0, .int .i64 0, .int .i64 0, .int .i64 0, .int .i64 0] : List Value).toArray 102 (0, 0))
    | _ => True) (⟨below_drew HV.1.out, _, HV.2.out⟩) ?_ ?_ ?_ ?_
  · intro i j vs w0 w' hij hI hR hb
    rcases j with _ | j
    · exact hR
    rcases j with _ | j
    · exact hR
    rcases j with _ | j
    · exact hR
    rcases j with _ | j
    · exact hR
    rcases j with _ | j
    · exact hR
    rcases j with _ | j
    · exact hR
    rcases j with _ | j
    · exact hR
    rcases j with _ | j
    · exact hR
    rcases j with _ | j
    · exact hR
    rcases j with _ | j
    · exact hR
    rcases j with _ | j
    · exact hR
    rcases j with _ | j
    · have hb' : Below w0.heap.size w0 w' := by simp only [if_neg hij] at hb; exact hb
      exact (hb'.block _ (blk_lt hR)).trans hR
    exact trivial
  · intro j o vs vs1 w0 ho he hp hR
    rcases j with _ | j
    · exact he.trans hR
    rcases j with _ | j
    · exact he.trans hR
    rcases j with _ | j
    · exact he.trans hR
    rcases j with _ | j
    · exact he.trans hR
    rcases j with _ | j
    · exact he.trans hR
    rcases j with _ | j
    · exact he.trans hR
    rcases j with _ | j
    · exact he.trans hR
    rcases j with _ | j
    · exact he.trans hR
    rcases j with _ | j
    · exact he.trans hR
    rcases j with _ | j
    · exact he.trans hR
    rcases j with _ | j
    · exact he.trans hR
    rcases j with _ | j
    · exact hR
    exact trivial
  · skip
    refine Reg.allOps_cons ?_ ?_
    · intro vs w0 ρ hρ hcst hglb hfun hI hp
      have e13 : ρ (.tmp 13) = .pointer (some ⟨gv, 0, none⟩) := (hρ (.tmp 13)).trans h13
      clear hρ hp
      obtain ⟨hB, u, hu⟩ := hI
      refine Reg.rel_value (.pointer (some ⟨gv, 9, none⟩)) ?_ ⟨⟨hB, u, hu⟩, rfl⟩
      clear hu
      go_simp
    refine Reg.allOps_cons ?_ ?_
    · intro vs w0 ρ hρ hcst hglb hfun hI hp
      have e139 : ρ (.tmp 139) = .pointer (some ⟨gv, 9, none⟩) := (hρ (.tmp 139)).trans (show vs 0 = .pointer (some ⟨gv, 9, none⟩) from hp 0 rfl)
      clear hρ hp
      obtain ⟨hB, u, hu⟩ := hI
      have hvx : w0.cell? ⟨gv, 9, none⟩ = some (.int .i64 ((V9 : Nat) : Int)) := by rw [blk_cell hu]; rfl
      refine Reg.rel_value (.int .i64 ((V9 : Nat) : Int)) ?_ ⟨⟨hB, u, hu⟩, rfl⟩
      clear hu
      go_simp
    refine Reg.allOps_cons ?_ ?_
    · intro vs w0 ρ hρ hcst hglb hfun hI hp
      have e1 : ρ (.tmp 1) = .pointer (some ⟨gr, 0, none⟩) := (hρ (.tmp 1)).trans h1
      clear hρ hp
      obtain ⟨hB, u, hu⟩ := hI
      refine Reg.rel_value (.pointer (some ⟨gr, 6, none⟩)) ?_ ⟨⟨hB, u, hu⟩, rfl⟩
      clear hu
      go_simp
    refine Reg.allOps_cons ?_ ?_
    · intro vs w0 ρ hρ hcst hglb hfun hI hp
      have e141 : ρ (.tmp 141) = .pointer (some ⟨gr, 6, none⟩) := (hρ (.tmp 141)).trans (show vs 2 = .pointer (some ⟨gr, 6, none⟩) from hp 2 rfl)
      clear hρ hp
      obtain ⟨hB, u, hu⟩ := hI
      have hbx : w0.heap[gr]? = some (.cells (rawL nd rp wd ch HA ZA NA hc zc nc H Z Nu).toArray 51 (0, 0)) := (hB.block _ (blk_lt HRB4.out)).trans HRB4.out
      have hl2 : w0.cell? ⟨gr, 6, none⟩ = some (.slice NA Nu.length nc) := by rw [blk_cell hbx]; rfl
      clear hbx
      refine Reg.rel_value (.slice NA Nu.length nc) ?_ ⟨⟨hB, u, hu⟩, rfl⟩
      clear hu
      go_simp
    refine Reg.allOps_cons ?_ ?_
    · intro vs w0 ρ hρ hcst hglb hfun hI hp
      have e142 : ρ (.tmp 142) = .slice NA Nu.length nc := (hρ (.tmp 142)).trans (show vs 3 = .slice NA Nu.length nc from hp 3 rfl)
      clear hρ hp
      obtain ⟨hB, u, hu⟩ := hI
      refine Reg.rel_call Tryd.func57 (by kernel_rfl) rfl #[.slice NA Nu.length nc, .int .i64 ((7 : Nat) : Int)] rfl (hfun _) (by simp [e142, hcst]) ?_
      refine (at_any NA nc Nu 7 w0 (HN4.out.below hB) cN bN).mono ?_
      rintro e w3 ⟨rfl, hb⟩
      exact ⟨_, rfl, hb, ⟨hB.trans (hb.mono hB.size), u, (hb.block _ (blk_lt hu)).trans hu⟩, rfl⟩
    refine Reg.allOps_cons ?_ ?_
    · intro vs w0 ρ hρ hcst hglb hfun hI hp
      have e13 : ρ (.tmp 13) = .pointer (some ⟨gv, 0, none⟩) := (hρ (.tmp 13)).trans h13
      clear hρ hp
      obtain ⟨hB, u, hu⟩ := hI
      refine Reg.rel_value (.pointer (some ⟨gv, 9, none⟩)) ?_ ⟨⟨hB, u, hu⟩, rfl⟩
      clear hu
      go_simp
    refine Reg.allOps_cons ?_ ?_
    · intro vs w0 ρ hρ hcst hglb hfun hI hp
      have e144 : ρ (.tmp 144) = .pointer (some ⟨gv, 9, none⟩) := (hρ (.tmp 144)).trans (show vs 5 = .pointer (some ⟨gv, 9, none⟩) from hp 5 rfl)
      clear hρ hp
      obtain ⟨hB, u, hu⟩ := hI
      have hvx : w0.cell? ⟨gv, 9, none⟩ = some (.int .i64 ((V9 : Nat) : Int)) := by rw [blk_cell hu]; rfl
      refine Reg.rel_value (.int .i64 ((V9 : Nat) : Int)) ?_ ⟨⟨hB, u, hu⟩, rfl⟩
      clear hu
      go_simp
    refine Reg.allOps_cons ?_ ?_
    · intro vs w0 ρ hρ hcst hglb hfun hI hp
      have e145 : ρ (.tmp 145) = .int .i64 ((V9 : Nat) : Int) := (hρ (.tmp 145)).trans (show vs 6 = .int .i64 ((V9 : Nat) : Int) from hp 6 rfl)
      clear hρ hp
      refine Reg.rel_value (.int .i64 ((D10 : Nat) : Int)) ?_ ⟨hI, rfl⟩
      have hq := HD10.out
      go_simp
    refine Reg.allOps_cons ?_ ?_
    · intro vs w0 ρ hρ hcst hglb hfun hI hp
      have e143 : ρ (.tmp 143) = .int .i64 (atL Nu 7) := (hρ (.tmp 143)).trans (show vs 4 = .int .i64 (atL Nu 7) from hp 4 rfl)
      have e146 : ρ (.tmp 146) = .int .i64 ((D10 : Nat) : Int) := (hρ (.tmp 146)).trans (show vs 7 = .int .i64 ((D10 : Nat) : Int) from hp 7 rfl)
      clear hρ hp
      obtain ⟨hB, u, hu⟩ := hI
      refine Reg.rel_call Tryd.func26 (by kernel_rfl) rfl #[.int .i64 (atL Nu 7), .int .i64 ((D10 : Nat) : Int)] rfl (hfun _) (by simp [e143, e146]) ?_
      refine (mod_any (atL Nu 7) ((D10 : Nat) : Int) w0 (by omega) (by omega)).mono ?_
      rintro e w3 ⟨rfl, hb⟩
      exact ⟨_, rfl, hb, ⟨hB.trans (hb.mono hB.size), u, (hb.block _ (blk_lt hu)).trans hu⟩, rfl⟩
    refine Reg.allOps_cons ?_ ?_
    · intro vs w0 ρ hρ hcst hglb hfun hI hp
      have e140 : ρ (.tmp 140) = .int .i64 ((V9 : Nat) : Int) := (hρ (.tmp 140)).trans (show vs 1 = .int .i64 ((V9 : Nat) : Int) from hp 1 rfl)
      have e147 : ρ (.tmp 147) = .int .i64 (md (atL Nu 7) ((D10 : Nat) : Int)) := (hρ (.tmp 147)).trans (show vs 8 = .int .i64 (md (atL Nu 7) ((D10 : Nat) : Int)) from hp 8 rfl)
      clear hρ hp
      refine Reg.rel_value (.int .i64 ((V10 : Nat) : Int)) ?_ ⟨hI, rfl⟩
      have hq := HL10.out
      go_simp
    refine Reg.allOps_cons ?_ ?_
    · intro vs w0 ρ hρ hcst hglb hfun hI hp
      have e13 : ρ (.tmp 13) = .pointer (some ⟨gv, 0, none⟩) := (hρ (.tmp 13)).trans h13
      clear hρ hp
      obtain ⟨hB, u, hu⟩ := hI
      refine Reg.rel_value (.pointer (some ⟨gv, 10, none⟩)) ?_ ⟨⟨hB, u, hu⟩, rfl⟩
      clear hu
      go_simp
    refine Reg.allOps_cons ?_ ?_
    · intro vs w0 ρ hρ hcst hglb hfun hI hp
      have e149 : ρ (.tmp 149) = .pointer (some ⟨gv, 10, none⟩) := (hρ (.tmp 149)).trans (show vs 10 = .pointer (some ⟨gv, 10, none⟩) from hp 10 rfl)
      have e148 : ρ (.tmp 148) = .int .i64 ((V10 : Nat) : Int) := (hρ (.tmp 148)).trans (show vs 9 = .int .i64 ((V10 : Nat) : Int) from hp 9 rfl)
      clear hρ hp
      obtain ⟨hB, u, hu⟩ := hI
      have hcc : w0.cell? ⟨gv, 10, none⟩ = some u := by rw [blk_cell hu]; rfl
      have hfz : w0.frozen? ⟨gv, 10, none⟩ = false := blk_frozen hu 10
      have hnew : (w0.setCell ⟨gv, 10, none⟩ (.int .i64 ((V10 : Nat) : Int))).heap[gv]? = some (.cells ([.int .i64 ((R1 : Nat) : Int), .int .i64 ((W1 : Nat) : Int), .int .i64 ((C : Nat) : Int), .int .i64 ((V3 : Nat) : Int), .int .i64 ((V4 : Nat) : Int), .int .i64 ((V5 : Nat) : Int), .int .i64 ((V6 : Nat) : Int), .int .i64 ((V7 : Nat) : Int), .int .i64 ((V8 : Nat) : Int), .int .i64 ((V9 : Nat) : Int), .int .i64 ((V10 : Nat) : Int), .int .i64 0, .int .i64 0, .int .i64 0, .int .i64 0, .int .i64 0, .int .i64 0, .int .i64 0, .int .i64 0, .int .i64 0, .int .i64 0] : List Value).toArray 102 (0, 0)) := (blk_set hu _ _).trans rfl
      refine Reg.rel_skip (w' := w0.setCell ⟨gv, 10, none⟩ (.int .i64 ((V10 : Nat) : Int))) ?_ trivial ⟨⟨hB.setCell hgv _, _, hnew⟩, hnew⟩
      clear hu hnew
      go_simp
    exact Reg.allOps_nil
  intro vs w0 hI hR
  have r0 : vs 0 = .pointer (some ⟨gv, 9, none⟩) := hR 0 (by decide)
  have r1 : vs 1 = .int .i64 ((V9 : Nat) : Int) := hR 1 (by decide)
  have r2 : vs 2 = .pointer (some ⟨gr, 6, none⟩) := hR 2 (by decide)
  have r3 : vs 3 = .slice NA Nu.length nc := hR 3 (by decide)
  have r4 : vs 4 = .int .i64 (atL Nu 7) := hR 4 (by decide)
  have r5 : vs 5 = .pointer (some ⟨gv, 9, none⟩) := hR 5 (by decide)
  have r6 : vs 6 = .int .i64 ((V9 : Nat) : Int) := hR 6 (by decide)
  have r7 : vs 7 = .int .i64 ((D10 : Nat) : Int) := hR 7 (by decide)
  have r8 : vs 8 = .int .i64 (md (atL Nu 7) ((D10 : Nat) : Int)) := hR 8 (by decide)
  have r9 : vs 9 = .int .i64 ((V10 : Nat) : Int) := hR 9 (by decide)
  have r10 : vs 10 = .pointer (some ⟨gv, 10, none⟩) := hR 10 (by decide)
  have hblk := hR 11 (by decide)
  have hq := hQ w0 hI.1 hblk
  simp only [RegA.putV, Act.put] at hq
  simp only [Reg.fillFrom, Act.put, r0, r1, r2, r3, r4, r5, r6, r7, r8, r9, r10]
  exact hq
end Go.Proofs.YtljjpdjknnhceaaDoor.MadeC
