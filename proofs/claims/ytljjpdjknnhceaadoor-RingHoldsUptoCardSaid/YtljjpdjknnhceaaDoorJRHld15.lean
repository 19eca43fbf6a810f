/- Joined texts of this claim: SameC -/
import Derived.Test.YtljjpdjknnhceaaDoorJRHld13
import Derived.Test.YtljjpdjknnhceaaDoorJRHld10
import Derived.Test.YtljjpdjknnhceaaDoorJRHld7
import Derived.Test.YtljjpdjknnhceaaDoorJRHld14
import Derived.Test.YtljjpdjknnhceaaDoorJRHld2
import Derived.Deep.QuietTactic
import Derived.BigQuiet
set_option linter.unusedVariables false
set_option linter.unusedSimpArgs false
/- sameCluster: of two definitions alike, true. -/
set_option linter.unusedVariables false
set_option linter.unusedSimpArgs false
namespace Go.Proofs.YtljjpdjknnhceaaDoor.SameC
open Go.RowKit Go.Proofs.YtljjpdjknnhceaaDoorW.PrintWords Go.Proofs.YtljjpdjknnhceaaDoorW.PrintLast Go.Proofs.YtljjpdjknnhceaaDoorW.PrintMore
open Go.Proofs.YtljjpdjknnhceaaDoor.Base Go.Proofs.YtljjpdjknnhceaaDoor.RingPure Go.Proofs.YtljjpdjknnhceaaDoor.ChkPure Go.Proofs.YtljjpdjknnhceaaDoor.Clus Go.Proofs.YtljjpdjknnhceaaDoor.Mids Go.Proofs.YtljjpdjknnhceaaDoor.Chkd Go.Proofs.YtljjpdjknnhceaaDoor.Ref6 Go.Proofs.YtljjpdjknnhceaaDoor.EqV Go.Proofs.YtljjpdjknnhceaaDoor.Sort Go.Proofs.YtljjpdjknnhceaaDoor.RefCheck Go.Proofs.YtljjpdjknnhceaaDoor.PRingWalks
attribute [local go_sem high] eqV
theorem same_l0 (l : List Int) (hl : l.length ≤ 9223372036854775806) : ∀ (d i k : Nat), l.length - i = d → d < k → granarylaw6_sameInts.l0 k l l (i : Int) = some true
  | 0, i, k, hd, hk => by
    obtain ⟨k, rfl⟩ : ∃ m, k = m + 1 := ⟨k - 1, by omega⟩
    simp only [granarylaw6_sameInts.l0]
    rw [if_neg (by omega)]
  | d + 1, i, k, hd, hk => by
    obtain ⟨k, rfl⟩ : ∃ m, k = m + 1 := ⟨k - 1, by omega⟩
    have e : wrap64 ((i : Int) + 1) = ((i + 1 : Nat) : Int) := by unfold wrap64; omega
    simp only [granarylaw6_sameInts.l0]
    rw [if_pos (by omega), if_pos (by omega), if_pos (by omega), if_pos trivial, e]
    exact same_l0 l hl d (i + 1) k (by omega) (by omega)
theorem sameInts_yes (A B : Option Addr) (c1 c2 : Nat) (l : List Int) (w : World) (h1 : NumsAt w A l) (h2 : NumsAt w B l) (hc1 : l.length ≤ c1) (hc2 : l.length ≤ c2) (hl : l.length ≤ 1099511627776) :
    Calls Tryd.prog 19 #[.slice A l.length c1, .slice B l.length c2] w fun e w' => e = .returned (.bool true) ∧ Drawn0 w w' := by
  refine granarylaw6_sameInts.calls (l.length + 1) A c1 l B c2 l true w (NumsAt.kd h1 (by omega)) hc1 (NumsAt.kd h2 (by omega)) hc2 ?_
  unfold granarylaw6_sameInts.f
  rw [if_pos rfl]
  exact same_l0 l (by omega) l.length 0 _ (by omega) (by omega)
set_option maxRecDepth 100000 in
set_option maxHeartbeats 8000000 in
theorem same_any (c : Cl) (A B : Option Addr) (ca cb : Nat) (ns : List Nd) (w : World) (hA : NodesAt w A ns) (hB : NodesAt w B ns) (hl : ns.length ≤ 1099511627776) (hc : cnt ns ≤ 1099511627776) :
    Calls Tryd.prog 32 #[.agg (cL c (.slice A ns.length ca)).toArray, .agg (cL c (.slice B ns.length cb)).toArray] w fun e w' => e = .returned (.bool true) ∧ Below w.heap.size w w' := by
  obtain ⟨w0, hw0⟩ : ∃ w0, w0 = w.alloc (.cells (cL c (.slice A ns.length ca)).toArray 24) := ⟨_, rfl⟩
  have hb0 : Below w.heap.size w w0 := by rw [hw0]; exact (Below.refl _ _).alloc (Nat.le_refl _) _
  have hs0 : w0.heap.size = w.heap.size + 1 := by rw [hw0]; simp
  have hb1 : Below w0.heap.size w0 (w0.alloc (.cells (cL c (.slice B ns.length cb)).toArray 24)) := (Below.refl _ _).alloc (Nat.le_refl _) _
  have HB := Aside0.mk (hb0.trans (hb1.mono hb0.size))
  have HCA : Aside0 (CBox (w0.alloc (.cells (cL c (.slice B ns.length cb)).toArray 24)) w.heap.size c (.slice A ns.length ca)) := ⟨by
    have : CBox w0 w.heap.size c (.slice A ns.length ca) := ⟨by rw [hw0]; exact Go.heap_alloc_new w _⟩
    exact this.below hb1 this.lt⟩
  have HCB : Aside0 (CBox (w0.alloc (.cells (cL c (.slice B ns.length cb)).toArray 24)) (w.heap.size + 1) c (.slice B ns.length cb)) := ⟨⟨by rw [← hs0]; exact Go.heap_alloc_new w0 _⟩⟩
  have HNA := Aside0.mk ((hA.below hb0).below hb1)
  have HNB := Aside0.mk ((hB.below hb0).below hb1)
  rw [hw0] at HB HCA HCB HNA HNB
  clear hw0 hb0 hs0 hb1 hA hB w0
  go_enter Tryd.func32, Tryd.ntmps32
  go_upto_region 1 with fail
  generalize (w.alloc (.cells (cL c (.slice A ns.length ca)).toArray 24)).alloc (.cells (cL c (.slice B ns.length cb)).toArray 24) = w1 at HB HCA HCB HNA HNB ⊢
  generalize hga : w.heap.size = ga at HCA HCB ⊢
  clear hga
  refine RegG.wp_region_rel _ (by kernel_rfl) _ _ _ rfl (by kernel_rfl) (fun w' => Below w1.heap.size w1 w') (fun _ w w' => Below w.heap.size w w') (fun jq vs w' => match jq with
    | 0 => vs 0 = .pointer (some ⟨ga, 0, none⟩)
    | 1 => vs 1 = .string c.store
    | 2 => vs 2 = .pointer (some ⟨ga + 1, 0, none⟩)
    | 3 => vs 3 = .string c.store
    | 4 => vs 4 = .bool false
    | 5 => vs 5 = .bool false
    | 6 => vs 6 = .agg (cL c (.slice A ns.length ca)).toArray
    | 7 => vs 7 = .agg (valL c).toArray
    | 8 => vs 8 = .agg (cL c (.slice B ns.length cb)).toArray
    | 9 => vs 9 = .agg (valL c).toArray
    | 10 => vs 10 = .bool false
    | 11 => vs 11 = .bool false
    | 12 => vs 12 = .bool false
    | 13 => vs 13 = .pointer (some ⟨ga, 22, none⟩)
    | 14 => vs 14 = .slice A ns.length ca
    | 15 => vs 15 = .int .i64 (ns.length : Nat)
    | 16 => vs 16 = .pointer (some ⟨ga + 1, 22, none⟩)
    | 17 => vs 17 = .slice B ns.length cb
    | 18 => vs 18 = .int .i64 (ns.length : Nat)
    | 19 => vs 19 = .bool false
    | 20 => vs 20 = .bool false
    | _ => True) (below_drew (Below.refl _ _)) ?_ ?_ ?_ ?_ ?_
  · intro i j vs w0 w' hij hI hR hb
    rcases j with _ | j
    · exact hR
    rcases j with _ | j
    · exact hR
    rcases j with _ | j
    · exact hR
    rcases j with _ | j
    · exact hR
    rcases j with _ | j
    · exact hR
    rcases j with _ | j
    · exact hR
    rcases j with _ | j
    · exact hR
    rcases j with _ | j
    · exact hR
    rcases j with _ | j
    · exact hR
    rcases j with _ | j
    · exact hR
    rcases j with _ | j
    · exact hR
    rcases j with _ | j
    · exact hR
    rcases j with _ | j
    · exact hR
    rcases j with _ | j
    · exact hR
    rcases j with _ | j
    · exact hR
    rcases j with _ | j
    · exact hR
    rcases j with _ | j
    · exact hR
    rcases j with _ | j
    · exact hR
    rcases j with _ | j
    · exact hR
    rcases j with _ | j
    · exact hR
    rcases j with _ | j
    · exact hR
    exact trivial
  · intro j o vs vs1 w0 ho he hp hR
    rcases j with _ | j
    · exact he.trans hR
    rcases j with _ | j
    · exact he.trans hR
    rcases j with _ | j
    · exact he.trans hR
    rcases j with _ | j
    · exact he.trans hR
    rcases j with _ | j
    · exact he.trans hR
    rcases j with _ | j
    · exact he.trans hR
    rcases j with _ | j
    · exact he.trans hR
    rcases j with _ | j
    · exact he.trans hR
    rcases j with _ | j
    · exact he.trans hR
    rcases j with _ | j
    · exact he.trans hR
    rcases j with _ | j
    · exact he.trans hR
    rcases j with _ | j
    · exact he.trans hR
    rcases j with _ | j
    · exact he.trans hR
    rcases j with _ | j
    · exact he.trans hR
    rcases j with _ | j
    · exact he.trans hR
    rcases j with _ | j
    · exact he.trans hR
    rcases j with _ | j
    · exact he.trans hR
    rcases j with _ | j
    · exact he.trans hR
    rcases j with _ | j
    · exact he.trans hR
    rcases j with _ | j
    · exact he.trans hR
    rcases j with _ | j
    · exact he.trans hR
    exact trivial
  · skip
    refine RegG.allOps_cons ?_ ?_
    · intro j b hg vs w hR
      first
        | (cases hg; done)
        | (cases hg; exact hR)
    refine RegG.allOps_cons ?_ ?_
    · intro j b hg vs w hR
      first
        | (cases hg; done)
        | (cases hg; exact hR)
    refine RegG.allOps_cons ?_ ?_
    · intro j b hg vs w hR
      first
        | (cases hg; done)
        | (cases hg; exact hR)
    refine RegG.allOps_cons ?_ ?_
    · intro j b hg vs w hR
      first
        | (cases hg; done)
        | (cases hg; exact hR)
    refine RegG.allOps_cons ?_ ?_
    · intro j b hg vs w hR
      first
        | (cases hg; done)
        | (cases hg; exact hR)
    refine RegG.allOps_cons ?_ ?_
    · intro j b hg vs w hR
      first
        | (cases hg; done)
        | (cases hg; exact hR)
    refine RegG.allOps_cons ?_ ?_
    · intro j b hg vs w hR
      first
        | (cases hg; done)
        | (cases hg; exact hR)
    refine RegG.allOps_cons ?_ ?_
    · intro j b hg vs w hR
      first
        | (cases hg; done)
        | (cases hg; exact hR)
    refine RegG.allOps_cons ?_ ?_
    · intro j b hg vs w hR
      first
        | (cases hg; done)
        | (cases hg; exact hR)
    refine RegG.allOps_cons ?_ ?_
    · intro j b hg vs w hR
      first
        | (cases hg; done)
        | (cases hg; exact hR)
    refine RegG.allOps_cons ?_ ?_
    · intro j b hg vs w hR
      first
        | (cases hg; done)
        | (cases hg; exact hR)
    refine RegG.allOps_cons ?_ ?_
    · intro j b hg vs w hR
      first
        | (cases hg; done)
        | (cases hg; exact hR)
    refine RegG.allOps_cons ?_ ?_
    · intro j b hg vs w hR
      first
        | (cases hg; done)
        | (cases hg; exact hR)
    refine RegG.allOps_cons ?_ ?_
    · intro j b hg vs w hR
      first
        | (cases hg; done)
        | (cases hg; exact hR)
    refine RegG.allOps_cons ?_ ?_
    · intro j b hg vs w hR
      first
        | (cases hg; done)
        | (cases hg; exact hR)
    refine RegG.allOps_cons ?_ ?_
    · intro j b hg vs w hR
      first
        | (cases hg; done)
        | (cases hg; exact hR)
    refine RegG.allOps_cons ?_ ?_
    · intro j b hg vs w hR
      first
        | (cases hg; done)
        | (cases hg; exact hR)
    refine RegG.allOps_cons ?_ ?_
    · intro j b hg vs w hR
      first
        | (cases hg; done)
        | (cases hg; exact hR)
    refine RegG.allOps_cons ?_ ?_
    · intro j b hg vs w hR
      first
        | (cases hg; done)
        | (cases hg; exact hR)
    refine RegG.allOps_cons ?_ ?_
    · intro j b hg vs w hR
      first
        | (cases hg; done)
        | (cases hg; exact hR)
    refine RegG.allOps_cons ?_ ?_
    · intro j b hg vs w hR
      first
        | (cases hg; done)
        | (cases hg; exact hR)
    exact RegG.allOps_nil
  · skip
    refine RegG.allOps_cons ?_ ?_
    · intro vs w0 ρ hρ hcst hglb hfun hI hp
      have e2 : ρ (.tmp 2) = .pointer (some ⟨ga, 0, none⟩) := hρ (.tmp 2)
      clear hρ hp
      refine RegG.rel_value (.pointer (some ⟨ga, 0, none⟩)) ?_ ⟨hI, rfl⟩
      go_simp
    refine RegG.allOps_cons ?_ ?_
    · intro vs w0 ρ hρ hcst hglb hfun hI hp
      have e6 : ρ (.tmp 6) = .pointer (some ⟨ga, 0, none⟩) := (hρ (.tmp 6)).trans (show vs 0 = .pointer (some ⟨ga, 0, none⟩) from hp 0 rfl)
      clear hρ hp
      have hl2 : w0.cell? ⟨ga, 0, none⟩ = some (.string c.store) := (HCA.out.below hI HCA.out.lt).c 0
      refine RegG.rel_value (.string c.store) ?_ ⟨hI, rfl⟩
      go_simp
    refine RegG.allOps_cons ?_ ?_
    · intro vs w0 ρ hρ hcst hglb hfun hI hp
      have e3 : ρ (.tmp 3) = .pointer (some ⟨ga + 1, 0, none⟩) := hρ (.tmp 3)
      clear hρ hp
      refine RegG.rel_value (.pointer (some ⟨ga + 1, 0, none⟩)) ?_ ⟨hI, rfl⟩
      go_simp
    refine RegG.allOps_cons ?_ ?_
    · intro vs w0 ρ hρ hcst hglb hfun hI hp
      have e8 : ρ (.tmp 8) = .pointer (some ⟨ga + 1, 0, none⟩) := (hρ (.tmp 8)).trans (show vs 2 = .pointer (some ⟨ga + 1, 0, none⟩) from hp 2 rfl)
      clear hρ hp
      have hl2 : w0.cell? ⟨ga + 1, 0, none⟩ = some (.string c.store) := (HCB.out.below hI HCB.out.lt).c 0
      refine RegG.rel_value (.string c.store) ?_ ⟨hI, rfl⟩
      go_simp
    refine RegG.allOps_cons ?_ ?_
    · intro vs w0 ρ hρ hcst hglb hfun hI hp
      have e7 : ρ (.tmp 7) = .string c.store := (hρ (.tmp 7)).trans (show vs 1 = .string c.store from hp 1 rfl)
      have e9 : ρ (.tmp 9) = .string c.store := (hρ (.tmp 9)).trans (show vs 3 = .string c.store from hp 3 rfl)
      clear hρ hp
      refine RegG.rel_value (.bool false) ?_ ⟨hI, rfl⟩
      go_simp
    refine RegG.allOps_cons ?_ ?_
    · intro vs w0 ρ hρ hcst hglb hfun hI hp
      have e10 : ρ (.tmp 10) = .bool false := (hρ (.tmp 10)).trans (show vs 4 = .bool false from hp 4 rfl)
      clear hρ hp
      refine RegG.rel_value (.bool false) ?_ ⟨hI, rfl⟩
      go_simp
    refine RegG.allOps_cons ?_ ?_
    · intro vs w0 ρ hρ hcst hglb hfun hI hp
      have e2 : ρ (.tmp 2) = .pointer (some ⟨ga, 0, none⟩) := hρ (.tmp 2)
      clear hρ hp
      refine RegG.rel_value (.agg (cL c (.slice A ns.length ca)).toArray) (exec_load_mid 24 (.tmp 2) rfl (ga) 0 e2 _ _ (blk_range (HCA.out.below hI HCA.out.lt).row) Tryd.underlying24 rfl infoC23) ⟨hI, rfl⟩
    refine RegG.allOps_cons ?_ ?_
    · intro vs w0 ρ hρ hcst hglb hfun hI hp
      have e12 : ρ (.tmp 12) = .agg (cL c (.slice A ns.length ca)).toArray := (hρ (.tmp 12)).trans (show vs 6 = .agg (cL c (.slice A ns.length ca)).toArray from hp 6 rfl)
      clear hρ hp
      refine RegG.rel_call Tryd.func68 (by kernel_rfl) rfl #[.agg (cL c (.slice A ns.length ca)).toArray] rfl (hfun _) (by simp [e12]) ?_
      refine (values_any c (.slice A ns.length ca) w0).mono ?_
      rintro e w3 ⟨rfl, hb⟩
      exact ⟨_, rfl, hb, hI.trans (hb.mono hI.size), rfl⟩
    refine RegG.allOps_cons ?_ ?_
    · intro vs w0 ρ hρ hcst hglb hfun hI hp
      have e3 : ρ (.tmp 3) = .pointer (some ⟨ga + 1, 0, none⟩) := hρ (.tmp 3)
      clear hρ hp
      refine RegG.rel_value (.agg (cL c (.slice B ns.length cb)).toArray) (exec_load_mid 24 (.tmp 3) rfl (ga + 1) 0 e3 _ _ (blk_range (HCB.out.below hI HCB.out.lt).row) Tryd.underlying24 rfl infoC23) ⟨hI, rfl⟩
    refine RegG.allOps_cons ?_ ?_
    · intro vs w0 ρ hρ hcst hglb hfun hI hp
      have e14 : ρ (.tmp 14) = .agg (cL c (.slice B ns.length cb)).toArray := (hρ (.tmp 14)).trans (show vs 8 = .agg (cL c (.slice B ns.length cb)).toArray from hp 8 rfl)
      clear hρ hp
      refine RegG.rel_call Tryd.func68 (by kernel_rfl) rfl #[.agg (cL c (.slice B ns.length cb)).toArray] rfl (hfun _) (by simp [e14]) ?_
      refine (values_any c (.slice B ns.length cb) w0).mono ?_
      rintro e w3 ⟨rfl, hb⟩
      exact ⟨_, rfl, hb, hI.trans (hb.mono hI.size), rfl⟩
    refine RegG.allOps_cons ?_ ?_
    · intro vs w0 ρ hρ hcst hglb hfun hI hp
      have e13 : ρ (.tmp 13) = .agg (valL c).toArray := (hρ (.tmp 13)).trans (show vs 7 = .agg (valL c).toArray from hp 7 rfl)
      have e15 : ρ (.tmp 15) = .agg (valL c).toArray := (hρ (.tmp 15)).trans (show vs 9 = .agg (valL c).toArray from hp 9 rfl)
      clear hρ hp
      refine RegG.rel_value (.bool false) ?_ ⟨hI, rfl⟩
      go_simp
    refine RegG.allOps_cons ?_ ?_
    · intro vs w0 ρ hρ hcst hglb hfun hI hp
      have e11 : ρ (.tmp 11) = .bool false := (hρ (.tmp 11)).trans (show vs 5 = .bool false from hp 5 rfl)
      have e16 : ρ (.tmp 16) = .bool false := (hρ (.tmp 16)).trans (show vs 10 = .bool false from hp 10 rfl)
      clear hρ hp
      refine RegG.rel_value (.bool false) ?_ ⟨hI, rfl⟩
      go_simp
    refine RegG.allOps_cons ?_ ?_
    · intro vs w0 ρ hρ hcst hglb hfun hI hp
      have e17 : ρ (.tmp 17) = .bool false := (hρ (.tmp 17)).trans (show vs 11 = .bool false from hp 11 rfl)
      clear hρ hp
      refine RegG.rel_value (.bool false) ?_ ⟨hI, rfl⟩
      go_simp
    refine RegG.allOps_cons ?_ ?_
    · intro vs w0 ρ hρ hcst hglb hfun hI hp
      have e2 : ρ (.tmp 2) = .pointer (some ⟨ga, 0, none⟩) := hρ (.tmp 2)
      clear hρ hp
      refine RegG.rel_value (.pointer (some ⟨ga, 22, none⟩)) ?_ ⟨hI, rfl⟩
      go_simp
    refine RegG.allOps_cons ?_ ?_
    · intro vs w0 ρ hρ hcst hglb hfun hI hp
      have e19 : ρ (.tmp 19) = .pointer (some ⟨ga, 22, none⟩) := (hρ (.tmp 19)).trans (show vs 13 = .pointer (some ⟨ga, 22, none⟩) from hp 13 rfl)
      clear hρ hp
      have hl2 : w0.cell? ⟨ga, 22, none⟩ = some (.slice A ns.length ca) := (HCA.out.below hI HCA.out.lt).c 22
      refine RegG.rel_value (.slice A ns.length ca) ?_ ⟨hI, rfl⟩
      go_simp
    refine RegG.allOps_cons ?_ ?_
    · intro vs w0 ρ hρ hcst hglb hfun hI hp
      have e20 : ρ (.tmp 20) = .slice A ns.length ca := (hρ (.tmp 20)).trans (show vs 14 = .slice A ns.length ca from hp 14 rfl)
      clear hρ hp
      refine RegG.rel_value (.int .i64 (ns.length : Nat)) ?_ ⟨hI, rfl⟩
      go_simp
    refine RegG.allOps_cons ?_ ?_
    · intro vs w0 ρ hρ hcst hglb hfun hI hp
      have e3 : ρ (.tmp 3) = .pointer (some ⟨ga + 1, 0, none⟩) := hρ (.tmp 3)
      clear hρ hp
      refine RegG.rel_value (.pointer (some ⟨ga + 1, 22, none⟩)) ?_ ⟨hI, rfl⟩
      go_simp
    refine RegG.allOps_cons ?_ ?_
    · intro vs w0 ρ hρ hcst hglb hfun hI hp
      have e22 : ρ (.tmp 22) = .pointer (some ⟨ga + 1, 22, none⟩) := (hρ (.tmp 22)).trans (show vs 16 = .pointer (some ⟨ga + 1, 22, none⟩) from hp 16 rfl)
      clear hρ hp
      have hl2 : w0.cell? ⟨ga + 1, 22, none⟩ = some (.slice B ns.length cb) := (HCB.out.below hI HCB.out.lt).c 22
      refine RegG.rel_value (.slice B ns.length cb) ?_ ⟨hI, rfl⟩
      go_simp
    refine RegG.allOps_cons ?_ ?_
    · intro vs w0 ρ hρ hcst hglb hfun hI hp
      have e23 : ρ (.tmp 23) = .slice B ns.length cb := (hρ (.tmp 23)).trans (show vs 17 = .slice B ns.length cb from hp 17 rfl)
      clear hρ hp
      refine RegG.rel_value (.int .i64 (ns.length : Nat)) ?_ ⟨hI, rfl⟩
      go_simp
    refine RegG.allOps_cons ?_ ?_
    · intro vs w0 ρ hρ hcst hglb hfun hI hp
      have e21 : ρ (.tmp 21) = .int .i64 (ns.length : Nat) := (hρ (.tmp 21)).trans (show vs 15 = .int .i64 (ns.length : Nat) from hp 15 rfl)
      have e24 : ρ (.tmp 24) = .int .i64 (ns.length : Nat) := (hρ (.tmp 24)).trans (show vs 18 = .int .i64 (ns.length : Nat) from hp 18 rfl)
      clear hρ hp
      refine RegG.rel_value (.bool false) ?_ ⟨hI, rfl⟩
      go_simp
    refine RegG.allOps_cons ?_ ?_
    · intro vs w0 ρ hρ hcst hglb hfun hI hp
      have e18 : ρ (.tmp 18) = .bool false := (hρ (.tmp 18)).trans (show vs 12 = .bool false from hp 12 rfl)
      have e25 : ρ (.tmp 25) = .bool false := (hρ (.tmp 25)).trans (show vs 19 = .bool false from hp 19 rfl)
      clear hρ hp
      refine RegG.rel_value (.bool false) ?_ ⟨hI, rfl⟩
      go_simp
    exact RegG.allOps_nil
  intro vs w0 hI hR
  have r0 : vs 0 = .pointer (some ⟨ga, 0, none⟩) := hR 0 (by decide)
  have r1 : vs 1 = .string c.store := hR 1 (by decide)
  have r2 : vs 2 = .pointer (some ⟨ga + 1, 0, none⟩) := hR 2 (by decide)
  have r3 : vs 3 = .string c.store := hR 3 (by decide)
  have r4 : vs 4 = .bool false := hR 4 (by decide)
  have r5 : vs 5 = .bool false := hR 5 (by decide)
  have r6 : vs 6 = .agg (cL c (.slice A ns.length ca)).toArray := hR 6 (by decide)
  have r7 : vs 7 = .agg (valL c).toArray := hR 7 (by decide)
  have r8 : vs 8 = .agg (cL c (.slice B ns.length cb)).toArray := hR 8 (by decide)
  have r9 : vs 9 = .agg (valL c).toArray := hR 9 (by decide)
  have r10 : vs 10 = .bool false := hR 10 (by decide)
  have r11 : vs 11 = .bool false := hR 11 (by decide)
  have r12 : vs 12 = .bool false := hR 12 (by decide)
  have r13 : vs 13 = .pointer (some ⟨ga, 22, none⟩) := hR 13 (by decide)
  have r14 : vs 14 = .slice A ns.length ca := hR 14 (by decide)
  have r15 : vs 15 = .int .i64 (ns.length : Nat) := hR 15 (by decide)
  have r16 : vs 16 = .pointer (some ⟨ga + 1, 22, none⟩) := hR 16 (by decide)
  have r17 : vs 17 = .slice B ns.length cb := hR 17 (by decide)
  have r18 : vs 18 = .int .i64 (ns.length : Nat) := hR 18 (by decide)
  have r19 : vs 19 = .bool false := hR 19 (by decide)
  have r20 : vs 20 = .bool false := hR 20 (by decide)
  simp only [RegG.fillFrom, Act.put, List.setIfInBounds_toArray, List.set_cons_zero, List.set_cons_succ, r0, r1, r2, r3, r4, r5, r6, r7, r8, r9, r10, r11, r12, r13, r14, r15, r16, r17, r18, r19, r20]
  clear hR r0 r1 r2 r3 r4 r5 r6 r7 r8 r9 r10 r11 r12 r13 r14 r15 r16 r17 r18 r19 r20
  have HR0 := Aside0.mk hI
  clear hI
  generalize w0 = wz at HR0 ⊢
  go_wp2_with fail
  go_loopw [5] (fun v5 wr => ∃ k : Nat, k ≤ ns.length ∧ v5 = .int .i64 (k : Nat) ∧ Aside0 (Below w1.heap.size w1 wr)) (fun v5 _ => ns.length - (intOf v5).toNat)
  case atStart => exact ⟨0, Nat.zero_le _, rfl, HR0⟩
  case round =>
    clear HR0
    obtain ⟨k, hk, rfl, HR⟩ := hrel
    obtain ⟨wo, rfl⟩ : ∃ wo : World, wo = wr := ⟨_, rfl⟩
    have a22 : wo.cell? ⟨ga, 22, none⟩ = some (.slice A ns.length ca) := (HCA.out.below HR.out HCA.out.lt).c 22
    have b22 : wo.cell? ⟨ga + 1, 22, none⟩ = some (.slice B ns.length cb) := (HCB.out.below HR.out HCB.out.lt).c 22
    by_cases hlt : k < ns.length
    · obtain ⟨n, hn⟩ : ∃ n, ns[k]? = some n := ⟨_, List.getElem?_eq_getElem hlt⟩
      obtain ⟨b1, o1, rfl, hz1, B1, c1, hp1, hc1, hn1⟩ := (HNA.out.below HR.out).get hn
      obtain ⟨b2, o2, rfl, hz2, B2, c2, hp2, hc2, hn2⟩ := (HNB.out.below HR.out).get hn
      have hnl : n.2.length ≤ 1099511627776 := by
        have h1 := cnt_snoc ns k n hn
        have h2 := cnt_take ns (k + 1)
        omega
      have hq := fun q => Aside0.mk (sameInts_yes B1 B2 c1 c2 n.2 (wo.drewN q) (hn1.below (pw_below_drewN (Below.refl _ _) q)) (hn2.below (pw_below_drewN (Below.refl _ _) q)) hc1.1 hc2.1 hnl)
      have hne : (n.1 != n.1) = false := bne_self_eq_false _
      clear hn hn1 hn2 hc1 hc2 hnl
      go_wp2_with fail
      go_quiet ((go_at_call 19; exact Calls.quiet_of ((hq _).out.mono fun e w' h => ⟨h.1, h.2.out⟩)))
      have HR2 : Aside0 (Below w1.heap.size w1 (wo.drewN nq)) := ⟨pw_below_drewN HR.out _⟩
      clear hq
      go_wp2_with fail
      go_roundw
      case rel => exact ⟨k + 1, by omega, by go_num, HR2⟩
      case measure => simp [intOf]; omega
    · go_wp2_with fail
      go_ret
      exact ⟨rfl, HB.out.trans (HR.out.mono HB.out.size)⟩
end Go.Proofs.YtljjpdjknnhceaaDoor.SameC
