/- Joined texts of this claim: LawChk, LawWalk, Hold, HoldR -/
import Derived.Test.YtljjpdjknnhceaaDoorJRHld16
import Derived.Test.YtljjpdjknnhceaaDoorJRHld10
import Derived.Test.YtljjpdjknnhceaaDoorJRHld15
set_option linter.unusedVariables false
set_option linter.unusedSimpArgs false
/- RingChecks: the program's Check and the document's alike; the definition is left as it was. -/
set_option linter.unusedVariables false
set_option linter.unusedSimpArgs false
namespace Go.Proofs.YtljjpdjknnhceaaDoor.LawChk
open Go.RowKit Go.Proofs.YtljjpdjknnhceaaDoorW.PrintWords Go.Proofs.YtljjpdjknnhceaaDoorW.PrintLast Go.Proofs.YtljjpdjknnhceaaDoorW.PrintMore
open Go.Proofs.YtljjpdjknnhceaaDoor.Base Go.Proofs.YtljjpdjknnhceaaDoor.App Go.Proofs.YtljjpdjknnhceaaDoor.RingPure Go.Proofs.YtljjpdjknnhceaaDoor.ChkPure Go.Proofs.YtljjpdjknnhceaaDoor.Clus Go.Proofs.YtljjpdjknnhceaaDoor.Mids Go.Proofs.YtljjpdjknnhceaaDoor.Chkd Go.Proofs.YtljjpdjknnhceaaDoor.Ref6 Go.Proofs.YtljjpdjknnhceaaDoor.Hand Go.Proofs.YtljjpdjknnhceaaDoor.HandW Go.Proofs.YtljjpdjknnhceaaDoor.LeftW Go.Proofs.YtljjpdjknnhceaaDoor.RefCheck
open Go.Proofs.YtljjpdjknnhceaaDoor.PRingWalks (granarylaw6_num.calls granarylaw6_num.f)
theorem num_any (x : Int) (w : World) : Calls Tryd.prog 14 #[.int .i64 x] w fun e w' => e = .returned (.int .i64 x) ∧ Below w.heap.size w w' :=
  (granarylaw6_num.calls x x w rfl).mono fun e w' h => ⟨h.1, h.2.below⟩
set_option maxRecDepth 100000 in
set_option maxHeartbeats 4000000 in
theorem check_any (c : Cl) (A : Option Addr) (cap : Nat) (ns : List Nd) (w : World) (hN : NodesAt w A ns) (hcap : ns.length ≤ cap) (hs : c.store.size ≤ 2147483647) (hl : ns.length ≤ 1099511627776) (hc : cnt ns ≤ 1099511627776) :
    Calls Tryd.prog 13 #[.agg (cL c (.slice A ns.length cap)).toArray] w fun e w' => e = .returned (.int .i64 (chkC c ns).1) ∧ Below w.heap.size w w' := by
  have hb0 := (Below.refl w.heap.size w).alloc (Nat.le_refl _) (.cells (cL c (.slice A ns.length cap)).toArray 24)
  have HN := Aside0.mk (hN.below hb0)
  have HB := Aside0.mk hb0
  have HC : Aside0 (CBox (w.alloc (.cells (cL c (.slice A ns.length cap)).toArray 24)) w.heap.size c (.slice A ns.length cap)) := ⟨⟨Go.heap_alloc_new w _⟩⟩
  clear hN hb0
  go_enter Tryd.func13, Tryd.ntmps13
  go_upto_region 1 with fail
  generalize w.alloc (.cells (cL c (.slice A ns.length cap)).toArray 24) = w1 at HN HB HC ⊢
  generalize hga : w.heap.size = ga at HC ⊢
  have HGA := Aside0.mk hga
  clear hga
  have hrg := blk_range HC.out.row
  go_wp2_with ((with_reducible refine gate_load (ty := 24) (x := .tmp 1) rfl ?_); refine wpList_load_mid rfl 24 (.tmp 1) rfl ga 0 rfl (cL c (.slice A ns.length cap)) _ hrg Tryd.underlying24 rfl infoC23 ?_)
  clear hrg
  refine (checked_any c A cap ns w1 HN.out hcap hs hl hc).mono ?_
  rintro e w2 ⟨hb, hcase⟩
  rw [← HGA.out]
  have HB2 := Aside0.mk (HB.out.trans (hb.mono HB.out.size))
  clear hb
  rcases hcase with ⟨h0, rfl⟩ | ⟨g, h0, rfl, _, _⟩
  · go_wp2_with fail
    go_ret
    exact ⟨rfl, HB2.out⟩
  · have H0 := Aside0.mk h0
    clear h0
    go_wp2_with fail
    go_ret
    exact ⟨by rw [H0.out]; rfl, HB2.out⟩
set_option maxRecDepth 100000 in
set_option maxHeartbeats 8000000 in
theorem law_checks (c : Cl) (A : Option Addr) (cap : Nat) (ns : List Nd) (w : World) (hN : NodesAt w A ns) (hcap : ns.length ≤ cap) (hs : c.store.size ≤ 2147483647) (hl : ns.length ≤ 1073741824) (hc : cnt ns ≤ 1073741824) (hG : GTab w) :
    Calls Tryd.prog 3 #[.agg (cL c (.slice A ns.length cap)).toArray] w fun e w' => e = .returned (.bool true) ∧ Below w.heap.size w w' := by
  have hb0 := (Below.refl w.heap.size w).alloc (Nat.le_refl _) (.cells (cL c (.slice A ns.length cap)).toArray 24)
  have HN := Aside0.mk (hN.below hb0)
  have HG := Aside0.mk (hG.below hb0)
  have HB := Aside0.mk hb0
  have HC : Aside0 (CBox (w.alloc (.cells (cL c (.slice A ns.length cap)).toArray 24)) w.heap.size c (.slice A ns.length cap)) := ⟨⟨Go.heap_alloc_new w _⟩⟩
  clear hN hb0 hG
  go_enter Tryd.func3, Tryd.ntmps3
  go_upto_region 1 with fail
  generalize w.alloc (.cells (cL c (.slice A ns.length cap)).toArray 24) = w1 at HN HB HC HG ⊢
  obtain ⟨ga, hga⟩ : ∃ ga, ga = w.heap.size := ⟨_, rfl⟩
  rw [← hga] at HC ⊢
  clear hga
  have hrg := blk_range HC.out.row
  go_wp2_with ((with_reducible refine gate_load (ty := 24) (x := .tmp 1) rfl ?_); refine wpList_load_mid rfl 24 (.tmp 1) rfl ga 0 rfl (cL c (.slice A ns.length cap)) _ hrg Tryd.underlying24 rfl infoC23 ?_)
  clear hrg
  refine (hand_any c A cap ns w1 HN.out hcap hl hc).mono ?_
  rintro e w2 ⟨hb, gh, gn, cn, A2, cap2, pv, gs, vs2, base, bt, rfl, hh⟩
  have HR2 := Aside0.mk hb
  have HH2 := Aside0.mk hh
  clear hb
  obtain ⟨hr1, _⟩ := hand_ranges hh.inv.box
  clear hh
  go_wp2_with ((with_reducible refine gate_load (ty := 24) (x := .tmp 9) rfl ?_); refine wpList_load_mid rfl 24 (.tmp 9) rfl gh 0 rfl (cL c (.slice (some ⟨gn, 0, none⟩) ns.length cn)) _ hr1 Tryd.underlying24 rfl infoC23 ?_)
  clear hr1
  refine (check_any c (some ⟨gn, 0, none⟩) cn ns w2 (HandOK.nodes HH2.out) (by have := HH2.out.len; omega) hs (by omega) (by omega)).mono ?_
  rintro e w3 ⟨rfl, hb⟩
  have HR3 := Aside0.mk (HR2.out.trans (hb.mono HR2.out.size))
  have HH3 := Aside0.mk (HH2.out.below hb)
  have HC3 := Aside0.mk (HC.out.below HR3.out HC.out.lt)
  have HREF := fun W (hw : Below w3.heap.size w3 W) => Aside0.mk (refcheck_any c A cap ns W ((HN.out.below HR3.out).below hw) hcap hs (by omega) (by omega) ((HG.out.below HR3.out).below hw))
  have HLEFT := fun W (hw : Below w3.heap.size w3 W) => Aside0.mk (left_any (HH3.out.below hw) hl hc)
  clear hb HH2 HR2
  obtain ⟨E, hE⟩ : ∃ E, E = (chkC c ns).1 := ⟨_, rfl⟩
  rw [← hE] at HREF ⊢
  clear hE
  go_upto_region 3 with fail
  refine RegG.wp_region_rel _ (by kernel_rfl) _ _ _ rfl (by kernel_rfl) (fun w' => Below w3.heap.size w3 w') (fun _ w w' => Below w.heap.size w w') (fun jq vs w' => match jq with
    | 0 => vs 0 = .int .i64 E
    | 1 => vs 1 = .int .i64 E
    | 2 => vs 2 = .agg (cL c (.slice A ns.length cap)).toArray
    | 3 => vs 3 = .int .i64 E
    | 4 => vs 4 = .bool true
    | 5 => vs 5 = .bool true
    | 6 => vs 6 = .pointer (some ⟨gh, 0, none⟩)
    | 7 => vs 7 = .bool true
    | 8 => vs 8 = .bool true
    | 9 => vs 9 = .bool true
    | _ => True) (below_drew (Below.refl _ _)) ?_ ?_ ?_ ?_ ?_
  · intro i j vs w0 w' hij hI hR hb
    rcases j with _ | j
    · exact hR
    rcases j with _ | j
    · exact hR
    rcases j with _ | j
    · exact hR
    rcases j with _ | j
    · exact hR
    rcases j with _ | j
    · exact hR
    rcases j with _ | j
    · exact hR
    rcases j with _ | j
    · exact hR
    rcases j with _ | j
    · exact hR
    rcases j with _ | j
    · exact hR
    rcases j with _ | j
    · exact hR
    exact trivial
  · intro j o vs vs1 w0 ho he hp hR
    rcases j with _ | j
    · exact he.trans hR
    rcases j with _ | j
    · exact he.trans hR
    rcases j with _ | j
    · exact he.trans hR
    rcases j with _ | j
    · exact he.trans hR
    rcases j with _ | j
    · exact he.trans hR
    rcases j with _ | j
    · exact he.trans hR
    rcases j with _ | j
    · exact he.trans hR
    rcases j with _ | j
    · exact he.trans hR
    rcases j with _ | j
    · exact he.trans hR
    rcases j with _ | j
    · exact he.trans hR
    exact trivial
  · skip
    refine RegG.allOps_cons ?_ ?_
    · intro j b hg vs w hR
      first
        | (cases hg; done)
        | (cases hg; exact hR)
    refine RegG.allOps_cons ?_ ?_
    · intro j b hg vs w hR
      first
        | (cases hg; done)
        | (cases hg; exact hR)
    refine RegG.allOps_cons ?_ ?_
    · intro j b hg vs w hR
      first
        | (cases hg; done)
        | (cases hg; exact hR)
    refine RegG.allOps_cons ?_ ?_
    · intro j b hg vs w hR
      first
        | (cases hg; done)
        | (cases hg; exact hR)
    refine RegG.allOps_cons ?_ ?_
    · intro j b hg vs w hR
      first
        | (cases hg; done)
        | (cases hg; exact hR)
    refine RegG.allOps_cons ?_ ?_
    · intro j b hg vs w hR
      first
        | (cases hg; done)
        | (cases hg; exact hR)
    refine RegG.allOps_cons ?_ ?_
    · intro j b hg vs w hR
      first
        | (cases hg; done)
        | (cases hg; exact hR)
    refine RegG.allOps_cons ?_ ?_
    · intro j b hg vs w hR
      first
        | (cases hg; done)
        | (cases hg; exact hR)
    refine RegG.allOps_cons ?_ ?_
    · intro j b hg vs w hR
      first
        | (cases hg; done)
        | (cases hg; exact hR)
    refine RegG.allOps_cons ?_ ?_
    · intro j b hg vs w hR
      first
        | (cases hg; done)
        | (cases hg; exact hR)
    exact RegG.allOps_nil
  · skip
    refine RegG.allOps_cons ?_ ?_
    · intro vs w0 ρ hρ hcst hglb hfun hI hp
      have e4 : ρ (.tmp 4) = .int .i64 E := hρ (.tmp 4)
      clear hρ hp
      refine RegG.rel_value (.int .i64 E) ?_ ⟨hI, rfl⟩
      go_simp
    refine RegG.allOps_cons ?_ ?_
    · intro vs w0 ρ hρ hcst hglb hfun hI hp
      have e12 : ρ (.tmp 12) = .int .i64 E := (hρ (.tmp 12)).trans (show vs 0 = .int .i64 E from hp 0 rfl)
      clear hρ hp
      refine RegG.rel_call Tryd.func14 (by kernel_rfl) rfl #[.int .i64 E] rfl (hfun _) (by simp [e12]) ?_
      refine (num_any E w0).mono ?_
      rintro e w3 ⟨rfl, hb⟩
      exact ⟨_, rfl, hb, hI.trans (hb.mono hI.size), rfl⟩
    refine RegG.allOps_cons ?_ ?_
    · intro vs w0 ρ hρ hcst hglb hfun hI hp
      have e1 : ρ (.tmp 1) = .pointer (some ⟨ga, 0, none⟩) := hρ (.tmp 1)
      clear hρ hp
      refine RegG.rel_value (.agg (cL c (.slice A ns.length cap)).toArray) (exec_load_mid 24 (.tmp 1) rfl ga 0 e1 _ _ (blk_range (HC3.out.below hI HC3.out.lt).row) Tryd.underlying24 rfl infoC23) ⟨hI, rfl⟩
    refine RegG.allOps_cons ?_ ?_
    · intro vs w0 ρ hρ hcst hglb hfun hI hp
      have e14 : ρ (.tmp 14) = .agg (cL c (.slice A ns.length cap)).toArray := (hρ (.tmp 14)).trans (show vs 2 = .agg (cL c (.slice A ns.length cap)).toArray from hp 2 rfl)
      clear hρ hp
      refine RegG.rel_call Tryd.func15 (by kernel_rfl) rfl #[.agg (cL c (.slice A ns.length cap)).toArray] rfl (hfun _) (by simp [e14]) ?_
      refine (HREF w0 hI).out.mono ?_
      rintro e w3 ⟨rfl, hb⟩
      exact ⟨_, rfl, hb, hI.trans (hb.mono hI.size), rfl⟩
    refine RegG.allOps_cons ?_ ?_
    · intro vs w0 ρ hρ hcst hglb hfun hI hp
      have e13 : ρ (.tmp 13) = .int .i64 E := (hρ (.tmp 13)).trans (show vs 1 = .int .i64 E from hp 1 rfl)
      have e15 : ρ (.tmp 15) = .int .i64 E := (hρ (.tmp 15)).trans (show vs 3 = .int .i64 E from hp 3 rfl)
      clear hρ hp
      refine RegG.rel_value (.bool true) ?_ ⟨hI, rfl⟩
      go_simp
    refine RegG.allOps_cons ?_ ?_
    · intro vs w0 ρ hρ hcst hglb hfun hI hp
      have e16 : ρ (.tmp 16) = .bool true := (hρ (.tmp 16)).trans (show vs 4 = .bool true from hp 4 rfl)
      clear hρ hp
      refine RegG.rel_value (.bool true) ?_ ⟨hI, rfl⟩
      go_simp
    refine RegG.allOps_cons ?_ ?_
    · intro vs w0 ρ hρ hcst hglb hfun hI hp
      have e3 : ρ (.tmp 3) = .pointer (some ⟨gh, 0, none⟩) := hρ (.tmp 3)
      clear hρ hp
      refine RegG.rel_value (.pointer (some ⟨gh, 0, none⟩)) ?_ ⟨hI, rfl⟩
      go_simp
    refine RegG.allOps_cons ?_ ?_
    · intro vs w0 ρ hρ hcst hglb hfun hI hp
      have e18 : ρ (.tmp 18) = .pointer (some ⟨gh, 0, none⟩) := (hρ (.tmp 18)).trans (show vs 6 = .pointer (some ⟨gh, 0, none⟩) from hp 6 rfl)
      clear hρ hp
      refine RegG.rel_call Tryd.func16 (by kernel_rfl) rfl #[.pointer (some ⟨gh, 0, none⟩)] rfl (hfun _) (by simp [e18]) ?_
      refine (HLEFT w0 hI).out.mono ?_
      rintro e w3 ⟨rfl, hb⟩
      exact ⟨_, rfl, hb, hI.trans (hb.mono hI.size), rfl⟩
    refine RegG.allOps_cons ?_ ?_
    · intro vs w0 ρ hρ hcst hglb hfun hI hp
      have e17 : ρ (.tmp 17) = .bool true := (hρ (.tmp 17)).trans (show vs 5 = .bool true from hp 5 rfl)
      have e19 : ρ (.tmp 19) = .bool true := (hρ (.tmp 19)).trans (show vs 7 = .bool true from hp 7 rfl)
      clear hρ hp
      refine RegG.rel_value (.bool true) ?_ ⟨hI, rfl⟩
      go_simp
    refine RegG.allOps_cons ?_ ?_
    · intro vs w0 ρ hρ hcst hglb hfun hI hp
      have e20 : ρ (.tmp 20) = .bool true := (hρ (.tmp 20)).trans (show vs 8 = .bool true from hp 8 rfl)
      clear hρ hp
      refine RegG.rel_value (.bool true) ?_ ⟨hI, rfl⟩
      go_simp
    exact RegG.allOps_nil
  intro vs w0 hI hR
  have r0 : vs 0 = .int .i64 E := hR 0 (by decide)
  have r1 : vs 1 = .int .i64 E := hR 1 (by decide)
  have r2 : vs 2 = .agg (cL c (.slice A ns.length cap)).toArray := hR 2 (by decide)
  have r3 : vs 3 = .int .i64 E := hR 3 (by decide)
  have r4 : vs 4 = .bool true := hR 4 (by decide)
  have r5 : vs 5 = .bool true := hR 5 (by decide)
  have r6 : vs 6 = .pointer (some ⟨gh, 0, none⟩) := hR 6 (by decide)
  have r7 : vs 7 = .bool true := hR 7 (by decide)
  have r8 : vs 8 = .bool true := hR 8 (by decide)
  have r9 : vs 9 = .bool true := hR 9 (by decide)
  simp only [RegG.fillFrom, Act.put, List.setIfInBounds_toArray, List.set_cons_zero, List.set_cons_succ, r0, r1, r2, r3, r4, r5, r6, r7, r8, r9]
  clear hR r0 r1 r2 r3 r4 r5 r6 r7 r8 r9
  go_wp2_with fail
  go_ret
  exact ⟨rfl, HB.out.trans ((HR3.out.trans (hI.mono HR3.out.size)).mono HB.out.size)⟩
end Go.Proofs.YtljjpdjknnhceaaDoor.LawChk

/- RingWalks: Walk and Owners as the document has them. -/
set_option linter.unusedVariables false
set_option linter.unusedSimpArgs false
namespace Go.Proofs.YtljjpdjknnhceaaDoor.LawWalk
open Go.RowKit Go.Proofs.YtljjpdjknnhceaaDoorW.PrintWords Go.Proofs.YtljjpdjknnhceaaDoorW.PrintLast Go.Proofs.YtljjpdjknnhceaaDoorW.PrintMore
open Go.Proofs.YtljjpdjknnhceaaDoor.Base Go.Proofs.YtljjpdjknnhceaaDoor.App Go.Proofs.YtljjpdjknnhceaaDoor.RingPure Go.Proofs.YtljjpdjknnhceaaDoor.ChkPure Go.Proofs.YtljjpdjknnhceaaDoor.Clus Go.Proofs.YtljjpdjknnhceaaDoor.Mids Go.Proofs.YtljjpdjknnhceaaDoor.Chkd Go.Proofs.YtljjpdjknnhceaaDoor.AppR Go.Proofs.YtljjpdjknnhceaaDoor.Ref6 Go.Proofs.YtljjpdjknnhceaaDoor.Name Go.Proofs.YtljjpdjknnhceaaDoor.Hand Go.Proofs.YtljjpdjknnhceaaDoor.HandW Go.Proofs.YtljjpdjknnhceaaDoor.LeftW Go.Proofs.YtljjpdjknnhceaaDoor.RefCheck Go.Proofs.YtljjpdjknnhceaaDoor.Walk Go.Proofs.YtljjpdjknnhceaaDoor.RefOwn Go.Proofs.YtljjpdjknnhceaaDoor.LawChk Go.Proofs.YtljjpdjknnhceaaDoor.Twin
open Go.Proofs.YtljjpdjknnhceaaDoor.SameC (sameInts_yes)
open Go.Proofs.YtljjpdjknnhceaaDoor.Round (own_later2)
theorem wkl_len (c : Cl) (ns : List Nd) (part : Nat) (h : (chkC c ns).1 = 0) : (wkL c ns part).length ≤ 16 := by
  have := setAt_bounds (chk_ok (nm := nmB c.store) h).set
  have := wkL_len c ns part
  omega
theorem wk_len (c : Cl) (ns : List Nd) (part : Int) : (wk c ns part).2.length ≤ 16 := by
  unfold wk
  by_cases h1 : (chkC c ns).1 ≠ 0
  · rw [if_pos h1]; exact Nat.zero_le _
  · rw [if_neg h1]
    split
    · exact Nat.zero_le _
    · rw [List.length_map]; exact wkl_len c ns _ (Classical.byContradiction h1)
theorem ow_len (c : Cl) (ns : List Nd) (part : Int) : (ow c ns part).2.length ≤ 16 := by
  unfold ow
  by_cases h1 : (chkC c ns).1 ≠ 0
  · rw [if_pos h1]; exact Nat.zero_le _
  · rw [if_neg h1]
    split
    · exact Nat.zero_le _
    · rw [List.length_map]; exact wkl_len c ns _ (Classical.byContradiction h1)
set_option maxRecDepth 100000 in
set_option maxHeartbeats 8000000 in
theorem law_walks (c : Cl) (A : Option Addr) (cap : Nat) (ns : List Nd) (part : Int) (w : World) (hN : NodesAt w A ns) (hcap : ns.length ≤ cap) (hs : c.store.size ≤ 2147483647) (hl : ns.length ≤ 1073741824) (hc : cnt ns ≤ 1073741824) (hG : GTab w) :
    Calls Tryd.prog 4 #[.agg (cL c (.slice A ns.length cap)).toArray, .int .i64 part] w fun e w' => e = .returned (.bool true) ∧ Below w.heap.size w w' := by
  have hb0 := (Below.refl w.heap.size w).alloc (Nat.le_refl _) (.cells (cL c (.slice A ns.length cap)).toArray 24)
  have HN := Aside0.mk (hN.below hb0)
  have HG := Aside0.mk (hG.below hb0)
  have HB := Aside0.mk hb0
  have HC : Aside0 (CBox (w.alloc (.cells (cL c (.slice A ns.length cap)).toArray 24)) w.heap.size c (.slice A ns.length cap)) := ⟨⟨Go.heap_alloc_new w _⟩⟩
  clear hN hb0 hG
  go_enter Tryd.func4, Tryd.ntmps4
  go_upto_region 1 with fail
  generalize w.alloc (.cells (cL c (.slice A ns.length cap)).toArray 24) = w1 at HN HB HC HG ⊢
  obtain ⟨ga, hga⟩ : ∃ ga, ga = w.heap.size := ⟨_, rfl⟩
  rw [← hga] at HC ⊢
  clear hga
  have hrg := blk_range HC.out.row
  go_wp2_with ((with_reducible refine gate_load (ty := 24) (x := .tmp 2) rfl ?_); refine wpList_load_mid rfl 24 (.tmp 2) rfl ga 0 rfl (cL c (.slice A ns.length cap)) _ hrg Tryd.underlying24 rfl infoC23 ?_)
  clear hrg
  refine (hand_any c A cap ns w1 HN.out hcap hl hc).mono ?_
  rintro e w2 ⟨hb, gh, gn, cn, A2, cap2, pv, gs, vs2, base, bt, rfl, hh⟩
  have HR2 := Aside0.mk hb
  have HH2 := Aside0.mk hh
  clear hb hh
  obtain ⟨hr1, _⟩ := hand_ranges HH2.out.inv.box
  go_wp2_with ((with_reducible refine gate_load (ty := 24) (x := .tmp 19) rfl ?_); refine wpList_load_mid rfl 24 (.tmp 19) rfl gh 0 rfl (cL c (.slice (some ⟨gn, 0, none⟩) ns.length cn)) _ hr1 Tryd.underlying24 rfl infoC23 ?_)
  clear hr1
  refine (walk_any c (some ⟨gn, 0, none⟩) cn ns part w2 (HandOK.nodes HH2.out) (by have := HH2.out.len; omega) hs (by omega) (by omega)).mono ?_
  rintro e w3 ⟨hb, v1, rfl, ho1⟩
  have HR3 := Aside0.mk (HR2.out.trans (hb.mono HR2.out.size))
  have HH3 := Aside0.mk (HH2.out.below hb)
  have hrg := blk_range ((HC.out.below HR3.out HC.out.lt).row)
  obtain ⟨B1, c1, rfl, hc1⟩ := own_form ho1
  have HO1 := Aside0.mk ho1
  clear hb ho1
  go_wp2_with ((with_reducible refine gate_load (ty := 24) (x := .tmp 2) rfl ?_); refine wpList_load_mid rfl 24 (.tmp 2) rfl ga 0 rfl (cL c (.slice A ns.length cap)) _ hrg Tryd.underlying24 rfl infoC23 ?_)
  clear hrg
  refine (refwalk_any c A cap ns part w3 (HN.out.below HR3.out) hcap hs (by omega) (by omega) (HG.out.below HR3.out)).mono ?_
  rintro e w4 ⟨hb, v2, rfl, ho2⟩
  have HR4 := Aside0.mk (HR3.out.trans (hb.mono HR3.out.size))
  have HH4 := Aside0.mk (HH3.out.below hb)
  have HO3 := Aside0.mk (own_later2 HO1.out hb)
  obtain ⟨B2, c2, rfl, hc2⟩ := own_form ho2
  have HO2 := Aside0.mk ho2
  clear hb ho2
  have HLN := Aside0.mk (wk_len c ns part)
  obtain ⟨E, l, hE⟩ : ∃ E l, wk c ns part = (E, l) := ⟨_, _, rfl⟩
  rw [hE] at hc1 hc2 HO2 HO3 HLN ⊢
  clear hE HO1
  go_wp2_with fail
  refine (sameInts_yes B1 B2 c1 c2 l w4 (own_nums HO3.out) (own_nums HO2.out) hc1 hc2 (by have := HLN.out; omega)).mono ?_
  rintro e w5 ⟨rfl, hd⟩
  have hb := hd.below
  have HR5 := Aside0.mk (HR4.out.trans (hb.mono HR4.out.size))
  have HH5 := Aside0.mk (HH4.out.below hb)
  clear hb hd hc1 hc2 HO2 HO3 HLN
  go_wp2_with fail
  refine (num_any E w5).mono ?_
  rintro e w6 ⟨rfl, hb⟩
  have HR6 := Aside0.mk (HR5.out.trans (hb.mono HR5.out.size))
  have HH6 := Aside0.mk (HH5.out.below hb)
  clear hb
  obtain ⟨hr1, _⟩ := hand_ranges HH6.out.inv.box
  go_wp2_with ((with_reducible refine gate_load (ty := 24) (x := .tmp 44) rfl ?_); refine wpList_load_mid rfl 24 (.tmp 44) rfl gh 0 rfl (cL c (.slice (some ⟨gn, 0, none⟩) ns.length cn)) _ hr1 Tryd.underlying24 rfl infoC23 ?_)
  clear hr1
  refine (owners_any c (some ⟨gn, 0, none⟩) cn ns part w6 (HandOK.nodes HH6.out) (by have := HH6.out.len; omega) hs (by omega) (by omega)).mono ?_
  rintro e w7 ⟨hb, v1, rfl, ho1⟩
  have HR7 := Aside0.mk (HR6.out.trans (hb.mono HR6.out.size))
  have HH7 := Aside0.mk (HH6.out.below hb)
  have hrg := blk_range ((HC.out.below HR7.out HC.out.lt).row)
  obtain ⟨B1, c1, rfl, hc1⟩ := own_form ho1
  have HO1 := Aside0.mk ho1
  clear hb ho1
  go_wp2_with ((with_reducible refine gate_load (ty := 24) (x := .tmp 2) rfl ?_); refine wpList_load_mid rfl 24 (.tmp 2) rfl ga 0 rfl (cL c (.slice A ns.length cap)) _ hrg Tryd.underlying24 rfl infoC23 ?_)
  clear hrg
  refine (refowners_any c A cap ns part w7 (HN.out.below HR7.out) hcap hs (by omega) (by omega) (HG.out.below HR7.out)).mono ?_
  rintro e w8 ⟨hb, v2, rfl, ho2⟩
  have HR8 := Aside0.mk (HR7.out.trans (hb.mono HR7.out.size))
  have HH8 := Aside0.mk (HH7.out.below hb)
  have HO3 := Aside0.mk (own_later2 HO1.out hb)
  obtain ⟨B2, c2, rfl, hc2⟩ := own_form ho2
  have HO2 := Aside0.mk ho2
  clear hb ho2
  have HLN := Aside0.mk (ow_len c ns part)
  obtain ⟨E, l, hE⟩ : ∃ E l, ow c ns part = (E, l) := ⟨_, _, rfl⟩
  rw [hE] at hc1 hc2 HO2 HO3 HLN ⊢
  clear hE HO1
  go_wp2_with fail
  refine (sameInts_yes B1 B2 c1 c2 l w8 (own_nums HO3.out) (own_nums HO2.out) hc1 hc2 (by have := HLN.out; omega)).mono ?_
  rintro e w9 ⟨rfl, hd⟩
  have hb := hd.below
  have HR9 := Aside0.mk (HR8.out.trans (hb.mono HR8.out.size))
  have HH9 := Aside0.mk (HH8.out.below hb)
  clear hb hd hc1 hc2 HO2 HO3 HLN
  go_wp2_with fail
  refine (num_any E w9).mono ?_
  rintro e w10 ⟨rfl, hb⟩
  have HR10 := Aside0.mk (HR9.out.trans (hb.mono HR9.out.size))
  have HH10 := Aside0.mk (HH9.out.below hb)
  clear hb
  go_wp2_with fail
  refine (left_any HH10.out hl hc).mono ?_
  rintro e w11 ⟨rfl, hb⟩
  have HR11 := Aside0.mk (HR10.out.trans (hb.mono HR10.out.size))
  clear hb
  go_wp2_with fail
  go_ret
  exact ⟨rfl, HB.out.trans (HR11.out.mono HB.out.size)⟩
end Go.Proofs.YtljjpdjknnhceaaDoor.LawWalk

/- ring.Holds walked. -/
set_option linter.unusedVariables false
set_option linter.unusedSimpArgs false
namespace Go.Proofs.YtljjpdjknnhceaaDoor.Hold
open Go.RowKit Go.Proofs.YtljjpdjknnhceaaDoorW.PrintWords Go.Proofs.YtljjpdjknnhceaaDoorW.PrintLast Go.Proofs.YtljjpdjknnhceaaDoorW.PrintMore
open Go.Proofs.YtljjpdjknnhceaaDoor.Base Go.Proofs.YtljjpdjknnhceaaDoor.App Go.Proofs.YtljjpdjknnhceaaDoor.RingPure Go.Proofs.YtljjpdjknnhceaaDoor.ChkPure Go.Proofs.YtljjpdjknnhceaaDoor.Clus Go.Proofs.YtljjpdjknnhceaaDoor.Mids Go.Proofs.YtljjpdjknnhceaaDoor.Chkd Go.Proofs.YtljjpdjknnhceaaDoor.Homes Go.Proofs.YtljjpdjknnhceaaDoor.RoundPure Go.Proofs.YtljjpdjknnhceaaDoor.AppR Go.Proofs.YtljjpdjknnhceaaDoor.Round Go.Proofs.YtljjpdjknnhceaaDoor.Sort Go.Proofs.YtljjpdjknnhceaaDoor.Name Go.Proofs.YtljjpdjknnhceaaDoor.Walk
open Go.Proofs.YtljjpdjknnhceaaDoor.LawWalk (wkl_len)
/-- of one partition's owners: the replicas that lie at node, among the first j -/
def inn (o : List Int) (node : Int) (p : Nat) : Nat → List (Nat × Nat)
  | 0 => []
  | j + 1 => inn o node p j ++ if o.getD j 0 = node then [(p, j)] else []
def out (O : Nat → List Int) (node : Int) : Nat → List (Nat × Nat)
  | 0 => []
  | p + 1 => out O node p ++ inn (O p) node p (O p).length
theorem inn_len (o : List Int) (node : Int) (p : Nat) : ∀ j, (inn o node p j).length ≤ j
  | 0 => Nat.le_refl _
  | j + 1 => by
    have := inn_len o node p j
    unfold inn
    rw [List.length_append]
    split <;> simp <;> omega
theorem out_len (O : Nat → List Int) (node : Int) (hO : ∀ p, (O p).length ≤ 16) : ∀ p, (out O node p).length ≤ 16 * p
  | 0 => Nat.le_refl _
  | p + 1 => by
    have := out_len O node hO p
    have := inn_len (O p) node p (O p).length
    have := hO p
    unfold out
    rw [List.length_append]
    omega
def owL (c : Cl) (ns : List Nd) (p : Nat) : List Int := (wkL c ns p).map fun n : Nat => hm (chkC c ns).2 n
def hold (c : Cl) (ns : List Nd) (node : Int) : Int × List (Nat × Nat) := if (chkC c ns).1 ≠ 0 then ((chkC c ns).1, []) else if node < 0 ∨ (ns.length : Int) ≤ node then (68, []) else (0, out (owL c ns) node (cnt ns))
/-- slots as cells -/
def sl (l : List (Nat × Nat)) : List Value := l.flatMap fun x => [.int .i64 ((x.1 : Nat) : Int), .int .i64 ((x.2 : Nat) : Int)]
theorem sl_app (a b : List (Nat × Nat)) : sl (a ++ b) = sl a ++ sl b := List.flatMap_append
theorem sl_len (a : List (Nat × Nat)) : (sl a).length = a.length * 2 := by
  induction a with
  | nil => rfl
  | cons x l ih => simp only [sl, List.flatMap_cons, List.length_append, List.length_cons, List.length_nil] at ih ⊢; omega
theorem infoSl : (Tryd.prog.info? 143).map (fun i => (i.zero, i.size, i.bytes)) = some (some (.agg #[.int .i64 0, .int .i64 0]), 2, 16) := by kernel_rfl
def SlotPost (r : Int × List (Nat × Nat)) (w : World) (e : Ending) (w' : World) : Prop := Below w.heap.size w w' ∧ ∃ v, e = .returned (.tuple #[v, .int .i64 r.1]) ∧ w'.ownsRow w.heap.size 143 2 v r.2.length (sl r.2)
theorem spost_err {r : Int × List (Nat × Nat)} {w w' : World} {code : Int} (h : r = (code, [])) (hb : Below w.heap.size w w') : SlotPost r w (.returned (.tuple #[.slice none 0 0, .int .i64 code])) w' := by
  subst h; exact ⟨hb, _, rfl, World.ownsRow_nil _ _ _ _⟩
theorem spost_ok {r : Int × List (Nat × Nat)} {w w' : World} {l : List (Nat × Nat)} {v : Value} (h : r = (0, l)) (hb : Below w.heap.size w w') (ho : w'.ownsRow w.heap.size 143 2 v l.length (sl l)) : SlotPost r w (.returned (.tuple #[v, .int .i64 0])) w' := by
  subst h; exact ⟨hb, _, rfl, ho⟩
theorem slot_cells (w : World) (x y : Int) : ∀ j u, [Value.int .i64 x, .int .i64 y][j]? = some u → (w.alloc (.cells #[.int .i64 x, .int .i64 y] 143)).cell? ((⟨w.heap.size, 0, none⟩ : Addr).add j) = some u := by
  intro j u hj
  have := news w [.int .i64 x, .int .i64 y] 143 j u hj
  rwa [show (⟨w.heap.size, 0, none⟩ : Addr).add j = ⟨w.heap.size, j, none⟩ by unfold Addr.add; split <;> simp_all]
/-- rows of two kinds lie apart -/
theorem rows_ne {w : World} {base base' size size' n n' : Nat} {e e' : TypeId} {v v' : Value} {xs xs' : List Value} (h : w.ownsRow base e size v n xs) (h' : w.ownsRow base' e' size' v' n' xs') (hne : e ≠ e') : v.ownBlock = none ∨ v.ownBlock ≠ v'.ownBlock := by
  rcases h.2 with ⟨rfl, _⟩ | ⟨g, cap, cs, rfl, _, hg, _⟩
  · exact .inl rfl
  · refine .inr fun e1 => ?_
    rcases h'.2 with ⟨rfl, _⟩ | ⟨g', cap', cs', rfl, _, hg', _⟩
    · cases e1
    · have e2 : g = g' := by simpa [Value.ownBlock] using e1
      subst e2
      rw [hg] at hg'
      simp only [Option.some.injEq, Obj.cells.injEq] at hg'
      exact hne hg'.2.1
theorem wiB_node (k : Int) (n : Nat) (h : 0 ≤ k ∧ k < (n : Int)) : wiB k 0 ((n : Int) - 1) = true := wiB_part k n h
set_option maxRecDepth 100000 in
set_option maxHeartbeats 8000000 in
theorem holds_any (c : Cl) (A : Option Addr) (cap : Nat) (ns : List Nd) (node : Int) (w : World) (hN : NodesAt w A ns) (hcap : ns.length ≤ cap) (hs : c.store.size ≤ 2147483647) (hl : ns.length ≤ 1099511627776) (hc : cnt ns ≤ 1099511627776) :
    Calls Tryd.prog 37 #[.agg (cL c (.slice A ns.length cap)).toArray, .int .i64 node] w (SlotPost (hold c ns node) w) := by
  have hb0 := (Below.refl w.heap.size w).alloc (Nat.le_refl _) (.cells (cL c (.slice A ns.length cap)).toArray 24)
  have HN := Aside0.mk (hN.below hb0)
  have HB := Aside0.mk hb0
  have HC : Aside0 (CBox (w.alloc (.cells (cL c (.slice A ns.length cap)).toArray 24)) w.heap.size c (.slice A ns.length cap)) := ⟨⟨Go.heap_alloc_new w _⟩⟩
  clear hN hb0
  go_enter Tryd.func37, Tryd.ntmps37
  go_upto_region 1 with fail
  generalize w.alloc (.cells (cL c (.slice A ns.length cap)).toArray 24) = w1 at HN HB HC ⊢
  obtain ⟨ga, hga⟩ : ∃ ga, ga = w.heap.size := ⟨_, rfl⟩
  rw [← hga] at HC ⊢
  have HGA := Aside0.mk hga
  clear hga
  have hrg := blk_range HC.out.row
  go_wp2_with ((with_reducible refine gate_load (ty := 24) (x := .tmp 2) rfl ?_); refine wpList_load_mid rfl 24 (.tmp 2) rfl ga 0 rfl (cL c (.slice A ns.length cap)) _ hrg Tryd.underlying24 rfl infoC23 ?_)
  clear hrg
  refine (checked_any c A cap ns w1 HN.out hcap hs hl hc).mono ?_
  rintro e w2 ⟨hb, hcase⟩
  have HB2 := Aside0.mk (HB.out.trans (hb.mono HB.out.size))
  have HC2 := Aside0.mk (HC.out.below hb HC.out.lt)
  clear hb HB HC
  rcases hcase with ⟨h0, rfl⟩ | ⟨g, h0, rfl, hg, hrow⟩
  · have HE : Aside0 (hold c ns node = ((chkC c ns).1, [])) := ⟨by unfold hold; rw [if_pos h0]⟩
    generalize (chkC c ns).1 = code at h0 HE ⊢
    have hne : (code != 0) = true := by simpa using h0
    go_wp2_with fail
    go_ret2
    exact spost_err HE.out HB2.out
  · have HGOOD := Aside0.mk (chk_ok (nm := nmB c.store) h0)
    obtain ⟨hde, hhl, _⟩ := homes_some HGOOD.out.hom
    have hb6 := setAt_bounds HGOOD.out.set
    have hP1 := hde.1
    have hP2 := hde.2.1
    have HH0 := Aside0.mk h0
    obtain ⟨H, hH⟩ : ∃ H, H = (chkC c ns).2 := ⟨_, rfl⟩
    have hHl : H.length = cnt ns := by rw [hH]; exact hhl
    rw [← hH] at hrow ⊢
    have HROW := Aside0.mk hrow
    have HG := Aside0.mk hg
    have HHE := Aside0.mk hH
    have HHL := Aside0.mk hHl
    obtain ⟨R, hR⟩ : ∃ R : Nat, c.replicas = (R : Int) := ⟨c.replicas.toNat, by omega⟩
    have hR16 : R ≤ 16 := by omega
    have HRE := Aside0.mk hR
    have hcR : w2.cell? ⟨ga, 1, none⟩ = some (.int .i64 (R : Nat)) := by rw [← hR]; exact HC2.out.c 1
    have hcN : w2.cell? ⟨ga, 22, none⟩ = some (.slice A ns.length cap) := HC2.out.c 22
    have hHn : 1 ≤ H.length ∧ H.length ≤ 64 := by rw [hHl]; exact ⟨hP1, hP2⟩
    obtain ⟨hn1, hn2⟩ := hHn
    clear h0 hde hhl hb6 hH hrow hg hR hP1 hP2 hHl
    go_wp2_with fail
    refine (within_any _ _ _ _).mono ?_
    rintro e w3 ⟨rfl, hd⟩
    have hbd := hd.below
    have HB3 := Aside0.mk (HB2.out.trans (hbd.mono HB2.out.size))
    have HR3 := Aside0.mk (HROW.out.below hbd (blk_lt HROW.out))
    have HC3 := Aside0.mk (HC2.out.below hbd HC2.out.lt)
    clear hd hbd HB2 HROW HC2 hcR hcN
    by_cases hp : node < 0 ∨ (ns.length : Int) ≤ node
    · have HE : Aside0 (hold c ns node = (68, [])) := ⟨by unfold hold; rw [if_neg (by rw [HH0.out]; decide), if_pos hp]⟩
      rw [wiB_part_no node ns.length hp]
      clear hp
      go_wp2_with fail
      go_ret2
      exact spost_err HE.out HB3.out
    · have HE : Aside0 (hold c ns node = (0, out (owL c ns) node (cnt ns))) := ⟨by unfold hold; rw [if_neg (by rw [HH0.out]; decide), if_neg hp]⟩
      rw [wiB_part node ns.length (by omega)]
      have HOL : Aside0 (∀ p, (owL c ns p).length ≤ 16) := ⟨fun p => by unfold owL; rw [List.length_map]; exact wkl_len c ns p HH0.out⟩
      have HWL : Aside0 (∀ p, rnd (hm H) p H.length R = wkL c ns p) := ⟨fun p => by unfold wkL; rw [← HHE.out, HHL.out, HRE.out]; rfl⟩
      have HW3 := Aside0.mk HB3.out.size
      clear hp
      go_wp2_with fail
      go_loopw [8, 29] (fun v8 v29 wr => ∃ p : Nat, p ≤ H.length ∧ v29 = .int .i64 (p : Nat) ∧ Aside0 (Below w3.heap.size w3 wr) ∧ Aside0 (wr.ownsRow w3.heap.size 143 2 v8 (out (owL c ns) node p).length (sl (out (owL c ns) node p)))) (fun _ v29 _ => H.length - (intOf v29).toNat)
      case atStart => exact ⟨0, Nat.zero_le _, rfl, ⟨Below.refl _ _⟩, ⟨World.ownsRow_nil _ _ _ _⟩⟩
      case round =>
        obtain ⟨p, hp, rfl, HR, HO⟩ := hrel
        obtain ⟨wo, rfl⟩ : ∃ wo : World, wo = wr := ⟨_, rfl⟩
        by_cases hpl : p < H.length
        · have hcR : wo.cell? ⟨ga, 1, none⟩ = some (.int .i64 (R : Nat)) := by rw [← HRE.out]; exact (HC3.out.below HR.out HC3.out.lt).c 1
          go_wp2_with fail
          refine (round_any g H p R wo (HR3.out.below HR.out (blk_lt HR3.out)) hn1 hn2 hpl hR16).mono ?_
          rintro e w4 ⟨v, rfl, ho, hb4⟩
          have HR4 := Aside0.mk (HR.out.trans (hb4.mono HR.out.size))
          rw [HWL.out] at ho
          obtain ⟨L, hL⟩ : ∃ L, L = wkL c ns p := ⟨_, rfl⟩
          have HLT : Aside0 (∀ t ∈ L, t < H.length) := ⟨fun t ht => by rw [HHL.out]; exact wkL_lt c ns p (by have := HHL.out; omega) t (by rw [← hL]; exact ht)⟩
          have hL16 : L.length ≤ 16 := by rw [hL]; have := HOL.out p; unfold owL at this; rwa [List.length_map] at this
          have HOP : Aside0 (owL c ns p = L.map fun n : Nat => hm H n) := ⟨by unfold owL; rw [hL, HHE.out]⟩
          rw [← hL] at ho
          have HOO := Aside0.mk (own_later2 HO.out (hb4.mono (Nat.le_refl _)))
          have hol : (out (owL c ns) node p).length ≤ 16 * p := out_len _ _ HOL.out p
          have HOUT : Aside0 (out (owL c ns) node (p + 1) = out (owL c ns) node p ++ inn (L.map fun n : Nat => hm H n) node p L.length) := ⟨by rw [out, HOP.out, List.length_map]⟩
          obtain ⟨S1, hS1⟩ : ∃ S1, out (owL c ns) node (p + 1) = S1 := ⟨_, rfl⟩
          rw [hS1] at HOUT
          have HS1 := Aside0.mk hS1
          generalize out (owL c ns) node p = S at HOO HOUT hol
          clear hS1
          obtain ⟨vA, vc, rfl, hvc⟩ := own_form ho
          have HO4 := Aside0.mk ho
          clear ho hb4 hL HO hcR
          go_wp2_with fail
          go_loopw [8, 38] (fun v8 v38 wr => ∃ j : Nat, j ≤ L.length ∧ v38 = .int .i64 (j : Nat) ∧ Aside0 (Below w3.heap.size w3 wr) ∧ Aside0 (wr.ownsRow w3.heap.size 3 1 (.slice vA L.length vc) L.length (ints L)) ∧ Aside0 (wr.ownsRow w3.heap.size 143 2 v8 (S ++ inn (L.map fun n : Nat => hm H n) node p j).length (sl (S ++ inn (L.map fun n : Nat => hm H n) node p j)))) (fun _ v38 _ => L.length - (intOf v38).toNat)
          case atStart => exact ⟨0, Nat.zero_le _, rfl, HR4, ⟨own_weaken HO4.out HR.out.size⟩, by simp only [inn, List.append_nil]; exact HOO⟩
          case round =>
            clear HOO HO4
            obtain ⟨j, hj, rfl, HRI, HO4, HO⟩ := hrel
            obtain ⟨wi, rfl⟩ : ∃ wi : World, wi = wr := ⟨_, rfl⟩
            by_cases hjl : j < L.length
            · obtain ⟨t, ht⟩ : ∃ t, L[j]? = some t := ⟨_, List.getElem?_eq_getElem hjl⟩
              obtain ⟨b, rfl⟩ : ∃ b, vA = some ⟨b, 0, none⟩ := by
                rcases HO4.out.2 with ⟨_, h0⟩ | ⟨b, cap', cs, e, _⟩
                · omega
                · injection e with e; exact ⟨b, e⟩
              have htl := HLT.out t (List.mem_of_getElem? ht)
              have hct : wi.cell? ⟨b, j, none⟩ = some (.int .i64 (t : Nat)) := by
                have h1 := HO4.out.cells (g := b) rfl j (.int .i64 (t : Nat)) (by simp [ints, nums, ht])
                have e2 : (⟨b, 0, none⟩ : Addr).add j = ⟨b, j, none⟩ := by unfold Addr.add; split <;> simp_all
                rwa [e2] at h1
              obtain ⟨y, hy⟩ : ∃ y, y = hm H t := ⟨_, rfl⟩
              have hcy : wi.cell? ⟨g, t, none⟩ = some (.int .i64 y) := by rw [hy]; exact (HR3.out.below HRI.out (blk_lt HR3.out)).cell t htl
              have HIN : Aside0 (S ++ inn (L.map fun n : Nat => hm H n) node p (j + 1) = (S ++ inn (L.map fun n : Nat => hm H n) node p j) ++ if y = node then [(p, j)] else []) := ⟨by
                rw [inn, List.append_assoc, hy]
                congr 3
                simp [List.getD_eq_getElem?_getD, ht]⟩
              have hil := inn_len (L.map fun n : Nat => hm H n) node p j
              have hSl : (S ++ inn (L.map fun n : Nat => hm H n) node p j).length ≤ 2000 := by rw [List.length_append]; omega
              obtain ⟨S3, hS3⟩ : ∃ S3, S ++ inn (L.map fun n : Nat => hm H n) node p (j + 1) = S3 := ⟨_, rfl⟩
              rw [hS3] at HIN
              have H3 := Aside0.mk hS3
              clear hS3
              generalize S ++ inn (L.map fun n : Nat => hm H n) node p j = S2 at HIN HO hSl
              clear hy ht hil hol
              by_cases he : y = node
              · have hqq : (y == node) = true := by rw [he]; simp
                have HS3 : Aside0 (S3 = S2 ++ [(p, j)]) := ⟨by rw [HIN.out, if_pos he]⟩
                obtain ⟨oA, oc, rfl, hoc⟩ := own_form HO.out
                have hsz := HRI.out.size
                clear he HIN
                go_wp2_with ((with_reducible refine gate_call (args := #[.tmp 49, .tmp 53]) rfl ?_); refine Hid.out ?_)
                refine Lib.hid ?_
                refine list_append_any (P := Tryd.prog) rfl w3.heap.size (.tmp 49) (.tmp 53) 78 143 _ 2 16 rfl Tryd.underlying78 infoSl rfl (by decide) (by decide) (.slice oA S2.length oc) S2.length (sl S2) (some ⟨wi.heap.size, 0, none⟩) 1 1 [.int .i64 (p : Nat), .int .i64 (j : Nat)] ?hs ?hx rfl (by simp [Value.oneCell']) (.inr ⟨_, rfl, slot_cells wi _ _⟩) (HO.out.alloc _) (by simp; omega) (by omega) (S2.length + 1) rfl ?_
                case hs => rfl
                case hx => rfl
                intro A5 c5 w5 hle5 hown5 hg5
                have HO5 : Aside0 (w5.ownsRow w3.heap.size 143 2 (.slice A5 (S2.length + 1) c5) S3.length (sl S3)) := ⟨by
                  rw [HS3.out, List.length_append, sl_app]
                  exact hown5⟩
                have HR5 : Aside0 (Below w3.heap.size w3 w5) := ⟨(HRI.out.alloc HRI.out.size _).grown hg5 (by simp; omega) (own_base HO.out)⟩
                have HA5 : Aside0 (w5.ownsRow w3.heap.size 3 1 (.slice (some ⟨b, 0, none⟩) L.length vc) L.length (ints L)) := ⟨(HO4.out.alloc _).kept hg5 (rows_ne HO4.out HO.out (by decide))⟩
                clear hown5 hg5
                go_wp2_with fail
                go_roundw
                case rel => exact ⟨j + 1, by omega, by go_num, HR5, HA5, by rw [H3.out]; exact HO5⟩
                case measure => simp [intOf]; omega
              · have hqq : (y == node) = false := by simpa using he
                have HS3 : Aside0 (S3 = S2) := ⟨by rw [HIN.out, if_neg he, List.append_nil]⟩
                have HO5 : Aside0 (wi.ownsRow w3.heap.size 143 2 u8 S3.length (sl S3)) := ⟨by rw [HS3.out]; exact HO.out⟩
                clear he HIN
                go_wp2_with fail
                go_roundw
                case rel => exact ⟨j + 1, by omega, by go_num, HRI, HO4, by rw [H3.out]; exact HO5⟩
                case measure => simp [intOf]; omega
            · obtain rfl : j = L.length := by omega
              rw [← HOUT.out] at HO
              go_wp2_with fail
              go_roundw
              case rel => exact ⟨p + 1, by omega, by go_num, HRI, by rw [HS1.out]; exact HO⟩
              case measure => simp [intOf]; omega
        · obtain rfl : p = H.length := by omega
          have HO6 : Aside0 (wo.ownsRow w.heap.size 143 2 u8 (out (owL c ns) node (cnt ns)).length (sl (out (owL c ns) node (cnt ns)))) := ⟨by
            have := own_weaken HO.out HW3.out
            rw [HHL.out] at this
            exact this⟩
          generalize (out (owL c ns) node (cnt ns)) = S at HO6 HE
          obtain ⟨oA, oc, rfl, hoc⟩ := own_form HO6.out
          go_wp2_with fail
          go_ret2
          exact spost_ok HE.out (HB3.out.trans (HR.out.mono HB3.out.size)) HO6.out
end Go.Proofs.YtljjpdjknnhceaaDoor.Hold

/- The document's Holds walked. -/
set_option linter.unusedVariables false
set_option linter.unusedSimpArgs false
namespace Go.Proofs.YtljjpdjknnhceaaDoor.HoldR
open Go.RowKit Go.Proofs.YtljjpdjknnhceaaDoorW.PrintWords Go.Proofs.YtljjpdjknnhceaaDoorW.PrintLast Go.Proofs.YtljjpdjknnhceaaDoorW.PrintMore
open Go.Proofs.YtljjpdjknnhceaaDoor.Base Go.Proofs.YtljjpdjknnhceaaDoor.App Go.Proofs.YtljjpdjknnhceaaDoor.RingPure Go.Proofs.YtljjpdjknnhceaaDoor.ChkPure Go.Proofs.YtljjpdjknnhceaaDoor.Clus Go.Proofs.YtljjpdjknnhceaaDoor.Mids Go.Proofs.YtljjpdjknnhceaaDoor.Chkd Go.Proofs.YtljjpdjknnhceaaDoor.RoundPure Go.Proofs.YtljjpdjknnhceaaDoor.AppR Go.Proofs.YtljjpdjknnhceaaDoor.Ref6 Go.Proofs.YtljjpdjknnhceaaDoor.Name Go.Proofs.YtljjpdjknnhceaaDoor.RefCheck Go.Proofs.YtljjpdjknnhceaaDoor.Walk Go.Proofs.YtljjpdjknnhceaaDoor.RefWalk Go.Proofs.YtljjpdjknnhceaaDoor.RefOwn Go.Proofs.YtljjpdjknnhceaaDoor.Hold
open Go.Proofs.YtljjpdjknnhceaaDoor.Round (ints own_later2 hm)
open Go.Proofs.YtljjpdjknnhceaaDoor.Count (parts_any)
open Go.Proofs.YtljjpdjknnhceaaDoor.LawWalk (wkl_len)
set_option maxRecDepth 100000 in
set_option maxHeartbeats 8000000 in
theorem refholds_any (c : Cl) (A : Option Addr) (cap : Nat) (ns : List Nd) (node : Int) (w : World) (hN : NodesAt w A ns) (hcap : ns.length ≤ cap) (hs : c.store.size ≤ 2147483647) (hl : ns.length ≤ 1099511627776) (hc : cnt ns ≤ 1099511627776) (hG : GTab w) :
    Calls Tryd.prog 38 #[.agg (cL c (.slice A ns.length cap)).toArray, .int .i64 node] w (SlotPost (hold c ns node) w) := by
  have hb0 := (Below.refl w.heap.size w).alloc (Nat.le_refl _) (.cells (cL c (.slice A ns.length cap)).toArray 24)
  have HN := Aside0.mk (hN.below hb0)
  have HG := Aside0.mk (hG.below hb0)
  have HB := Aside0.mk hb0
  have HC : Aside0 (CBox (w.alloc (.cells (cL c (.slice A ns.length cap)).toArray 24)) w.heap.size c (.slice A ns.length cap)) := ⟨⟨Go.heap_alloc_new w _⟩⟩
  clear hN hb0 hG
  go_enter Tryd.func38, Tryd.ntmps38
  go_upto_region 1 with fail
  generalize w.alloc (.cells (cL c (.slice A ns.length cap)).toArray 24) = w1 at HN HG HB HC ⊢
  obtain ⟨gc, hgc⟩ : ∃ gc, gc = w.heap.size := ⟨_, rfl⟩
  rw [← hgc] at HC ⊢
  have HGC := Aside0.mk hgc
  clear hgc
  have hrg := blk_range HC.out.row
  go_wp2_with ((with_reducible refine gate_load (ty := 24) (x := .tmp 2) rfl ?_); refine wpList_load_mid rfl 24 (.tmp 2) rfl gc 0 rfl (cL c (.slice A ns.length cap)) _ hrg Tryd.underlying24 rfl infoC23 ?_)
  clear hrg
  refine (refcheck_any c A cap ns w1 HN.out hcap hs hl hc HG.out).mono ?_
  rintro e w2 ⟨rfl, hb⟩
  have HR2 := Aside0.mk hb
  have HC2 := Aside0.mk (HC.out.below hb HC.out.lt)
  clear hb
  by_cases h0 : (chkC c ns).1 = 0
  · have HGOOD := Aside0.mk (chk_ok (nm := nmB c.store) h0)
    obtain ⟨hde, hhl, _⟩ := homes_some HGOOD.out.hom
    have hP1 := hde.1
    have hP2 := hde.2.1
    have HH0 := Aside0.mk h0
    rw [h0]
    have hcN : w2.cell? ⟨gc, 22, none⟩ = some (.slice A ns.length cap) := HC2.out.c 22
    clear h0 hde hhl
    by_cases hneg : node < 0
    · have HE : Aside0 (hold c ns node = (68, [])) := ⟨by unfold hold; rw [if_neg (by rw [HH0.out]; decide), if_pos (.inl hneg)]⟩
      go_wp2_with fail
      go_ret2
      exact spost_err HE.out (HB.out.trans (HR2.out.mono HB.out.size))
    · by_cases hge : (ns.length : Int) ≤ node
      · have HE : Aside0 (hold c ns node = (68, [])) := ⟨by unfold hold; rw [if_neg (by rw [HH0.out]; decide), if_pos (.inr hge)]⟩
        go_wp2_with fail
        go_ret2
        exact spost_err HE.out (HB.out.trans (HR2.out.mono HB.out.size))
      · have HE : Aside0 (hold c ns node = (0, out (owL c ns) node (cnt ns))) := ⟨by unfold hold; rw [if_neg (by rw [HH0.out]; decide), if_neg (fun e => e.elim hneg hge)]⟩
        have HOL : Aside0 (∀ p, (owL c ns p).length ≤ 16) := ⟨fun p => by unfold owL; rw [List.length_map]; exact wkl_len c ns p HH0.out⟩
        have HB2 := Aside0.mk (HB.out.trans (HR2.out.mono HB.out.size))
        have HN2 := Aside0.mk (HN.out.below HR2.out)
        have HG2 := Aside0.mk (HG.out.below HR2.out)
        obtain ⟨P, hP⟩ : ∃ P, P = cnt ns := ⟨_, rfl⟩
        have HP := Aside0.mk hP
        rw [← hP] at hP1 hP2 HE hc
        have hge2 : node < (ns.length : Int) := by omega
        clear hP hge HN HG HR2 HC HB hcN
        have hcN : w2.cell? ⟨gc, 22, none⟩ = some (.slice A ns.length cap) := HC2.out.c 22
        go_wp2_with fail
        clear hcN
        go_loopw [7, 8] (fun v7 v8 wr => ∃ p : Nat, p ≤ P ∧ v8 = .int .i64 (p : Nat) ∧ Aside0 (Below w2.heap.size w2 wr) ∧ Aside0 (wr.ownsRow w2.heap.size 143 2 v7 (out (owL c ns) node p).length (sl (out (owL c ns) node p)))) (fun _ v8 _ => P - (intOf v8).toNat)
        case atStart => exact ⟨0, Nat.zero_le _, rfl, ⟨Below.refl _ _⟩, ⟨World.ownsRow_nil _ _ _ _⟩⟩
        case round =>
          obtain ⟨p, hp, rfl, HR, HO⟩ := hrel
          obtain ⟨wo, rfl⟩ : ∃ wo : World, wo = wr := ⟨_, rfl⟩
          have hrg := blk_range ((HC2.out.below HR.out HC2.out.lt).row)
          go_wp2_with ((with_reducible refine gate_load (ty := 24) (x := .tmp 2) rfl ?_); refine wpList_load_mid rfl 24 (.tmp 2) rfl gc 0 rfl (cL c (.slice A ns.length cap)) _ hrg Tryd.underlying24 rfl infoC23 ?_)
          clear hrg
          refine (parts_any c A cap ns wo (HN2.out.below HR.out) hcap hl (by rw [← HP.out]; exact hc)).mono ?_
          rintro e w3 ⟨rfl, hb⟩
          rw [← HP.out]
          have HR3 := Aside0.mk (HR.out.trans (hb.mono HR.out.size))
          have HO3 := Aside0.mk (own_later2 HO.out hb)
          clear hb HO HR
          by_cases hpl : p < P
          · have hrg := blk_range ((HC2.out.below HR3.out HC2.out.lt).row)
            go_wp2_with ((with_reducible refine gate_load (ty := 24) (x := .tmp 2) rfl ?_); refine wpList_load_mid rfl 24 (.tmp 2) rfl gc 0 rfl (cL c (.slice A ns.length cap)) _ hrg Tryd.underlying24 rfl infoC23 ?_)
            clear hrg
            refine (refowners_any c A cap ns (p : Nat) w3 (HN2.out.below HR3.out) hcap hs hl (by rw [← HP.out]; exact hc) (HG2.out.below HR3.out)).mono ?_
            rintro e w4 ⟨hb4, v, rfl, ho⟩
            rw [ow_ok HH0.out (by rw [← HP.out]; exact hpl)] at ho ⊢
            obtain ⟨L, hL⟩ : ∃ L, L = owL c ns p := ⟨_, rfl⟩
            have hLe : ((wkL c ns p).map fun n : Nat => hm (chkC c ns).2 n) = L := by rw [hL]; rfl
            rw [hLe] at ho
            have hL16 : L.length ≤ 16 := by rw [hL]; exact HOL.out p
            have HR4 := Aside0.mk (HR3.out.trans (hb4.mono HR3.out.size))
            have HOO := Aside0.mk (own_later2 HO3.out hb4)
            have hol : (out (owL c ns) node p).length ≤ 16 * p := out_len _ _ HOL.out p
            have HOUT : Aside0 (out (owL c ns) node (p + 1) = out (owL c ns) node p ++ inn L node p L.length) := ⟨by rw [out, ← hL]⟩
            obtain ⟨S1, hS1⟩ : ∃ S1, out (owL c ns) node (p + 1) = S1 := ⟨_, rfl⟩
            rw [hS1] at HOUT
            have HS1 := Aside0.mk hS1
            generalize out (owL c ns) node p = S at HOO HOUT hol
            obtain ⟨vA, vc, rfl, hvc⟩ := own_form ho
            have HO4 := Aside0.mk (own_weaken ho HR3.out.size)
            clear ho hb4 hL hLe hS1 HO3
            go_wp2_with fail
            go_loopw [7, 11] (fun v7 v11 wr => ∃ j : Nat, j ≤ L.length ∧ v11 = .int .i64 (j : Nat) ∧ Aside0 (Below w2.heap.size w2 wr) ∧ Aside0 (wr.ownsRow w2.heap.size 3 1 (.slice vA L.length vc) L.length (nums .i64 L)) ∧ Aside0 (wr.ownsRow w2.heap.size 143 2 v7 (S ++ inn L node p j).length (sl (S ++ inn L node p j)))) (fun _ v11 _ => L.length - (intOf v11).toNat)
            case atStart => exact ⟨0, Nat.zero_le _, rfl, HR4, HO4, by simp only [inn, List.append_nil]; exact HOO⟩
            case round =>
              clear HOO HO4
              obtain ⟨j, hj, rfl, HRI, HO4, HO⟩ := hrel
              obtain ⟨wi, rfl⟩ : ∃ wi : World, wi = wr := ⟨_, rfl⟩
              by_cases hjl : j < L.length
              · obtain ⟨y, ht⟩ : ∃ y, L[j]? = some y := ⟨_, List.getElem?_eq_getElem hjl⟩
                obtain ⟨b, rfl⟩ : ∃ b, vA = some ⟨b, 0, none⟩ := by
                  rcases HO4.out.2 with ⟨_, h0⟩ | ⟨b, cap', cs, e, _⟩
                  · omega
                  · injection e with e; exact ⟨b, e⟩
                have hct : wi.cell? ⟨b, j, none⟩ = some (.int .i64 y) := by
                  have h1 := HO4.out.cells (g := b) rfl j (.int .i64 y) (by simp [nums, ht])
                  have e2 : (⟨b, 0, none⟩ : Addr).add j = ⟨b, j, none⟩ := by unfold Addr.add; split <;> simp_all
                  rwa [e2] at h1
                have HIN : Aside0 (S ++ inn L node p (j + 1) = (S ++ inn L node p j) ++ if y = node then [(p, j)] else []) := ⟨by
                  rw [inn, List.append_assoc]
                  congr 3
                  simp [List.getD_eq_getElem?_getD, ht]⟩
                have hil := inn_len L node p j
                have hSl : (S ++ inn L node p j).length ≤ 2000 := by rw [List.length_append]; omega
                obtain ⟨S3, hS3⟩ : ∃ S3, S ++ inn L node p (j + 1) = S3 := ⟨_, rfl⟩
                rw [hS3] at HIN
                have H3 := Aside0.mk hS3
                generalize S ++ inn L node p j = S2 at HIN HO hSl
                clear ht hil hol hS3
                by_cases he : y = node
                · have hqq : (y == node) = true := by rw [he]; simp
                  have HS3 : Aside0 (S3 = S2 ++ [(p, j)]) := ⟨by rw [HIN.out, if_pos he]⟩
                  obtain ⟨oA, oc, rfl, hoc⟩ := own_form HO.out
                  have hsz := HRI.out.size
                  clear he HIN
                  go_wp2_with ((with_reducible refine gate_call (args := #[.tmp 50, .tmp 54]) rfl ?_); refine Hid.out ?_)
                  refine Lib.hid ?_
                  refine list_append_any (P := Tryd.prog) rfl w2.heap.size (.tmp 50) (.tmp 54) 78 143 _ 2 16 rfl Tryd.underlying78 infoSl rfl (by decide) (by decide) (.slice oA S2.length oc) S2.length (sl S2) (some ⟨wi.heap.size, 0, none⟩) 1 1 [.int .i64 (p : Nat), .int .i64 (j : Nat)] ?hs ?hx rfl (by simp [Value.oneCell']) (.inr ⟨_, rfl, slot_cells wi _ _⟩) (HO.out.alloc _) (by simp; omega) (by omega) (S2.length + 1) rfl ?_
                  case hs => rfl
                  case hx => rfl
                  intro A5 c5 w5 hle5 hown5 hg5
                  have HO5 : Aside0 (w5.ownsRow w2.heap.size 143 2 (.slice A5 (S2.length + 1) c5) S3.length (sl S3)) := ⟨by
                    rw [HS3.out, List.length_append, sl_app]
                    exact hown5⟩
                  have HR5 : Aside0 (Below w2.heap.size w2 w5) := ⟨(HRI.out.alloc HRI.out.size _).grown hg5 (by simp; omega) (own_base HO.out)⟩
                  have HA5 : Aside0 (w5.ownsRow w2.heap.size 3 1 (.slice (some ⟨b, 0, none⟩) L.length vc) L.length (nums .i64 L)) := ⟨(HO4.out.alloc _).kept hg5 (rows_ne HO4.out HO.out (by decide))⟩
                  clear hown5 hg5
                  go_wp2_with fail
                  go_roundw
                  case rel => exact ⟨j + 1, by omega, by go_num, HR5, HA5, by rw [H3.out]; exact HO5⟩
                  case measure => simp [intOf]; omega
                · have hqq : (y == node) = false := by simpa using he
                  have HS3 : Aside0 (S3 = S2) := ⟨by rw [HIN.out, if_neg he, List.append_nil]⟩
                  have HO5 : Aside0 (wi.ownsRow w2.heap.size 143 2 u7 S3.length (sl S3)) := ⟨by rw [HS3.out]; exact HO.out⟩
                  clear he HIN
                  go_wp2_with fail
                  go_roundw
                  case rel => exact ⟨j + 1, by omega, by go_num, HRI, HO4, by rw [H3.out]; exact HO5⟩
                  case measure => simp [intOf]; omega
              · obtain rfl : j = L.length := by omega
                rw [← HOUT.out] at HO
                go_wp2_with fail
                go_roundw
                case rel => exact ⟨p + 1, by omega, by go_num, HRI, by rw [HS1.out]; exact HO⟩
                case measure => simp [intOf]; omega
          · obtain rfl : p = P := by omega
            have HO6 : Aside0 (w3.ownsRow w.heap.size 143 2 u7 (out (owL c ns) node p).length (sl (out (owL c ns) node p))) := ⟨own_weaken HO3.out HB2.out.size⟩
            generalize (out (owL c ns) node p) = S at HO6 HE
            obtain ⟨oA, oc, rfl, hoc⟩ := own_form HO6.out
            go_wp2_with fail
            go_ret2
            exact spost_ok HE.out (HB2.out.trans (HR3.out.mono HB2.out.size)) HO6.out
  · have HE : Aside0 (hold c ns node = ((chkC c ns).1, [])) := ⟨by unfold hold; rw [if_pos h0]⟩
    generalize (chkC c ns).1 = code at h0 HE ⊢
    have hne : (code != 0) = true := by simpa using h0
    go_wp2_with fail
    go_ret2
    exact spost_err HE.out (HB.out.trans (HR2.out.mono HB.out.size))
end Go.Proofs.YtljjpdjknnhceaaDoor.HoldR
