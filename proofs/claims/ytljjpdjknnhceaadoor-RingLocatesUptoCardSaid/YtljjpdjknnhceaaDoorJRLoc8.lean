/- Joined texts of this claim: LawChk -/
import Derived.Test.YtljjpdjknnhceaaDoorJRLoc7
set_option linter.unusedVariables false
set_option linter.unusedSimpArgs false
/- RingChecks: the program's Check and the document's alike; the definition is left as it was. -/
set_option linter.unusedVariables false
set_option linter.unusedSimpArgs false
namespace Go.Proofs.YtljjpdjknnhceaaDoor.LawChk
open Go.RowKit Go.Proofs.YtljjpdjknnhceaaDoorW.PrintWords Go.Proofs.YtljjpdjknnhceaaDoorW.PrintLast Go.Proofs.YtljjpdjknnhceaaDoorW.PrintMore
open Go.Proofs.YtljjpdjknnhceaaDoor.Base Go.Proofs.YtljjpdjknnhceaaDoor.App Go.Proofs.YtljjpdjknnhceaaDoor.RingPure Go.Proofs.YtljjpdjknnhceaaDoor.ChkPure Go.Proofs.YtljjpdjknnhceaaDoor.Clus Go.Proofs.YtljjpdjknnhceaaDoor.Mids Go.Proofs.YtljjpdjknnhceaaDoor.Chkd Go.Proofs.YtljjpdjknnhceaaDoor.Ref6 Go.Proofs.YtljjpdjknnhceaaDoor.Hand Go.Proofs.YtljjpdjknnhceaaDoor.HandW Go.Proofs.YtljjpdjknnhceaaDoor.LeftW Go.Proofs.YtljjpdjknnhceaaDoor.RefCheck
open Go.Proofs.YtljjpdjknnhceaaDoor.PRingWalks (granarylaw6_num.calls granarylaw6_num.f)
theorem num_any (x : Int) (w : World) : Calls Tryd.prog 14 #[.int .i64 x] w fun e w' => e = .returned (.int .i64 x) ∧ Below w.heap.size w w' :=
  (granarylaw6_num.calls x x w rfl).mono fun e w' h => ⟨h.1, h.2.below⟩
set_option maxRecDepth 100000 in
set_option maxHeartbeats 4000000 in
theorem check_any (c : Cl) (A : Option Addr) (cap : Nat) (ns : List Nd) (w : World) (hN : NodesAt w A ns) (hcap : ns.length ≤ cap) (hs : c.store.size ≤ 2147483647) (hl : ns.length ≤ 1099511627776) (hc : cnt ns ≤ 1099511627776) :
    Calls Tryd.prog 13 #[.agg (cL c (.slice A ns.length cap)).toArray] w fun e w' => e = .returned (.int .i64 (chkC c ns).1) ∧ Below w.heap.size w w' := by
  have hb0 := (Below.refl w.heap.size w).alloc (Nat.le_refl _) (.cells (cL c (.slice A ns.length cap)).toArray 24)
  have HN := Aside0.mk (hN.below hb0)
  have HB := Aside0.mk hb0
  have HC : Aside0 (CBox (w.alloc (.cells (cL c (.slice A ns.length cap)).toArray 24)) w.heap.size c (.slice A ns.length cap)) := ⟨⟨Go.heap_alloc_new w _⟩⟩
  clear hN hb0
  go_enter Tryd.func13, Tryd.ntmps13
  go_upto_region 1 with fail
  generalize w.alloc (.cells (cL c (.slice A ns.length cap)).toArray 24) = w1 at HN HB HC ⊢
  generalize hga : w.heap.size = ga at HC ⊢
  have HGA := Aside0.mk hga
  clear hga
  have hrg := blk_range HC.out.row
  go_wp2_with ((with_reducible refine gate_load (ty := 24) (x := .tmp 1) rfl ?_); refine wpList_load_mid rfl 24 (.tmp 1) rfl ga 0 rfl (cL c (.slice A ns.length cap)) _ hrg Tryd.underlying24 rfl infoC23 ?_)
  clear hrg
  refine (checked_any c A cap ns w1 HN.out hcap hs hl hc).mono ?_
  rintro e w2 ⟨hb, hcase⟩
  rw [← HGA.out]
  have HB2 := Aside0.mk (HB.out.trans (hb.mono HB.out.size))
  clear hb
  rcases hcase with ⟨h0, rfl⟩ | ⟨g, h0, rfl, _, _⟩
  · go_wp2_with fail
    go_ret
    exact ⟨rfl, HB2.out⟩
  · have H0 := Aside0.mk h0
    clear h0
    go_wp2_with fail
    go_ret
    exact ⟨by rw [H0.out]; rfl, HB2.out⟩
set_option maxRecDepth 100000 in
set_option maxHeartbeats 8000000 in
theorem law_checks (c : Cl) (A : Option Addr) (cap : Nat) (ns : List Nd) (w : World) (hN : NodesAt w A ns) (hcap : ns.length ≤ cap) (hs : c.store.size ≤ 2147483647) (hl : ns.length ≤ 1073741824) (hc : cnt ns ≤ 1073741824) (hG : GTab w) :
    Calls Tryd.prog 3 #[.agg (cL c (.slice A ns.length cap)).toArray] w fun e w' => e = .returned (.bool true) ∧ Below w.heap.size w w' := by
  have hb0 := (Below.refl w.heap.size w).alloc (Nat.le_refl _) (.cells (cL c (.slice A ns.length cap)).toArray 24)
  have HN := Aside0.mk (hN.below hb0)
  have HG := Aside0.mk (hG.below hb0)
  have HB := Aside0.mk hb0
  have HC : Aside0 (CBox (w.alloc (.cells (cL c (.slice A ns.length cap)).toArray 24)) w.heap.size c (.slice A ns.length cap)) := ⟨⟨Go.heap_alloc_new w _⟩⟩
  clear hN hb0 hG
  go_enter Tryd.func3, Tryd.ntmps3
  go_upto_region 1 with fail
  generalize w.alloc (.cells (cL c (.slice A ns.length cap)).toArray 24) = w1 at HN HB HC HG ⊢
  obtain ⟨ga, hga⟩ : ∃ ga, ga = w.heap.size := ⟨_, rfl⟩
  rw [← hga] at HC ⊢
  clear hga
  have hrg := blk_range HC.out.row
  go_wp2_with ((with_reducible refine gate_load (ty := 24) (x := .tmp 1) rfl ?_); refine wpList_load_mid rfl 24 (.tmp 1) rfl ga 0 rfl (cL c (.slice A ns.length cap)) _ hrg Tryd.underlying24 rfl infoC23 ?_)
  clear hrg
  refine (hand_any c A cap ns w1 HN.out hcap hl hc).mono ?_
  rintro e w2 ⟨hb, gh, gn, cn, A2, cap2, pv, gs, vs2, base, bt, rfl, hh⟩
  have HR2 := Aside0.mk hb
  have HH2 := Aside0.mk hh
  clear hb
  obtain ⟨hr1, _⟩ := hand_ranges hh.inv.box
  clear hh
  go_wp2_with ((with_reducible refine gate_load (ty := 24) (x := .tmp 9) rfl ?_); refine wpList_load_mid rfl 24 (.tmp 9) rfl gh 0 rfl (cL c (.slice (some ⟨gn, 0, none⟩) ns.length cn)) _ hr1 Tryd.underlying24 rfl infoC23 ?_)
  clear hr1
  refine (check_any c (some ⟨gn, 0, none⟩) cn ns w2 (HandOK.nodes HH2.out) (by have := HH2.out.len; omega) hs (by omega) (by omega)).mono ?_
  rintro e w3 ⟨rfl, hb⟩
  have HR3 := Aside0.mk (HR2.out.trans (hb.mono HR2.out.size))
  have HH3 := Aside0.mk (HH2.out.below hb)
  have HC3 := Aside0.mk (HC.out.below HR3.out HC.out.lt)
  have HREF := fun W (hw : Below w3.heap.size w3 W) => Aside0.mk (refcheck_any c A cap ns W ((HN.out.below HR3.out).below hw) hcap hs (by omega) (by omega) ((HG.out.below HR3.out).below hw))
  have HLEFT := fun W (hw : Below w3.heap.size w3 W) => Aside0.mk (left_any (HH3.out.below hw) hl hc)
  clear hb HH2 HR2
  obtain ⟨E, hE⟩ : ∃ E, E = (chkC c ns).1 := ⟨_, rfl⟩
  rw [← hE] at HREF ⊢
  clear hE
  go_upto_region 3 with fail
  refine RegG.wp_region_rel _ (by kernel_rfl) _ _ _ rfl (by kernel_rfl) (fun w' => Below w3.heap.size w3 w') (fun _ w w' => Below w.heap.size w w') (fun jq vs w' => match jq with
    | 0 => vs 0 = .int .i64 E
    | 1 => vs 1 = .int .i64 E
    | 2 => vs 2 = .agg (cL c (.slice A ns.length cap)).toArray
    | 3 => vs 3 = .int .i64 E
    | 4 => vs 4 = .bool true
    | 5 => vs 5 = .bool true
    | 6 => vs 6 = .pointer (some ⟨gh, 0, none⟩)
    | 7 => vs 7 = .bool true
    | 8 => vs 8 = .bool true
    | 9 => vs 9 = .bool true
    | _ => True) (below_drew (Below.refl _ _)) ?_ ?_ ?_ ?_ ?_
  · intro i j vs w0 w' hij hI hR hb
    rcases j with _ | j
    · exact hR
    rcases j with _ | j
    · exact hR
    rcases j with _ | j
    · exact hR
    rcases j with _ | j
    · exact hR
    rcases j with _ | j
    · exact hR
    rcases j with _ | j
    · exact hR
    rcases j with _ | j
    · exact hR
    rcases j with _ | j
    · exact hR
    rcases j with _ | j
    · exact hR
    rcases j with _ | j
    · exact hR
    exact trivial
  · intro j o vs vs1 w0 ho he hp hR
    rcases j with _ | j
    · exact he.trans hR
    rcases j with _ | j
    · exact he.trans hR
    rcases j with _ | j
    · exact he.trans hR
    rcases j with _ | j
    · exact he.trans hR
    rcases j with _ | j
    · exact he.trans hR
    rcases j with _ | j
    · exact he.trans hR
    rcases j with _ | j
    · exact he.trans hR
    rcases j with _ | j
    · exact he.trans hR
    rcases j with _ | j
    · exact he.trans hR
    rcases j with _ | j
    · exact he.trans hR
    exact trivial
  · skip
    refine RegG.allOps_cons ?_ ?_
    · intro j b hg vs w hR
      first
        | (cases hg; done)
        | (cases hg; exact hR)
    refine RegG.allOps_cons ?_ ?_
    · intro j b hg vs w hR
      first
        | (cases hg; done)
        | (cases hg; exact hR)
    refine RegG.allOps_cons ?_ ?_
    · intro j b hg vs w hR
      first
        | (cases hg; done)
        | (cases hg; exact hR)
    refine RegG.allOps_cons ?_ ?_
    · intro j b hg vs w hR
      first
        | (cases hg; done)
        | (cases hg; exact hR)
    refine RegG.allOps_cons ?_ ?_
    · intro j b hg vs w hR
      first
        | (cases hg; done)
        | (cases hg; exact hR)
    refine RegG.allOps_cons ?_ ?_
    · intro j b hg vs w hR
      first
        | (cases hg; done)
        | (cases hg; exact hR)
    refine RegG.allOps_cons ?_ ?_
    · intro j b hg vs w hR
      first
        | (cases hg; done)
        | (cases hg; exact hR)
    refine RegG.allOps_cons ?_ ?_
    · intro j b hg vs w hR
      first
        | (cases hg; done)
        | (cases hg; exact hR)
    refine RegG.allOps_cons ?_ ?_
    · intro j b hg vs w hR
      first
        | (cases hg; done)
        | (cases hg; exact hR)
    refine RegG.allOps_cons ?_ ?_
    · intro j b hg vs w hR
      first
        | (cases hg; done)
        | (cases hg; exact hR)
    exact RegG.allOps_nil
  · skip
    refine RegG.allOps_cons ?_ ?_
    · intro vs w0 ρ hρ hcst hglb hfun hI hp
      have e4 : ρ (.tmp 4) = .int .i64 E := hρ (.tmp 4)
      clear hρ hp
      refine RegG.rel_value (.int .i64 E) ?_ ⟨hI, rfl⟩
      go_simp
    refine RegG.allOps_cons ?_ ?_
    · intro vs w0 ρ hρ hcst hglb hfun hI hp
      have e12 : ρ (.tmp 12) = .int .i64 E := (hρ (.tmp 12)).trans (show vs 0 = .int .i64 E from hp 0 rfl)
      clear hρ hp
      refine RegG.rel_call Tryd.func14 (by kernel_rfl) rfl #[.int .i64 E] rfl (hfun _) (by simp [e12]) ?_
      refine (num_any E w0).mono ?_
      rintro e w3 ⟨rfl, hb⟩
      exact ⟨_, rfl, hb, hI.trans (hb.mono hI.size), rfl⟩
    refine RegG.allOps_cons ?_ ?_
    · intro vs w0 ρ hρ hcst hglb hfun hI hp
      have e1 : ρ (.tmp 1) = .pointer (some ⟨ga, 0, none⟩) := hρ (.tmp 1)
      clear hρ hp
      refine RegG.rel_value (.agg (cL c (.slice A ns.length cap)).toArray) (exec_load_mid 24 (.tmp 1) rfl ga 0 e1 _ _ (blk_range (HC3.out.below hI HC3.out.lt).row) Tryd.underlying24 rfl infoC23) ⟨hI, rfl⟩
    refine RegG.allOps_cons ?_ ?_
    · intro vs w0 ρ hρ hcst hglb hfun hI hp
      have e14 : ρ (.tmp 14) = .agg (cL c (.slice A ns.length cap)).toArray := (hρ (.tmp 14)).trans (show vs 2 = .agg (cL c (.slice A ns.length cap)).toArray from hp 2 rfl)
      clear hρ hp
      refine RegG.rel_call Tryd.func15 (by kernel_rfl) rfl #[.agg (cL c (.slice A ns.length cap)).toArray] rfl (hfun _) (by simp [e14]) ?_
      refine (HREF w0 hI).out.mono ?_
      rintro e w3 ⟨rfl, hb⟩
      exact ⟨_, rfl, hb, hI.trans (hb.mono hI.size), rfl⟩
    refine RegG.allOps_cons ?_ ?_
    · intro vs w0 ρ hρ hcst hglb hfun hI hp
      have e13 : ρ (.tmp 13) = .int .i64 E := (hρ (.tmp 13)).trans (show vs 1 = .int .i64 E from hp 1 rfl)
      have e15 : ρ (.tmp 15) = .int .i64 E := (hρ (.tmp 15)).trans (show vs 3 = .int .i64 E from hp 3 rfl)
      clear hρ hp
      refine RegG.rel_value (.bool true) ?_ ⟨hI, rfl⟩
      go_simp
    refine RegG.allOps_cons ?_ ?_
    · intro vs w0 ρ hρ hcst hglb hfun hI hp
      have e16 : ρ (.tmp 16) = .bool true := (hρ (.tmp 16)).trans (show vs 4 = .bool true from hp 4 rfl)
      clear hρ hp
      refine RegG.rel_value (.bool true) ?_ ⟨hI, rfl⟩
      go_simp
    refine RegG.allOps_cons ?_ ?_
    · intro vs w0 ρ hρ hcst hglb hfun hI hp
      have e3 : ρ (.tmp 3) = .pointer (some ⟨gh, 0, none⟩) := hρ (.tmp 3)
      clear hρ hp
      refine RegG.rel_value (.pointer (some ⟨gh, 0, none⟩)) ?_ ⟨hI, rfl⟩
      go_simp
    refine RegG.allOps_cons ?_ ?_
    · intro vs w0 ρ hρ hcst hglb hfun hI hp
      have e18 : ρ (.tmp 18) = .pointer (some ⟨gh, 0, none⟩) := (hρ (.tmp 18)).trans (show vs 6 = .pointer (some ⟨gh, 0, none⟩) from hp 6 rfl)
      clear hρ hp
      refine RegG.rel_call Tryd.func16 (by kernel_rfl) rfl #[.pointer (some ⟨gh, 0, none⟩)] rfl (hfun _) (by simp [e18]) ?_
      refine (HLEFT w0 hI).out.mono ?_
      rintro e w3 ⟨rfl, hb⟩
      exact ⟨_, rfl, hb, hI.trans (hb.mono hI.size), rfl⟩
    refine RegG.allOps_cons ?_ ?_
    · intro vs w0 ρ hρ hcst hglb hfun hI hp
      have e17 : ρ (.tmp 17) = .bool true := (hρ (.tmp 17)).trans (show vs 5 = .bool true from hp 5 rfl)
      have e19 : ρ (.tmp 19) = .bool true := (hρ (.tmp 19)).trans (show vs 7 = .bool true from hp 7 rfl)
      clear hρ hp
      refine RegG.rel_value (.bool true) ?_ ⟨hI, rfl⟩
      go_simp
    refine RegG.allOps_cons ?_ ?_
    · intro vs w0 ρ hρ hcst hglb hfun hI hp
      have e20 : ρ (.tmp 20) = .bool true := (hρ (.tmp 20)).trans (show vs 8 = .bool true from hp 8 rfl)
      clear hρ hp
      refine RegG.rel_value (.bool true) ?_ ⟨hI, rfl⟩
      go_simp
    exact RegG.allOps_nil
  intro vs w0 hI hR
  have r0 : vs 0 = .int .i64 E := hR 0 (by decide)
  have r1 : vs 1 = .int .i64 E := hR 1 (by decide)
  have r2 : vs 2 = .agg (cL c (.slice A ns.length cap)).toArray := hR 2 (by decide)
  have r3 : vs 3 = .int .i64 E := hR 3 (by decide)
  have r4 : vs 4 = .bool true := hR 4 (by decide)
  have r5 : vs 5 = .bool true := hR 5 (by decide)
  have r6 : vs 6 = .pointer (some ⟨gh, 0, none⟩) := hR 6 (by decide)
  have r7 : vs 7 = .bool true := hR 7 (by decide)
  have r8 : vs 8 = .bool true := hR 8 (by decide)
  have r9 : vs 9 = .bool true := hR 9 (by decide)
  simp only [RegG.fillFrom, Act.put, List.setIfInBounds_toArray, List.set_cons_zero, List.set_cons_succ, r0, r1, r2, r3, r4, r5, r6, r7, r8, r9]
  clear hR r0 r1 r2 r3 r4 r5 r6 r7 r8 r9
  go_wp2_with fail
  go_ret
  exact ⟨rfl, HB.out.trans ((HR3.out.trans (hI.mono HR3.out.size)).mono HB.out.size)⟩
end Go.Proofs.YtljjpdjknnhceaaDoor.LawChk
