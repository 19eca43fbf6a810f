/- Joined texts of this claim: LawChk, LawWalk, Bulk, OpenC, LaidR -/
import Derived.Test.YtljjpdjknnhceaaDoorJRWlk6
import Derived.Test.YtljjpdjknnhceaaDoorJRWlk3
import Derived.Test.YtljjpdjknnhceaaDoorJRWlk5
import Derived.Test.YtljjpdjknnhceaaDoorRows
import Derived.Test.YtljjpdjknnhceaaDoorJRWlk0
import Derived.ProofKit
import Derived.Lib.SmallJoins
import Derived.Deep.Slices
import Derived.Test.YtljjpdjknnhceaaDoorJRWlk1
import Derived.Test.YtljjpdjknnhceaaDoorTie
import Derived.Lib.LaidTab
/- RingChecks: the program's Check and the document's alike; the definition is left as it was. -/
set_option linter.unusedVariables false
set_option linter.unusedSimpArgs false
namespace Go.Proofs.YtljjpdjknnhceaaDoor.LawChk
open Go.RowKit Go.Proofs.YtljjpdjknnhceaaDoorW.PrintWords Go.Proofs.YtljjpdjknnhceaaDoorW.PrintLast Go.Proofs.YtljjpdjknnhceaaDoorW.PrintMore
open Go.Proofs.YtljjpdjknnhceaaDoor.Base Go.Proofs.YtljjpdjknnhceaaDoor.App Go.Proofs.YtljjpdjknnhceaaDoor.RingPure Go.Proofs.YtljjpdjknnhceaaDoor.ChkPure Go.Proofs.YtljjpdjknnhceaaDoor.Clus Go.Proofs.YtljjpdjknnhceaaDoor.Mids Go.Proofs.YtljjpdjknnhceaaDoor.Chkd Go.Proofs.YtljjpdjknnhceaaDoor.Ref6 Go.Proofs.YtljjpdjknnhceaaDoor.Hand Go.Proofs.YtljjpdjknnhceaaDoor.HandW Go.Proofs.YtljjpdjknnhceaaDoor.LeftW Go.Proofs.YtljjpdjknnhceaaDoor.RefCheck
open Go.Proofs.YtljjpdjknnhceaaDoor.PRingWalks (granarylaw6_num.calls granarylaw6_num.f)
theorem num_any (x : Int) (w : World) : Calls Tryd.prog 14 #[.int .i64 x] w fun e w' => e = .returned (.int .i64 x) ∧ Below w.heap.size w w' :=
  (granarylaw6_num.calls x x w rfl).mono fun e w' h => ⟨h.1, h.2.below⟩
set_option maxRecDepth 100000 in
set_option maxHeartbeats 4000000 in
theorem check_any (c : Cl) (A : Option Addr) (cap : Nat) (ns : List Nd) (w : World) (hN : NodesAt w A ns) (hcap : ns.length ≤ cap) (hs : c.store.size ≤ 2147483647) (hl : ns.length ≤ 1099511627776) (hc : cnt ns ≤ 1099511627776) :
    Calls Tryd.prog 13 #[.agg (cL c (.slice A ns.length cap)).toArray] w fun e w' => e = .returned (.int .i64 (chkC c ns).1) ∧ Below w.heap.size w w' := by
  have hb0 := (Below.refl w.heap.size w).alloc (Nat.le_refl _) (.cells (cL c (.slice A ns.length cap)).toArray 24)
  have HN := Aside0.mk (hN.below hb0)
  have HB := Aside0.mk hb0
  have HC : Aside0 (CBox (w.alloc (.cells (cL c (.slice A ns.length cap)).toArray 24)) w.heap.size c (.slice A ns.length cap)) := ⟨⟨Go.heap_alloc_new w _⟩⟩
  clear hN hb0
  go_enter Tryd.func13, Tryd.ntmps13
  go_upto_region 1 with fail
  generalize w.alloc (.cells (cL c (.slice A ns.length cap)).toArray 24) = w1 at HN HB HC ⊢
  generalize hga : w.heap.size = ga at HC ⊢
  have HGA := Aside0.mk hga
  clear hga
  have hrg := blk_range HC.out.row
  go_wp2_with ((with_reducible refine gate_load (ty := 24) (x := .tmp 1) rfl ?_); refine wpList_load_mid rfl 24 (.tmp 1) rfl ga 0 rfl (cL c (.slice A ns.length cap)) _ hrg Tryd.underlying24 rfl infoC23 ?_)
  clear hrg
  refine (checked_any c A cap ns w1 HN.out hcap hs hl hc).mono ?_
  rintro e w2 ⟨hb, hcase⟩
  rw [← HGA.out]
  have HB2 := Aside0.mk (HB.out.trans (hb.mono HB.out.size))
  clear hb
  rcases hcase with ⟨h0, rfl⟩ | ⟨g, h0, rfl, _, _⟩
  · go_wp2_with fail
    go_ret
    exact ⟨rfl, HB2.out⟩
  · have H0 := Aside0.mk h0
    clear h0
    go_wp2_with fail
    go_ret
    exact ⟨by rw [H0.out]; rfl, HB2.out⟩
set_option maxRecDepth 100000 in
set_option maxHeartbeats 8000000 in
theorem law_checks (c : Cl) (A : Option Addr) (cap : Nat) (ns : List Nd) (w : World) (hN : NodesAt w A ns) (hcap : ns.length ≤ cap) (hs : c.store.size ≤ 2147483647) (hl : ns.length ≤ 1073741824) (hc : cnt ns ≤ 1073741824) (hG : GTab w) :
    Calls Tryd.prog 3 #[.agg (cL c (.slice A ns.length cap)).toArray] w fun e w' => e = .returned (.bool true) ∧ Below w.heap.size w w' := by
  have hb0 := (Below.refl w.heap.size w).alloc (Nat.le_refl _) (.cells (cL c (.slice A ns.length cap)).toArray 24)
  have HN := Aside0.mk (hN.below hb0)
  have HG := Aside0.mk (hG.below hb0)
  have HB := Aside0.mk hb0
  have HC : Aside0 (CBox (w.alloc (.cells (cL c (.slice A ns.length cap)).toArray 24)) w.heap.size c (.slice A ns.length cap)) := ⟨⟨Go.heap_alloc_new w _⟩⟩
  clear hN hb0 hG
  go_enter Tryd.func3, Tryd.ntmps3
  go_upto_region 1 with fail
  generalize w.alloc (.cells (cL c (.slice A ns.length cap)).toArray 24) = w1 at HN HB HC HG ⊢
  obtain ⟨ga, hga⟩ : ∃ ga, ga = w.heap.size := ⟨_, rfl⟩
  rw [← hga] at HC ⊢
  clear hga
  have hrg := blk_range HC.out.row
  go_wp2_with ((with_reducible refine gate_load (ty := 24) (x := .tmp 1) rfl ?_); refine wpList_load_mid rfl 24 (.tmp 1) rfl ga 0 rfl (cL c (.slice A ns.length cap)) _ hrg Tryd.underlying24 rfl infoC23 ?_)
  clear hrg
  refine (hand_any c A cap ns w1 HN.out hcap hl hc).mono ?_
  rintro e w2 ⟨hb, gh, gn, cn, A2, cap2, pv, gs, vs2, base, bt, rfl, hh⟩
  have HR2 := Aside0.mk hb
  have HH2 := Aside0.mk hh
  clear hb
  obtain ⟨hr1, _⟩ := hand_ranges hh.inv.box
  clear hh
  go_wp2_with ((with_reducible refine gate_load (ty := 24) (x := .tmp 9) rfl ?_); refine wpList_load_mid rfl 24 (.tmp 9) rfl gh 0 rfl (cL c (.slice (some ⟨gn, 0, none⟩) ns.length cn)) _ hr1 Tryd.underlying24 rfl infoC23 ?_)
  clear hr1
  refine (check_any c (some ⟨gn, 0, none⟩) cn ns w2 (HandOK.nodes HH2.out) (by have := HH2.out.len; omega) hs (by omega) (by omega)).mono ?_
  rintro e w3 ⟨rfl, hb⟩
  have HR3 := Aside0.mk (HR2.out.trans (hb.mono HR2.out.size))
  have HH3 := Aside0.mk (HH2.out.below hb)
  have HC3 := Aside0.mk (HC.out.below HR3.out HC.out.lt)
  have HREF := fun W (hw : Below w3.heap.size w3 W) => Aside0.mk (refcheck_any c A cap ns W ((HN.out.below HR3.out).below hw) hcap hs (by omega) (by omega) ((HG.out.below HR3.out).below hw))
  have HLEFT := fun W (hw : Below w3.heap.size w3 W) => Aside0.mk (left_any (HH3.out.below hw) hl hc)
  clear hb HH2 HR2
  obtain ⟨E, hE⟩ : ∃ E, E = (chkC c ns).1 := ⟨_, rfl⟩
  rw [← hE] at HREF ⊢
  clear hE
  go_upto_region 3 with fail
  refine RegG.wp_region_rel _ (by kernel_rfl) _ _ _ rfl (by kernel_rfl) (fun w' => Below w3.heap.size w3 w') (fun _ w w' => Below w.heap.size w w') (fun j vs w' => match j with
    | 0 => vs 0 = .int .i64 E
    | 1 => vs 1 = .int .i64 E
    | 2 => vs 2 = .agg (cL c (.slice A ns.length cap)).toArray
    | 3 => vs 3 = .int .i64 E
    | 4 => vs 4 = .bool true
    | 5 => vs 5 = .bool true
    | 6 => vs 6 = .pointer (some ⟨gh, 0, none⟩)
    | 7 => vs 7 = .bool true
    | 8 => vs 8 = .bool true
    | 9 => vs 9 = .bool true
    | _ => True) (below_drew (Below.refl _ _)) ?_ ?_ ?_ ?_ ?_
  · intro i j vs w0 w' hij hI hR hb
    rcases j with _ | j
    · exact hR
    rcases j with _ | j
    · exact hR
    rcases j with _ | j
    · exact hR
    rcases j with _ | j
    · exact hR
    rcases j with _ | j
    · exact hR
    rcases j with _ | j
    · exact hR
    rcases j with _ | j
    · exact hR
    rcases j with _ | j
    · exact hR
    rcases j with _ | j
    · exact hR
    rcases j with _ | j
    · exact hR
    exact trivial
  · intro j o vs vs1 w0 ho he hp hR
    rcases j with _ | j
    · exact he.trans hR
    rcases j with _ | j
    · exact he.trans hR
    rcases j with _ | j
    · exact he.trans hR
    rcases j with _ | j
    · exact he.trans hR
    rcases j with _ | j
    · exact he.trans hR
    rcases j with _ | j
    · exact he.trans hR
    rcases j with _ | j
    · exact he.trans hR
    rcases j with _ | j
    · exact he.trans hR
    rcases j with _ | j
    · exact he.trans hR
    rcases j with _ | j
    · exact he.trans hR
    exact trivial
  · skip
    refine RegG.allOps_cons ?_ ?_
    · intro j b hg vs w hR
      first
        | (cases hg; done)
        | (cases hg; exact hR)
    refine RegG.allOps_cons ?_ ?_
    · intro j b hg vs w hR
      first
        | (cases hg; done)
        | (cases hg; exact hR)
    refine RegG.allOps_cons ?_ ?_
    · intro j b hg vs w hR
      first
        | (cases hg; done)
        | (cases hg; exact hR)
    refine RegG.allOps_cons ?_ ?_
    · intro j b hg vs w hR
      first
        | (cases hg; done)
        | (cases hg; exact hR)
    refine RegG.allOps_cons ?_ ?_
    · intro j b hg vs w hR
      first
        | (cases hg; done)
        | (cases hg; exact hR)
    refine RegG.allOps_cons ?_ ?_
    · intro j b hg vs w hR
      first
        | (cases hg; done)
        | (cases hg; exact hR)
    refine RegG.allOps_cons ?_ ?_
    · intro j b hg vs w hR
      first
        | (cases hg; done)
        | (cases hg; exact hR)
    refine RegG.allOps_cons ?_ ?_
    · intro j b hg vs w hR
      first
        | (cases hg; done)
        | (cases hg; exact hR)
    refine RegG.allOps_cons ?_ ?_
    · intro j b hg vs w hR
      first
        | (cases hg; done)
        | (cases hg; exact hR)
    refine RegG.allOps_cons ?_ ?_
    · intro j b hg vs w hR
      first
        | (cases hg; done)
        | (cases hg; exact hR)
    exact RegG.allOps_nil
  · skip
    refine RegG.allOps_cons ?_ ?_
    · intro vs w0 ρ hρ hcst hglb hfun hI hp
      have e4 : ρ (.tmp 4) = .int .i64 E := hρ (.tmp 4)
      clear hρ hp
      refine RegG.rel_value (.int .i64 E) ?_ ⟨hI, rfl⟩
      go_simp
    refine RegG.allOps_cons ?_ ?_
    · intro vs w0 ρ hρ hcst hglb hfun hI hp
      have e12 : ρ (.tmp 12) = .int .i64 E := (hρ (.tmp 12)).trans (show vs 0 = .int .i64 E from hp 0 rfl)
      clear hρ hp
      refine RegG.rel_call Tryd.func14 (by kernel_rfl) rfl #[.int .i64 E] rfl (hfun _) (by simp [e12]) ?_
      refine (num_any E w0).mono ?_
      rintro e w3 ⟨rfl, hb⟩
      exact ⟨_, rfl, hb, hI.trans (hb.mono hI.size), rfl⟩
    refine RegG.allOps_cons ?_ ?_
    · intro vs w0 ρ hρ hcst hglb hfun hI hp
      have e1 : ρ (.tmp 1) = .pointer (some ⟨ga, 0, none⟩) := hρ (.tmp 1)
      clear hρ hp
      refine RegG.rel_value (.agg (cL c (.slice A ns.length cap)).toArray) (exec_load_mid 24 (.tmp 1) rfl ga 0 e1 _ _ (blk_range (HC3.out.below hI HC3.out.lt).row) Tryd.underlying24 rfl infoC23) ⟨hI, rfl⟩
    refine RegG.allOps_cons ?_ ?_
    · intro vs w0 ρ hρ hcst hglb hfun hI hp
      have e14 : ρ (.tmp 14) = .agg (cL c (.slice A ns.length cap)).toArray := (hρ (.tmp 14)).trans (show vs 2 = .agg (cL c (.slice A ns.length cap)).toArray from hp 2 rfl)
      clear hρ hp
      refine RegG.rel_call Tryd.func15 (by kernel_rfl) rfl #[.agg (cL c (.slice A ns.length cap)).toArray] rfl (hfun _) (by simp [e14]) ?_
      refine (HREF w0 hI).out.mono ?_
      rintro e w3 ⟨rfl, hb⟩
      exact ⟨_, rfl, hb, hI.trans (hb.mono hI.size), rfl⟩
    refine RegG.allOps_cons ?_ ?_
    · intro vs w0 ρ hρ hcst hglb hfun hI hp
      have e13 : ρ (.tmp 13) = .int .i64 E := (hρ (.tmp 13)).trans (show vs 1 = .int .i64 E from hp 1 rfl)
      have e15 : ρ (.tmp 15) = .int .i64 E := (hρ (.tmp 15)).trans (show vs 3 = .int .i64 E from hp 3 rfl)
      clear hρ hp
      refine RegG.rel_value (.bool true) ?_ ⟨hI, rfl⟩
      go_simp
    refine RegG.allOps_cons ?_ ?_
    · intro vs w0 ρ hρ hcst hglb hfun hI hp
      have e16 : ρ (.tmp 16) = .bool true := (hρ (.tmp 16)).trans (show vs 4 = .bool true from hp 4 rfl)
      clear hρ hp
      refine RegG.rel_value (.bool true) ?_ ⟨hI, rfl⟩
      go_simp
    refine RegG.allOps_cons ?_ ?_
    · intro vs w0 ρ hρ hcst hglb hfun hI hp
      have e3 : ρ (.tmp 3) = .pointer (some ⟨gh, 0, none⟩) := hρ (.tmp 3)
      clear hρ hp
      refine RegG.rel_value (.pointer (some ⟨gh, 0, none⟩)) ?_ ⟨hI, rfl⟩
      go_simp
    refine RegG.allOps_cons ?_ ?_
    · intro vs w0 ρ hρ hcst hglb hfun hI hp
      have e18 : ρ (.tmp 18) = .pointer (some ⟨gh, 0, none⟩) := (hρ (.tmp 18)).trans (show vs 6 = .pointer (some ⟨gh, 0, none⟩) from hp 6 rfl)
      clear hρ hp
      refine RegG.rel_call Tryd.func16 (by kernel_rfl) rfl #[.pointer (some ⟨gh, 0, none⟩)] rfl (hfun _) (by simp [e18]) ?_
      refine (HLEFT w0 hI).out.mono ?_
      rintro e w3 ⟨rfl, hb⟩
      exact ⟨_, rfl, hb, hI.trans (hb.mono hI.size), rfl⟩
    refine RegG.allOps_cons ?_ ?_
    · intro vs w0 ρ hρ hcst hglb hfun hI hp
      have e17 : ρ (.tmp 17) = .bool true := (hρ (.tmp 17)).trans (show vs 5 = .bool true from hp 5 rfl)
      have e19 : ρ (.tmp 19) = .bool true := (hρ (.tmp 19)).trans (show vs 7 = .bool true from hp 7 rfl)
      clear hρ hp
      refine RegG.rel_value (.bool true) ?_ ⟨hI, rfl⟩
      go_simp
    refine RegG.allOps_cons ?_ ?_
    · intro vs w0 ρ hρ hcst hglb hfun hI hp
      have e20 : ρ (.tmp 20) = .bool true := (hρ (.tmp 20)).trans (show vs 8 = .bool true from hp 8 rfl)
      clear hρ hp
      refine RegG.rel_value (.bool true) ?_ ⟨hI, rfl⟩
      go_simp
    exact RegG.allOps_nil
  intro vs w0 hI hR
  have r0 : vs 0 = .int .i64 E := hR 0 (by decide)
  have r1 : vs 1 = .int .i64 E := hR 1 (by decide)
  have r2 : vs 2 = .agg (cL c (.slice A ns.length cap)).toArray := hR 2 (by decide)
  have r3 : vs 3 = .int .i64 E := hR 3 (by decide)
  have r4 : vs 4 = .bool true := hR 4 (by decide)
  have r5 : vs 5 = .bool true := hR 5 (by decide)
  have r6 : vs 6 = .pointer (some ⟨gh, 0, none⟩) := hR 6 (by decide)
  have r7 : vs 7 = .bool true := hR 7 (by decide)
  have r8 : vs 8 = .bool true := hR 8 (by decide)
  have r9 : vs 9 = .bool true := hR 9 (by decide)
  simp only [RegG.fillFrom, Act.put, List.setIfInBounds_toArray, List.set_cons_zero, List.set_cons_succ, r0, r1, r2, r3, r4, r5, r6, r7, r8, r9]
  clear hR r0 r1 r2 r3 r4 r5 r6 r7 r8 r9
  go_wp2_with fail
  go_ret
  exact ⟨rfl, HB.out.trans ((HR3.out.trans (hI.mono HR3.out.size)).mono HB.out.size)⟩
end Go.Proofs.YtljjpdjknnhceaaDoor.LawChk

/- RingWalks: Walk and Owners as the document has them. -/
set_option linter.unusedVariables false
set_option linter.unusedSimpArgs false
namespace Go.Proofs.YtljjpdjknnhceaaDoor.LawWalk
open Go.RowKit Go.Proofs.YtljjpdjknnhceaaDoorW.PrintWords Go.Proofs.YtljjpdjknnhceaaDoorW.PrintLast Go.Proofs.YtljjpdjknnhceaaDoorW.PrintMore
open Go.Proofs.YtljjpdjknnhceaaDoor.Base Go.Proofs.YtljjpdjknnhceaaDoor.App Go.Proofs.YtljjpdjknnhceaaDoor.RingPure Go.Proofs.YtljjpdjknnhceaaDoor.ChkPure Go.Proofs.YtljjpdjknnhceaaDoor.Clus Go.Proofs.YtljjpdjknnhceaaDoor.Mids Go.Proofs.YtljjpdjknnhceaaDoor.Chkd Go.Proofs.YtljjpdjknnhceaaDoor.AppR Go.Proofs.YtljjpdjknnhceaaDoor.Ref6 Go.Proofs.YtljjpdjknnhceaaDoor.Name Go.Proofs.YtljjpdjknnhceaaDoor.Hand Go.Proofs.YtljjpdjknnhceaaDoor.HandW Go.Proofs.YtljjpdjknnhceaaDoor.LeftW Go.Proofs.YtljjpdjknnhceaaDoor.RefCheck Go.Proofs.YtljjpdjknnhceaaDoor.Walk Go.Proofs.YtljjpdjknnhceaaDoor.RefOwn Go.Proofs.YtljjpdjknnhceaaDoor.LawChk Go.Proofs.YtljjpdjknnhceaaDoor.Twin
open Go.Proofs.YtljjpdjknnhceaaDoor.SameC (sameInts_yes)
open Go.Proofs.YtljjpdjknnhceaaDoor.Round (own_later2)
theorem wkl_len (c : Cl) (ns : List Nd) (part : Nat) (h : (chkC c ns).1 = 0) : (wkL c ns part).length ≤ 16 := by
  have := setAt_bounds (chk_ok (nm := nmB c.store) h).set
  have := wkL_len c ns part
  omega
theorem wk_len (c : Cl) (ns : List Nd) (part : Int) : (wk c ns part).2.length ≤ 16 := by
  unfold wk
  by_cases h1 : (chkC c ns).1 ≠ 0
  · rw [if_pos h1]; exact Nat.zero_le _
  · rw [if_neg h1]
    split
    · exact Nat.zero_le _
    · rw [List.length_map]; exact wkl_len c ns _ (Classical.byContradiction h1)
theorem ow_len (c : Cl) (ns : List Nd) (part : Int) : (ow c ns part).2.length ≤ 16 := by
  unfold ow
  by_cases h1 : (chkC c ns).1 ≠ 0
  · rw [if_pos h1]; exact Nat.zero_le _
  · rw [if_neg h1]
    split
    · exact Nat.zero_le _
    · rw [List.length_map]; exact wkl_len c ns _ (Classical.byContradiction h1)
set_option maxRecDepth 100000 in
set_option maxHeartbeats 8000000 in
theorem law_walks (c : Cl) (A : Option Addr) (cap : Nat) (ns : List Nd) (part : Int) (w : World) (hN : NodesAt w A ns) (hcap : ns.length ≤ cap) (hs : c.store.size ≤ 2147483647) (hl : ns.length ≤ 1073741824) (hc : cnt ns ≤ 1073741824) (hG : GTab w) :
    Calls Tryd.prog 4 #[.agg (cL c (.slice A ns.length cap)).toArray, .int .i64 part] w fun e w' => e = .returned (.bool true) ∧ Below w.heap.size w w' := by
  have hb0 := (Below.refl w.heap.size w).alloc (Nat.le_refl _) (.cells (cL c (.slice A ns.length cap)).toArray 24)
  have HN := Aside0.mk (hN.below hb0)
  have HG := Aside0.mk (hG.below hb0)
  have HB := Aside0.mk hb0
  have HC : Aside0 (CBox (w.alloc (.cells (cL c (.slice A ns.length cap)).toArray 24)) w.heap.size c (.slice A ns.length cap)) := ⟨⟨Go.heap_alloc_new w _⟩⟩
  clear hN hb0 hG
  go_enter Tryd.func4, Tryd.ntmps4
  go_upto_region 1 with fail
  generalize w.alloc (.cells (cL c (.slice A ns.length cap)).toArray 24) = w1 at HN HB HC HG ⊢
  obtain ⟨ga, hga⟩ : ∃ ga, ga = w.heap.size := ⟨_, rfl⟩
  rw [← hga] at HC ⊢
  clear hga
  have hrg := blk_range HC.out.row
  go_wp2_with ((with_reducible refine gate_load (ty := 24) (x := .tmp 2) rfl ?_); refine wpList_load_mid rfl 24 (.tmp 2) rfl ga 0 rfl (cL c (.slice A ns.length cap)) _ hrg Tryd.underlying24 rfl infoC23 ?_)
  clear hrg
  refine (hand_any c A cap ns w1 HN.out hcap hl hc).mono ?_
  rintro e w2 ⟨hb, gh, gn, cn, A2, cap2, pv, gs, vs2, base, bt, rfl, hh⟩
  have HR2 := Aside0.mk hb
  have HH2 := Aside0.mk hh
  clear hb hh
  obtain ⟨hr1, _⟩ := hand_ranges HH2.out.inv.box
  go_wp2_with ((with_reducible refine gate_load (ty := 24) (x := .tmp 19) rfl ?_); refine wpList_load_mid rfl 24 (.tmp 19) rfl gh 0 rfl (cL c (.slice (some ⟨gn, 0, none⟩) ns.length cn)) _ hr1 Tryd.underlying24 rfl infoC23 ?_)
  clear hr1
  refine (walk_any c (some ⟨gn, 0, none⟩) cn ns part w2 (HandOK.nodes HH2.out) (by have := HH2.out.len; omega) hs (by omega) (by omega)).mono ?_
  rintro e w3 ⟨hb, v1, rfl, ho1⟩
  have HR3 := Aside0.mk (HR2.out.trans (hb.mono HR2.out.size))
  have HH3 := Aside0.mk (HH2.out.below hb)
  have hrg := blk_range ((HC.out.below HR3.out HC.out.lt).row)
  obtain ⟨B1, c1, rfl, hc1⟩ := own_form ho1
  have HO1 := Aside0.mk ho1
  clear hb ho1
  go_wp2_with ((with_reducible refine gate_load (ty := 24) (x := .tmp 2) rfl ?_); refine wpList_load_mid rfl 24 (.tmp 2) rfl ga 0 rfl (cL c (.slice A ns.length cap)) _ hrg Tryd.underlying24 rfl infoC23 ?_)
  clear hrg
  refine (refwalk_any c A cap ns part w3 (HN.out.below HR3.out) hcap hs (by omega) (by omega) (HG.out.below HR3.out)).mono ?_
  rintro e w4 ⟨hb, v2, rfl, ho2⟩
  have HR4 := Aside0.mk (HR3.out.trans (hb.mono HR3.out.size))
  have HH4 := Aside0.mk (HH3.out.below hb)
  have HO3 := Aside0.mk (own_later2 HO1.out hb)
  obtain ⟨B2, c2, rfl, hc2⟩ := own_form ho2
  have HO2 := Aside0.mk ho2
  clear hb ho2
  have HLN := Aside0.mk (wk_len c ns part)
  obtain ⟨E, l, hE⟩ : ∃ E l, wk c ns part = (E, l) := ⟨_, _, rfl⟩
  rw [hE] at hc1 hc2 HO2 HO3 HLN ⊢
  clear hE HO1
  go_wp2_with fail
  refine (sameInts_yes B1 B2 c1 c2 l w4 (own_nums HO3.out) (own_nums HO2.out) hc1 hc2 (by have := HLN.out; omega)).mono ?_
  rintro e w5 ⟨rfl, hd⟩
  have hb := hd.below
  have HR5 := Aside0.mk (HR4.out.trans (hb.mono HR4.out.size))
  have HH5 := Aside0.mk (HH4.out.below hb)
  clear hb hd hc1 hc2 HO2 HO3 HLN
  go_wp2_with fail
  refine (num_any E w5).mono ?_
  rintro e w6 ⟨rfl, hb⟩
  have HR6 := Aside0.mk (HR5.out.trans (hb.mono HR5.out.size))
  have HH6 := Aside0.mk (HH5.out.below hb)
  clear hb
  obtain ⟨hr1, _⟩ := hand_ranges HH6.out.inv.box
  go_wp2_with ((with_reducible refine gate_load (ty := 24) (x := .tmp 44) rfl ?_); refine wpList_load_mid rfl 24 (.tmp 44) rfl gh 0 rfl (cL c (.slice (some ⟨gn, 0, none⟩) ns.length cn)) _ hr1 Tryd.underlying24 rfl infoC23 ?_)
  clear hr1
  refine (owners_any c (some ⟨gn, 0, none⟩) cn ns part w6 (HandOK.nodes HH6.out) (by have := HH6.out.len; omega) hs (by omega) (by omega)).mono ?_
  rintro e w7 ⟨hb, v1, rfl, ho1⟩
  have HR7 := Aside0.mk (HR6.out.trans (hb.mono HR6.out.size))
  have HH7 := Aside0.mk (HH6.out.below hb)
  have hrg := blk_range ((HC.out.below HR7.out HC.out.lt).row)
  obtain ⟨B1, c1, rfl, hc1⟩ := own_form ho1
  have HO1 := Aside0.mk ho1
  clear hb ho1
  go_wp2_with ((with_reducible refine gate_load (ty := 24) (x := .tmp 2) rfl ?_); refine wpList_load_mid rfl 24 (.tmp 2) rfl ga 0 rfl (cL c (.slice A ns.length cap)) _ hrg Tryd.underlying24 rfl infoC23 ?_)
  clear hrg
  refine (refowners_any c A cap ns part w7 (HN.out.below HR7.out) hcap hs (by omega) (by omega) (HG.out.below HR7.out)).mono ?_
  rintro e w8 ⟨hb, v2, rfl, ho2⟩
  have HR8 := Aside0.mk (HR7.out.trans (hb.mono HR7.out.size))
  have HH8 := Aside0.mk (HH7.out.below hb)
  have HO3 := Aside0.mk (own_later2 HO1.out hb)
  obtain ⟨B2, c2, rfl, hc2⟩ := own_form ho2
  have HO2 := Aside0.mk ho2
  clear hb ho2
  have HLN := Aside0.mk (ow_len c ns part)
  obtain ⟨E, l, hE⟩ : ∃ E l, ow c ns part = (E, l) := ⟨_, _, rfl⟩
  rw [hE] at hc1 hc2 HO2 HO3 HLN ⊢
  clear hE HO1
  go_wp2_with fail
  refine (sameInts_yes B1 B2 c1 c2 l w8 (own_nums HO3.out) (own_nums HO2.out) hc1 hc2 (by have := HLN.out; omega)).mono ?_
  rintro e w9 ⟨rfl, hd⟩
  have hb := hd.below
  have HR9 := Aside0.mk (HR8.out.trans (hb.mono HR8.out.size))
  have HH9 := Aside0.mk (HH8.out.below hb)
  clear hb hd hc1 hc2 HO2 HO3 HLN
  go_wp2_with fail
  refine (num_any E w9).mono ?_
  rintro e w10 ⟨rfl, hb⟩
  have HR10 := Aside0.mk (HR9.out.trans (hb.mono HR9.out.size))
  have HH10 := Aside0.mk (HH9.out.below hb)
  clear hb
  go_wp2_with fail
  refine (left_any HH10.out hl hc).mono ?_
  rintro e w11 ⟨rfl, hb⟩
  have HR11 := Aside0.mk (HR10.out.trans (hb.mono HR10.out.size))
  clear hb
  go_wp2_with fail
  go_ret
  exact ⟨rfl, HB.out.trans (HR11.out.mono HB.out.size)⟩
end Go.Proofs.YtljjpdjknnhceaaDoor.LawWalk

/-
  FOR A PROOF OF AN '..UptoSaid': WHAT THE BOUND GIVES. Copy it as <Name>Bulk.lean (put your seat's Name for YtljjpdjknnhceaaDoor, the bound of 'uptoSmall' for 1048576), name it in GOCLAIM.json's 'order' behind <Name>Rows. By an AI agent, Sun Nov 15 2026. No person has read it. No macro, syntax, notation, axiom, sorry.
-/
namespace Go.Proofs.YtljjpdjknnhceaaDoor.bulks

theorem one_le {H : Type} (d : DataW H) : 1 ≤ Rows.uptoBulk d := by
  cases d with
  | lit l => cases l <;> simp [Rows.uptoBulk]
  | nil => simp [Rows.uptoBulk]
  | ptr d => simp [Rows.uptoBulk]
  | slice elems spare => simp [Rows.uptoBulk]
  | agg parts => simp [Rows.uptoBulk]
  | iface t d => simp [Rows.uptoBulk]
  | map entries => simp [Rows.uptoBulk]
  | held h => simp [Rows.uptoBulk]

/-- a part's bulk is at most the whole's -/
theorem part_le {H : Type} {d : DataW H} {l : List (DataW H)} (h : d ∈ l) : Rows.uptoBulk d ≤ Rows.uptoBulkAll l := by
  induction l with
  | nil => cases h
  | cons x r ih =>
    simp only [Rows.uptoBulkAll]
    cases List.mem_cons.1 h with
    | inl e => subst e; omega
    | inr e => have := ih e; omega

theorem append {H : Type} (l r : List (DataW H)) : Rows.uptoBulkAll (l ++ r) = Rows.uptoBulkAll l + Rows.uptoBulkAll r := by
  induction l with
  | nil => simp [Rows.uptoBulkAll]
  | cons x l ih => simp only [List.cons_append, Rows.uptoBulkAll, ih]; omega

/-- so many values at the most -/
theorem length_le {H : Type} (l : List (DataW H)) : l.length ≤ Rows.uptoBulkAll l := by
  induction l with
  | nil => simp [Rows.uptoBulkAll]
  | cons x r ih => have := one_le x; simp only [Rows.uptoBulkAll, List.length_cons]; omega

/-- a slice's places, and what they hold -/
theorem slice_le {H : Type} (elems spare : List (DataW H)) : elems.length + spare.length + 1 ≤ Rows.uptoBulk (.slice elems spare) := by
  have h1 := length_le elems
  have h2 := length_le spare
  simp only [Rows.uptoBulk]
  omega
theorem slice_elems {H : Type} (elems spare : List (DataW H)) : Rows.uptoBulkAll elems + 1 ≤ Rows.uptoBulk (.slice elems spare) := by
  simp only [Rows.uptoBulk]
  omega

/-- a string's letters -/
theorem string_eq {H : Type} (bytes : List UInt8) : Rows.uptoBulk (DataW.lit (H := H) (.string bytes)) = bytes.length + 1 := by
  simp [Rows.uptoBulk]

/-- THE BOUND, as the builder hands it over ('hk') -/
theorem bound {H : Type} {l : List (DataW H)} (hk : Rows.uptoSmall H l = true) : Rows.uptoBulkAll l ≤ 1048576 := by
  simpa [Rows.uptoSmall] using hk

/-- ROOM: a slice of n elements of b bytes, grown by append: below the 2^48 bytes that append, make and a Builder bear. Here n up to 2^21, b up to 4,096: put your own numbers. -/
theorem room {n b : Nat} (hn : n ≤ 2097152) (hb : b ≤ 4096) : (n + n / 4 + 192) * b ≤ 281474976710656 := by
  have h : (n + n / 4 + 192) * b ≤ 2621632 * 4096 := Nat.mul_le_mul (by omega) hb
  omega

end Go.Proofs.YtljjpdjknnhceaaDoor.bulks

/- A definition as an argument. -/
set_option linter.unusedVariables false
set_option linter.unusedSimpArgs false
namespace Go.Proofs.YtljjpdjknnhceaaDoor.OpenC
open Go.ChangeShapes Go.WideShapes Go.ChangeAt Go.RowKit Go.Joins Go.Deep
open Go.Proofs.YtljjpdjknnhceaaDoorW.PrintWords
open Go.Proofs.YtljjpdjknnhceaaDoor.Base Go.Proofs.YtljjpdjknnhceaaDoor.RingPure Go.Proofs.YtljjpdjknnhceaaDoor.ChkPure Go.Proofs.YtljjpdjknnhceaaDoor.Clus
theorem list23 {α : Type} {l : List α} (h : l.length = 23) : ∃ c0 c1 c2 c3 c4 c5 c6 c7 c8 c9 c10 c11 c12 c13 c14 c15 c16 c17 c18 c19 c20 c21 c22, l = [c0, c1, c2, c3, c4, c5, c6, c7, c8, c9, c10, c11, c12, c13, c14, c15, c16, c17, c18, c19, c20, c21, c22] := by
  match l, h with
  | [c0, c1, c2, c3, c4, c5, c6, c7, c8, c9, c10, c11, c12, c13, c14, c15, c16, c17, c18, c19, c20, c21, c22], _ => exact ⟨c0, c1, c2, c3, c4, c5, c6, c7, c8, c9, c10, c11, c12, c13, c14, c15, c16, c17, c18, c19, c20, c21, c22, rfl⟩
theorem c3 : Tryd.prog.cellsOf 3 = 1 := by kernel_rfl
theorem c9 : Tryd.prog.cellsOf 9 = 1 := by kernel_rfl
theorem cC : Tryd.prog.cellsOf 24 = 23 := by kernel_rfl
theorem cN : Tryd.prog.cellsOf 56 = 2 := by kernel_rfl
theorem cI : Tryd.prog.cellsOf 36 = 1 := by kernel_rfl
theorem cS : Tryd.prog.cellsOf 22 = 1 := by kernel_rfl
theorem spot_none {w : World} {a : Addr} {v : Value} (h : w.cell? a = some v) : a = ⟨a.block, a.off, none⟩ := by
  cases a with
  | mk b o s =>
    cases s with
    | none => rfl
    | some x =>
      unfold World.cell? at h
      split at h
      · simp at h
      · cases h
theorem add_none (b o j : Nat) : (⟨b, o, none⟩ : Addr).add j = ⟨b, o + j, none⟩ := by unfold Addr.add; split <;> simp_all
theorem add_zero (a : Addr) : a.add 0 = a := by unfold Addr.add; simp
theorem bulk_lits {H : Type} (k : IntKind) (zs : List Int) : Rows.uptoBulkAll (lits (H := H) k zs) = zs.length := by
  induction zs with
  | nil => rfl
  | cons s l ih =>
    simp only [lits, List.map_cons, Rows.uptoBulkAll, Rows.uptoBulk, List.length_cons] at ih ⊢
    rw [ih]; omega
theorem bulk_nodes {H : Type} (D : Nat → DataW H) (l : List Nd) : ∀ n, (∀ i x, l[i]? = some x → 1 + x.2.length ≤ Rows.uptoBulk (D (n + i))) → l.length + cnt l ≤ Rows.uptoBulkAll ((List.range' n l.length).map D) := by
  induction l with
  | nil => intro n _; exact Nat.zero_le _
  | cons o l ih =>
    intro n h
    have h0 := h 0 o rfl
    have := ih (n + 1) (fun i x hi => by
      have e := h (i + 1) x (by simpa using hi)
      rw [show n + 1 + i = n + (i + 1) by omega]
      exact e)
    have h3 : cnt (o :: l) = o.2.length + cnt l := by simp [cnt]
    rw [h3]
    simp only [List.length_cons, List.range'_succ, List.map_cons, Rows.uptoBulkAll] at this ⊢
    rw [Nat.add_zero] at h0
    omega
/-- a list of numbers in a cell -/
theorem open_list {H : Type} {enc : TypeId × Value → H} {W : World} {base fuel : Nat} {sp : Nat → Bool} {held : Bool} {cs : List Value} {d : DataW H × List MemPlace}
    (hf : DataW.trod enc Tryd.prog W base sp held fuel 36 cs = some d) : ∃ (l : List Int) (B : Option Addr) (c : Nat), cs = [.slice B l.length c] ∧ (l.length ≤ c ∧ SlOK B l.length c) ∧ NumsAt W B l ∧ l.length ≤ Rows.uptoBulk d.1 := by
  rcases open_ints Tryd.underlying36 Tryd.underlying3 c3 hf with ⟨hcs, hx⟩ | ⟨x, l, c, zs, hcs, _, hl, hm, hss, hx, hcell, hws⟩
  · exact ⟨[], none, 0, hcs, ⟨Nat.le_refl _, .inl ⟨rfl, rfl, rfl⟩⟩, .inl rfl, Nat.zero_le _⟩
  · have hge : l ≤ zs.length := by rw [hss]; split <;> omega
    have hlen : (zs.take l).length = l := by simp; omega
    refine ⟨zs.take l, some x, c, by rw [hlen]; exact hcs, ⟨by omega, .inr ⟨x, rfl⟩⟩, ?_, ?_⟩
    · by_cases h0 : l = 0
      · left; subst h0; rfl
      · right
        have h1 := hcell 0 (by omega)
        rw [add_zero] at h1
        have hx2 := spot_none h1
        refine ⟨x.block, x.off, by rw [← hx2], fun i y hy => ?_⟩
        have hil : i < l := by have := (List.getElem?_eq_some_iff.1 hy).1; omega
        have h2 := hcell i (by omega)
        rw [hx2, add_none] at h2
        rw [h2]
        rw [List.getElem?_take, if_pos hil] at hy
        simp [List.getD_eq_getElem?_getD, hy]
    · rw [hx]
      simp only [Rows.uptoBulk]
      rw [bulk_lits]; omega
/-- the list of the nodes in a cell -/
theorem open_nodes {H : Type} {enc : TypeId × Value → H} {W : World} {base fuel : Nat} {sp : Nat → Bool} {held : Bool} {cs : List Value} {d : DataW H × List MemPlace}
    (hf : DataW.trod enc Tryd.prog W base sp held fuel 22 cs = some d) : ∃ (ns : List Nd) (A : Option Addr) (cap : Nat), cs = [.slice A ns.length cap] ∧ ns.length ≤ cap ∧ NodesAt W A ns ∧ ns.length + cnt ns ≤ Rows.uptoBulk d.1 := by
  rcases open_slice Tryd.underlying22 hf with ⟨hcs, hx⟩ | ⟨a, len, cap, m, k, D, Pl, hcs, hb, hl, hm, hmm, hx, hel⟩
  · exact ⟨[], none, 0, hcs, Nat.le_refl _, .inl rfl, Nat.zero_le _⟩
  · have hlm : len ≤ m := by rw [hmm]; split <;> omega
    have each : ∀ i, i < len → ∃ x : Nd, (∃ B c, W.cell? (a.add (i * 2)) = some (.int .i64 x.1) ∧ W.cell? ((a.add (i * 2)).add 1) = some (.slice B x.2.length c) ∧ (x.2.length ≤ c ∧ SlOK B x.2.length c) ∧ NumsAt W B x.2) ∧ 1 + x.2.length ≤ Rows.uptoBulk (D i) := by
      intro i hi
      obtain ⟨cs', h1, h2⟩ := hel i (by omega)
      rw [cN] at h1
      obtain ⟨_, hlen, hcell⟩ := World.cells?_some h1
      obtain ⟨y0, y1, k2, hxy, _, g0, g1⟩ := trod_struct2 Tryd.underlying56 h2
      simp only [c3, cI, List.drop_zero] at g0 g1
      obtain ⟨z, hz1, _, _⟩ := DataW.trod_int Tryd.underlying3 g0
      obtain ⟨l, B, c, hl1, hl2, hl3, hl4⟩ := open_list g1
      have hcs' : cs' = [.int .i64 z, .slice B l.length c] := by
        have e : cs' = cs'.take 1 ++ (cs'.drop 1).take 1 := by
          have e2 : (cs'.drop 1).take 1 = cs'.drop 1 := List.take_of_length_le (by rw [List.length_drop, hlen]; decide)
          rw [e2, List.take_append_drop]
        rw [e, hz1, hl1]
        rfl
      refine ⟨(z, l), ⟨B, c, ?_, ?_, hl2, hl3⟩, ?_⟩
      · have := hcell 0 (by omega)
        rw [hcs', add_zero] at this
        exact this
      · have := hcell 1 (by omega)
        rw [hcs'] at this
        exact this
      · have hD : D i = .agg [y0.1, y1.1] := by simpa using congrArg Prod.fst hxy
        rw [hD]
        simp only [Rows.uptoBulk, Rows.uptoBulkAll]
        have := bulks.one_le y0.1
        show 1 + l.length ≤ _
        omega
    obtain ⟨f, hfo⟩ := choose_lt each
    have hget : ∀ i x, ((List.range len).map f)[i]? = some x → i < len ∧ f i = x := by
      intro i x hx
      simp only [List.getElem?_map, Option.map_eq_some_iff] at hx
      obtain ⟨q, hq, rfl⟩ := hx
      have hkl : i < len := by
        rcases Nat.lt_or_ge i len with h | h
        · exact h
        · rw [List.getElem?_eq_none (by simpa using h)] at hq; cases hq
      rw [List.getElem?_range hkl] at hq
      cases hq
      exact ⟨hkl, rfl⟩
    refine ⟨(List.range len).map f, some a, cap, by simpa using hcs, by simpa using hl, ?_, ?_⟩
    · by_cases h0 : len = 0
      · left; subst h0; rfl
      · right
        obtain ⟨⟨B0, c0, k0, _⟩, _⟩ := hfo 0 (by omega)
        rw [Nat.zero_mul, add_zero] at k0
        have ha := spot_none k0
        refine ⟨a.block, a.off, by rw [← ha], fun i x hi => ?_⟩
        obtain ⟨hil, rfl⟩ := hget i x hi
        obtain ⟨⟨B, c, k1, k2, k3, k4⟩, _⟩ := hfo i hil
        rw [ha, add_none] at k1 k2
        rw [add_none] at k2
        exact ⟨k1, B, c, k2, k3, k4⟩
    · rw [hx]
      simp only [Rows.uptoBulk]
      have := bulk_nodes (H := H) D ((List.range len).map f) 0 (fun i x hi => by
        obtain ⟨hk, rfl⟩ := hget i x hi
        rw [Nat.zero_add]
        exact (hfo i hk).2)
      simp only [List.length_map, List.length_range] at this ⊢
      rw [← List.range_eq_range'] at this
      omega
set_option maxRecDepth 100000 in
set_option maxHeartbeats 2000000 in
theorem open_cluster {H : Type} {enc : TypeId × Value → H} {W : World} {r : Reach} {b0 base : Nat} {sp : Nat → Bool} {held : Bool} {v : Value} {d : DataW H} {p : List MemPlace}
    (hv : Value.okWide Tryd.prog W r b0 24 v) (h : DataW.Trod enc Tryd.prog W base sp held 24 v d p) :
    ∃ (c : Cl) (A : Option Addr) (cap : Nat) (ns : List Nd), v = .agg (cL c (.slice A ns.length cap)).toArray ∧ NodesAt W A ns ∧ ns.length ≤ cap ∧ c.store.size + ns.length + cnt ns ≤ Rows.uptoBulk d := by
  obtain ⟨⟨l⟩, rfl, hsz⟩ := okWide_struct Tryd.underlying24 hv
  rw [cC] at hsz
  obtain ⟨x0, x1, x2, x3, x4, x5, x6, x7, x8, x9, x10, x11, x12, x13, x14, x15, x16, x17, x18, x19, x20, x21, x22, rfl⟩ := list23 (l := l) (by simpa using hsz)
  obtain ⟨fuel, hf⟩ := h
  obtain ⟨xs, n, _, hd, _, hxl, hg⟩ := DataW.trod_struct Tryd.underlying24 hf
  obtain ⟨u0, u1, u2, u3, u4, u5, u6, u7, u8, u9, u10, u11, u12, u13, u14, u15, u16, u17, u18, u19, u20, u21, u22, rfl⟩ := list23 (l := xs) hxl
  have g0 := hg 0 _ rfl
  have g1 := hg 1 _ rfl
  have g2 := hg 2 _ rfl
  have g3 := hg 3 _ rfl
  have g4 := hg 4 _ rfl
  have g5 := hg 5 _ rfl
  have g6 := hg 6 _ rfl
  have g7 := hg 7 _ rfl
  have g8 := hg 8 _ rfl
  have g9 := hg 9 _ rfl
  have g10 := hg 10 _ rfl
  have g11 := hg 11 _ rfl
  have g12 := hg 12 _ rfl
  have g13 := hg 13 _ rfl
  have g14 := hg 14 _ rfl
  have g15 := hg 15 _ rfl
  have g16 := hg 16 _ rfl
  have g17 := hg 17 _ rfl
  have g18 := hg 18 _ rfl
  have g19 := hg 19 _ rfl
  have g20 := hg 20 _ rfl
  have g21 := hg 21 _ rfl
  have g22 := hg 22 _ rfl
  simp only [c3, c9, cS, Value.cells, List.drop_succ_cons, List.drop_zero, List.take_succ_cons, List.take_zero, List.getElem_toArray, List.getElem_cons_zero, List.getElem_cons_succ, List.getElem?_cons_zero, List.getElem?_cons_succ] at g0 g1 g2 g3 g4 g5 g6 g7 g8 g9 g10 g11 g12 g13 g14 g15 g16 g17 g18 g19 g20 g21 g22
  obtain ⟨a0, e0, z0, _⟩ := DataW.trod_string Tryd.underlying9 g0
  obtain ⟨a1, e1, _, _⟩ := DataW.trod_int Tryd.underlying3 g1
  obtain ⟨a2, e2, _, _⟩ := DataW.trod_int Tryd.underlying3 g2
  obtain ⟨a3, e3, _, _⟩ := DataW.trod_int Tryd.underlying3 g3
  obtain ⟨a4, e4, _, _⟩ := DataW.trod_int Tryd.underlying3 g4
  obtain ⟨a5, e5, _, _⟩ := DataW.trod_int Tryd.underlying3 g5
  obtain ⟨a6, e6, _, _⟩ := DataW.trod_int Tryd.underlying3 g6
  obtain ⟨a7, e7, _, _⟩ := DataW.trod_int Tryd.underlying3 g7
  obtain ⟨a8, e8, _, _⟩ := DataW.trod_int Tryd.underlying3 g8
  obtain ⟨a9, e9, _, _⟩ := DataW.trod_int Tryd.underlying3 g9
  obtain ⟨a10, e10, _, _⟩ := DataW.trod_int Tryd.underlying3 g10
  obtain ⟨a11, e11, _, _⟩ := DataW.trod_int Tryd.underlying3 g11
  obtain ⟨a12, e12, _, _⟩ := DataW.trod_int Tryd.underlying3 g12
  obtain ⟨a13, e13, _, _⟩ := DataW.trod_int Tryd.underlying3 g13
  obtain ⟨a14, e14, _, _⟩ := DataW.trod_int Tryd.underlying3 g14
  obtain ⟨a15, e15, _, _⟩ := DataW.trod_int Tryd.underlying3 g15
  obtain ⟨a16, e16, _, _⟩ := DataW.trod_int Tryd.underlying3 g16
  obtain ⟨a17, e17, _, _⟩ := DataW.trod_int Tryd.underlying3 g17
  obtain ⟨a18, e18, _, _⟩ := DataW.trod_int Tryd.underlying3 g18
  obtain ⟨a19, e19, _, _⟩ := DataW.trod_int Tryd.underlying3 g19
  obtain ⟨a20, e20, _, _⟩ := DataW.trod_int Tryd.underlying3 g20
  obtain ⟨a21, e21, _, _⟩ := DataW.trod_int Tryd.underlying3 g21
  obtain ⟨ns, A, cap, e22, hcap, hN, hbk⟩ := open_nodes g22
  simp only [List.cons.injEq, and_true] at e0 e1 e2 e3 e4 e5 e6 e7 e8 e9 e10 e11 e12 e13 e14 e15 e16 e17 e18 e19 e20 e21 e22
  subst e0 e1 e2 e3 e4 e5 e6 e7 e8 e9 e10 e11 e12 e13 e14 e15 e16 e17 e18 e19 e20 e21 e22
  refine ⟨⟨a0, a1, a2, a3, a4, a5, a6, a7, a8, a9, a10, a11, a12, a13, a14, a15, a16, a17, a18, a19, a20, a21⟩, A, cap, ns, rfl, hN, hcap, ?_⟩
  have hd2 := congrArg Prod.fst hd
  simp only at hd2
  rw [hd2]
  have h0 : a0.size ≤ Rows.uptoBulk u0.1 := by
    rw [z0]
    simp only [Rows.uptoBulk, Array.length_toList]
    have : a0.data.size = a0.size := rfl
    omega
  simp only [List.map_cons, List.map_nil, Rows.uptoBulk, Rows.uptoBulkAll]
  show a0.size + _ + _ ≤ _
  omega
end Go.Proofs.YtljjpdjknnhceaaDoor.OpenC

/- The table that the ring's rows lay down, as the walks ask it. -/
set_option linter.unusedVariables false
set_option linter.unusedSimpArgs false
namespace Go.Proofs.YtljjpdjknnhceaaDoor.LaidR
open Go.RowKit
open Go.Proofs.YtljjpdjknnhceaaDoor.Base Go.Proofs.YtljjpdjknnhceaaDoor.ChkPure Go.Proofs.YtljjpdjknnhceaaDoor.Ref6
theorem gGreat : Tryd.prog.globalNamed "granary/granaryref6.greatest" = some 1 := by kernel_rfl
theorem gtab_of {W : World} {r : List (String × DataW Unit)} (h : laidMet Tryd.prog (("granary/granaryref6.greatest", Lib.tabData .i64 most) :: r) W) : GTab W := by
  have hT := Lib.tabIs_of_head (t := 102) gGreat (by kernel_rfl) Tryd.underlying102 Tryd.underlying3 (by kernel_rfl) (by kernel_rfl) h
  intro i hi
  exact hT.cell gGreat i (by simpa [most] using hi)
end Go.Proofs.YtljjpdjknnhceaaDoor.LaidR
