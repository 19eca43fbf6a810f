/- Joined texts of this claim: RefNameR, ReadThree, RefName2, NumW -/
import Derived.Test.YtljjpdjknnhceaaDoorJRNam11
import Derived.Test.YtljjpdjknnhceaaDoorJRNam12
import Derived.Test.YtljjpdjknnhceaaDoorJRNam14
import Derived.Test.YtljjpdjknnhceaaDoorJRNam13
import Derived.Test.YtljjpdjknnhceaaDoorJRNam19
import Derived.Test.YtljjpdjknnhceaaDoorJRNam6
import Derived.Test.YtljjpdjknnhceaaDoorJRNam10
import Derived.Test.YtljjpdjknnhceaaDoorJRNam2
import Derived.Test.YtljjpdjknnhceaaDoorJRNam9
set_option linter.unusedVariables false
set_option linter.unusedSimpArgs false
/- The document's ReadName, the region that reads the numbers. -/
set_option linter.unusedVariables false
set_option linter.unusedSimpArgs false
namespace Go.Proofs.YtljjpdjknnhceaaDoor.RefNameR
open Go.RowKit Go.Proofs.YtljjpdjknnhceaaDoorW.PrintWords Go.Proofs.YtljjpdjknnhceaaDoorW.PrintLast Go.Proofs.YtljjpdjknnhceaaDoorW.PrintMore
open Go.Lib Go.Proofs.YtljjpdjknnhceaaDoor.Base Go.Proofs.YtljjpdjknnhceaaDoor.Mids Go.Proofs.YtljjpdjknnhceaaDoor.Clus Go.Proofs.YtljjpdjknnhceaaDoor.Chkd Go.Proofs.YtljjpdjknnhceaaDoor.AppR Go.Proofs.YtljjpdjknnhceaaDoor.TwinW Go.Proofs.YtljjpdjknnhceaaDoor.WithV Go.Proofs.YtljjpdjknnhceaaDoor.MadeV Go.Proofs.YtljjpdjknnhceaaDoor.NumPure Go.Proofs.YtljjpdjknnhceaaDoor.CutPure Go.Proofs.YtljjpdjknnhceaaDoor.NamePure Go.Proofs.YtljjpdjknnhceaaDoor.NumR Go.Proofs.YtljjpdjknnhceaaDoor.FileN Go.Proofs.YtljjpdjknnhceaaDoor.RefName Go.Proofs.YtljjpdjknnhceaaDoor.RegA
def fvL (f : FI) : List Value := [.int .i64 f.p, .int .i64 f.r, .int .i64 f.c, .bool f.d]
theorem built_f (x y z : Int) (d : Bool) : Tryd.prog.built 70 [(0, .int .i64 x), (1, .int .i64 y), (2, .int .i64 z), (3, .bool d)] = some (fvL ⟨x, y, z, d⟩).toArray := by kernel_rfl
set_option maxRecDepth 100000 in
set_option maxHeartbeats 4000000 in
theorem rnm7 (Q : Exit → Act → World → Prop) (a0 : Act) (wi : World) (b o b2 o2 c1 c2 : Nat) (f f2 : Option Nat) (A B D E : ByteArray) (h1 : 2 ≤ c1) (h2 : 3 ≤ c2)
    (HA : Aside0 (wi.cell? ((⟨b2, o2, f2⟩ : Addr).add 0) = some (.string A))) (HB : Aside0 (wi.cell? ((⟨b2, o2, f2⟩ : Addr).add 1) = some (.string B))) (HD : Aside0 (wi.cell? ((⟨b2, o2, f2⟩ : Addr).add 2) = some (.string D))) (HE : Aside0 (wi.cell? ((⟨b, o, f⟩ : Addr).add 1) = some (.string E)))
    (hN : a0.tmps.size = 59) (h5 : a0.tmps.getD 5 undef = .slice (some ⟨b2, o2, f2⟩) 3 c2) (h4 : a0.tmps.getD 4 undef = .slice (some ⟨b, o, f⟩) 2 c1)
    (hQ : ∀ (wv : World) (gv : Nat), wi.heap.size ≤ gv → Below wi.heap.size wi wv → wv.heap[gv]? = some (.cells (fvL ⟨numI A.data.toList, numI B.data.toList, numI D.data.toList, decide (E.data.toList = dataW)⟩).toArray 70 (0, 0)) → Q .normal (putV [(some 28, .slice (some ⟨b2, o2, f2⟩) 3 c2), (some 29, .pointer (some ((⟨b2, o2, f2⟩ : Addr).add 0))), (some 30, .string A), (some 31, .int .i64 (numI A.data.toList)), (some 32, .slice (some ⟨b2, o2, f2⟩) 3 c2), (some 33, .pointer (some ((⟨b2, o2, f2⟩ : Addr).add 1))), (some 34, .string B), (some 35, .int .i64 (numI B.data.toList)), (some 36, .slice (some ⟨b2, o2, f2⟩) 3 c2), (some 37, .pointer (some ((⟨b2, o2, f2⟩ : Addr).add 2))), (some 38, .string D), (some 39, .int .i64 (numI D.data.toList)), (some 40, .slice (some ⟨b, o, f⟩) 2 c1), (some 41, .pointer (some ((⟨b, o, f⟩ : Addr).add 1))), (some 42, .string E), (some 43, .bool (decide (E.data.toList = dataW))), (some 44, .agg (fvL ⟨numI A.data.toList, numI B.data.toList, numI D.data.toList, decide (E.data.toList = dataW)⟩).toArray), (some 6, .pointer (some ⟨gv, 0, none⟩)), (none, undef)] a0) wv) :
    Code.wp Tryd.prog (regC 7 Tryd.f36) Q a0 wi := by
  conv => arg 2; whnf
  refine Reg.wp_region_rel _ (by kernel_rfl) _ _ _ hN (by kernel_rfl) (fun w' => Below wi.heap.size wi w') (fun i w w' => if i = 18 then ∃ g : Nat, wi.heap.size ≤ g ∧ w' = w.setCells g 0 (fvL ⟨numI A.data.toList, numI B.data.toList, numI D.data.toList, decide (E.data.toList = dataW)⟩) else Below w.heap.size w w') (fun jq vs w' => match jq with
    | 0 => vs 0 = .slice (some ⟨b2, o2, f2⟩) 3 c2
    | 1 => vs 1 = .pointer (some ((⟨b2, o2, f2⟩ : Addr).add 0))
    | 2 => vs 2 = .string A
    | 3 => vs 3 = .int .i64 (numI A.data.toList)
    | 4 => vs 4 = .slice (some ⟨b2, o2, f2⟩) 3 c2
    | 5 => vs 5 = .pointer (some ((⟨b2, o2, f2⟩ : Addr).add 1))
    | 6 => vs 6 = .string B
    | 7 => vs 7 = .int .i64 (numI B.data.toList)
    | 8 => vs 8 = .slice (some ⟨b2, o2, f2⟩) 3 c2
    | 9 => vs 9 = .pointer (some ((⟨b2, o2, f2⟩ : Addr).add 2))
    | 10 => vs 10 = .string D
    | 11 => vs 11 = .int .i64 (numI D.data.toList)
    | 12 => vs 12 = .slice (some ⟨b, o, f⟩) 2 c1
    | 13 => vs 13 = .pointer (some ((⟨b, o, f⟩ : Addr).add 1))
    | 14 => vs 14 = .string E
    | 15 => vs 15 = .bool (decide (E.data.toList = dataW))
    | 16 => vs 16 = .agg (fvL ⟨numI A.data.toList, numI B.data.toList, numI D.data.toList, decide (E.data.toList = dataW)⟩).toArray
    | 17 => ∃ g : Nat, (vs 17) = .pointer (some ⟨g, 0, none⟩) ∧ wi.heap.size ≤ g ∧ (w'.heap[g]? = some (.cells (flL fl0).toArray 70 (0, 0)) ∨ w'.heap[g]? = some (.cells (fvL ⟨numI A.data.toList, numI B.data.toList, numI D.data.toList, decide (E.data.toList = dataW)⟩).toArray 70 (0, 0)))
    | 18 => ∃ g : Nat, vs 17 = .pointer (some ⟨g, 0, none⟩) ∧ wi.heap.size ≤ g ∧ w'.heap[g]? = some (.cells (fvL ⟨numI A.data.toList, numI B.data.toList, numI D.data.toList, decide (E.data.toList = dataW)⟩).toArray 70 (0, 0))
    | _ => True) (below_drew (Below.refl _ _)) ?_ ?_ ?_ ?_
  · intro i j vs w0 w' hij hI hR hb
    rcases j with _ | j
    · exact hR
    rcases j with _ | j
    · exact hR
    rcases j with _ | j
    · exact hR
    rcases j with _ | j
    · exact hR
    rcases j with _ | j
    · exact hR
    rcases j with _ | j
    · exact hR
    rcases j with _ | j
    · exact hR
    rcases j with _ | j
    · exact hR
    rcases j with _ | j
    · exact hR
    rcases j with _ | j
    · exact hR
    rcases j with _ | j
    · exact hR
    rcases j with _ | j
    · exact hR
    rcases j with _ | j
    · exact hR
    rcases j with _ | j
    · exact hR
    rcases j with _ | j
    · exact hR
    rcases j with _ | j
    · exact hR
    rcases j with _ | j
    · exact hR
    rcases j with _ | j
    · obtain ⟨g, hv, hg, hblk⟩ := hR
      by_cases hi18 : i = 18
      · subst hi18
        obtain ⟨g', hg', hw⟩ := (show ∃ g : Nat, wi.heap.size ≤ g ∧ w' = w0.setCells g 0 (fvL ⟨numI A.data.toList, numI B.data.toList, numI D.data.toList, decide (E.data.toList = dataW)⟩) from hb)
        refine ⟨g, hv, hg, ?_⟩
        by_cases hgg : g = g'
        · subst hgg
          rw [hw]
          rcases hblk with h | h
          · exact .inr (setCells_whole h rfl)
          · exact .inr (setCells_whole h rfl)
        · rw [hw, setCells_other g' hgg]
          exact hblk
      · have hb' : Below w0.heap.size w0 w' := by simp only [if_neg hi18] at hb; exact hb
        have hlt : g < w0.heap.size := by rcases hblk with h | h <;> exact blk_lt h
        exact ⟨g, hv, hg, by rw [hb'.block _ hlt]; exact hblk⟩
    rcases j with _ | j
    · obtain ⟨g, hv, hg, hblk⟩ := hR
      have hb' : Below w0.heap.size w0 w' := by simp only [if_neg hij] at hb; exact hb
      exact ⟨g, hv, hg, (hb'.block _ (blk_lt hblk)).trans hblk⟩
    exact trivial
  · intro j o vs vs1 w0 ho he hp hR
    rcases j with _ | j
    · exact he.trans hR
    rcases j with _ | j
    · exact he.trans hR
    rcases j with _ | j
    · exact he.trans hR
    rcases j with _ | j
    · exact he.trans hR
    rcases j with _ | j
    · exact he.trans hR
    rcases j with _ | j
    · exact he.trans hR
    rcases j with _ | j
    · exact he.trans hR
    rcases j with _ | j
    · exact he.trans hR
    rcases j with _ | j
    · exact he.trans hR
    rcases j with _ | j
    · exact he.trans hR
    rcases j with _ | j
    · exact he.trans hR
    rcases j with _ | j
    · exact he.trans hR
    rcases j with _ | j
    · exact he.trans hR
    rcases j with _ | j
    · exact he.trans hR
    rcases j with _ | j
    · exact he.trans hR
    rcases j with _ | j
    · exact he.trans hR
    rcases j with _ | j
    · exact he.trans hR
    rcases j with _ | j
    · show ∃ g : Nat, (vs1 17) = .pointer (some ⟨g, 0, none⟩) ∧ wi.heap.size ≤ g ∧ (w0.heap[g]? = some (.cells (flL fl0).toArray 70 (0, 0)) ∨ w0.heap[g]? = some (.cells (fvL ⟨numI A.data.toList, numI B.data.toList, numI D.data.toList, decide (E.data.toList = dataW)⟩).toArray 70 (0, 0)))
      rw [he]; exact hR
    rcases j with _ | j
    · obtain ⟨g, hv, hg, hblk⟩ := hR
      exact ⟨g, (hp 17 (by have := Option.some.inj ho; subst this; rfl)).trans hv, hg, hblk⟩
    exact trivial
  · skip
    refine Reg.allOps_cons ?_ ?_
    · intro vs w0 ρ hρ hcst hglb hfun hI hp
      have e5 : ρ (.tmp 5) = .slice (some ⟨b2, o2, f2⟩) 3 c2 := (hρ (.tmp 5)).trans h5
      clear hρ hp
      refine Reg.rel_value (.slice (some ⟨b2, o2, f2⟩) 3 c2) ?_ ⟨hI, rfl⟩
      go_simp
    refine Reg.allOps_cons ?_ ?_
    · intro vs w0 ρ hρ hcst hglb hfun hI hp
      have e28 : ρ (.tmp 28) = .slice (some ⟨b2, o2, f2⟩) 3 c2 := (hρ (.tmp 28)).trans (show vs 0 = .slice (some ⟨b2, o2, f2⟩) 3 c2 from hp 0 rfl)
      clear hρ hp
      refine Reg.rel_value (.pointer (some ((⟨b2, o2, f2⟩ : Addr).add 0))) ?_ ⟨hI, rfl⟩
      go_simp
    refine Reg.allOps_cons ?_ ?_
    · intro vs w0 ρ hρ hcst hglb hfun hI hp
      have e29 : ρ (.tmp 29) = .pointer (some ((⟨b2, o2, f2⟩ : Addr).add 0)) := (hρ (.tmp 29)).trans (show vs 1 = .pointer (some ((⟨b2, o2, f2⟩ : Addr).add 0)) from hp 1 rfl)
      clear hρ hp
      have hl2 : w0.cell? ⟨b2, o2, f2⟩ = some (.string A) := cell_below hI (Nat.le_refl _) HA.out
      refine Reg.rel_value (.string A) ?_ ⟨hI, rfl⟩
      clear hI
      go_simp
    refine Reg.allOps_cons ?_ ?_
    · intro vs w0 ρ hρ hcst hglb hfun hI hp
      have e30 : ρ (.tmp 30) = .string A := (hρ (.tmp 30)).trans (show vs 2 = .string A from hp 2 rfl)
      clear hρ hp
      refine Reg.rel_call Tryd.func75 (by kernel_rfl) rfl #[.string A] rfl (hfun _) (by simp [e30]) ?_
      refine (numR_any A w0).mono ?_
      rintro e w3 ⟨rfl, hd⟩
      exact ⟨_, rfl, hd.below, hI.trans (hd.below.mono hI.size), rfl⟩
    refine Reg.allOps_cons ?_ ?_
    · intro vs w0 ρ hρ hcst hglb hfun hI hp
      have e5 : ρ (.tmp 5) = .slice (some ⟨b2, o2, f2⟩) 3 c2 := (hρ (.tmp 5)).trans h5
      clear hρ hp
      refine Reg.rel_value (.slice (some ⟨b2, o2, f2⟩) 3 c2) ?_ ⟨hI, rfl⟩
      go_simp
    refine Reg.allOps_cons ?_ ?_
    · intro vs w0 ρ hρ hcst hglb hfun hI hp
      have e32 : ρ (.tmp 32) = .slice (some ⟨b2, o2, f2⟩) 3 c2 := (hρ (.tmp 32)).trans (show vs 4 = .slice (some ⟨b2, o2, f2⟩) 3 c2 from hp 4 rfl)
      clear hρ hp
      refine Reg.rel_value (.pointer (some ((⟨b2, o2, f2⟩ : Addr).add 1))) ?_ ⟨hI, rfl⟩
      go_simp
    refine Reg.allOps_cons ?_ ?_
    · intro vs w0 ρ hρ hcst hglb hfun hI hp
      have e33 : ρ (.tmp 33) = .pointer (some ((⟨b2, o2, f2⟩ : Addr).add 1)) := (hρ (.tmp 33)).trans (show vs 5 = .pointer (some ((⟨b2, o2, f2⟩ : Addr).add 1)) from hp 5 rfl)
      clear hρ hp
      have hl2 : w0.cell? ⟨b2, o2 + 1, none⟩ = some (.string B) := cell_below hI (Nat.le_refl _) HB.out
      refine Reg.rel_value (.string B) ?_ ⟨hI, rfl⟩
      clear hI
      go_simp
    refine Reg.allOps_cons ?_ ?_
    · intro vs w0 ρ hρ hcst hglb hfun hI hp
      have e34 : ρ (.tmp 34) = .string B := (hρ (.tmp 34)).trans (show vs 6 = .string B from hp 6 rfl)
      clear hρ hp
      refine Reg.rel_call Tryd.func75 (by kernel_rfl) rfl #[.string B] rfl (hfun _) (by simp [e34]) ?_
      refine (numR_any B w0).mono ?_
      rintro e w3 ⟨rfl, hd⟩
      exact ⟨_, rfl, hd.below, hI.trans (hd.below.mono hI.size), rfl⟩
    refine Reg.allOps_cons ?_ ?_
    · intro vs w0 ρ hρ hcst hglb hfun hI hp
      have e5 : ρ (.tmp 5) = .slice (some ⟨b2, o2, f2⟩) 3 c2 := (hρ (.tmp 5)).trans h5
      clear hρ hp
      refine Reg.rel_value (.slice (some ⟨b2, o2, f2⟩) 3 c2) ?_ ⟨hI, rfl⟩
      go_simp
    refine Reg.allOps_cons ?_ ?_
    · intro vs w0 ρ hρ hcst hglb hfun hI hp
      have e36 : ρ (.tmp 36) = .slice (some ⟨b2, o2, f2⟩) 3 c2 := (hρ (.tmp 36)).trans (show vs 8 = .slice (some ⟨b2, o2, f2⟩) 3 c2 from hp 8 rfl)
      clear hρ hp
      refine Reg.rel_value (.pointer (some ((⟨b2, o2, f2⟩ : Addr).add 2))) ?_ ⟨hI, rfl⟩
      go_simp
    refine Reg.allOps_cons ?_ ?_
    · intro vs w0 ρ hρ hcst hglb hfun hI hp
      have e37 : ρ (.tmp 37) = .pointer (some ((⟨b2, o2, f2⟩ : Addr).add 2)) := (hρ (.tmp 37)).trans (show vs 9 = .pointer (some ((⟨b2, o2, f2⟩ : Addr).add 2)) from hp 9 rfl)
      clear hρ hp
      have hl2 : w0.cell? ⟨b2, o2 + 2, none⟩ = some (.string D) := cell_below hI (Nat.le_refl _) HD.out
      refine Reg.rel_value (.string D) ?_ ⟨hI, rfl⟩
      clear hI
      go_simp
    refine Reg.allOps_cons ?_ ?_
    · intro vs w0 ρ hρ hcst hglb hfun hI hp
      have e38 : ρ (.tmp 38) = .string D := (hρ (.tmp 38)).trans (show vs 10 = .string D from hp 10 rfl)
      clear hρ hp
      refine Reg.rel_call Tryd.func75 (by kernel_rfl) rfl #[.string D] rfl (hfun _) (by simp [e38]) ?_
      refine (numR_any D w0).mono ?_
      rintro e w3 ⟨rfl, hd⟩
      exact ⟨_, rfl, hd.below, hI.trans (hd.below.mono hI.size), rfl⟩
    refine Reg.allOps_cons ?_ ?_
    · intro vs w0 ρ hρ hcst hglb hfun hI hp
      have e4 : ρ (.tmp 4) = .slice (some ⟨b, o, f⟩) 2 c1 := (hρ (.tmp 4)).trans h4
      clear hρ hp
      refine Reg.rel_value (.slice (some ⟨b, o, f⟩) 2 c1) ?_ ⟨hI, rfl⟩
      go_simp
    refine Reg.allOps_cons ?_ ?_
    · intro vs w0 ρ hρ hcst hglb hfun hI hp
      have e40 : ρ (.tmp 40) = .slice (some ⟨b, o, f⟩) 2 c1 := (hρ (.tmp 40)).trans (show vs 12 = .slice (some ⟨b, o, f⟩) 2 c1 from hp 12 rfl)
      clear hρ hp
      refine Reg.rel_value (.pointer (some ((⟨b, o, f⟩ : Addr).add 1))) ?_ ⟨hI, rfl⟩
      go_simp
    refine Reg.allOps_cons ?_ ?_
    · intro vs w0 ρ hρ hcst hglb hfun hI hp
      have e41 : ρ (.tmp 41) = .pointer (some ((⟨b, o, f⟩ : Addr).add 1)) := (hρ (.tmp 41)).trans (show vs 13 = .pointer (some ((⟨b, o, f⟩ : Addr).add 1)) from hp 13 rfl)
      clear hρ hp
      have hl2 : w0.cell? ⟨b, o + 1, none⟩ = some (.string E) := cell_below hI (Nat.le_refl _) HE.out
      refine Reg.rel_value (.string E) ?_ ⟨hI, rfl⟩
      clear hI
      go_simp
    refine Reg.allOps_cons ?_ ?_
    · intro vs w0 ρ hρ hcst hglb hfun hI hp
      have e42 : ρ (.tmp 42) = .string E := (hρ (.tmp 42)).trans (show vs 14 = .string E from hp 14 rfl)
      clear hρ hp
      refine Reg.rel_value (.bool (decide (E.data.toList = dataW))) ?_ ⟨hI, rfl⟩
      clear hI
      go_simp
      rw [ByteArray.toList_eq, Bool.eq_iff_iff, beq_iff_eq, decide_eq_true_iff]
      rfl
    refine Reg.allOps_cons ?_ ?_
    · intro vs w0 ρ hρ hcst hglb hfun hI hp
      have e31 : ρ (.tmp 31) = .int .i64 (numI A.data.toList) := (hρ (.tmp 31)).trans (show vs 3 = .int .i64 (numI A.data.toList) from hp 3 rfl)
      have e35 : ρ (.tmp 35) = .int .i64 (numI B.data.toList) := (hρ (.tmp 35)).trans (show vs 7 = .int .i64 (numI B.data.toList) from hp 7 rfl)
      have e39 : ρ (.tmp 39) = .int .i64 (numI D.data.toList) := (hρ (.tmp 39)).trans (show vs 11 = .int .i64 (numI D.data.toList) from hp 11 rfl)
      have e43 : ρ (.tmp 43) = .bool (decide (E.data.toList = dataW)) := (hρ (.tmp 43)).trans (show vs 15 = .bool (decide (E.data.toList = dataW)) from hp 15 rfl)
      clear hρ hp
      refine Reg.rel_value (.agg (fvL ⟨numI A.data.toList, numI B.data.toList, numI D.data.toList, decide (E.data.toList = dataW)⟩).toArray) (exec_build 70 _ rfl _ ?_) ⟨hI, rfl⟩
      simp only [List.map_toArray, List.map_cons, List.map_nil, e31, e35, e39, e43]
      exact built_f _ _ _ _
    refine Reg.allOps_cons ?_ ?_
    · intro vs w0 ρ hρ hcst hglb hfun hI hp
      clear hρ hp
      refine Reg.rel_made (.pointer (some ⟨w0.heap.size, 0, none⟩)) (w' := w0.alloc (.cells (flL fl0).toArray 70)) ?_ ((Below.refl _ _).alloc (Nat.le_refl _) _) ⟨hI.alloc hI.size _, w0.heap.size, rfl, hI.size, .inl (Go.heap_alloc_new _ _)⟩
      go_simp
      rfl
    refine Reg.allOps_cons ?_ ?_
    · intro vs w0 ρ hρ hcst hglb hfun hI hp
      have r17 : ∃ g : Nat, (vs 17) = .pointer (some ⟨g, 0, none⟩) ∧ wi.heap.size ≤ g ∧ (w0.heap[g]? = some (.cells (flL fl0).toArray 70 (0, 0)) ∨ w0.heap[g]? = some (.cells (fvL ⟨numI A.data.toList, numI B.data.toList, numI D.data.toList, decide (E.data.toList = dataW)⟩).toArray 70 (0, 0))) := hp 17 rfl
      have e6 : ρ (.tmp 6) = vs 17 := hρ (.tmp 6)
      have e44 : ρ (.tmp 44) = .agg (fvL ⟨numI A.data.toList, numI B.data.toList, numI D.data.toList, decide (E.data.toList = dataW)⟩).toArray := (hρ (.tmp 44)).trans (show vs 16 = .agg (fvL ⟨numI A.data.toList, numI B.data.toList, numI D.data.toList, decide (E.data.toList = dataW)⟩).toArray from hp 16 rfl)
      clear hρ hp
      obtain ⟨g, hv, hg, hblk⟩ := r17
      rw [hv] at e6
      have hth : w0.there g 0 (fvL ⟨numI A.data.toList, numI B.data.toList, numI D.data.toList, decide (E.data.toList = dataW)⟩).toArray.size := by
        rcases hblk with h | h
        · exact (show w0.there g 0 (flL fl0).length from blk_there h)
        · exact (show w0.there g 0 (fvL ⟨numI A.data.toList, numI B.data.toList, numI D.data.toList, decide (E.data.toList = dataW)⟩).length from blk_there h)
      refine Reg.rel_skip (w' := w0.setCells g 0 (fvL ⟨numI A.data.toList, numI B.data.toList, numI D.data.toList, decide (E.data.toList = dataW)⟩)) (exec_store_mid 70 (.tmp 6) (.tmp 44) rfl g 0 (fvL ⟨numI A.data.toList, numI B.data.toList, numI D.data.toList, decide (E.data.toList = dataW)⟩).toArray e6 e44 hth infoF (by simp [fvL, Value.oneCell'])) ⟨g, hg, rfl⟩ ⟨below_setCells hI hg _ _, g, hv, hg, ?_⟩
      rcases hblk with h | h
      · exact setCells_whole h rfl
      · exact setCells_whole h rfl
    exact Reg.allOps_nil
  intro vs w0 hI hR
  have r0 : vs 0 = .slice (some ⟨b2, o2, f2⟩) 3 c2 := hR 0 (by decide)
  have r1 : vs 1 = .pointer (some ((⟨b2, o2, f2⟩ : Addr).add 0)) := hR 1 (by decide)
  have r2 : vs 2 = .string A := hR 2 (by decide)
  have r3 : vs 3 = .int .i64 (numI A.data.toList) := hR 3 (by decide)
  have r4 : vs 4 = .slice (some ⟨b2, o2, f2⟩) 3 c2 := hR 4 (by decide)
  have r5 : vs 5 = .pointer (some ((⟨b2, o2, f2⟩ : Addr).add 1)) := hR 5 (by decide)
  have r6 : vs 6 = .string B := hR 6 (by decide)
  have r7 : vs 7 = .int .i64 (numI B.data.toList) := hR 7 (by decide)
  have r8 : vs 8 = .slice (some ⟨b2, o2, f2⟩) 3 c2 := hR 8 (by decide)
  have r9 : vs 9 = .pointer (some ((⟨b2, o2, f2⟩ : Addr).add 2)) := hR 9 (by decide)
  have r10 : vs 10 = .string D := hR 10 (by decide)
  have r11 : vs 11 = .int .i64 (numI D.data.toList) := hR 11 (by decide)
  have r12 : vs 12 = .slice (some ⟨b, o, f⟩) 2 c1 := hR 12 (by decide)
  have r13 : vs 13 = .pointer (some ((⟨b, o, f⟩ : Addr).add 1)) := hR 13 (by decide)
  have r14 : vs 14 = .string E := hR 14 (by decide)
  have r15 : vs 15 = .bool (decide (E.data.toList = dataW)) := hR 15 (by decide)
  have r16 : vs 16 = .agg (fvL ⟨numI A.data.toList, numI B.data.toList, numI D.data.toList, decide (E.data.toList = dataW)⟩).toArray := hR 16 (by decide)
  obtain ⟨gv, r17, hgv, hblk⟩ := hR 18 (by decide)
  have hq := hQ w0 gv hgv hI hblk
  simp only [RegA.putV, Act.put] at hq
  simp only [Reg.fillFrom, Act.put, r0, r1, r2, r3, r4, r5, r6, r7, r8, r9, r10, r11, r12, r13, r14, r15, r16, r17]
  exact hq
end Go.Proofs.YtljjpdjknnhceaaDoor.RefNameR

/- The document's ReadName, where there are three numbers: plain. -/
set_option linter.unusedVariables false
set_option linter.unusedSimpArgs false
namespace Go.Proofs.YtljjpdjknnhceaaDoor.ReadThree
open Go.RowKit Go.Proofs.YtljjpdjknnhceaaDoorW.PrintWords Go.Proofs.YtljjpdjknnhceaaDoorW.PrintLast Go.Proofs.YtljjpdjknnhceaaDoorW.PrintMore
open Go.Lib Go.Proofs.YtljjpdjknnhceaaDoor.Base Go.Proofs.YtljjpdjknnhceaaDoor.NumPure Go.Proofs.YtljjpdjknnhceaaDoor.CutPure Go.Proofs.YtljjpdjknnhceaaDoor.NamePure Go.Proofs.YtljjpdjknnhceaaDoor.NumR Go.Proofs.YtljjpdjknnhceaaDoor.FileN Go.Proofs.YtljjpdjknnhceaaDoor.Sort
theorem num_neg {l : List UInt8} (h : numL l = none) : numI l = -1 := by unfold numI; rw [h]
theorem num_pos {l : List UInt8} {n : Nat} (h : numL l = some n) : numI l = (n : Int) := by unfold numI; rw [h]
theorem ok_inR (x y z : Nat) (d : Bool) : okF ⟨(x : Int), (y : Int), (z : Int), d⟩ = true ↔ inR ⟨x, y, z, d⟩ := by
  unfold okF wiB inR
  simp only [Bool.and_eq_true, decide_eq_true_eq]
  omega
theorem ok_neg {x y z : Int} {d : Bool} (h : x = -1 ∨ y = -1 ∨ z = -1) : ¬ okF ⟨x, y, z, d⟩ = true := by
  unfold okF wiB
  simp only [Bool.and_eq_true, decide_eq_true_eq]
  omega
theorem readR_three {s : ByteArray} {p e a b c : List UInt8} (hs : s.size ≤ 14) (h1 : pcs 46 s.data.toList = [p, e]) (h2 : pcs 95 p = [a, b, c]) :
    readR s.data.toList = if okF ⟨numI a, numI b, numI c, decide (e = dataW)⟩ = true ∧ nameF ⟨numI a, numI b, numI c, decide (e = dataW)⟩ = s then some (toF ⟨numI a, numI b, numI c, decide (e = dataW)⟩) else none := by
  unfold readR
  rw [if_neg (by rw [data_length]; omega), h1]
  simp only
  rw [h2]
  simp only
  rcases ea : numL a with _ | x
  · rw [if_neg (fun h => ok_neg (.inl (num_neg ea)) h.1)]
  rcases eb : numL b with _ | y
  · rw [if_neg (fun h => ok_neg (.inr (.inl (num_neg eb))) h.1)]
  rcases ec : numL c with _ | z
  · rw [if_neg (fun h => ok_neg (.inr (.inr (num_neg ec))) h.1)]
  rw [num_pos ea, num_pos eb, num_pos ec]
  have ht : toF ⟨(x : Int), (y : Int), (z : Int), decide (e = dataW)⟩ = ⟨x, y, z, decide (e = dataW)⟩ := rfl
  simp only
  rw [ht]
  by_cases hk : inR ⟨x, y, z, decide (e = dataW)⟩
  · have ho := (ok_inR x y z (decide (e = dataW))).2 hk
    have hn : nameF ⟨(x : Int), (y : Int), (z : Int), decide (e = dataW)⟩ = ⟨(fileN ⟨x, y, z, decide (e = dataW)⟩).toArray⟩ := by
      unfold nameF; rw [if_pos ho, ht]
    rw [hn]
    by_cases hf : fileN ⟨x, y, z, decide (e = dataW)⟩ = s.data.toList
    · rw [if_pos ⟨hk, hf⟩, if_pos ⟨ho, by rw [hf]⟩]
    · rw [if_neg (fun h => hf h.2), if_neg (fun h => hf (by rw [← h.2]))]
  · rw [if_neg (fun h => hk h.1), if_neg (fun h => hk ((ok_inR x y z _).1 h.1))]
end Go.Proofs.YtljjpdjknnhceaaDoor.ReadThree

/- The document's ReadName, whole. -/
set_option linter.unusedVariables false
set_option linter.unusedSimpArgs false
namespace Go.Proofs.YtljjpdjknnhceaaDoor.RefName2
open Go.RowKit Go.Proofs.YtljjpdjknnhceaaDoorW.PrintWords Go.Proofs.YtljjpdjknnhceaaDoorW.PrintLast Go.Proofs.YtljjpdjknnhceaaDoorW.PrintMore
open Go.Lib Go.Proofs.YtljjpdjknnhceaaDoor.Base Go.Proofs.YtljjpdjknnhceaaDoor.Mids Go.Proofs.YtljjpdjknnhceaaDoor.Clus Go.Proofs.YtljjpdjknnhceaaDoor.NumPure Go.Proofs.YtljjpdjknnhceaaDoor.CutPure Go.Proofs.YtljjpdjknnhceaaDoor.NamePure Go.Proofs.YtljjpdjknnhceaaDoor.NumR Go.Proofs.YtljjpdjknnhceaaDoor.FileN Go.Proofs.YtljjpdjknnhceaaDoor.RefName Go.Proofs.YtljjpdjknnhceaaDoor.RefNameR Go.Proofs.YtljjpdjknnhceaaDoor.RegA Go.Proofs.YtljjpdjknnhceaaDoor.ReadThree
theorem fv_one (f : FI) : ∀ u ∈ fvL f, u.oneCell' = true := by simp [fvL, Value.oneCell']
theorem fv_eq {f : FI} (h : okF f = true) : fvL f = flL (toF f) := by
  obtain ⟨p, r, c, d⟩ := f
  unfold okF Go.Proofs.YtljjpdjknnhceaaDoor.Sort.wiB at h
  simp only [Bool.and_eq_true, decide_eq_true_eq] at h
  simp only [fvL, flL, toF]
  congr 1
  · congr 1; omega
  · congr 1
    · congr 1; omega
    · congr 1; congr 1; omega
theorem yes_ret {W w : World} {o : Option Fl} {fi : FI} {tmps : Array Value} (hp : tmps.getD 2 undef = .pointer (some ⟨w.heap.size, 0, none⟩)) (hk : tmps.getD 3 undef = .int .i64 0) (hg : W.heap[w.heap.size]? = some (.cells (flL fl0).toArray 70 (0, 0))) (hB : Below w.heap.size w W) (ho : o = some (toF fi)) (hf : fvL fi = flL (toF fi)) {d : List _} (hd : d = []) :
    bodyPost Tryd.prog Tryd.f36 (ReadPost o w) Exit.ret ⟨tmps, d⟩ (W.setCells w.heap.size 0 (fvL fi)) := by
  subst ho
  rw [hf]
  exact read_ret (f := toF fi) hp hk (setCells_whole hg rfl) (below_setCells hB (Nat.le_refl _) _ _) rfl rfl hd
set_option maxRecDepth 100000 in
set_option maxHeartbeats 4000000 in
theorem short_any (s : ByteArray) (w : World) (hs : s.size ≤ 14) : Calls Tryd.prog 36 #[.string s] w (ReadPost (readR s.data.toList) w) := by
  have h1 := pcs_len s 46
  have hs2 : s.size ≤ 2147483647 := by omega
  go_enter Tryd.func36, Tryd.ntmps36
  go_upto_region 4 with (go_at_call 74; refine (split_dot s _ hs2).mono ?_; rintro e w' ⟨ad, cap, rfl, HS, hcap⟩)
  generalize hn : (pcs 46 s.data.toList).length = n at h1 hcap ⊢
  have HN := Aside0.mk hn
  clear hn
  have hl0 : Aside0 (w'.cell? (ad.add 0) = some (.string (((pcs 46 s.data.toList).map strO).getD 0 ⟨#[]⟩))) := ⟨HS.out.cells 0 (by rw [List.length_map]; have := HN.out; omega)⟩
  rw [map_getD] at hl0
  have hs0 : (strO ((pcs 46 s.data.toList).getD 0 [])).size ≤ 2147483647 := by
    have := head_len 46 s.data.toList
    rw [data_length] at this
    rw [← data_length]
    show (strO ((pcs 46 s.data.toList).getD 0 [])).data.toList.length ≤ _
    simp only [strO]
    omega
  have HE0 : Aside0 ((strO ((pcs 46 s.data.toList).getD 0 [])).data.toList = (pcs 46 s.data.toList).getD 0 []) := ⟨rfl⟩
  generalize strO ((pcs 46 s.data.toList).getD 0 []) = s0 at hl0 hs0 HE0
  obtain ⟨b, o, f⟩ := ad
  have hx : w'.cell? ⟨b, o, f⟩ = some (.string s0) := hl0.out
  go_upto_region 5 with (go_at_call 74; refine (split_bar s0 _ hs0).mono ?_; rintro e w2 ⟨ad2, cap2, rfl, HS2, hcap2⟩)
  have h2 := pcs_len s0 95
  generalize hm : (pcs 95 s0.data.toList).length = m at h2 hcap2 ⊢
  have HM := Aside0.mk hm
  clear hm
  have hb1 : Below w.heap.size w w' := ((Below.refl _ _).alloc (Nat.le_refl _) _).trans (HS.out.bel.mono (by simp))
  have hr1 : w'.heap[w.heap.size]? = some (.cells (flL fl0).toArray 70 (0, 0)) := (HS.out.bel.block _ (by simp)).trans (Go.heap_alloc_new w _)
  have hz1 : w.heap.size < w'.heap.size := by have := HS.out.bel.size; simp at this; omega
  have HB := Aside0.mk (hb1.trans (HS2.out.bel.mono hb1.size))
  have HR := Aside0.mk ((HS2.out.bel.block _ hz1).trans hr1)
  have hth := blk_there HR.out
  have hone := all_oneCell_toArray fl_one
  clear hb1 hr1 hz1
  by_cases hn2 : n = 2
  · by_cases hm3 : m = 3
    · clear hth hone
      subst hn2
      subst hm3
      obtain ⟨p, e, h46⟩ : ∃ p e, pcs 46 s.data.toList = [p, e] := by
        rcases hh : pcs 46 s.data.toList with _ | ⟨p, _ | ⟨e, _ | ⟨x, l⟩⟩⟩
        · rw [hh] at HN; exact absurd HN.out (by decide)
        · rw [hh] at HN; exact absurd HN.out (by simp)
        · exact ⟨p, e, rfl⟩
        · rw [hh] at HN; exact absurd HN.out (by simp)
      have hp0 : s0.data.toList = p := by rw [HE0.out, h46]; rfl
      obtain ⟨x, y, z, h95⟩ : ∃ x y z, pcs 95 p = [x, y, z] := by
        rw [hp0] at HM
        rcases hh : pcs 95 p with _ | ⟨x, _ | ⟨y, _ | ⟨z, _ | ⟨t, l⟩⟩⟩⟩
        · rw [hh] at HM; exact absurd HM.out (by decide)
        · rw [hh] at HM; exact absurd HM.out (by simp)
        · rw [hh] at HM; exact absurd HM.out (by simp)
        · exact ⟨x, y, z, rfl⟩
        · rw [hh] at HM; exact absurd HM.out (by simp)
      have H3 := Aside0.mk (readR_three hs h46 h95)
      obtain ⟨b2, o2, f2⟩ := ad2
      rw [hp0, h95] at HS2
      rw [h46] at HS
      have HA : Aside0 (w2.cell? ((⟨b2, o2, f2⟩ : Addr).add 0) = some (.string (strO x))) := ⟨HS2.out.cells 0 (by simp)⟩
      have HBB : Aside0 (w2.cell? ((⟨b2, o2, f2⟩ : Addr).add 1) = some (.string (strO y))) := ⟨HS2.out.cells 1 (by simp)⟩
      have HD : Aside0 (w2.cell? ((⟨b2, o2, f2⟩ : Addr).add 2) = some (.string (strO z))) := ⟨HS2.out.cells 2 (by simp)⟩
      have HE : Aside0 (w2.cell? ((⟨b, o, f⟩ : Addr).add 1) = some (.string (strO e))) := ⟨cell_below HS2.out.bel (Nat.le_refl _) (HS.out.cells 1 (by simp))⟩
      clear h46 h95 hp0
      go_upto_region 7 with fail
      refine rnm7 _ _ _ b o b2 o2 cap cap2 f f2 (strO x) (strO y) (strO z) (strO e) hcap hcap2 HA HBB HD HE rfl rfl rfl ?_
      intro wv gv hgv hbv hrow
      simp only [putV, Act.put, List.setIfInBounds_toArray, List.set_cons_zero, List.set_cons_succ]
      have HBV := Aside0.mk (HB.out.trans (hbv.mono HB.out.size))
      have HRV := Aside0.mk ((hbv.block _ (blk_lt HR.out)).trans HR.out)
      have HNG := Aside0.mk (Nat.ne_of_gt (Nat.lt_of_lt_of_le (blk_lt HR.out) hgv))
      simp only [show ∀ l, (strO l).data.toList = l from fun l => rfl] at hrow ⊢
      generalize (⟨numI x, numI y, numI z, decide (e = dataW)⟩ : FI) = fi at hrow H3
      clear HA HBB HD HE HS HS2 HR HB hl0 hx HN HM HE0 hbv hgv
      have hrg := blk_range hrow
      go_upto_region 9 with (first | ((with_reducible refine gate_load (ty := 70) (x := .tmp 6) rfl ?_); refine wpList_load_mid rfl 70 (.tmp 6) rfl gv 0 rfl (fvL fi) _ hrg Tryd.underlying70 rfl infoF ?_) | (go_at_call 34; refine (ref_any fi _).mono ?_; rintro e5 w5 ⟨rfl, hb5⟩))
      have HB5 := Aside0.mk (HBV.out.trans (hb5.mono HBV.out.size))
      have HR5 := Aside0.mk ((hb5.block _ (blk_lt HRV.out)).trans HRV.out)
      have HG5 := Aside0.mk ((hb5.block _ (blk_lt hrow)).trans hrow)
      clear hb5 hrow hrg HBV HRV
      have hth := blk_there HR5.out
      have hone := all_oneCell_toArray fl_one
      by_cases hk : okF fi = true
      · have herr : errF fi = 0 := by unfold errF; rw [if_pos hk]
        rw [herr]
        have HKK := Aside0.mk hk
        generalize hnm : nameF fi = nm at H3 ⊢
        clear hk hnm
        by_cases hq : nm = s
        · subst hq
          have HYES : Aside0 (readR nm.data.toList = some (toF fi)) := ⟨by rw [H3.out, if_pos ⟨HKK.out, rfl⟩]⟩
          have HFL : Aside0 (fvL fi = flL (toF fi)) := ⟨fv_eq HKK.out⟩
          have hrg := blk_range HG5.out
          have hone2 := all_oneCell_toArray (fv_one fi)
          go_wp2_with (first | ((with_reducible refine gate_load (ty := 70) (x := .tmp 6) rfl ?_); refine wpList_load_mid rfl 70 (.tmp 6) rfl gv 0 rfl (fvL fi) _ hrg Tryd.underlying70 rfl infoF ?_) | ((with_reducible refine gate_store (ty := 70) (x := .tmp 2) (y := .tmp 58) rfl ?_); go_loud (refine wpList_store_mid rfl 70 (.tmp 2) (.tmp 58) rfl w.heap.size 0 (fvL fi).toArray rfl rfl hth infoF hone2 ?_)))
          exact yes_ret rfl rfl HR5.out HB5.out HYES.out HFL.out rfl
        · have HNO : Aside0 (readR s.data.toList = none) := ⟨by rw [H3.out, if_neg (fun h => hq h.2)]⟩
          have hq3 : nm.toList ≠ s.toList := fun h => hq (by apply ByteArray.ext; rw [ByteArray.toList_eq, ByteArray.toList_eq] at h; exact Array.toList_inj.1 h)
          have hq2 : (nm.toList == s.toList) = false := beq_eq_false_iff_ne.2 hq3
          clear hq3
          go_wp2_with ((with_reducible refine gate_store (ty := 70) (x := .tmp 2) (y := .tmp 57) rfl ?_); go_loud (refine wpList_store_mid rfl 70 (.tmp 2) (.tmp 57) rfl w.heap.size 0 (flL fl0).toArray rfl rfl hth infoF hone ?_))
          exact zero_ret rfl rfl HR5.out HB5.out HNO.out rfl
      · have HNO : Aside0 (readR s.data.toList = none) := ⟨by rw [H3.out, if_neg (fun h => hk h.1)]⟩
        have herr : errF fi = 1 := by unfold errF; rw [if_neg hk]
        have HKK := Aside0.mk hk
        clear hk
        rw [herr]
        go_wp2_with ((with_reducible refine gate_store (ty := 70) (x := .tmp 2) (y := .tmp 57) rfl ?_); go_loud (refine wpList_store_mid rfl 70 (.tmp 2) (.tmp 57) rfl w.heap.size 0 (flL fl0).toArray rfl rfl hth infoF hone ?_))
        exact zero_ret rfl rfl HR5.out HB5.out HNO.out rfl
    · subst hn2
      have HNO : Aside0 (readR s.data.toList = none) := ⟨readR_m (by rw [← HE0.out]; have := HM.out; omega)⟩
      go_wp2_with ((with_reducible refine gate_store (ty := 70) (x := .tmp 2) (y := .tmp 27) rfl ?_); go_loud (refine wpList_store_mid rfl 70 (.tmp 2) (.tmp 27) rfl w.heap.size 0 (flL fl0).toArray rfl rfl hth infoF hone ?_))
      exact zero_ret rfl rfl HR.out HB.out HNO.out rfl
  · have HNO : Aside0 (readR s.data.toList = none) := ⟨readR_n (by have := HN.out; omega)⟩
    go_wp2_with ((with_reducible refine gate_store (ty := 70) (x := .tmp 2) (y := .tmp 27) rfl ?_); go_loud (refine wpList_store_mid rfl 70 (.tmp 2) (.tmp 27) rfl w.heap.size 0 (flL fl0).toArray rfl rfl hth infoF hone ?_))
    exact zero_ret rfl rfl HR.out HB.out HNO.out rfl
theorem refname_any (s : ByteArray) (w : World) : Calls Tryd.prog 36 #[.string s] w (ReadPost (readR s.data.toList) w) := by
  by_cases h : s.size ≤ 14
  · exact short_any s w h
  · exact long_any s w (by omega)
end Go.Proofs.YtljjpdjknnhceaaDoor.RefName2

/- ring.number. -/
set_option linter.unusedVariables false
set_option linter.unusedSimpArgs false
namespace Go.Proofs.YtljjpdjknnhceaaDoor.NumW
open Go.RowKit Go.Proofs.YtljjpdjknnhceaaDoorW.PrintWords Go.Proofs.YtljjpdjknnhceaaDoorW.PrintLast Go.Proofs.YtljjpdjknnhceaaDoorW.PrintMore
open Go.Proofs.YtljjpdjknnhceaaDoor.Base Go.Proofs.YtljjpdjknnhceaaDoor.NumPure
def numN (l : List UInt8) : Nat := (numL l).getD 0
def numB (l : List UInt8) : Bool := (numL l).isSome
theorem num_no {l : List UInt8} (h : numL l = none) : numN l = 0 ∧ numB l = false := by unfold numN numB; rw [h]; exact ⟨rfl, rfl⟩
theorem num_yes {l : List UInt8} {n : Nat} (h : numL l = some n) : numN l = n ∧ numB l = true := by unfold numN numB; rw [h]; exact ⟨rfl, rfl⟩
theorem num_out {l : List UInt8} (h : l.length < 1 ∨ 10 < l.length ∨ (1 < l.length ∧ l.head? = some 48)) : numL l = none := by unfold numL; rw [if_pos h]
theorem num_in {l : List UInt8} (h : ¬ (l.length < 1 ∨ 10 < l.length ∨ (1 < l.length ∧ l.head? = some 48))) : numL l = if l.all dgB = true then some (valL l) else none := by unfold numL; rw [if_neg h]
def NumPost (s : ByteArray) (w : World) (e : Ending) (w' : World) : Prop := e = .returned (.tuple #[.int .i64 ((numN s.data.toList : Nat) : Int), .bool (numB s.data.toList)]) ∧ Below w.heap.size w w'
theorem post_no {s : ByteArray} {w w' : World} (h : numL s.data.toList = none) (hb : Below w.heap.size w w') : NumPost s w (.returned (.tuple #[.int .i64 0, .bool false])) w' := by
  obtain ⟨a, b⟩ := num_no h
  exact ⟨by rw [a, b]; rfl, hb⟩
theorem post_yes {s : ByteArray} {w w' : World} {n : Nat} (h : numL s.data.toList = some n) (hb : Below w.heap.size w w') : NumPost s w (.returned (.tuple #[.int .i64 ((n : Nat) : Int), .bool true])) w' := by
  obtain ⟨a, b⟩ := num_yes h
  exact ⟨by rw [a, b], hb⟩
theorem not_all (s : ByteArray) (k : Nat) (x : UInt8) (hx : s.data.toList[k]? = some x) (h : (x.toNat : Int) < 48 ∨ 57 < (x.toNat : Int)) : ¬ s.data.toList.all dgB = true := by
  intro hh
  have := List.all_eq_true.1 hh x (List.mem_of_getElem? hx)
  simp only [dgB, Bool.and_eq_true, decide_eq_true_eq] at this
  omega
theorem all_next (s : ByteArray) (k : Nat) (x : UInt8) (hg : (s.data.toList.take k).all dgB = true) (hx : s.data.toList[k]? = some x) (h : 48 ≤ (x.toNat : Int) ∧ (x.toNat : Int) ≤ 57) : (s.data.toList.take (k + 1)).all dgB = true := by
  rw [List.take_add_one, hx, List.all_append, hg]
  simp [dgB]; omega
set_option maxRecDepth 100000 in
set_option maxHeartbeats 4000000 in
theorem number_any (s : ByteArray) (w : World) (hs : s.size ≤ 2147483647) : Calls Tryd.prog 73 #[.string s] w (NumPost s w) := by
  have hsz := data_length s
  by_cases h1 : s.size < 1
  · have HN := Aside0.mk (num_out (l := s.data.toList) (.inl (by omega)))
    go_enter Tryd.func73, Tryd.ntmps73
    go_wp2_with fail
    go_ret2
    exact post_no HN.out (Below.refl _ _)
  by_cases h2 : 10 < s.size
  · have HN := Aside0.mk (num_out (l := s.data.toList) (.inr (.inl (by omega))))
    go_enter Tryd.func73, Tryd.ntmps73
    go_wp2_with fail
    go_ret2
    exact post_no HN.out (Below.refl _ _)
  have h0 : 0 < s.size := by omega
  have hhd : s.data.toList.head? = some (s[0]'h0) := by rw [List.head?_eq_getElem?]; exact getElem_list s 0 h0
  by_cases h3 : 1 < s.size ∧ s[0]'h0 = 48
  · have HN := Aside0.mk (num_out (l := s.data.toList) (.inr (.inr ⟨by omega, by rw [hhd, h3.2]⟩)))
    have h31 := h3.1
    have hb : (((s[0]'h0).toNat : Int) == 48) = true := by rw [h3.2]; rfl
    clear h3 hhd
    go_enter Tryd.func73, Tryd.ntmps73
    go_wp2_with fail
    go_ret2
    exact post_no HN.out (Below.refl _ _)
  have HIN := Aside0.mk (num_in (l := s.data.toList) (by
    rintro (e | e | ⟨e1, e2⟩)
    · omega
    · omega
    · rw [hhd] at e2; exact h3 ⟨by omega, by simpa using e2⟩))
  have kb := fun W => Lib.run_convert_string_bytes (P := Tryd.prog) W 9 109 5 s Tryd.underlying9 Tryd.underlying109 Tryd.underlying5
  have HB := Aside0.mk (below_bytes (Below.refl w.heap.size w) 5 s)
  have HC := Aside0.mk (fun j hj => Lib.bytesWorld_cell w 5 s j hj)
  have h10 : s.size ≤ 10 := by omega
  have HL : Aside0 (∀ k, (s.data.toList.take k).all dgB = true → k ≤ 9 → valL (s.data.toList.take k) < 1000000000) := ⟨fun k hg hk => Nat.lt_of_lt_of_le (valL_lt k _ (List.length_take_le _ _) (fun c hc => by
    have := List.all_eq_true.1 hg c hc
    simp only [dgB, Bool.and_eq_true, decide_eq_true_eq] at this
    exact this.2)) (Nat.le_trans (Nat.pow_le_pow_right (by decide) hk) (by decide))⟩
  have hcase : (s.size = 1) ∨ (1 < s.size ∧ (((s[0]'h0).toNat : Int) == 48) = false) := by
    by_cases e : s.size = 1
    · exact .inl e
    · refine .inr ⟨by omega, ?_⟩
      have hne : s[0]'h0 ≠ 48 := fun e2 => h3 ⟨by omega, e2⟩
      rw [beq_eq_false_iff_ne]
      intro e3
      exact hne (UInt8.toNat_inj.1 (by show _ = 48; omega))
  clear hsz hhd h3 h1 h2
  rcases hcase with hone | ⟨hmore, hb⟩
  · have hone1 : ¬ 1 < s.size := by omega
    have HONE := Aside0.mk hone
    clear hone
    go_enter Tryd.func73, Tryd.ntmps73
    go_wp2_with fail
    clear kb
    go_loopw [4, 6, 28] (fun t _ i wr => ∃ k : Nat, k ≤ s.size ∧ i = .int .i64 k ∧ t = .int .i64 ((valL (s.data.toList.take k) : Nat) : Int) ∧ Aside0 ((s.data.toList.take k).all dgB = true) ∧ Aside0 (Below w.heap.size w wr) ∧ Aside0 (∀ j, j < s.size → wr.cell? ⟨w.heap.size, j, none⟩ = some (.int .u8 ((s.data.toList.getD j 0).toNat : Int)))) (fun _ _ i _ => s.size - (intOf i).toNat)
    case atStart => exact ⟨0, by omega, rfl, rfl, ⟨rfl⟩, HB, ⟨fun j hj => HC.out j hj⟩⟩
    case round =>
      clear HB HC
      obtain ⟨k, hk, rfl, rfl, HG, HB, HCC⟩ := hrel
      have hsz := data_length s
      by_cases hlt : k < s.size
      · have hcell := HCC.out k hlt
        have hx : s.data.toList[k]? = some (s.data.toList.getD k 0) := by
          rw [List.getD_eq_getElem?_getD, List.getElem?_eq_getElem (by omega)]; rfl
        generalize s.data.toList.getD k 0 = x at hcell hx
        have hv := HL.out k HG.out (by omega)
        have HX := Aside0.mk hx
        have HV := Aside0.mk (valL_take _ _ _ hx)
        generalize hve : valL (s.data.toList.take k) = v at hv HV
        have hxl := x.toNat_lt
        generalize hce : (x.toNat : Int) = c at hcell
        have HCE := Aside0.mk hce
        have hc0 : 0 ≤ c := by omega
        have hc1 : c ≤ 255 := by omega
        clear hve hx hxl hce hsz
        by_cases hl : c < 48
        · go_wp2_with fail
          go_ret2
          exact post_no (HIN.out.trans (if_neg (not_all s k x HX.out (by have := HCE.out; omega)))) HB.out
        · by_cases hg : 57 < c
          · go_wp2_with fail
            go_ret2
            exact post_no (HIN.out.trans (if_neg (not_all s k x HX.out (by have := HCE.out; omega)))) HB.out
          · go_wp2_with fail
            go_roundw
            case rel =>
              refine ⟨k + 1, by omega, by go_num, ?_, ⟨all_next s k x HG.out HX.out (by have := HCE.out; omega)⟩, HB, HCC⟩
              have := HV.out
              have := HCE.out
              congr 1
              omega
            case measure => simp only [intOf]; omega
      · have he : k = s.size := by omega
        have e2 : s.data.toList.take k = s.data.toList := List.take_of_length_le (by omega)
        rw [e2] at HG ⊢
        have HN := Aside0.mk (HIN.out.trans (if_pos HG.out))
        generalize valL s.data.toList = v at HN ⊢
        clear e2 hsz
        go_wp2_with fail
        go_ret2
        exact post_yes HN.out HB.out
  · go_enter Tryd.func73, Tryd.ntmps73
    go_wp2_with fail
    clear kb
    go_loopw [4, 6, 28] (fun t _ i wr => ∃ k : Nat, k ≤ s.size ∧ i = .int .i64 k ∧ t = .int .i64 ((valL (s.data.toList.take k) : Nat) : Int) ∧ Aside0 ((s.data.toList.take k).all dgB = true) ∧ Aside0 (Below w.heap.size w wr) ∧ Aside0 (∀ j, j < s.size → wr.cell? ⟨w.heap.size, j, none⟩ = some (.int .u8 ((s.data.toList.getD j 0).toNat : Int)))) (fun _ _ i _ => s.size - (intOf i).toNat)
    case atStart => exact ⟨0, by omega, rfl, rfl, ⟨rfl⟩, HB, ⟨fun j hj => HC.out j hj⟩⟩
    case round =>
      clear HB HC
      obtain ⟨k, hk, rfl, rfl, HG, HB, HCC⟩ := hrel
      have hsz := data_length s
      by_cases hlt : k < s.size
      · have hcell := HCC.out k hlt
        have hx : s.data.toList[k]? = some (s.data.toList.getD k 0) := by
          rw [List.getD_eq_getElem?_getD, List.getElem?_eq_getElem (by omega)]; rfl
        generalize s.data.toList.getD k 0 = x at hcell hx
        have hv := HL.out k HG.out (by omega)
        have HX := Aside0.mk hx
        have HV := Aside0.mk (valL_take _ _ _ hx)
        generalize hve : valL (s.data.toList.take k) = v at hv HV
        have hxl := x.toNat_lt
        generalize hce : (x.toNat : Int) = c at hcell
        have HCE := Aside0.mk hce
        have hc0 : 0 ≤ c := by omega
        have hc1 : c ≤ 255 := by omega
        clear hve hx hxl hce hsz
        by_cases hl : c < 48
        · go_wp2_with fail
          go_ret2
          exact post_no (HIN.out.trans (if_neg (not_all s k x HX.out (by have := HCE.out; omega)))) HB.out
        · by_cases hg : 57 < c
          · go_wp2_with fail
            go_ret2
            exact post_no (HIN.out.trans (if_neg (not_all s k x HX.out (by have := HCE.out; omega)))) HB.out
          · go_wp2_with fail
            go_roundw
            case rel =>
              refine ⟨k + 1, by omega, by go_num, ?_, ⟨all_next s k x HG.out HX.out (by have := HCE.out; omega)⟩, HB, HCC⟩
              have := HV.out
              have := HCE.out
              congr 1
              omega
            case measure => simp only [intOf]; omega
      · have he : k = s.size := by omega
        have e2 : s.data.toList.take k = s.data.toList := List.take_of_length_le (by omega)
        rw [e2] at HG ⊢
        have HN := Aside0.mk (HIN.out.trans (if_pos HG.out))
        generalize valL s.data.toList = v at HN ⊢
        clear e2 hsz
        go_wp2_with fail
        go_ret2
        exact post_yes HN.out HB.out
end Go.Proofs.YtljjpdjknnhceaaDoor.NumW
