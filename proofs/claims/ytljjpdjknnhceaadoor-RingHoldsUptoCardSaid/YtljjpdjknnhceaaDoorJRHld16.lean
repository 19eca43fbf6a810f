/- Joined texts of this claim: LeftW -/
import Derived.Test.YtljjpdjknnhceaaDoorJRHld12
import Derived.Test.YtljjpdjknnhceaaDoorJRHld15
set_option linter.unusedVariables false
set_option linter.unusedSimpArgs false
/- Left: what was handed in is as it was. -/
set_option linter.unusedVariables false
set_option linter.unusedSimpArgs false
namespace Go.Proofs.YtljjpdjknnhceaaDoor.LeftW
open Go.RowKit Go.Proofs.YtljjpdjknnhceaaDoorW.PrintWords Go.Proofs.YtljjpdjknnhceaaDoorW.PrintLast Go.Proofs.YtljjpdjknnhceaaDoorW.PrintMore
open Go.Proofs.YtljjpdjknnhceaaDoor.Base Go.Proofs.YtljjpdjknnhceaaDoor.App Go.Proofs.YtljjpdjknnhceaaDoor.RingPure Go.Proofs.YtljjpdjknnhceaaDoor.ChkPure Go.Proofs.YtljjpdjknnhceaaDoor.Clus Go.Proofs.YtljjpdjknnhceaaDoor.Mids Go.Proofs.YtljjpdjknnhceaaDoor.Chkd Go.Proofs.YtljjpdjknnhceaaDoor.AppR Go.Proofs.YtljjpdjknnhceaaDoor.Twin Go.Proofs.YtljjpdjknnhceaaDoor.TwinW Go.Proofs.YtljjpdjknnhceaaDoor.Hand Go.Proofs.YtljjpdjknnhceaaDoor.SameC Go.Proofs.YtljjpdjknnhceaaDoor.RefCheck
theorem range_left {w : World} {g o : Nat} {xs ys : List Value} (h : w.rangeAt g o (xs ++ ys)) : w.rangeAt g o xs := fun j v hv => h j v (by rw [List.getElem?_append_left (List.getElem?_eq_some_iff.1 hv).1]; exact hv)
theorem range_right {w : World} {g o : Nat} {xs ys : List Value} (h : w.rangeAt g o (xs ++ ys)) : w.rangeAt g (o + xs.length) ys := fun j v hv => by
  have := h (xs.length + j) v (by rw [List.getElem?_append_right (by omega), Nat.add_sub_cancel_left]; exact hv)
  rwa [← Nat.add_assoc] at this
theorem hand_ranges {w : World} {gh : Nat} {c : Cl} {cv tv nv pv : Value} (h : w.heap[gh]? = some (.cells (hL c cv tv nv pv).toArray 31 (0, 0))) : w.rangeAt gh 0 (cL c cv) ∧ w.rangeAt gh 23 (cL c tv) := by
  have h0 := blk_range h
  unfold hL at h0
  rw [List.append_assoc] at h0
  refine ⟨range_left h0, ?_⟩
  have h1 := range_left (range_right h0)
  exact h1
theorem own_cell {w : World} {base size n cap g : Nat} {e : TypeId} {xs : List Value} (h : w.ownsRow base e size (.slice (some ⟨g, 0, none⟩) n cap) n xs) (j : Nat) (u : Value) (hu : xs[j]? = some u) : w.cell? ⟨g, j, none⟩ = some u := by
  have h1 := h.cells (g := g) rfl j u hu
  have e2 : (⟨g, 0, none⟩ : Addr).add j = ⟨g, j, none⟩ := by unfold Addr.add; split <;> simp_all
  rwa [e2] at h1
/-- the nodes that were handed in -/
theorem HandOK.nodes {w : World} {gh gn cn : Nat} {A2 : Option Addr} {cap2 : Nat} {pv : Value} {c : Cl} {ns : List Nd} {gs : List G} {vs2 : List Value} {base bt : Nat} (h : HandOK w gh gn cn A2 cap2 pv c ns gs vs2 base bt) : NodesAt w (some ⟨gn, 0, none⟩) ns := by
  refine .inr ⟨gn, 0, rfl, fun i n hi => ?_⟩
  obtain ⟨g, hg⟩ : ∃ g, gs[i]? = some g := ⟨_, List.getElem?_eq_getElem (by rw [h.inv.len]; exact (List.getElem?_eq_some_iff.1 hi).1)⟩
  obtain ⟨h1, h2⟩ := ndsC_at ns (lVs ns gs) i n _ hi (lVs_at ns gs i n g hi hg)
  have hlt1 := (List.getElem?_eq_some_iff.1 h1).1
  have hlt2 := (List.getElem?_eq_some_iff.1 h2).1
  have k1 := own_cell h.inv.nodes (i * 2) _ (by rw [List.getElem?_append_left hlt1]; exact h1)
  have k2 := own_cell h.inv.nodes (i * 2 + 1) _ (by rw [List.getElem?_append_left hlt2]; exact h2)
  have he := h.inv.each i n g hi hg
  have hle : n.2.length ≤ g.2 := by
    rcases he.2 with ⟨e, _⟩ | ⟨g', cap', cur, e, _, _, hle, _⟩
    · cases e
    · injection e with _ _ e3
      omega
  rw [← Nat.zero_add (i * 2)] at k1 k2
  refine ⟨k1, some ⟨g.1, 0, none⟩, g.2, k2, ⟨hle, .inr ⟨_, rfl⟩⟩, .inr ⟨g.1, 0, rfl, fun j x hx => ?_⟩⟩
  rw [Nat.zero_add]
  refine own_cell he j _ ?_
  rw [nums_append, List.getElem?_append_left (by simp [nums]; exact (List.getElem?_eq_some_iff.1 hx).1)]
  simp [nums, hx]
set_option maxRecDepth 100000 in
set_option maxHeartbeats 8000000 in
theorem left_any {w : World} {gh gn cn : Nat} {A2 : Option Addr} {cap2 : Nat} {pv : Value} {c : Cl} {ns : List Nd} {gs : List G} {vs2 : List Value} {base bt : Nat} (h : HandOK w gh gn cn A2 cap2 pv c ns gs vs2 base bt) (hl : ns.length ≤ 1073741824) (hc : cnt ns ≤ 1073741824) :
    Calls Tryd.prog 16 #[.pointer (some ⟨gh, 0, none⟩)] w fun e w' => e = .returned (.bool true) ∧ Below w.heap.size w w' := by
  have HK1 := Aside0.mk h
  have HCT := Aside0.mk (fun k => cnt_take ns k)
  have h45 : w.cell? ⟨gh, 45, none⟩ = some (.slice A2 ns.length cap2) := by rw [blk_cell h.inv.box]; rfl
  have h46 : w.cell? ⟨gh, 46, none⟩ = some (.slice (some ⟨gn, 0, none⟩) (ns.length + 2) cn) := by rw [blk_cell h.inv.box]; rfl
  have hnl : (ndsC ns (lVs ns gs)).length = ns.length * 2 := ndsC_length ns _ (lVs_length ns gs h.inv.len)
  have e0x : w.cell? ⟨gn, ns.length * 2, none⟩ = some (.int .i64 801) := own_cell h.inv.nodes _ _ (by rw [List.getElem?_append_right (by omega), hnl, Nat.sub_self]; rfl)
  have e1x : w.cell? ⟨gn, ns.length * 2 + 1, none⟩ = some (.slice none 0 0) := own_cell h.inv.nodes _ _ (by rw [List.getElem?_append_right (by omega), hnl, show ns.length * 2 + 1 - ns.length * 2 = 1 by omega]; rfl)
  have e2x : w.cell? ⟨gn, (ns.length + 1) * 2, none⟩ = some (.int .i64 802) := own_cell h.inv.nodes _ _ (by rw [List.getElem?_append_right (by omega), hnl, show (ns.length + 1) * 2 - ns.length * 2 = 2 by omega]; rfl)
  have e3x : w.cell? ⟨gn, (ns.length + 1) * 2 + 1, none⟩ = some (.slice none 0 0) := own_cell h.inv.nodes _ _ (by rw [List.getElem?_append_right (by omega), hnl, show (ns.length + 1) * 2 + 1 - ns.length * 2 = 3 by omega]; rfl)
  have HSAME := fun W (hb : Below w.heap.size w W) => Aside0.mk (same_any c (some ⟨gn, 0, none⟩) A2 cn cap2 ns W ((HandOK.nodes h).below hb) (h.twin.nodes.below hb) (by omega) (by omega))
  obtain ⟨N, hN⟩ : ∃ N, N = ns.length := ⟨_, rfl⟩
  obtain ⟨M, hM⟩ : ∃ M, M = ns.length + 2 := ⟨_, rfl⟩
  obtain ⟨M1, hM1⟩ : ∃ M1, M1 = ns.length + 1 := ⟨_, rfl⟩
  rw [← hM] at h46
  rw [← hM1] at e2x e3x
  rw [← hN] at h45 e0x e1x HSAME
  have HWM : Aside0 (IntKind.i64.wrap ((N : Int) + 2) = (M : Nat)) := ⟨by rw [IntWalk.i64_in _ (by omega)]; omega⟩
  have HWM1 : Aside0 (IntKind.i64.wrap ((N : Int) + 1) = (M1 : Nat)) := ⟨by rw [IntWalk.i64_in _ (by omega)]; omega⟩
  have HNM : Aside0 (N < M) := ⟨by omega⟩
  have HM1M : Aside0 (M1 < M) := ⟨by omega⟩
  have HNN := Aside0.mk hN
  have HMM := Aside0.mk hM
  have hNb : N ≤ 1073741824 := by omega
  have HK2 : Aside0 (w.heap[gh]? = some (.cells (hL c (.slice (some ⟨gn, 0, none⟩) N cn) (.slice A2 N cap2) (.slice (some ⟨gn, 0, none⟩) M cn) pv).toArray 31 (0, 0))) := ⟨by rw [hN, hM]; exact h.inv.box⟩
  clear h hnl hN hM hM1
  go_enter Tryd.func16, Tryd.ntmps16
  go_upto_region 2 with fail
  simp only [List.append]
  refine RegG.wp_region_rel _ (by kernel_rfl) _ _ _ rfl (by kernel_rfl) (fun w' => Below w.heap.size w w') (fun _ w w' => Below w.heap.size w w') (fun jq vs w' => match jq with
    | 0 => vs 0 = .pointer (some ⟨gh, 0, none⟩)
    | 1 => vs 1 = .pointer (some ⟨gh, 0, none⟩)
    | 2 => vs 2 = .pointer (some ⟨gh, 0, none⟩)
    | 3 => vs 3 = .agg (cL c (.slice (some ⟨gn, 0, none⟩) N cn)).toArray
    | 4 => vs 4 = .pointer (some ⟨gh, 0, none⟩)
    | 5 => vs 5 = .pointer (some ⟨gh, 0, none⟩)
    | 6 => vs 6 = .pointer (some ⟨gh, 23, none⟩)
    | 7 => vs 7 = .agg (cL c (.slice A2 N cap2)).toArray
    | 8 => vs 8 = .bool true
    | 9 => vs 9 = .bool false
    | 10 => vs 10 = .bool false
    | 11 => vs 11 = .pointer (some ⟨gh, 0, none⟩)
    | 12 => vs 12 = .pointer (some ⟨gh, 0, none⟩)
    | 13 => vs 13 = .pointer (some ⟨gh, 46, none⟩)
    | 14 => vs 14 = .slice (some ⟨gn, 0, none⟩) M cn
    | 15 => vs 15 = .int .i64 (M : Nat)
    | 16 => vs 16 = .int .i64 (N : Nat)
    | 17 => vs 17 = .int .i64 (M : Nat)
    | 18 => vs 18 = .bool false
    | 19 => vs 19 = .bool false
    | 20 => vs 20 = .bool false
    | 21 => vs 21 = .pointer (some ⟨gh, 0, none⟩)
    | 22 => vs 22 = .pointer (some ⟨gh, 0, none⟩)
    | 23 => vs 23 = .pointer (some ⟨gh, 46, none⟩)
    | 24 => vs 24 = .slice (some ⟨gn, 0, none⟩) M cn
    | 25 => vs 25 = .int .i64 (N : Nat)
    | 26 => vs 26 = .pointer (some ⟨gn, N * 2, none⟩)
    | 27 => vs 27 = .pointer (some ⟨gn, N * 2, none⟩)
    | 28 => vs 28 = .int .i64 801
    | 29 => vs 29 = .bool false
    | 30 => vs 30 = .bool false
    | 31 => vs 31 = .bool false
    | 32 => vs 32 = .pointer (some ⟨gh, 0, none⟩)
    | 33 => vs 33 = .pointer (some ⟨gh, 0, none⟩)
    | 34 => vs 34 = .pointer (some ⟨gh, 46, none⟩)
    | 35 => vs 35 = .slice (some ⟨gn, 0, none⟩) M cn
    | 36 => vs 36 = .int .i64 (N : Nat)
    | 37 => vs 37 = .int .i64 (M1 : Nat)
    | 38 => vs 38 = .pointer (some ⟨gn, M1 * 2, none⟩)
    | 39 => vs 39 = .pointer (some ⟨gn, M1 * 2, none⟩)
    | 40 => vs 40 = .int .i64 802
    | 41 => vs 41 = .bool false
    | 42 => vs 42 = .bool false
    | 43 => vs 43 = .bool false
    | 44 => vs 44 = .pointer (some ⟨gh, 0, none⟩)
    | 45 => vs 45 = .pointer (some ⟨gh, 0, none⟩)
    | 46 => vs 46 = .pointer (some ⟨gh, 46, none⟩)
    | 47 => vs 47 = .slice (some ⟨gn, 0, none⟩) M cn
    | 48 => vs 48 = .int .i64 (N : Nat)
    | 49 => vs 49 = .pointer (some ⟨gn, N * 2, none⟩)
    | 50 => vs 50 = .pointer (some ⟨gn, N * 2 + 1, none⟩)
    | 51 => vs 51 = .slice none 0 0
    | 52 => vs 52 = .int .i64 0
    | 53 => vs 53 = .bool false
    | 54 => vs 54 = .bool false
    | 55 => vs 55 = .bool false
    | 56 => vs 56 = .pointer (some ⟨gh, 0, none⟩)
    | 57 => vs 57 = .pointer (some ⟨gh, 0, none⟩)
    | 58 => vs 58 = .pointer (some ⟨gh, 46, none⟩)
    | 59 => vs 59 = .slice (some ⟨gn, 0, none⟩) M cn
    | 60 => vs 60 = .int .i64 (N : Nat)
    | 61 => vs 61 = .int .i64 (M1 : Nat)
    | 62 => vs 62 = .pointer (some ⟨gn, M1 * 2, none⟩)
    | 63 => vs 63 = .pointer (some ⟨gn, M1 * 2 + 1, none⟩)
    | 64 => vs 64 = .slice none 0 0
    | 65 => vs 65 = .int .i64 0
    | 66 => vs 66 = .bool false
    | 67 => vs 67 = .bool false
    | _ => True) (below_drew (Below.refl _ _)) ?_ ?_ ?_ ?_ ?_
  · intro i j vs w0 w' hij hI hR hb
    rcases j with _ | j
    · exact hR
    rcases j with _ | j
    · exact hR
    rcases j with _ | j
    · exact hR
    rcases j with _ | j
    · exact hR
    rcases j with _ | j
    · exact hR
    rcases j with _ | j
    · exact hR
    rcases j with _ | j
    · exact hR
    rcases j with _ | j
    · exact hR
    rcases j with _ | j
    · exact hR
    rcases j with _ | j
    · exact hR
    rcases j with _ | j
    · exact hR
    rcases j with _ | j
    · exact hR
    rcases j with _ | j
    · exact hR
    rcases j with _ | j
    · exact hR
    rcases j with _ | j
    · exact hR
    rcases j with _ | j
    · exact hR
    rcases j with _ | j
    · exact hR
    rcases j with _ | j
    · exact hR
    rcases j with _ | j
    · exact hR
    rcases j with _ | j
    · exact hR
    rcases j with _ | j
    · exact hR
    rcases j with _ | j
    · exact hR
    rcases j with _ | j
    · exact hR
    rcases j with _ | j
    · exact hR
    rcases j with _ | j
    · exact hR
    rcases j with _ | j
    · exact hR
    rcases j with _ | j
    · exact hR
    rcases j with _ | j
    · exact hR
    rcases j with _ | j
    · exact hR
    rcases j with _ | j
    · exact hR
    rcases j with _ | j
    · exact hR
    rcases j with _ | j
    · exact hR
    rcases j with _ | j
    · exact hR
    rcases j with _ | j
    · exact hR
    rcases j with _ | j
    · exact hR
    rcases j with _ | j
    · exact hR
    rcases j with _ | j
    · exact hR
    rcases j with _ | j
    · exact hR
    rcases j with _ | j
    · exact hR
    rcases j with _ | j
    · exact hR
    rcases j with _ | j
    · exact hR
    rcases j with _ | j
    · exact hR
    rcases j with _ | j
    · exact hR
    rcases j with _ | j
    · exact hR
    rcases j with _ | j
    · exact hR
    rcases j with _ | j
    · exact hR
    rcases j with _ | j
    · exact hR
    rcases j with _ | j
    · exact hR
    rcases j with _ | j
    · exact hR
    rcases j with _ | j
    · exact hR
    rcases j with _ | j
    · exact hR
    rcases j with _ | j
    · exact hR
    rcases j with _ | j
    · exact hR
    rcases j with _ | j
    · exact hR
    rcases j with _ | j
    · exact hR
    rcases j with _ | j
    · exact hR
    rcases j with _ | j
    · exact hR
    rcases j with _ | j
    · exact hR
    rcases j with _ | j
    · exact hR
    rcases j with _ | j
    · exact hR
    rcases j with _ | j
    · exact hR
    rcases j with _ | j
    · exact hR
    rcases j with _ | j
    · exact hR
    rcases j with _ | j
    · exact hR
    rcases j with _ | j
    · exact hR
    rcases j with _ | j
    · exact hR
    rcases j with _ | j
    · exact hR
    rcases j with _ | j
    · exact hR
    exact trivial
  · intro j o vs vs1 w0 ho he hp hR
    rcases j with _ | j
    · exact he.trans hR
    rcases j with _ | j
    · exact he.trans hR
    rcases j with _ | j
    · exact he.trans hR
    rcases j with _ | j
    · exact he.trans hR
    rcases j with _ | j
    · exact he.trans hR
    rcases j with _ | j
    · exact he.trans hR
    rcases j with _ | j
    · exact he.trans hR
    rcases j with _ | j
    · exact he.trans hR
    rcases j with _ | j
    · exact he.trans hR
    rcases j with _ | j
    · exact he.trans hR
    rcases j with _ | j
    · exact he.trans hR
    rcases j with _ | j
    · exact he.trans hR
    rcases j with _ | j
    · exact he.trans hR
    rcases j with _ | j
    · exact he.trans hR
    rcases j with _ | j
    · exact he.trans hR
    rcases j with _ | j
    · exact he.trans hR
    rcases j with _ | j
    · exact he.trans hR
    rcases j with _ | j
    · exact he.trans hR
    rcases j with _ | j
    · exact he.trans hR
    rcases j with _ | j
    · exact he.trans hR
    rcases j with _ | j
    · exact he.trans hR
    rcases j with _ | j
    · exact he.trans hR
    rcases j with _ | j
    · exact he.trans hR
    rcases j with _ | j
    · exact he.trans hR
    rcases j with _ | j
    · exact he.trans hR
    rcases j with _ | j
    · exact he.trans hR
    rcases j with _ | j
    · exact he.trans hR
    rcases j with _ | j
    · exact he.trans hR
    rcases j with _ | j
    · exact he.trans hR
    rcases j with _ | j
    · exact he.trans hR
    rcases j with _ | j
    · exact he.trans hR
    rcases j with _ | j
    · exact he.trans hR
    rcases j with _ | j
    · exact he.trans hR
    rcases j with _ | j
    · exact he.trans hR
    rcases j with _ | j
    · exact he.trans hR
    rcases j with _ | j
    · exact he.trans hR
    rcases j with _ | j
    · exact he.trans hR
    rcases j with _ | j
    · exact he.trans hR
    rcases j with _ | j
    · exact he.trans hR
    rcases j with _ | j
    · exact he.trans hR
    rcases j with _ | j
    · exact he.trans hR
    rcases j with _ | j
    · exact he.trans hR
    rcases j with _ | j
    · exact he.trans hR
    rcases j with _ | j
    · exact he.trans hR
    rcases j with _ | j
    · exact he.trans hR
    rcases j with _ | j
    · exact he.trans hR
    rcases j with _ | j
    · exact he.trans hR
    rcases j with _ | j
    · exact he.trans hR
    rcases j with _ | j
    · exact he.trans hR
    rcases j with _ | j
    · exact he.trans hR
    rcases j with _ | j
    · exact he.trans hR
    rcases j with _ | j
    · exact he.trans hR
    rcases j with _ | j
    · exact he.trans hR
    rcases j with _ | j
    · exact he.trans hR
    rcases j with _ | j
    · exact he.trans hR
    rcases j with _ | j
    · exact he.trans hR
    rcases j with _ | j
    · exact he.trans hR
    rcases j with _ | j
    · exact he.trans hR
    rcases j with _ | j
    · exact he.trans hR
    rcases j with _ | j
    · exact he.trans hR
    rcases j with _ | j
    · exact he.trans hR
    rcases j with _ | j
    · exact he.trans hR
    rcases j with _ | j
    · exact he.trans hR
    rcases j with _ | j
    · exact he.trans hR
    rcases j with _ | j
    · exact he.trans hR
    rcases j with _ | j
    · exact he.trans hR
    rcases j with _ | j
    · exact he.trans hR
    rcases j with _ | j
    · exact he.trans hR
    exact trivial
  · skip
    refine RegG.allOps_cons ?_ ?_
    · intro j b hg vs w hR
      first
        | (cases hg; done)
        | (cases hg; exact hR)
    refine RegG.allOps_cons ?_ ?_
    · intro j b hg vs w hR
      first
        | (cases hg; done)
        | (cases hg; exact hR)
    refine RegG.allOps_cons ?_ ?_
    · intro j b hg vs w hR
      first
        | (cases hg; done)
        | (cases hg; exact hR)
    refine RegG.allOps_cons ?_ ?_
    · intro j b hg vs w hR
      first
        | (cases hg; done)
        | (cases hg; exact hR)
    refine RegG.allOps_cons ?_ ?_
    · intro j b hg vs w hR
      first
        | (cases hg; done)
        | (cases hg; exact hR)
    refine RegG.allOps_cons ?_ ?_
    · intro j b hg vs w hR
      first
        | (cases hg; done)
        | (cases hg; exact hR)
    refine RegG.allOps_cons ?_ ?_
    · intro j b hg vs w hR
      first
        | (cases hg; done)
        | (cases hg; exact hR)
    refine RegG.allOps_cons ?_ ?_
    · intro j b hg vs w hR
      first
        | (cases hg; done)
        | (cases hg; exact hR)
    refine RegG.allOps_cons ?_ ?_
    · intro j b hg vs w hR
      first
        | (cases hg; done)
        | (cases hg; exact hR)
    refine RegG.allOps_cons ?_ ?_
    · intro j b hg vs w hR
      first
        | (cases hg; done)
        | (cases hg; exact hR)
    refine RegG.allOps_cons ?_ ?_
    · intro j b hg vs w hR
      first
        | (cases hg; done)
        | (cases hg; exact hR)
    refine RegG.allOps_cons ?_ ?_
    · intro j b hg vs w hR
      first
        | (cases hg; done)
        | (cases hg; exact hR)
    refine RegG.allOps_cons ?_ ?_
    · intro j b hg vs w hR
      first
        | (cases hg; done)
        | (cases hg; exact hR)
    refine RegG.allOps_cons ?_ ?_
    · intro j b hg vs w hR
      first
        | (cases hg; done)
        | (cases hg; exact hR)
    refine RegG.allOps_cons ?_ ?_
    · intro j b hg vs w hR
      first
        | (cases hg; done)
        | (cases hg; exact hR)
    refine RegG.allOps_cons ?_ ?_
    · intro j b hg vs w hR
      first
        | (cases hg; done)
        | (cases hg; exact hR)
    refine RegG.allOps_cons ?_ ?_
    · intro j b hg vs w hR
      first
        | (cases hg; done)
        | (cases hg; exact hR)
    refine RegG.allOps_cons ?_ ?_
    · intro j b hg vs w hR
      first
        | (cases hg; done)
        | (cases hg; exact hR)
    refine RegG.allOps_cons ?_ ?_
    · intro j b hg vs w hR
      first
        | (cases hg; done)
        | (cases hg; exact hR)
    refine RegG.allOps_cons ?_ ?_
    · intro j b hg vs w hR
      first
        | (cases hg; done)
        | (cases hg; exact hR)
    refine RegG.allOps_cons ?_ ?_
    · intro j b hg vs w hR
      first
        | (cases hg; done)
        | (cases hg; exact hR)
    refine RegG.allOps_cons ?_ ?_
    · intro j b hg vs w hR
      first
        | (cases hg; done)
        | (cases hg; exact hR)
    refine RegG.allOps_cons ?_ ?_
    · intro j b hg vs w hR
      first
        | (cases hg; done)
        | (cases hg; exact hR)
    refine RegG.allOps_cons ?_ ?_
    · intro j b hg vs w hR
      first
        | (cases hg; done)
        | (cases hg; exact hR)
    refine RegG.allOps_cons ?_ ?_
    · intro j b hg vs w hR
      first
        | (cases hg; done)
        | (cases hg; exact hR)
    refine RegG.allOps_cons ?_ ?_
    · intro j b hg vs w hR
      first
        | (cases hg; done)
        | (cases hg; exact hR)
    refine RegG.allOps_cons ?_ ?_
    · intro j b hg vs w hR
      first
        | (cases hg; done)
        | (cases hg; exact hR)
    refine RegG.allOps_cons ?_ ?_
    · intro j b hg vs w hR
      first
        | (cases hg; done)
        | (cases hg; exact hR)
    refine RegG.allOps_cons ?_ ?_
    · intro j b hg vs w hR
      first
        | (cases hg; done)
        | (cases hg; exact hR)
    refine RegG.allOps_cons ?_ ?_
    · intro j b hg vs w hR
      first
        | (cases hg; done)
        | (cases hg; exact hR)
    refine RegG.allOps_cons ?_ ?_
    · intro j b hg vs w hR
      first
        | (cases hg; done)
        | (cases hg; exact hR)
    refine RegG.allOps_cons ?_ ?_
    · intro j b hg vs w hR
      first
        | (cases hg; done)
        | (cases hg; exact hR)
    refine RegG.allOps_cons ?_ ?_
    · intro j b hg vs w hR
      first
        | (cases hg; done)
        | (cases hg; exact hR)
    refine RegG.allOps_cons ?_ ?_
    · intro j b hg vs w hR
      first
        | (cases hg; done)
        | (cases hg; exact hR)
    refine RegG.allOps_cons ?_ ?_
    · intro j b hg vs w hR
      first
        | (cases hg; done)
        | (cases hg; exact hR)
    refine RegG.allOps_cons ?_ ?_
    · intro j b hg vs w hR
      first
        | (cases hg; done)
        | (cases hg; exact hR)
    refine RegG.allOps_cons ?_ ?_
    · intro j b hg vs w hR
      first
        | (cases hg; done)
        | (cases hg; exact hR)
    refine RegG.allOps_cons ?_ ?_
    · intro j b hg vs w hR
      first
        | (cases hg; done)
        | (cases hg; exact hR)
    refine RegG.allOps_cons ?_ ?_
    · intro j b hg vs w hR
      first
        | (cases hg; done)
        | (cases hg; exact hR)
    refine RegG.allOps_cons ?_ ?_
    · intro j b hg vs w hR
      first
        | (cases hg; done)
        | (cases hg; exact hR)
    refine RegG.allOps_cons ?_ ?_
    · intro j b hg vs w hR
      first
        | (cases hg; done)
        | (cases hg; exact hR)
    refine RegG.allOps_cons ?_ ?_
    · intro j b hg vs w hR
      first
        | (cases hg; done)
        | (cases hg; exact hR)
    refine RegG.allOps_cons ?_ ?_
    · intro j b hg vs w hR
      first
        | (cases hg; done)
        | (cases hg; exact hR)
    refine RegG.allOps_cons ?_ ?_
    · intro j b hg vs w hR
      first
        | (cases hg; done)
        | (cases hg; exact hR)
    refine RegG.allOps_cons ?_ ?_
    · intro j b hg vs w hR
      first
        | (cases hg; done)
        | (cases hg; exact hR)
    refine RegG.allOps_cons ?_ ?_
    · intro j b hg vs w hR
      first
        | (cases hg; done)
        | (cases hg; exact hR)
    refine RegG.allOps_cons ?_ ?_
    · intro j b hg vs w hR
      first
        | (cases hg; done)
        | (cases hg; exact hR)
    refine RegG.allOps_cons ?_ ?_
    · intro j b hg vs w hR
      first
        | (cases hg; done)
        | (cases hg; exact hR)
    refine RegG.allOps_cons ?_ ?_
    · intro j b hg vs w hR
      first
        | (cases hg; done)
        | (cases hg; exact hR)
    refine RegG.allOps_cons ?_ ?_
    · intro j b hg vs w hR
      first
        | (cases hg; done)
        | (cases hg; exact hR)
    refine RegG.allOps_cons ?_ ?_
    · intro j b hg vs w hR
      first
        | (cases hg; done)
        | (cases hg; exact hR)
    refine RegG.allOps_cons ?_ ?_
    · intro j b hg vs w hR
      first
        | (cases hg; done)
        | (cases hg; exact hR)
    refine RegG.allOps_cons ?_ ?_
    · intro j b hg vs w hR
      first
        | (cases hg; done)
        | (cases hg; exact hR)
    refine RegG.allOps_cons ?_ ?_
    · intro j b hg vs w hR
      first
        | (cases hg; done)
        | (cases hg; exact hR)
    refine RegG.allOps_cons ?_ ?_
    · intro j b hg vs w hR
      first
        | (cases hg; done)
        | (cases hg; exact hR)
    refine RegG.allOps_cons ?_ ?_
    · intro j b hg vs w hR
      first
        | (cases hg; done)
        | (cases hg; exact hR)
    refine RegG.allOps_cons ?_ ?_
    · intro j b hg vs w hR
      first
        | (cases hg; done)
        | (cases hg; exact hR)
    refine RegG.allOps_cons ?_ ?_
    · intro j b hg vs w hR
      first
        | (cases hg; done)
        | (cases hg; exact hR)
    refine RegG.allOps_cons ?_ ?_
    · intro j b hg vs w hR
      first
        | (cases hg; done)
        | (cases hg; exact hR)
    refine RegG.allOps_cons ?_ ?_
    · intro j b hg vs w hR
      first
        | (cases hg; done)
        | (cases hg; exact hR)
    refine RegG.allOps_cons ?_ ?_
    · intro j b hg vs w hR
      first
        | (cases hg; done)
        | (cases hg; exact hR)
    refine RegG.allOps_cons ?_ ?_
    · intro j b hg vs w hR
      first
        | (cases hg; done)
        | (cases hg; exact hR)
    refine RegG.allOps_cons ?_ ?_
    · intro j b hg vs w hR
      first
        | (cases hg; done)
        | (cases hg; exact hR)
    refine RegG.allOps_cons ?_ ?_
    · intro j b hg vs w hR
      first
        | (cases hg; done)
        | (cases hg; exact hR)
    refine RegG.allOps_cons ?_ ?_
    · intro j b hg vs w hR
      first
        | (cases hg; done)
        | (cases hg; exact hR)
    refine RegG.allOps_cons ?_ ?_
    · intro j b hg vs w hR
      first
        | (cases hg; done)
        | (cases hg; exact hR)
    refine RegG.allOps_cons ?_ ?_
    · intro j b hg vs w hR
      first
        | (cases hg; done)
        | (cases hg; exact hR)
    refine RegG.allOps_cons ?_ ?_
    · intro j b hg vs w hR
      first
        | (cases hg; done)
        | (cases hg; exact hR)
    exact RegG.allOps_nil
  · skip
    refine RegG.allOps_cons ?_ ?_
    · intro vs w0 ρ hρ hcst hglb hfun hI hp
      have e0 : ρ (.tmp 0) = .pointer (some ⟨gh, 0, none⟩) := hρ (.tmp 0)
      clear hρ hp
      refine RegG.rel_value (.pointer (some ⟨gh, 0, none⟩)) ?_ ⟨hI, rfl⟩
      go_simp
    refine RegG.allOps_cons ?_ ?_
    · intro vs w0 ρ hρ hcst hglb hfun hI hp
      have e13 : ρ (.tmp 13) = .pointer (some ⟨gh, 0, none⟩) := (hρ (.tmp 13)).trans (show vs 0 = .pointer (some ⟨gh, 0, none⟩) from hp 0 rfl)
      clear hρ hp
      refine RegG.rel_value (.pointer (some ⟨gh, 0, none⟩)) ?_ ⟨hI, rfl⟩
      go_simp
    refine RegG.allOps_cons ?_ ?_
    · intro vs w0 ρ hρ hcst hglb hfun hI hp
      have e14 : ρ (.tmp 14) = .pointer (some ⟨gh, 0, none⟩) := (hρ (.tmp 14)).trans (show vs 1 = .pointer (some ⟨gh, 0, none⟩) from hp 1 rfl)
      clear hρ hp
      refine RegG.rel_value (.pointer (some ⟨gh, 0, none⟩)) ?_ ⟨hI, rfl⟩
      go_simp
    refine RegG.allOps_cons ?_ ?_
    · intro vs w0 ρ hρ hcst hglb hfun hI hp
      have e15 : ρ (.tmp 15) = .pointer (some ⟨gh, 0, none⟩) := (hρ (.tmp 15)).trans (show vs 2 = .pointer (some ⟨gh, 0, none⟩) from hp 2 rfl)
      clear hρ hp
      refine RegG.rel_value (.agg (cL c (.slice (some ⟨gn, 0, none⟩) N cn)).toArray) (exec_load_mid 24 (.tmp 15) rfl gh 0 e15 _ _ (hand_ranges ((hI.block _ (blk_lt HK2.out)).trans HK2.out)).1 Tryd.underlying24 rfl infoC23) ⟨hI, rfl⟩
    refine RegG.allOps_cons ?_ ?_
    · intro vs w0 ρ hρ hcst hglb hfun hI hp
      have e0 : ρ (.tmp 0) = .pointer (some ⟨gh, 0, none⟩) := hρ (.tmp 0)
      clear hρ hp
      refine RegG.rel_value (.pointer (some ⟨gh, 0, none⟩)) ?_ ⟨hI, rfl⟩
      go_simp
    refine RegG.allOps_cons ?_ ?_
    · intro vs w0 ρ hρ hcst hglb hfun hI hp
      have e17 : ρ (.tmp 17) = .pointer (some ⟨gh, 0, none⟩) := (hρ (.tmp 17)).trans (show vs 4 = .pointer (some ⟨gh, 0, none⟩) from hp 4 rfl)
      clear hρ hp
      refine RegG.rel_value (.pointer (some ⟨gh, 0, none⟩)) ?_ ⟨hI, rfl⟩
      go_simp
    refine RegG.allOps_cons ?_ ?_
    · intro vs w0 ρ hρ hcst hglb hfun hI hp
      have e18 : ρ (.tmp 18) = .pointer (some ⟨gh, 0, none⟩) := (hρ (.tmp 18)).trans (show vs 5 = .pointer (some ⟨gh, 0, none⟩) from hp 5 rfl)
      clear hρ hp
      refine RegG.rel_value (.pointer (some ⟨gh, 23, none⟩)) ?_ ⟨hI, rfl⟩
      go_simp
    refine RegG.allOps_cons ?_ ?_
    · intro vs w0 ρ hρ hcst hglb hfun hI hp
      have e19 : ρ (.tmp 19) = .pointer (some ⟨gh, 23, none⟩) := (hρ (.tmp 19)).trans (show vs 6 = .pointer (some ⟨gh, 23, none⟩) from hp 6 rfl)
      clear hρ hp
      refine RegG.rel_value (.agg (cL c (.slice A2 N cap2)).toArray) (exec_load_mid 24 (.tmp 19) rfl gh 23 e19 _ _ (hand_ranges ((hI.block _ (blk_lt HK2.out)).trans HK2.out)).2 Tryd.underlying24 rfl infoC23) ⟨hI, rfl⟩
    refine RegG.allOps_cons ?_ ?_
    · intro vs w0 ρ hρ hcst hglb hfun hI hp
      have e16 : ρ (.tmp 16) = .agg (cL c (.slice (some ⟨gn, 0, none⟩) N cn)).toArray := (hρ (.tmp 16)).trans (show vs 3 = .agg (cL c (.slice (some ⟨gn, 0, none⟩) N cn)).toArray from hp 3 rfl)
      have e20 : ρ (.tmp 20) = .agg (cL c (.slice A2 N cap2)).toArray := (hρ (.tmp 20)).trans (show vs 7 = .agg (cL c (.slice A2 N cap2)).toArray from hp 7 rfl)
      clear hρ hp
      refine RegG.rel_call Tryd.func32 (by kernel_rfl) rfl #[.agg (cL c (.slice (some ⟨gn, 0, none⟩) N cn)).toArray, .agg (cL c (.slice A2 N cap2)).toArray] rfl (hfun _) (by simp [e16, e20]) ?_
      refine (HSAME w0 hI).out.mono ?_
      rintro e w3 ⟨rfl, hb⟩
      exact ⟨_, rfl, hb, hI.trans (hb.mono hI.size), rfl⟩
    refine RegG.allOps_cons ?_ ?_
    · intro vs w0 ρ hρ hcst hglb hfun hI hp
      have e21 : ρ (.tmp 21) = .bool true := (hρ (.tmp 21)).trans (show vs 8 = .bool true from hp 8 rfl)
      clear hρ hp
      refine RegG.rel_value (.bool false) ?_ ⟨hI, rfl⟩
      go_simp
    refine RegG.allOps_cons ?_ ?_
    · intro vs w0 ρ hρ hcst hglb hfun hI hp
      have e22 : ρ (.tmp 22) = .bool false := (hρ (.tmp 22)).trans (show vs 9 = .bool false from hp 9 rfl)
      clear hρ hp
      refine RegG.rel_value (.bool false) ?_ ⟨hI, rfl⟩
      go_simp
    refine RegG.allOps_cons ?_ ?_
    · intro vs w0 ρ hρ hcst hglb hfun hI hp
      have e0 : ρ (.tmp 0) = .pointer (some ⟨gh, 0, none⟩) := hρ (.tmp 0)
      clear hρ hp
      refine RegG.rel_value (.pointer (some ⟨gh, 0, none⟩)) ?_ ⟨hI, rfl⟩
      go_simp
    refine RegG.allOps_cons ?_ ?_
    · intro vs w0 ρ hρ hcst hglb hfun hI hp
      have e24 : ρ (.tmp 24) = .pointer (some ⟨gh, 0, none⟩) := (hρ (.tmp 24)).trans (show vs 11 = .pointer (some ⟨gh, 0, none⟩) from hp 11 rfl)
      clear hρ hp
      refine RegG.rel_value (.pointer (some ⟨gh, 0, none⟩)) ?_ ⟨hI, rfl⟩
      go_simp
    refine RegG.allOps_cons ?_ ?_
    · intro vs w0 ρ hρ hcst hglb hfun hI hp
      have e25 : ρ (.tmp 25) = .pointer (some ⟨gh, 0, none⟩) := (hρ (.tmp 25)).trans (show vs 12 = .pointer (some ⟨gh, 0, none⟩) from hp 12 rfl)
      clear hρ hp
      refine RegG.rel_value (.pointer (some ⟨gh, 46, none⟩)) ?_ ⟨hI, rfl⟩
      go_simp
    refine RegG.allOps_cons ?_ ?_
    · intro vs w0 ρ hρ hcst hglb hfun hI hp
      have e26 : ρ (.tmp 26) = .pointer (some ⟨gh, 46, none⟩) := (hρ (.tmp 26)).trans (show vs 13 = .pointer (some ⟨gh, 46, none⟩) from hp 13 rfl)
      clear hρ hp
      have hl2 : w0.cell? ⟨gh, 46, none⟩ = some (.slice (some ⟨gn, 0, none⟩) M cn) := cell_below hI (Nat.le_refl _) h46
      refine RegG.rel_value (.slice (some ⟨gn, 0, none⟩) M cn) ?_ ⟨hI, rfl⟩
      go_simp
    refine RegG.allOps_cons ?_ ?_
    · intro vs w0 ρ hρ hcst hglb hfun hI hp
      have e27 : ρ (.tmp 27) = .slice (some ⟨gn, 0, none⟩) M cn := (hρ (.tmp 27)).trans (show vs 14 = .slice (some ⟨gn, 0, none⟩) M cn from hp 14 rfl)
      clear hρ hp
      refine RegG.rel_value (.int .i64 (M : Nat)) ?_ ⟨hI, rfl⟩
      go_simp
    refine RegG.allOps_cons ?_ ?_
    · intro vs w0 ρ hρ hcst hglb hfun hI hp
      have e3 : ρ (.tmp 3) = .int .i64 (N : Nat) := hρ (.tmp 3)
      clear hρ hp
      refine RegG.rel_value (.int .i64 (N : Nat)) ?_ ⟨hI, rfl⟩
      go_simp
    refine RegG.allOps_cons ?_ ?_
    · intro vs w0 ρ hρ hcst hglb hfun hI hp
      have e29 : ρ (.tmp 29) = .int .i64 (N : Nat) := (hρ (.tmp 29)).trans (show vs 16 = .int .i64 (N : Nat) from hp 16 rfl)
      clear hρ hp
      refine RegG.rel_value (.int .i64 (M : Nat)) ?_ ⟨hI, rfl⟩
      have hq := HWM.out
      go_simp
    refine RegG.allOps_cons ?_ ?_
    · intro vs w0 ρ hρ hcst hglb hfun hI hp
      have e28 : ρ (.tmp 28) = .int .i64 (M : Nat) := (hρ (.tmp 28)).trans (show vs 15 = .int .i64 (M : Nat) from hp 15 rfl)
      have e30 : ρ (.tmp 30) = .int .i64 (M : Nat) := (hρ (.tmp 30)).trans (show vs 17 = .int .i64 (M : Nat) from hp 17 rfl)
      clear hρ hp
      refine RegG.rel_value (.bool false) ?_ ⟨hI, rfl⟩
      go_simp
    refine RegG.allOps_cons ?_ ?_
    · intro vs w0 ρ hρ hcst hglb hfun hI hp
      have e23 : ρ (.tmp 23) = .bool false := (hρ (.tmp 23)).trans (show vs 10 = .bool false from hp 10 rfl)
      have e31 : ρ (.tmp 31) = .bool false := (hρ (.tmp 31)).trans (show vs 18 = .bool false from hp 18 rfl)
      clear hρ hp
      refine RegG.rel_value (.bool false) ?_ ⟨hI, rfl⟩
      go_simp
    refine RegG.allOps_cons ?_ ?_
    · intro vs w0 ρ hρ hcst hglb hfun hI hp
      have e32 : ρ (.tmp 32) = .bool false := (hρ (.tmp 32)).trans (show vs 19 = .bool false from hp 19 rfl)
      clear hρ hp
      refine RegG.rel_value (.bool false) ?_ ⟨hI, rfl⟩
      go_simp
    refine RegG.allOps_cons ?_ ?_
    · intro vs w0 ρ hρ hcst hglb hfun hI hp
      have e0 : ρ (.tmp 0) = .pointer (some ⟨gh, 0, none⟩) := hρ (.tmp 0)
      clear hρ hp
      refine RegG.rel_value (.pointer (some ⟨gh, 0, none⟩)) ?_ ⟨hI, rfl⟩
      go_simp
    refine RegG.allOps_cons ?_ ?_
    · intro vs w0 ρ hρ hcst hglb hfun hI hp
      have e34 : ρ (.tmp 34) = .pointer (some ⟨gh, 0, none⟩) := (hρ (.tmp 34)).trans (show vs 21 = .pointer (some ⟨gh, 0, none⟩) from hp 21 rfl)
      clear hρ hp
      refine RegG.rel_value (.pointer (some ⟨gh, 0, none⟩)) ?_ ⟨hI, rfl⟩
      go_simp
    refine RegG.allOps_cons ?_ ?_
    · intro vs w0 ρ hρ hcst hglb hfun hI hp
      have e35 : ρ (.tmp 35) = .pointer (some ⟨gh, 0, none⟩) := (hρ (.tmp 35)).trans (show vs 22 = .pointer (some ⟨gh, 0, none⟩) from hp 22 rfl)
      clear hρ hp
      refine RegG.rel_value (.pointer (some ⟨gh, 46, none⟩)) ?_ ⟨hI, rfl⟩
      go_simp
    refine RegG.allOps_cons ?_ ?_
    · intro vs w0 ρ hρ hcst hglb hfun hI hp
      have e36 : ρ (.tmp 36) = .pointer (some ⟨gh, 46, none⟩) := (hρ (.tmp 36)).trans (show vs 23 = .pointer (some ⟨gh, 46, none⟩) from hp 23 rfl)
      clear hρ hp
      have hl2 : w0.cell? ⟨gh, 46, none⟩ = some (.slice (some ⟨gn, 0, none⟩) M cn) := cell_below hI (Nat.le_refl _) h46
      refine RegG.rel_value (.slice (some ⟨gn, 0, none⟩) M cn) ?_ ⟨hI, rfl⟩
      go_simp
    refine RegG.allOps_cons ?_ ?_
    · intro vs w0 ρ hρ hcst hglb hfun hI hp
      have e3 : ρ (.tmp 3) = .int .i64 (N : Nat) := hρ (.tmp 3)
      clear hρ hp
      refine RegG.rel_value (.int .i64 (N : Nat)) ?_ ⟨hI, rfl⟩
      go_simp
    refine RegG.allOps_cons ?_ ?_
    · intro vs w0 ρ hρ hcst hglb hfun hI hp
      have e37 : ρ (.tmp 37) = .slice (some ⟨gn, 0, none⟩) M cn := (hρ (.tmp 37)).trans (show vs 24 = .slice (some ⟨gn, 0, none⟩) M cn from hp 24 rfl)
      have e38 : ρ (.tmp 38) = .int .i64 (N : Nat) := (hρ (.tmp 38)).trans (show vs 25 = .int .i64 (N : Nat) from hp 25 rfl)
      clear hρ hp
      refine RegG.rel_value (.pointer (some ⟨gn, N * 2, none⟩)) ?_ ⟨hI, rfl⟩
      have hq := HNM.out
      go_simp
    refine RegG.allOps_cons ?_ ?_
    · intro vs w0 ρ hρ hcst hglb hfun hI hp
      have e39 : ρ (.tmp 39) = .pointer (some ⟨gn, N * 2, none⟩) := (hρ (.tmp 39)).trans (show vs 26 = .pointer (some ⟨gn, N * 2, none⟩) from hp 26 rfl)
      clear hρ hp
      refine RegG.rel_value (.pointer (some ⟨gn, N * 2, none⟩)) ?_ ⟨hI, rfl⟩
      go_simp
    refine RegG.allOps_cons ?_ ?_
    · intro vs w0 ρ hρ hcst hglb hfun hI hp
      have e40 : ρ (.tmp 40) = .pointer (some ⟨gn, N * 2, none⟩) := (hρ (.tmp 40)).trans (show vs 27 = .pointer (some ⟨gn, N * 2, none⟩) from hp 27 rfl)
      clear hρ hp
      have hl2 : w0.cell? ⟨gn, N * 2, none⟩ = some (.int .i64 801) := cell_below hI (Nat.le_refl _) e0x
      refine RegG.rel_value (.int .i64 801) ?_ ⟨hI, rfl⟩
      go_simp
    refine RegG.allOps_cons ?_ ?_
    · intro vs w0 ρ hρ hcst hglb hfun hI hp
      have e41 : ρ (.tmp 41) = .int .i64 801 := (hρ (.tmp 41)).trans (show vs 28 = .int .i64 801 from hp 28 rfl)
      clear hρ hp
      refine RegG.rel_value (.bool false) ?_ ⟨hI, rfl⟩
      go_simp
    refine RegG.allOps_cons ?_ ?_
    · intro vs w0 ρ hρ hcst hglb hfun hI hp
      have e33 : ρ (.tmp 33) = .bool false := (hρ (.tmp 33)).trans (show vs 20 = .bool false from hp 20 rfl)
      have e42 : ρ (.tmp 42) = .bool false := (hρ (.tmp 42)).trans (show vs 29 = .bool false from hp 29 rfl)
      clear hρ hp
      refine RegG.rel_value (.bool false) ?_ ⟨hI, rfl⟩
      go_simp
    refine RegG.allOps_cons ?_ ?_
    · intro vs w0 ρ hρ hcst hglb hfun hI hp
      have e43 : ρ (.tmp 43) = .bool false := (hρ (.tmp 43)).trans (show vs 30 = .bool false from hp 30 rfl)
      clear hρ hp
      refine RegG.rel_value (.bool false) ?_ ⟨hI, rfl⟩
      go_simp
    refine RegG.allOps_cons ?_ ?_
    · intro vs w0 ρ hρ hcst hglb hfun hI hp
      have e0 : ρ (.tmp 0) = .pointer (some ⟨gh, 0, none⟩) := hρ (.tmp 0)
      clear hρ hp
      refine RegG.rel_value (.pointer (some ⟨gh, 0, none⟩)) ?_ ⟨hI, rfl⟩
      go_simp
    refine RegG.allOps_cons ?_ ?_
    · intro vs w0 ρ hρ hcst hglb hfun hI hp
      have e45 : ρ (.tmp 45) = .pointer (some ⟨gh, 0, none⟩) := (hρ (.tmp 45)).trans (show vs 32 = .pointer (some ⟨gh, 0, none⟩) from hp 32 rfl)
      clear hρ hp
      refine RegG.rel_value (.pointer (some ⟨gh, 0, none⟩)) ?_ ⟨hI, rfl⟩
      go_simp
    refine RegG.allOps_cons ?_ ?_
    · intro vs w0 ρ hρ hcst hglb hfun hI hp
      have e46 : ρ (.tmp 46) = .pointer (some ⟨gh, 0, none⟩) := (hρ (.tmp 46)).trans (show vs 33 = .pointer (some ⟨gh, 0, none⟩) from hp 33 rfl)
      clear hρ hp
      refine RegG.rel_value (.pointer (some ⟨gh, 46, none⟩)) ?_ ⟨hI, rfl⟩
      go_simp
    refine RegG.allOps_cons ?_ ?_
    · intro vs w0 ρ hρ hcst hglb hfun hI hp
      have e47 : ρ (.tmp 47) = .pointer (some ⟨gh, 46, none⟩) := (hρ (.tmp 47)).trans (show vs 34 = .pointer (some ⟨gh, 46, none⟩) from hp 34 rfl)
      clear hρ hp
      have hl2 : w0.cell? ⟨gh, 46, none⟩ = some (.slice (some ⟨gn, 0, none⟩) M cn) := cell_below hI (Nat.le_refl _) h46
      refine RegG.rel_value (.slice (some ⟨gn, 0, none⟩) M cn) ?_ ⟨hI, rfl⟩
      go_simp
    refine RegG.allOps_cons ?_ ?_
    · intro vs w0 ρ hρ hcst hglb hfun hI hp
      have e3 : ρ (.tmp 3) = .int .i64 (N : Nat) := hρ (.tmp 3)
      clear hρ hp
      refine RegG.rel_value (.int .i64 (N : Nat)) ?_ ⟨hI, rfl⟩
      go_simp
    refine RegG.allOps_cons ?_ ?_
    · intro vs w0 ρ hρ hcst hglb hfun hI hp
      have e49 : ρ (.tmp 49) = .int .i64 (N : Nat) := (hρ (.tmp 49)).trans (show vs 36 = .int .i64 (N : Nat) from hp 36 rfl)
      clear hρ hp
      refine RegG.rel_value (.int .i64 (M1 : Nat)) ?_ ⟨hI, rfl⟩
      have hq := HWM1.out
      go_simp
    refine RegG.allOps_cons ?_ ?_
    · intro vs w0 ρ hρ hcst hglb hfun hI hp
      have e48 : ρ (.tmp 48) = .slice (some ⟨gn, 0, none⟩) M cn := (hρ (.tmp 48)).trans (show vs 35 = .slice (some ⟨gn, 0, none⟩) M cn from hp 35 rfl)
      have e50 : ρ (.tmp 50) = .int .i64 (M1 : Nat) := (hρ (.tmp 50)).trans (show vs 37 = .int .i64 (M1 : Nat) from hp 37 rfl)
      clear hρ hp
      refine RegG.rel_value (.pointer (some ⟨gn, M1 * 2, none⟩)) ?_ ⟨hI, rfl⟩
      have hq := HM1M.out
      go_simp
    refine RegG.allOps_cons ?_ ?_
    · intro vs w0 ρ hρ hcst hglb hfun hI hp
      have e51 : ρ (.tmp 51) = .pointer (some ⟨gn, M1 * 2, none⟩) := (hρ (.tmp 51)).trans (show vs 38 = .pointer (some ⟨gn, M1 * 2, none⟩) from hp 38 rfl)
      clear hρ hp
      refine RegG.rel_value (.pointer (some ⟨gn, M1 * 2, none⟩)) ?_ ⟨hI, rfl⟩
      go_simp
    refine RegG.allOps_cons ?_ ?_
    · intro vs w0 ρ hρ hcst hglb hfun hI hp
      have e52 : ρ (.tmp 52) = .pointer (some ⟨gn, M1 * 2, none⟩) := (hρ (.tmp 52)).trans (show vs 39 = .pointer (some ⟨gn, M1 * 2, none⟩) from hp 39 rfl)
      clear hρ hp
      have hl2 : w0.cell? ⟨gn, M1 * 2, none⟩ = some (.int .i64 802) := cell_below hI (Nat.le_refl _) e2x
      refine RegG.rel_value (.int .i64 802) ?_ ⟨hI, rfl⟩
      go_simp
    refine RegG.allOps_cons ?_ ?_
    · intro vs w0 ρ hρ hcst hglb hfun hI hp
      have e53 : ρ (.tmp 53) = .int .i64 802 := (hρ (.tmp 53)).trans (show vs 40 = .int .i64 802 from hp 40 rfl)
      clear hρ hp
      refine RegG.rel_value (.bool false) ?_ ⟨hI, rfl⟩
      go_simp
    refine RegG.allOps_cons ?_ ?_
    · intro vs w0 ρ hρ hcst hglb hfun hI hp
      have e44 : ρ (.tmp 44) = .bool false := (hρ (.tmp 44)).trans (show vs 31 = .bool false from hp 31 rfl)
      have e54 : ρ (.tmp 54) = .bool false := (hρ (.tmp 54)).trans (show vs 41 = .bool false from hp 41 rfl)
      clear hρ hp
      refine RegG.rel_value (.bool false) ?_ ⟨hI, rfl⟩
      go_simp
    refine RegG.allOps_cons ?_ ?_
    · intro vs w0 ρ hρ hcst hglb hfun hI hp
      have e55 : ρ (.tmp 55) = .bool false := (hρ (.tmp 55)).trans (show vs 42 = .bool false from hp 42 rfl)
      clear hρ hp
      refine RegG.rel_value (.bool false) ?_ ⟨hI, rfl⟩
      go_simp
    refine RegG.allOps_cons ?_ ?_
    · intro vs w0 ρ hρ hcst hglb hfun hI hp
      have e0 : ρ (.tmp 0) = .pointer (some ⟨gh, 0, none⟩) := hρ (.tmp 0)
      clear hρ hp
      refine RegG.rel_value (.pointer (some ⟨gh, 0, none⟩)) ?_ ⟨hI, rfl⟩
      go_simp
    refine RegG.allOps_cons ?_ ?_
    · intro vs w0 ρ hρ hcst hglb hfun hI hp
      have e57 : ρ (.tmp 57) = .pointer (some ⟨gh, 0, none⟩) := (hρ (.tmp 57)).trans (show vs 44 = .pointer (some ⟨gh, 0, none⟩) from hp 44 rfl)
      clear hρ hp
      refine RegG.rel_value (.pointer (some ⟨gh, 0, none⟩)) ?_ ⟨hI, rfl⟩
      go_simp
    refine RegG.allOps_cons ?_ ?_
    · intro vs w0 ρ hρ hcst hglb hfun hI hp
      have e58 : ρ (.tmp 58) = .pointer (some ⟨gh, 0, none⟩) := (hρ (.tmp 58)).trans (show vs 45 = .pointer (some ⟨gh, 0, none⟩) from hp 45 rfl)
      clear hρ hp
      refine RegG.rel_value (.pointer (some ⟨gh, 46, none⟩)) ?_ ⟨hI, rfl⟩
      go_simp
    refine RegG.allOps_cons ?_ ?_
    · intro vs w0 ρ hρ hcst hglb hfun hI hp
      have e59 : ρ (.tmp 59) = .pointer (some ⟨gh, 46, none⟩) := (hρ (.tmp 59)).trans (show vs 46 = .pointer (some ⟨gh, 46, none⟩) from hp 46 rfl)
      clear hρ hp
      have hl2 : w0.cell? ⟨gh, 46, none⟩ = some (.slice (some ⟨gn, 0, none⟩) M cn) := cell_below hI (Nat.le_refl _) h46
      refine RegG.rel_value (.slice (some ⟨gn, 0, none⟩) M cn) ?_ ⟨hI, rfl⟩
      go_simp
    refine RegG.allOps_cons ?_ ?_
    · intro vs w0 ρ hρ hcst hglb hfun hI hp
      have e3 : ρ (.tmp 3) = .int .i64 (N : Nat) := hρ (.tmp 3)
      clear hρ hp
      refine RegG.rel_value (.int .i64 (N : Nat)) ?_ ⟨hI, rfl⟩
      go_simp
    refine RegG.allOps_cons ?_ ?_
    · intro vs w0 ρ hρ hcst hglb hfun hI hp
      have e60 : ρ (.tmp 60) = .slice (some ⟨gn, 0, none⟩) M cn := (hρ (.tmp 60)).trans (show vs 47 = .slice (some ⟨gn, 0, none⟩) M cn from hp 47 rfl)
      have e61 : ρ (.tmp 61) = .int .i64 (N : Nat) := (hρ (.tmp 61)).trans (show vs 48 = .int .i64 (N : Nat) from hp 48 rfl)
      clear hρ hp
      refine RegG.rel_value (.pointer (some ⟨gn, N * 2, none⟩)) ?_ ⟨hI, rfl⟩
      have hq := HNM.out
      go_simp
    refine RegG.allOps_cons ?_ ?_
    · intro vs w0 ρ hρ hcst hglb hfun hI hp
      have e62 : ρ (.tmp 62) = .pointer (some ⟨gn, N * 2, none⟩) := (hρ (.tmp 62)).trans (show vs 49 = .pointer (some ⟨gn, N * 2, none⟩) from hp 49 rfl)
      clear hρ hp
      refine RegG.rel_value (.pointer (some ⟨gn, N * 2 + 1, none⟩)) ?_ ⟨hI, rfl⟩
      go_simp
    refine RegG.allOps_cons ?_ ?_
    · intro vs w0 ρ hρ hcst hglb hfun hI hp
      have e63 : ρ (.tmp 63) = .pointer (some ⟨gn, N * 2 + 1, none⟩) := (hρ (.tmp 63)).trans (show vs 50 = .pointer (some ⟨gn, N * 2 + 1, none⟩) from hp 50 rfl)
      clear hρ hp
      have hl2 : w0.cell? ⟨gn, N * 2 + 1, none⟩ = some (.slice none 0 0) := cell_below hI (Nat.le_refl _) e1x
      refine RegG.rel_value (.slice none 0 0) ?_ ⟨hI, rfl⟩
      go_simp
    refine RegG.allOps_cons ?_ ?_
    · intro vs w0 ρ hρ hcst hglb hfun hI hp
      have e64 : ρ (.tmp 64) = .slice none 0 0 := (hρ (.tmp 64)).trans (show vs 51 = .slice none 0 0 from hp 51 rfl)
      clear hρ hp
      refine RegG.rel_value (.int .i64 0) ?_ ⟨hI, rfl⟩
      go_simp
    refine RegG.allOps_cons ?_ ?_
    · intro vs w0 ρ hρ hcst hglb hfun hI hp
      have e65 : ρ (.tmp 65) = .int .i64 0 := (hρ (.tmp 65)).trans (show vs 52 = .int .i64 0 from hp 52 rfl)
      clear hρ hp
      refine RegG.rel_value (.bool false) ?_ ⟨hI, rfl⟩
      go_simp
    refine RegG.allOps_cons ?_ ?_
    · intro vs w0 ρ hρ hcst hglb hfun hI hp
      have e56 : ρ (.tmp 56) = .bool false := (hρ (.tmp 56)).trans (show vs 43 = .bool false from hp 43 rfl)
      have e66 : ρ (.tmp 66) = .bool false := (hρ (.tmp 66)).trans (show vs 53 = .bool false from hp 53 rfl)
      clear hρ hp
      refine RegG.rel_value (.bool false) ?_ ⟨hI, rfl⟩
      go_simp
    refine RegG.allOps_cons ?_ ?_
    · intro vs w0 ρ hρ hcst hglb hfun hI hp
      have e67 : ρ (.tmp 67) = .bool false := (hρ (.tmp 67)).trans (show vs 54 = .bool false from hp 54 rfl)
      clear hρ hp
      refine RegG.rel_value (.bool false) ?_ ⟨hI, rfl⟩
      go_simp
    refine RegG.allOps_cons ?_ ?_
    · intro vs w0 ρ hρ hcst hglb hfun hI hp
      have e0 : ρ (.tmp 0) = .pointer (some ⟨gh, 0, none⟩) := hρ (.tmp 0)
      clear hρ hp
      refine RegG.rel_value (.pointer (some ⟨gh, 0, none⟩)) ?_ ⟨hI, rfl⟩
      go_simp
    refine RegG.allOps_cons ?_ ?_
    · intro vs w0 ρ hρ hcst hglb hfun hI hp
      have e69 : ρ (.tmp 69) = .pointer (some ⟨gh, 0, none⟩) := (hρ (.tmp 69)).trans (show vs 56 = .pointer (some ⟨gh, 0, none⟩) from hp 56 rfl)
      clear hρ hp
      refine RegG.rel_value (.pointer (some ⟨gh, 0, none⟩)) ?_ ⟨hI, rfl⟩
      go_simp
    refine RegG.allOps_cons ?_ ?_
    · intro vs w0 ρ hρ hcst hglb hfun hI hp
      have e70 : ρ (.tmp 70) = .pointer (some ⟨gh, 0, none⟩) := (hρ (.tmp 70)).trans (show vs 57 = .pointer (some ⟨gh, 0, none⟩) from hp 57 rfl)
      clear hρ hp
      refine RegG.rel_value (.pointer (some ⟨gh, 46, none⟩)) ?_ ⟨hI, rfl⟩
      go_simp
    refine RegG.allOps_cons ?_ ?_
    · intro vs w0 ρ hρ hcst hglb hfun hI hp
      have e71 : ρ (.tmp 71) = .pointer (some ⟨gh, 46, none⟩) := (hρ (.tmp 71)).trans (show vs 58 = .pointer (some ⟨gh, 46, none⟩) from hp 58 rfl)
      clear hρ hp
      have hl2 : w0.cell? ⟨gh, 46, none⟩ = some (.slice (some ⟨gn, 0, none⟩) M cn) := cell_below hI (Nat.le_refl _) h46
      refine RegG.rel_value (.slice (some ⟨gn, 0, none⟩) M cn) ?_ ⟨hI, rfl⟩
      go_simp
    refine RegG.allOps_cons ?_ ?_
    · intro vs w0 ρ hρ hcst hglb hfun hI hp
      have e3 : ρ (.tmp 3) = .int .i64 (N : Nat) := hρ (.tmp 3)
      clear hρ hp
      refine RegG.rel_value (.int .i64 (N : Nat)) ?_ ⟨hI, rfl⟩
      go_simp
    refine RegG.allOps_cons ?_ ?_
    · intro vs w0 ρ hρ hcst hglb hfun hI hp
      have e73 : ρ (.tmp 73) = .int .i64 (N : Nat) := (hρ (.tmp 73)).trans (show vs 60 = .int .i64 (N : Nat) from hp 60 rfl)
      clear hρ hp
      refine RegG.rel_value (.int .i64 (M1 : Nat)) ?_ ⟨hI, rfl⟩
      have hq := HWM1.out
      go_simp
    refine RegG.allOps_cons ?_ ?_
    · intro vs w0 ρ hρ hcst hglb hfun hI hp
      have e72 : ρ (.tmp 72) = .slice (some ⟨gn, 0, none⟩) M cn := (hρ (.tmp 72)).trans (show vs 59 = .slice (some ⟨gn, 0, none⟩) M cn from hp 59 rfl)
      have e74 : ρ (.tmp 74) = .int .i64 (M1 : Nat) := (hρ (.tmp 74)).trans (show vs 61 = .int .i64 (M1 : Nat) from hp 61 rfl)
      clear hρ hp
      refine RegG.rel_value (.pointer (some ⟨gn, M1 * 2, none⟩)) ?_ ⟨hI, rfl⟩
      have hq := HM1M.out
      go_simp
    refine RegG.allOps_cons ?_ ?_
    · intro vs w0 ρ hρ hcst hglb hfun hI hp
      have e75 : ρ (.tmp 75) = .pointer (some ⟨gn, M1 * 2, none⟩) := (hρ (.tmp 75)).trans (show vs 62 = .pointer (some ⟨gn, M1 * 2, none⟩) from hp 62 rfl)
      clear hρ hp
      refine RegG.rel_value (.pointer (some ⟨gn, M1 * 2 + 1, none⟩)) ?_ ⟨hI, rfl⟩
      go_simp
    refine RegG.allOps_cons ?_ ?_
    · intro vs w0 ρ hρ hcst hglb hfun hI hp
      have e76 : ρ (.tmp 76) = .pointer (some ⟨gn, M1 * 2 + 1, none⟩) := (hρ (.tmp 76)).trans (show vs 63 = .pointer (some ⟨gn, M1 * 2 + 1, none⟩) from hp 63 rfl)
      clear hρ hp
      have hl2 : w0.cell? ⟨gn, M1 * 2 + 1, none⟩ = some (.slice none 0 0) := cell_below hI (Nat.le_refl _) e3x
      refine RegG.rel_value (.slice none 0 0) ?_ ⟨hI, rfl⟩
      go_simp
    refine RegG.allOps_cons ?_ ?_
    · intro vs w0 ρ hρ hcst hglb hfun hI hp
      have e77 : ρ (.tmp 77) = .slice none 0 0 := (hρ (.tmp 77)).trans (show vs 64 = .slice none 0 0 from hp 64 rfl)
      clear hρ hp
      refine RegG.rel_value (.int .i64 0) ?_ ⟨hI, rfl⟩
      go_simp
    refine RegG.allOps_cons ?_ ?_
    · intro vs w0 ρ hρ hcst hglb hfun hI hp
      have e78 : ρ (.tmp 78) = .int .i64 0 := (hρ (.tmp 78)).trans (show vs 65 = .int .i64 0 from hp 65 rfl)
      clear hρ hp
      refine RegG.rel_value (.bool false) ?_ ⟨hI, rfl⟩
      go_simp
    refine RegG.allOps_cons ?_ ?_
    · intro vs w0 ρ hρ hcst hglb hfun hI hp
      have e68 : ρ (.tmp 68) = .bool false := (hρ (.tmp 68)).trans (show vs 55 = .bool false from hp 55 rfl)
      have e79 : ρ (.tmp 79) = .bool false := (hρ (.tmp 79)).trans (show vs 66 = .bool false from hp 66 rfl)
      clear hρ hp
      refine RegG.rel_value (.bool false) ?_ ⟨hI, rfl⟩
      go_simp
    exact RegG.allOps_nil
  intro vs w0 hI hR
  have r0 : vs 0 = .pointer (some ⟨gh, 0, none⟩) := hR 0 (by decide)
  have r1 : vs 1 = .pointer (some ⟨gh, 0, none⟩) := hR 1 (by decide)
  have r2 : vs 2 = .pointer (some ⟨gh, 0, none⟩) := hR 2 (by decide)
  have r3 : vs 3 = .agg (cL c (.slice (some ⟨gn, 0, none⟩) N cn)).toArray := hR 3 (by decide)
  have r4 : vs 4 = .pointer (some ⟨gh, 0, none⟩) := hR 4 (by decide)
  have r5 : vs 5 = .pointer (some ⟨gh, 0, none⟩) := hR 5 (by decide)
  have r6 : vs 6 = .pointer (some ⟨gh, 23, none⟩) := hR 6 (by decide)
  have r7 : vs 7 = .agg (cL c (.slice A2 N cap2)).toArray := hR 7 (by decide)
  have r8 : vs 8 = .bool true := hR 8 (by decide)
  have r9 : vs 9 = .bool false := hR 9 (by decide)
  have r10 : vs 10 = .bool false := hR 10 (by decide)
  have r11 : vs 11 = .pointer (some ⟨gh, 0, none⟩) := hR 11 (by decide)
  have r12 : vs 12 = .pointer (some ⟨gh, 0, none⟩) := hR 12 (by decide)
  have r13 : vs 13 = .pointer (some ⟨gh, 46, none⟩) := hR 13 (by decide)
  have r14 : vs 14 = .slice (some ⟨gn, 0, none⟩) M cn := hR 14 (by decide)
  have r15 : vs 15 = .int .i64 (M : Nat) := hR 15 (by decide)
  have r16 : vs 16 = .int .i64 (N : Nat) := hR 16 (by decide)
  have r17 : vs 17 = .int .i64 (M : Nat) := hR 17 (by decide)
  have r18 : vs 18 = .bool false := hR 18 (by decide)
  have r19 : vs 19 = .bool false := hR 19 (by decide)
  have r20 : vs 20 = .bool false := hR 20 (by decide)
  have r21 : vs 21 = .pointer (some ⟨gh, 0, none⟩) := hR 21 (by decide)
  have r22 : vs 22 = .pointer (some ⟨gh, 0, none⟩) := hR 22 (by decide)
  have r23 : vs 23 = .pointer (some ⟨gh, 46, none⟩) := hR 23 (by decide)
  have r24 : vs 24 = .slice (some ⟨gn, 0, none⟩) M cn := hR 24 (by decide)
  have r25 : vs 25 = .int .i64 (N : Nat) := hR 25 (by decide)
  have r26 : vs 26 = .pointer (some ⟨gn, N * 2, none⟩) := hR 26 (by decide)
  have r27 : vs 27 = .pointer (some ⟨gn, N * 2, none⟩) := hR 27 (by decide)
  have r28 : vs 28 = .int .i64 801 := hR 28 (by decide)
  have r29 : vs 29 = .bool false := hR 29 (by decide)
  have r30 : vs 30 = .bool false := hR 30 (by decide)
  have r31 : vs 31 = .bool false := hR 31 (by decide)
  have r32 : vs 32 = .pointer (some ⟨gh, 0, none⟩) := hR 32 (by decide)
  have r33 : vs 33 = .pointer (some ⟨gh, 0, none⟩) := hR 33 (by decide)
  have r34 : vs 34 = .pointer (some ⟨gh, 46, none⟩) := hR 34 (by decide)
  have r35 : vs 35 = .slice (some ⟨gn, 0, none⟩) M cn := hR 35 (by decide)
  have r36 : vs 36 = .int .i64 (N : Nat) := hR 36 (by decide)
  have r37 : vs 37 = .int .i64 (M1 : Nat) := hR 37 (by decide)
  have r38 : vs 38 = .pointer (some ⟨gn, M1 * 2, none⟩) := hR 38 (by decide)
  have r39 : vs 39 = .pointer (some ⟨gn, M1 * 2, none⟩) := hR 39 (by decide)
  have r40 : vs 40 = .int .i64 802 := hR 40 (by decide)
  have r41 : vs 41 = .bool false := hR 41 (by decide)
  have r42 : vs 42 = .bool false := hR 42 (by decide)
  have r43 : vs 43 = .bool false := hR 43 (by decide)
  have r44 : vs 44 = .pointer (some ⟨gh, 0, none⟩) := hR 44 (by decide)
  have r45 : vs 45 = .pointer (some ⟨gh, 0, none⟩) := hR 45 (by decide)
  have r46 : vs 46 = .pointer (some ⟨gh, 46, none⟩) := hR 46 (by decide)
  have r47 : vs 47 = .slice (some ⟨gn, 0, none⟩) M cn := hR 47 (by decide)
  have r48 : vs 48 = .int .i64 (N : Nat) := hR 48 (by decide)
  have r49 : vs 49 = .pointer (some ⟨gn, N * 2, none⟩) := hR 49 (by decide)
  have r50 : vs 50 = .pointer (some ⟨gn, N * 2 + 1, none⟩) := hR 50 (by decide)
  have r51 : vs 51 = .slice none 0 0 := hR 51 (by decide)
  have r52 : vs 52 = .int .i64 0 := hR 52 (by decide)
  have r53 : vs 53 = .bool false := hR 53 (by decide)
  have r54 : vs 54 = .bool false := hR 54 (by decide)
  have r55 : vs 55 = .bool false := hR 55 (by decide)
  have r56 : vs 56 = .pointer (some ⟨gh, 0, none⟩) := hR 56 (by decide)
  have r57 : vs 57 = .pointer (some ⟨gh, 0, none⟩) := hR 57 (by decide)
  have r58 : vs 58 = .pointer (some ⟨gh, 46, none⟩) := hR 58 (by decide)
  have r59 : vs 59 = .slice (some ⟨gn, 0, none⟩) M cn := hR 59 (by decide)
  have r60 : vs 60 = .int .i64 (N : Nat) := hR 60 (by decide)
  have r61 : vs 61 = .int .i64 (M1 : Nat) := hR 61 (by decide)
  have r62 : vs 62 = .pointer (some ⟨gn, M1 * 2, none⟩) := hR 62 (by decide)
  have r63 : vs 63 = .pointer (some ⟨gn, M1 * 2 + 1, none⟩) := hR 63 (by decide)
  have r64 : vs 64 = .slice none 0 0 := hR 64 (by decide)
  have r65 : vs 65 = .int .i64 0 := hR 65 (by decide)
  have r66 : vs 66 = .bool false := hR 66 (by decide)
  have r67 : vs 67 = .bool false := hR 67 (by decide)
  simp only [RegG.fillFrom, Act.put, List.setIfInBounds_toArray, List.set_cons_zero, List.set_cons_succ, r0, r1, r2, r3, r4, r5, r6, r7, r8, r9, r10, r11, r12, r13, r14, r15, r16, r17, r18, r19, r20, r21, r22, r23, r24, r25, r26, r27, r28, r29, r30, r31, r32, r33, r34, r35, r36, r37, r38, r39, r40, r41, r42, r43, r44, r45, r46, r47, r48, r49, r50, r51, r52, r53, r54, r55, r56, r57, r58, r59, r60, r61, r62, r63, r64, r65, r66, r67]
  clear hR r0 r1 r2 r3 r4 r5 r6 r7 r8 r9 r10 r11 r12 r13 r14 r15 r16 r17 r18 r19 r20 r21 r22 r23 r24 r25 r26 r27 r28 r29 r30 r31 r32 r33 r34 r35 r36 r37 r38 r39 r40 r41 r42 r43 r44 r45 r46 r47 r48 r49 r50 r51 r52 r53 r54 r55 r56 r57 r58 r59 r60 r61 r62 r63 r64 r65 r66 r67
  have HR0 := Aside0.mk hI
  have HKH := HK1
  clear hI h45 h46 e0x e1x e2x e3x HSAME
  generalize w0 = wz at HR0 ⊢
  go_wp2_with fail
  go_loopw [4, 5, 6] (fun v4 _ _ wr => ∃ i : Nat, i ≤ N ∧ v4 = .int .i64 (i : Nat) ∧ Aside0 (Below w.heap.size w wr)) (fun v4 _ _ _ => N - (intOf v4).toNat)
  case atStart => exact ⟨0, Nat.zero_le _, rfl, HR0⟩
  case round =>
    clear HR0
    obtain ⟨i, hi, rfl, HR⟩ := hrel
    obtain ⟨wo, rfl⟩ : ∃ wo : World, wo = wr := ⟨_, rfl⟩
    by_cases hlt : i < N
    · have HKo := Aside0.mk (HKH.out.below HR.out)
      have hlt' : i < ns.length := by have := HNN.out; omega
      obtain ⟨n, hn⟩ : ∃ n, ns[i]? = some n := ⟨_, List.getElem?_eq_getElem hlt'⟩
      obtain ⟨⟨q, cq⟩, hg⟩ : ∃ g, gs[i]? = some g := ⟨_, List.getElem?_eq_getElem (by rw [HKo.out.inv.len]; exact hlt')⟩
      obtain ⟨gp, cpv, rfl⟩ : ∃ gp cpv, pv = .slice (some ⟨gp, 0, none⟩) ns.length cpv := by
        rcases HKo.out.inv.parts.2 with ⟨_, h0⟩ | ⟨g, cap', cs, e, _⟩
        · omega
        · exact ⟨g, cap', e⟩
      obtain ⟨b2, o2, rfl, hz2, B2, c2, hp2, hc2, hn2⟩ := HKo.out.twin.nodes.get hn
      have he := HKo.out.inv.each i n (q, cq) hn hg
      obtain ⟨k1, k2⟩ := ndsC_at ns (lVs ns gs) i n _ hn (lVs_at ns gs i n (q, cq) hn hg)
      have hk1 : wo.cell? ⟨gn, i * 2 + 1, none⟩ = some (.slice (some ⟨q, 0, none⟩) n.2.length cq) := own_cell HKo.out.inv.nodes _ _ (by rw [List.getElem?_append_left (List.getElem?_eq_some_iff.1 k2).1]; exact k2)
      have hpi : wo.cell? ⟨gp, i, none⟩ = some (.slice (some ⟨q, 0, none⟩) (n.2.length + 3) cq) := own_cell HKo.out.inv.parts _ _ (pVs_at ns gs i n (q, cq) hn hg)
      have hcq : n.2.length + 3 ≤ cq := by
        rcases he.2 with ⟨e, _⟩ | ⟨g', cap', cur, e, _, _, hle, _⟩
        · cases e
        · injection e with _ _ e3
          omega
      have hlb : n.2.length ≤ 1073741824 := by
        have h1 := cnt_snoc ns i n hn
        have h2 := HCT.out (i + 1)
        omega
      have hnl : (nums .i64 n.2).length = n.2.length := by simp [nums]
      have mk : ∀ j x, marks[j]? = some x → wo.cell? ⟨q, n.2.length + j, none⟩ = some (.int .i64 x) := fun j x hx => own_cell he _ _ (by
        rw [nums_append, List.getElem?_append_right (by omega), hnl, Nat.add_sub_cancel_left]
        simp [nums, hx])
      have m1 := mk 0 701 rfl
      have m2 := mk 1 702 rfl
      have m3 := mk 2 703 rfl
      have hna : NumsAt wo (some ⟨q, 0, none⟩) n.2 := .inr ⟨q, 0, rfl, fun j x hx => by
        rw [Nat.zero_add]
        refine own_cell he j _ ?_
        rw [nums_append, List.getElem?_append_left (by rw [hnl]; exact (List.getElem?_eq_some_iff.1 hx).1)]
        simp [nums, hx]⟩
      have HSI := fun W (hb : Below wo.heap.size wo W) => Aside0.mk (sameInts_yes (some ⟨q, 0, none⟩) B2 cq c2 n.2 W (hna.below hb) (hn2.below hb) (by omega) hc2.1 (by omega))
      have h45 : wo.cell? ⟨gh, 45, none⟩ = some (.slice (some ⟨b2, o2, none⟩) ns.length cap2) := by rw [blk_cell HKo.out.inv.box]; rfl
      have h46 : wo.cell? ⟨gh, 46, none⟩ = some (.slice (some ⟨gn, 0, none⟩) (ns.length + 2) cn) := by rw [blk_cell HKo.out.inv.box]; rfl
      have h47 : wo.cell? ⟨gh, 47, none⟩ = some (.slice (some ⟨gp, 0, none⟩) ns.length cpv) := by rw [blk_cell HKo.out.inv.box]; rfl
      obtain ⟨L, hL⟩ : ∃ L, L = n.2.length := ⟨_, rfl⟩
      rw [← hL] at hp2 hk1 hpi hcq hlb m1 m2 m3 HSI
      rw [← HNN.out] at h45 h46 h47
      rw [show N + 2 = M by have := HMM.out; have := HNN.out; omega] at h46
      obtain ⟨L1, hL1⟩ : ∃ L1, L1 = L + 1 := ⟨_, rfl⟩
      obtain ⟨L2, hL2⟩ : ∃ L2, L2 = L + 2 := ⟨_, rfl⟩
      obtain ⟨L3, hL3⟩ : ∃ L3, L3 = L + 3 := ⟨_, rfl⟩
      rw [Nat.add_zero] at m1
      rw [← hL1] at m2
      rw [← hL2] at m3
      rw [← hL3] at hpi hcq
      have HW3 : Aside0 (IntKind.i64.wrap ((L : Int) + 3) = (L3 : Nat)) := ⟨by rw [IntWalk.i64_in _ (by omega)]; omega⟩
      have HW2 : Aside0 (IntKind.i64.wrap ((L : Int) + 2) = (L2 : Nat)) := ⟨by rw [IntWalk.i64_in _ (by omega)]; omega⟩
      have HW1L : Aside0 (IntKind.i64.wrap ((L : Int) + 1) = (L1 : Nat)) := ⟨by rw [IntWalk.i64_in _ (by omega)]; omega⟩
      have HL3 : Aside0 (L < L3) := ⟨by omega⟩
      have HL13 : Aside0 (L1 < L3) := ⟨by omega⟩
      have HL23 : Aside0 (L2 < L3) := ⟨by omega⟩
      have HLC : Aside0 ((L : Int) ≤ (cq : Int)) := ⟨by omega⟩
      have HIN : Aside0 (i < N) := ⟨hlt⟩
      have HIM : Aside0 (i < M) := ⟨by have := HMM.out; have := HNN.out; omega⟩
      clear hn hg hz2 hc2 hn2 he k1 k2 hnl mk hna hL hL1 hL2 hL3 hlt'
      go_upto_region 9 with fail
      simp only [List.append]
      refine RegG.wp_region_rel _ (by kernel_rfl) _ _ _ rfl (by kernel_rfl) (fun w' => Below wo.heap.size wo w') (fun _ w w' => Below w.heap.size w w') (fun jq vs w' => match jq with
        | 0 => vs 0 = .slice (some ⟨q, 0, none⟩) L3 cq
        | 1 => vs 1 = .int .i64 (L3 : Nat)
        | 2 => vs 2 = .int .i64 (L : Nat)
        | 3 => vs 3 = .int .i64 (L3 : Nat)
        | 4 => vs 4 = .bool false
        | 5 => vs 5 = .bool false
        | 6 => vs 6 = .slice (some ⟨q, 0, none⟩) L3 cq
        | 7 => vs 7 = .int .i64 (L : Nat)
        | 8 => vs 8 = .pointer (some ⟨q, L, none⟩)
        | 9 => vs 9 = .int .i64 701
        | 10 => vs 10 = .bool false
        | 11 => vs 11 = .bool false
        | 12 => vs 12 = .bool false
        | 13 => vs 13 = .slice (some ⟨q, 0, none⟩) L3 cq
        | 14 => vs 14 = .int .i64 (L : Nat)
        | 15 => vs 15 = .int .i64 (L1 : Nat)
        | 16 => vs 16 = .pointer (some ⟨q, L1, none⟩)
        | 17 => vs 17 = .int .i64 702
        | 18 => vs 18 = .bool false
        | 19 => vs 19 = .bool false
        | 20 => vs 20 = .bool false
        | 21 => vs 21 = .slice (some ⟨q, 0, none⟩) L3 cq
        | 22 => vs 22 = .int .i64 (L : Nat)
        | 23 => vs 23 = .int .i64 (L2 : Nat)
        | 24 => vs 24 = .pointer (some ⟨q, L2, none⟩)
        | 25 => vs 25 = .int .i64 703
        | 26 => vs 26 = .bool false
        | 27 => vs 27 = .bool false
        | 28 => vs 28 = .bool false
        | 29 => vs 29 = .slice (some ⟨q, 0, none⟩) L3 cq
        | 30 => vs 30 = .int .i64 (L : Nat)
        | 31 => vs 31 = .slice (some ⟨q, 0, none⟩) L cq
        | 32 => vs 32 = .pointer (some ⟨gh, 0, none⟩)
        | 33 => vs 33 = .pointer (some ⟨gh, 0, none⟩)
        | 34 => vs 34 = .pointer (some ⟨gh, 23, none⟩)
        | 35 => vs 35 = .pointer (some ⟨gh, 45, none⟩)
        | 36 => vs 36 = .slice (some ⟨b2, o2, none⟩) N cap2
        | 37 => vs 37 = .int .i64 (i : Nat)
        | 38 => vs 38 = .pointer (some ⟨b2, o2 + i * 2, none⟩)
        | 39 => vs 39 = .pointer (some ⟨b2, o2 + i * 2 + 1, none⟩)
        | 40 => vs 40 = .slice B2 L c2
        | 41 => vs 41 = .bool true
        | 42 => vs 42 = .bool false
        | 43 => vs 43 = .bool false
        | 44 => vs 44 = .bool false
        | 45 => vs 45 = .pointer (some ⟨gh, 0, none⟩)
        | 46 => vs 46 = .pointer (some ⟨gh, 0, none⟩)
        | 47 => vs 47 = .pointer (some ⟨gh, 46, none⟩)
        | 48 => vs 48 = .slice (some ⟨gn, 0, none⟩) M cn
        | 49 => vs 49 = .int .i64 (i : Nat)
        | 50 => vs 50 = .pointer (some ⟨gn, i * 2, none⟩)
        | 51 => vs 51 = .pointer (some ⟨gn, i * 2 + 1, none⟩)
        | 52 => vs 52 = .slice (some ⟨q, 0, none⟩) L cq
        | 53 => vs 53 = .pointer (some ⟨gh, 0, none⟩)
        | 54 => vs 54 = .pointer (some ⟨gh, 0, none⟩)
        | 55 => vs 55 = .pointer (some ⟨gh, 23, none⟩)
        | 56 => vs 56 = .pointer (some ⟨gh, 45, none⟩)
        | 57 => vs 57 = .slice (some ⟨b2, o2, none⟩) N cap2
        | 58 => vs 58 = .int .i64 (i : Nat)
        | 59 => vs 59 = .pointer (some ⟨b2, o2 + i * 2, none⟩)
        | 60 => vs 60 = .pointer (some ⟨b2, o2 + i * 2 + 1, none⟩)
        | 61 => vs 61 = .slice B2 L c2
        | 62 => vs 62 = .bool true
        | 63 => vs 63 = .bool false
        | 64 => vs 64 = .bool false
        | _ => True) (below_drew (Below.refl _ _)) ?_ ?_ ?_ ?_ ?_
      · intro i j vs w0 w' hij hI hR hb
        rcases j with _ | j
        · exact hR
        rcases j with _ | j
        · exact hR
        rcases j with _ | j
        · exact hR
        rcases j with _ | j
        · exact hR
        rcases j with _ | j
        · exact hR
        rcases j with _ | j
        · exact hR
        rcases j with _ | j
        · exact hR
        rcases j with _ | j
        · exact hR
        rcases j with _ | j
        · exact hR
        rcases j with _ | j
        · exact hR
        rcases j with _ | j
        · exact hR
        rcases j with _ | j
        · exact hR
        rcases j with _ | j
        · exact hR
        rcases j with _ | j
        · exact hR
        rcases j with _ | j
        · exact hR
        rcases j with _ | j
        · exact hR
        rcases j with _ | j
        · exact hR
        rcases j with _ | j
        · exact hR
        rcases j with _ | j
        · exact hR
        rcases j with _ | j
        · exact hR
        rcases j with _ | j
        · exact hR
        rcases j with _ | j
        · exact hR
        rcases j with _ | j
        · exact hR
        rcases j with _ | j
        · exact hR
        rcases j with _ | j
        · exact hR
        rcases j with _ | j
        · exact hR
        rcases j with _ | j
        · exact hR
        rcases j with _ | j
        · exact hR
        rcases j with _ | j
        · exact hR
        rcases j with _ | j
        · exact hR
        rcases j with _ | j
        · exact hR
        rcases j with _ | j
        · exact hR
        rcases j with _ | j
        · exact hR
        rcases j with _ | j
        · exact hR
        rcases j with _ | j
        · exact hR
        rcases j with _ | j
        · exact hR
        rcases j with _ | j
        · exact hR
        rcases j with _ | j
        · exact hR
        rcases j with _ | j
        · exact hR
        rcases j with _ | j
        · exact hR
        rcases j with _ | j
        · exact hR
        rcases j with _ | j
        · exact hR
        rcases j with _ | j
        · exact hR
        rcases j with _ | j
        · exact hR
        rcases j with _ | j
        · exact hR
        rcases j with _ | j
        · exact hR
        rcases j with _ | j
        · exact hR
        rcases j with _ | j
        · exact hR
        rcases j with _ | j
        · exact hR
        rcases j with _ | j
        · exact hR
        rcases j with _ | j
        · exact hR
        rcases j with _ | j
        · exact hR
        rcases j with _ | j
        · exact hR
        rcases j with _ | j
        · exact hR
        rcases j with _ | j
        · exact hR
        rcases j with _ | j
        · exact hR
        rcases j with _ | j
        · exact hR
        rcases j with _ | j
        · exact hR
        rcases j with _ | j
        · exact hR
        rcases j with _ | j
        · exact hR
        rcases j with _ | j
        · exact hR
        rcases j with _ | j
        · exact hR
        rcases j with _ | j
        · exact hR
        rcases j with _ | j
        · exact hR
        rcases j with _ | j
        · exact hR
        exact trivial
      · intro j o vs vs1 w0 ho he hp hR
        rcases j with _ | j
        · exact he.trans hR
        rcases j with _ | j
        · exact he.trans hR
        rcases j with _ | j
        · exact he.trans hR
        rcases j with _ | j
        · exact he.trans hR
        rcases j with _ | j
        · exact he.trans hR
        rcases j with _ | j
        · exact he.trans hR
        rcases j with _ | j
        · exact he.trans hR
        rcases j with _ | j
        · exact he.trans hR
        rcases j with _ | j
        · exact he.trans hR
        rcases j with _ | j
        · exact he.trans hR
        rcases j with _ | j
        · exact he.trans hR
        rcases j with _ | j
        · exact he.trans hR
        rcases j with _ | j
        · exact he.trans hR
        rcases j with _ | j
        · exact he.trans hR
        rcases j with _ | j
        · exact he.trans hR
        rcases j with _ | j
        · exact he.trans hR
        rcases j with _ | j
        · exact he.trans hR
        rcases j with _ | j
        · exact he.trans hR
        rcases j with _ | j
        · exact he.trans hR
        rcases j with _ | j
        · exact he.trans hR
        rcases j with _ | j
        · exact he.trans hR
        rcases j with _ | j
        · exact he.trans hR
        rcases j with _ | j
        · exact he.trans hR
        rcases j with _ | j
        · exact he.trans hR
        rcases j with _ | j
        · exact he.trans hR
        rcases j with _ | j
        · exact he.trans hR
        rcases j with _ | j
        · exact he.trans hR
        rcases j with _ | j
        · exact he.trans hR
        rcases j with _ | j
        · exact he.trans hR
        rcases j with _ | j
        · exact he.trans hR
        rcases j with _ | j
        · exact he.trans hR
        rcases j with _ | j
        · exact he.trans hR
        rcases j with _ | j
        · exact he.trans hR
        rcases j with _ | j
        · exact he.trans hR
        rcases j with _ | j
        · exact he.trans hR
        rcases j with _ | j
        · exact he.trans hR
        rcases j with _ | j
        · exact he.trans hR
        rcases j with _ | j
        · exact he.trans hR
        rcases j with _ | j
        · exact he.trans hR
        rcases j with _ | j
        · exact he.trans hR
        rcases j with _ | j
        · exact he.trans hR
        rcases j with _ | j
        · exact he.trans hR
        rcases j with _ | j
        · exact he.trans hR
        rcases j with _ | j
        · exact he.trans hR
        rcases j with _ | j
        · exact he.trans hR
        rcases j with _ | j
        · exact he.trans hR
        rcases j with _ | j
        · exact he.trans hR
        rcases j with _ | j
        · exact he.trans hR
        rcases j with _ | j
        · exact he.trans hR
        rcases j with _ | j
        · exact he.trans hR
        rcases j with _ | j
        · exact he.trans hR
        rcases j with _ | j
        · exact he.trans hR
        rcases j with _ | j
        · exact he.trans hR
        rcases j with _ | j
        · exact he.trans hR
        rcases j with _ | j
        · exact he.trans hR
        rcases j with _ | j
        · exact he.trans hR
        rcases j with _ | j
        · exact he.trans hR
        rcases j with _ | j
        · exact he.trans hR
        rcases j with _ | j
        · exact he.trans hR
        rcases j with _ | j
        · exact he.trans hR
        rcases j with _ | j
        · exact he.trans hR
        rcases j with _ | j
        · exact he.trans hR
        rcases j with _ | j
        · exact he.trans hR
        rcases j with _ | j
        · exact he.trans hR
        rcases j with _ | j
        · exact he.trans hR
        exact trivial
      · skip
        refine RegG.allOps_cons ?_ ?_
        · intro j b hg vs w hR
          first
            | (cases hg; done)
            | (cases hg; exact hR)
        refine RegG.allOps_cons ?_ ?_
        · intro j b hg vs w hR
          first
            | (cases hg; done)
            | (cases hg; exact hR)
        refine RegG.allOps_cons ?_ ?_
        · intro j b hg vs w hR
          first
            | (cases hg; done)
            | (cases hg; exact hR)
        refine RegG.allOps_cons ?_ ?_
        · intro j b hg vs w hR
          first
            | (cases hg; done)
            | (cases hg; exact hR)
        refine RegG.allOps_cons ?_ ?_
        · intro j b hg vs w hR
          first
            | (cases hg; done)
            | (cases hg; exact hR)
        refine RegG.allOps_cons ?_ ?_
        · intro j b hg vs w hR
          first
            | (cases hg; done)
            | (cases hg; exact hR)
        refine RegG.allOps_cons ?_ ?_
        · intro j b hg vs w hR
          first
            | (cases hg; done)
            | (cases hg; exact hR)
        refine RegG.allOps_cons ?_ ?_
        · intro j b hg vs w hR
          first
            | (cases hg; done)
            | (cases hg; exact hR)
        refine RegG.allOps_cons ?_ ?_
        · intro j b hg vs w hR
          first
            | (cases hg; done)
            | (cases hg; exact hR)
        refine RegG.allOps_cons ?_ ?_
        · intro j b hg vs w hR
          first
            | (cases hg; done)
            | (cases hg; exact hR)
        refine RegG.allOps_cons ?_ ?_
        · intro j b hg vs w hR
          first
            | (cases hg; done)
            | (cases hg; exact hR)
        refine RegG.allOps_cons ?_ ?_
        · intro j b hg vs w hR
          first
            | (cases hg; done)
            | (cases hg; exact hR)
        refine RegG.allOps_cons ?_ ?_
        · intro j b hg vs w hR
          first
            | (cases hg; done)
            | (cases hg; exact hR)
        refine RegG.allOps_cons ?_ ?_
        · intro j b hg vs w hR
          first
            | (cases hg; done)
            | (cases hg; exact hR)
        refine RegG.allOps_cons ?_ ?_
        · intro j b hg vs w hR
          first
            | (cases hg; done)
            | (cases hg; exact hR)
        refine RegG.allOps_cons ?_ ?_
        · intro j b hg vs w hR
          first
            | (cases hg; done)
            | (cases hg; exact hR)
        refine RegG.allOps_cons ?_ ?_
        · intro j b hg vs w hR
          first
            | (cases hg; done)
            | (cases hg; exact hR)
        refine RegG.allOps_cons ?_ ?_
        · intro j b hg vs w hR
          first
            | (cases hg; done)
            | (cases hg; exact hR)
        refine RegG.allOps_cons ?_ ?_
        · intro j b hg vs w hR
          first
            | (cases hg; done)
            | (cases hg; exact hR)
        refine RegG.allOps_cons ?_ ?_
        · intro j b hg vs w hR
          first
            | (cases hg; done)
            | (cases hg; exact hR)
        refine RegG.allOps_cons ?_ ?_
        · intro j b hg vs w hR
          first
            | (cases hg; done)
            | (cases hg; exact hR)
        refine RegG.allOps_cons ?_ ?_
        · intro j b hg vs w hR
          first
            | (cases hg; done)
            | (cases hg; exact hR)
        refine RegG.allOps_cons ?_ ?_
        · intro j b hg vs w hR
          first
            | (cases hg; done)
            | (cases hg; exact hR)
        refine RegG.allOps_cons ?_ ?_
        · intro j b hg vs w hR
          first
            | (cases hg; done)
            | (cases hg; exact hR)
        refine RegG.allOps_cons ?_ ?_
        · intro j b hg vs w hR
          first
            | (cases hg; done)
            | (cases hg; exact hR)
        refine RegG.allOps_cons ?_ ?_
        · intro j b hg vs w hR
          first
            | (cases hg; done)
            | (cases hg; exact hR)
        refine RegG.allOps_cons ?_ ?_
        · intro j b hg vs w hR
          first
            | (cases hg; done)
            | (cases hg; exact hR)
        refine RegG.allOps_cons ?_ ?_
        · intro j b hg vs w hR
          first
            | (cases hg; done)
            | (cases hg; exact hR)
        refine RegG.allOps_cons ?_ ?_
        · intro j b hg vs w hR
          first
            | (cases hg; done)
            | (cases hg; exact hR)
        refine RegG.allOps_cons ?_ ?_
        · intro j b hg vs w hR
          first
            | (cases hg; done)
            | (cases hg; exact hR)
        refine RegG.allOps_cons ?_ ?_
        · intro j b hg vs w hR
          first
            | (cases hg; done)
            | (cases hg; exact hR)
        refine RegG.allOps_cons ?_ ?_
        · intro j b hg vs w hR
          first
            | (cases hg; done)
            | (cases hg; exact hR)
        refine RegG.allOps_cons ?_ ?_
        · intro j b hg vs w hR
          first
            | (cases hg; done)
            | (cases hg; exact hR)
        refine RegG.allOps_cons ?_ ?_
        · intro j b hg vs w hR
          first
            | (cases hg; done)
            | (cases hg; exact hR)
        refine RegG.allOps_cons ?_ ?_
        · intro j b hg vs w hR
          first
            | (cases hg; done)
            | (cases hg; exact hR)
        refine RegG.allOps_cons ?_ ?_
        · intro j b hg vs w hR
          first
            | (cases hg; done)
            | (cases hg; exact hR)
        refine RegG.allOps_cons ?_ ?_
        · intro j b hg vs w hR
          first
            | (cases hg; done)
            | (cases hg; exact hR)
        refine RegG.allOps_cons ?_ ?_
        · intro j b hg vs w hR
          first
            | (cases hg; done)
            | (cases hg; exact hR)
        refine RegG.allOps_cons ?_ ?_
        · intro j b hg vs w hR
          first
            | (cases hg; done)
            | (cases hg; exact hR)
        refine RegG.allOps_cons ?_ ?_
        · intro j b hg vs w hR
          first
            | (cases hg; done)
            | (cases hg; exact hR)
        refine RegG.allOps_cons ?_ ?_
        · intro j b hg vs w hR
          first
            | (cases hg; done)
            | (cases hg; exact hR)
        refine RegG.allOps_cons ?_ ?_
        · intro j b hg vs w hR
          first
            | (cases hg; done)
            | (cases hg; exact hR)
        refine RegG.allOps_cons ?_ ?_
        · intro j b hg vs w hR
          first
            | (cases hg; done)
            | (cases hg; exact hR)
        refine RegG.allOps_cons ?_ ?_
        · intro j b hg vs w hR
          first
            | (cases hg; done)
            | (cases hg; exact hR)
        refine RegG.allOps_cons ?_ ?_
        · intro j b hg vs w hR
          first
            | (cases hg; done)
            | (cases hg; exact hR)
        refine RegG.allOps_cons ?_ ?_
        · intro j b hg vs w hR
          first
            | (cases hg; done)
            | (cases hg; exact hR)
        refine RegG.allOps_cons ?_ ?_
        · intro j b hg vs w hR
          first
            | (cases hg; done)
            | (cases hg; exact hR)
        refine RegG.allOps_cons ?_ ?_
        · intro j b hg vs w hR
          first
            | (cases hg; done)
            | (cases hg; exact hR)
        refine RegG.allOps_cons ?_ ?_
        · intro j b hg vs w hR
          first
            | (cases hg; done)
            | (cases hg; exact hR)
        refine RegG.allOps_cons ?_ ?_
        · intro j b hg vs w hR
          first
            | (cases hg; done)
            | (cases hg; exact hR)
        refine RegG.allOps_cons ?_ ?_
        · intro j b hg vs w hR
          first
            | (cases hg; done)
            | (cases hg; exact hR)
        refine RegG.allOps_cons ?_ ?_
        · intro j b hg vs w hR
          first
            | (cases hg; done)
            | (cases hg; exact hR)
        refine RegG.allOps_cons ?_ ?_
        · intro j b hg vs w hR
          first
            | (cases hg; done)
            | (cases hg; exact hR)
        refine RegG.allOps_cons ?_ ?_
        · intro j b hg vs w hR
          first
            | (cases hg; done)
            | (cases hg; exact hR)
        refine RegG.allOps_cons ?_ ?_
        · intro j b hg vs w hR
          first
            | (cases hg; done)
            | (cases hg; exact hR)
        refine RegG.allOps_cons ?_ ?_
        · intro j b hg vs w hR
          first
            | (cases hg; done)
            | (cases hg; exact hR)
        refine RegG.allOps_cons ?_ ?_
        · intro j b hg vs w hR
          first
            | (cases hg; done)
            | (cases hg; exact hR)
        refine RegG.allOps_cons ?_ ?_
        · intro j b hg vs w hR
          first
            | (cases hg; done)
            | (cases hg; exact hR)
        refine RegG.allOps_cons ?_ ?_
        · intro j b hg vs w hR
          first
            | (cases hg; done)
            | (cases hg; exact hR)
        refine RegG.allOps_cons ?_ ?_
        · intro j b hg vs w hR
          first
            | (cases hg; done)
            | (cases hg; exact hR)
        refine RegG.allOps_cons ?_ ?_
        · intro j b hg vs w hR
          first
            | (cases hg; done)
            | (cases hg; exact hR)
        refine RegG.allOps_cons ?_ ?_
        · intro j b hg vs w hR
          first
            | (cases hg; done)
            | (cases hg; exact hR)
        refine RegG.allOps_cons ?_ ?_
        · intro j b hg vs w hR
          first
            | (cases hg; done)
            | (cases hg; exact hR)
        refine RegG.allOps_cons ?_ ?_
        · intro j b hg vs w hR
          first
            | (cases hg; done)
            | (cases hg; exact hR)
        refine RegG.allOps_cons ?_ ?_
        · intro j b hg vs w hR
          first
            | (cases hg; done)
            | (cases hg; exact hR)
        exact RegG.allOps_nil
      · skip
        refine RegG.allOps_cons ?_ ?_
        · intro vs w0 ρ hρ hcst hglb hfun hI hp
          have e5 : ρ (.tmp 5) = .slice (some ⟨q, 0, none⟩) L3 cq := hρ (.tmp 5)
          clear hρ hp
          refine RegG.rel_value (.slice (some ⟨q, 0, none⟩) L3 cq) ?_ ⟨hI, rfl⟩
          go_simp
        refine RegG.allOps_cons ?_ ?_
        · intro vs w0 ρ hρ hcst hglb hfun hI hp
          have e103 : ρ (.tmp 103) = .slice (some ⟨q, 0, none⟩) L3 cq := (hρ (.tmp 103)).trans (show vs 0 = .slice (some ⟨q, 0, none⟩) L3 cq from hp 0 rfl)
          clear hρ hp
          refine RegG.rel_value (.int .i64 (L3 : Nat)) ?_ ⟨hI, rfl⟩
          go_simp
        refine RegG.allOps_cons ?_ ?_
        · intro vs w0 ρ hρ hcst hglb hfun hI hp
          have e6 : ρ (.tmp 6) = .int .i64 (L : Nat) := hρ (.tmp 6)
          clear hρ hp
          refine RegG.rel_value (.int .i64 (L : Nat)) ?_ ⟨hI, rfl⟩
          go_simp
        refine RegG.allOps_cons ?_ ?_
        · intro vs w0 ρ hρ hcst hglb hfun hI hp
          have e105 : ρ (.tmp 105) = .int .i64 (L : Nat) := (hρ (.tmp 105)).trans (show vs 2 = .int .i64 (L : Nat) from hp 2 rfl)
          clear hρ hp
          refine RegG.rel_value (.int .i64 (L3 : Nat)) ?_ ⟨hI, rfl⟩
          have hq0 := HW3.out
          go_simp
        refine RegG.allOps_cons ?_ ?_
        · intro vs w0 ρ hρ hcst hglb hfun hI hp
          have e104 : ρ (.tmp 104) = .int .i64 (L3 : Nat) := (hρ (.tmp 104)).trans (show vs 1 = .int .i64 (L3 : Nat) from hp 1 rfl)
          have e106 : ρ (.tmp 106) = .int .i64 (L3 : Nat) := (hρ (.tmp 106)).trans (show vs 3 = .int .i64 (L3 : Nat) from hp 3 rfl)
          clear hρ hp
          refine RegG.rel_value (.bool false) ?_ ⟨hI, rfl⟩
          go_simp
        refine RegG.allOps_cons ?_ ?_
        · intro vs w0 ρ hρ hcst hglb hfun hI hp
          have e107 : ρ (.tmp 107) = .bool false := (hρ (.tmp 107)).trans (show vs 4 = .bool false from hp 4 rfl)
          clear hρ hp
          refine RegG.rel_value (.bool false) ?_ ⟨hI, rfl⟩
          go_simp
        refine RegG.allOps_cons ?_ ?_
        · intro vs w0 ρ hρ hcst hglb hfun hI hp
          have e5 : ρ (.tmp 5) = .slice (some ⟨q, 0, none⟩) L3 cq := hρ (.tmp 5)
          clear hρ hp
          refine RegG.rel_value (.slice (some ⟨q, 0, none⟩) L3 cq) ?_ ⟨hI, rfl⟩
          go_simp
        refine RegG.allOps_cons ?_ ?_
        · intro vs w0 ρ hρ hcst hglb hfun hI hp
          have e6 : ρ (.tmp 6) = .int .i64 (L : Nat) := hρ (.tmp 6)
          clear hρ hp
          refine RegG.rel_value (.int .i64 (L : Nat)) ?_ ⟨hI, rfl⟩
          go_simp
        refine RegG.allOps_cons ?_ ?_
        · intro vs w0 ρ hρ hcst hglb hfun hI hp
          have e109 : ρ (.tmp 109) = .slice (some ⟨q, 0, none⟩) L3 cq := (hρ (.tmp 109)).trans (show vs 6 = .slice (some ⟨q, 0, none⟩) L3 cq from hp 6 rfl)
          have e110 : ρ (.tmp 110) = .int .i64 (L : Nat) := (hρ (.tmp 110)).trans (show vs 7 = .int .i64 (L : Nat) from hp 7 rfl)
          clear hρ hp
          refine RegG.rel_value (.pointer (some ⟨q, L, none⟩)) ?_ ⟨hI, rfl⟩
          have hq0 := HL3.out
          go_simp
        refine RegG.allOps_cons ?_ ?_
        · intro vs w0 ρ hρ hcst hglb hfun hI hp
          have e111 : ρ (.tmp 111) = .pointer (some ⟨q, L, none⟩) := (hρ (.tmp 111)).trans (show vs 8 = .pointer (some ⟨q, L, none⟩) from hp 8 rfl)
          clear hρ hp
          have hl2 : w0.cell? ⟨q, L, none⟩ = some (.int .i64 701) := cell_below hI (Nat.le_refl _) m1
          refine RegG.rel_value (.int .i64 701) ?_ ⟨hI, rfl⟩
          go_simp
        refine RegG.allOps_cons ?_ ?_
        · intro vs w0 ρ hρ hcst hglb hfun hI hp
          have e112 : ρ (.tmp 112) = .int .i64 701 := (hρ (.tmp 112)).trans (show vs 9 = .int .i64 701 from hp 9 rfl)
          clear hρ hp
          refine RegG.rel_value (.bool false) ?_ ⟨hI, rfl⟩
          go_simp
        refine RegG.allOps_cons ?_ ?_
        · intro vs w0 ρ hρ hcst hglb hfun hI hp
          have e108 : ρ (.tmp 108) = .bool false := (hρ (.tmp 108)).trans (show vs 5 = .bool false from hp 5 rfl)
          have e113 : ρ (.tmp 113) = .bool false := (hρ (.tmp 113)).trans (show vs 10 = .bool false from hp 10 rfl)
          clear hρ hp
          refine RegG.rel_value (.bool false) ?_ ⟨hI, rfl⟩
          go_simp
        refine RegG.allOps_cons ?_ ?_
        · intro vs w0 ρ hρ hcst hglb hfun hI hp
          have e114 : ρ (.tmp 114) = .bool false := (hρ (.tmp 114)).trans (show vs 11 = .bool false from hp 11 rfl)
          clear hρ hp
          refine RegG.rel_value (.bool false) ?_ ⟨hI, rfl⟩
          go_simp
        refine RegG.allOps_cons ?_ ?_
        · intro vs w0 ρ hρ hcst hglb hfun hI hp
          have e5 : ρ (.tmp 5) = .slice (some ⟨q, 0, none⟩) L3 cq := hρ (.tmp 5)
          clear hρ hp
          refine RegG.rel_value (.slice (some ⟨q, 0, none⟩) L3 cq) ?_ ⟨hI, rfl⟩
          go_simp
        refine RegG.allOps_cons ?_ ?_
        · intro vs w0 ρ hρ hcst hglb hfun hI hp
          have e6 : ρ (.tmp 6) = .int .i64 (L : Nat) := hρ (.tmp 6)
          clear hρ hp
          refine RegG.rel_value (.int .i64 (L : Nat)) ?_ ⟨hI, rfl⟩
          go_simp
        refine RegG.allOps_cons ?_ ?_
        · intro vs w0 ρ hρ hcst hglb hfun hI hp
          have e117 : ρ (.tmp 117) = .int .i64 (L : Nat) := (hρ (.tmp 117)).trans (show vs 14 = .int .i64 (L : Nat) from hp 14 rfl)
          clear hρ hp
          refine RegG.rel_value (.int .i64 (L1 : Nat)) ?_ ⟨hI, rfl⟩
          have hq0 := HW1L.out
          go_simp
        refine RegG.allOps_cons ?_ ?_
        · intro vs w0 ρ hρ hcst hglb hfun hI hp
          have e116 : ρ (.tmp 116) = .slice (some ⟨q, 0, none⟩) L3 cq := (hρ (.tmp 116)).trans (show vs 13 = .slice (some ⟨q, 0, none⟩) L3 cq from hp 13 rfl)
          have e118 : ρ (.tmp 118) = .int .i64 (L1 : Nat) := (hρ (.tmp 118)).trans (show vs 15 = .int .i64 (L1 : Nat) from hp 15 rfl)
          clear hρ hp
          refine RegG.rel_value (.pointer (some ⟨q, L1, none⟩)) ?_ ⟨hI, rfl⟩
          have hq0 := HL13.out
          go_simp
        refine RegG.allOps_cons ?_ ?_
        · intro vs w0 ρ hρ hcst hglb hfun hI hp
          have e119 : ρ (.tmp 119) = .pointer (some ⟨q, L1, none⟩) := (hρ (.tmp 119)).trans (show vs 16 = .pointer (some ⟨q, L1, none⟩) from hp 16 rfl)
          clear hρ hp
          have hl2 : w0.cell? ⟨q, L1, none⟩ = some (.int .i64 702) := cell_below hI (Nat.le_refl _) m2
          refine RegG.rel_value (.int .i64 702) ?_ ⟨hI, rfl⟩
          go_simp
        refine RegG.allOps_cons ?_ ?_
        · intro vs w0 ρ hρ hcst hglb hfun hI hp
          have e120 : ρ (.tmp 120) = .int .i64 702 := (hρ (.tmp 120)).trans (show vs 17 = .int .i64 702 from hp 17 rfl)
          clear hρ hp
          refine RegG.rel_value (.bool false) ?_ ⟨hI, rfl⟩
          go_simp
        refine RegG.allOps_cons ?_ ?_
        · intro vs w0 ρ hρ hcst hglb hfun hI hp
          have e115 : ρ (.tmp 115) = .bool false := (hρ (.tmp 115)).trans (show vs 12 = .bool false from hp 12 rfl)
          have e121 : ρ (.tmp 121) = .bool false := (hρ (.tmp 121)).trans (show vs 18 = .bool false from hp 18 rfl)
          clear hρ hp
          refine RegG.rel_value (.bool false) ?_ ⟨hI, rfl⟩
          go_simp
        refine RegG.allOps_cons ?_ ?_
        · intro vs w0 ρ hρ hcst hglb hfun hI hp
          have e122 : ρ (.tmp 122) = .bool false := (hρ (.tmp 122)).trans (show vs 19 = .bool false from hp 19 rfl)
          clear hρ hp
          refine RegG.rel_value (.bool false) ?_ ⟨hI, rfl⟩
          go_simp
        refine RegG.allOps_cons ?_ ?_
        · intro vs w0 ρ hρ hcst hglb hfun hI hp
          have e5 : ρ (.tmp 5) = .slice (some ⟨q, 0, none⟩) L3 cq := hρ (.tmp 5)
          clear hρ hp
          refine RegG.rel_value (.slice (some ⟨q, 0, none⟩) L3 cq) ?_ ⟨hI, rfl⟩
          go_simp
        refine RegG.allOps_cons ?_ ?_
        · intro vs w0 ρ hρ hcst hglb hfun hI hp
          have e6 : ρ (.tmp 6) = .int .i64 (L : Nat) := hρ (.tmp 6)
          clear hρ hp
          refine RegG.rel_value (.int .i64 (L : Nat)) ?_ ⟨hI, rfl⟩
          go_simp
        refine RegG.allOps_cons ?_ ?_
        · intro vs w0 ρ hρ hcst hglb hfun hI hp
          have e125 : ρ (.tmp 125) = .int .i64 (L : Nat) := (hρ (.tmp 125)).trans (show vs 22 = .int .i64 (L : Nat) from hp 22 rfl)
          clear hρ hp
          refine RegG.rel_value (.int .i64 (L2 : Nat)) ?_ ⟨hI, rfl⟩
          have hq0 := HW2.out
          go_simp
        refine RegG.allOps_cons ?_ ?_
        · intro vs w0 ρ hρ hcst hglb hfun hI hp
          have e124 : ρ (.tmp 124) = .slice (some ⟨q, 0, none⟩) L3 cq := (hρ (.tmp 124)).trans (show vs 21 = .slice (some ⟨q, 0, none⟩) L3 cq from hp 21 rfl)
          have e126 : ρ (.tmp 126) = .int .i64 (L2 : Nat) := (hρ (.tmp 126)).trans (show vs 23 = .int .i64 (L2 : Nat) from hp 23 rfl)
          clear hρ hp
          refine RegG.rel_value (.pointer (some ⟨q, L2, none⟩)) ?_ ⟨hI, rfl⟩
          have hq0 := HL23.out
          go_simp
        refine RegG.allOps_cons ?_ ?_
        · intro vs w0 ρ hρ hcst hglb hfun hI hp
          have e127 : ρ (.tmp 127) = .pointer (some ⟨q, L2, none⟩) := (hρ (.tmp 127)).trans (show vs 24 = .pointer (some ⟨q, L2, none⟩) from hp 24 rfl)
          clear hρ hp
          have hl2 : w0.cell? ⟨q, L2, none⟩ = some (.int .i64 703) := cell_below hI (Nat.le_refl _) m3
          refine RegG.rel_value (.int .i64 703) ?_ ⟨hI, rfl⟩
          go_simp
        refine RegG.allOps_cons ?_ ?_
        · intro vs w0 ρ hρ hcst hglb hfun hI hp
          have e128 : ρ (.tmp 128) = .int .i64 703 := (hρ (.tmp 128)).trans (show vs 25 = .int .i64 703 from hp 25 rfl)
          clear hρ hp
          refine RegG.rel_value (.bool false) ?_ ⟨hI, rfl⟩
          go_simp
        refine RegG.allOps_cons ?_ ?_
        · intro vs w0 ρ hρ hcst hglb hfun hI hp
          have e123 : ρ (.tmp 123) = .bool false := (hρ (.tmp 123)).trans (show vs 20 = .bool false from hp 20 rfl)
          have e129 : ρ (.tmp 129) = .bool false := (hρ (.tmp 129)).trans (show vs 26 = .bool false from hp 26 rfl)
          clear hρ hp
          refine RegG.rel_value (.bool false) ?_ ⟨hI, rfl⟩
          go_simp
        refine RegG.allOps_cons ?_ ?_
        · intro vs w0 ρ hρ hcst hglb hfun hI hp
          have e130 : ρ (.tmp 130) = .bool false := (hρ (.tmp 130)).trans (show vs 27 = .bool false from hp 27 rfl)
          clear hρ hp
          refine RegG.rel_value (.bool false) ?_ ⟨hI, rfl⟩
          go_simp
        refine RegG.allOps_cons ?_ ?_
        · intro vs w0 ρ hρ hcst hglb hfun hI hp
          have e5 : ρ (.tmp 5) = .slice (some ⟨q, 0, none⟩) L3 cq := hρ (.tmp 5)
          clear hρ hp
          refine RegG.rel_value (.slice (some ⟨q, 0, none⟩) L3 cq) ?_ ⟨hI, rfl⟩
          go_simp
        refine RegG.allOps_cons ?_ ?_
        · intro vs w0 ρ hρ hcst hglb hfun hI hp
          have e6 : ρ (.tmp 6) = .int .i64 (L : Nat) := hρ (.tmp 6)
          clear hρ hp
          refine RegG.rel_value (.int .i64 (L : Nat)) ?_ ⟨hI, rfl⟩
          go_simp
        refine RegG.allOps_cons ?_ ?_
        · intro vs w0 ρ hρ hcst hglb hfun hI hp
          have e132 : ρ (.tmp 132) = .slice (some ⟨q, 0, none⟩) L3 cq := (hρ (.tmp 132)).trans (show vs 29 = .slice (some ⟨q, 0, none⟩) L3 cq from hp 29 rfl)
          have e133 : ρ (.tmp 133) = .int .i64 (L : Nat) := (hρ (.tmp 133)).trans (show vs 30 = .int .i64 (L : Nat) from hp 30 rfl)
          clear hρ hp
          refine RegG.rel_value (.slice (some ⟨q, 0, none⟩) L cq) ?_ ⟨hI, rfl⟩
          have hq0 := HLC.out
          go_simp
        refine RegG.allOps_cons ?_ ?_
        · intro vs w0 ρ hρ hcst hglb hfun hI hp
          have e0 : ρ (.tmp 0) = .pointer (some ⟨gh, 0, none⟩) := hρ (.tmp 0)
          clear hρ hp
          refine RegG.rel_value (.pointer (some ⟨gh, 0, none⟩)) ?_ ⟨hI, rfl⟩
          go_simp
        refine RegG.allOps_cons ?_ ?_
        · intro vs w0 ρ hρ hcst hglb hfun hI hp
          have e135 : ρ (.tmp 135) = .pointer (some ⟨gh, 0, none⟩) := (hρ (.tmp 135)).trans (show vs 32 = .pointer (some ⟨gh, 0, none⟩) from hp 32 rfl)
          clear hρ hp
          refine RegG.rel_value (.pointer (some ⟨gh, 0, none⟩)) ?_ ⟨hI, rfl⟩
          go_simp
        refine RegG.allOps_cons ?_ ?_
        · intro vs w0 ρ hρ hcst hglb hfun hI hp
          have e136 : ρ (.tmp 136) = .pointer (some ⟨gh, 0, none⟩) := (hρ (.tmp 136)).trans (show vs 33 = .pointer (some ⟨gh, 0, none⟩) from hp 33 rfl)
          clear hρ hp
          refine RegG.rel_value (.pointer (some ⟨gh, 23, none⟩)) ?_ ⟨hI, rfl⟩
          go_simp
        refine RegG.allOps_cons ?_ ?_
        · intro vs w0 ρ hρ hcst hglb hfun hI hp
          have e137 : ρ (.tmp 137) = .pointer (some ⟨gh, 23, none⟩) := (hρ (.tmp 137)).trans (show vs 34 = .pointer (some ⟨gh, 23, none⟩) from hp 34 rfl)
          clear hρ hp
          refine RegG.rel_value (.pointer (some ⟨gh, 45, none⟩)) ?_ ⟨hI, rfl⟩
          go_simp
        refine RegG.allOps_cons ?_ ?_
        · intro vs w0 ρ hρ hcst hglb hfun hI hp
          have e138 : ρ (.tmp 138) = .pointer (some ⟨gh, 45, none⟩) := (hρ (.tmp 138)).trans (show vs 35 = .pointer (some ⟨gh, 45, none⟩) from hp 35 rfl)
          clear hρ hp
          have hl2 : w0.cell? ⟨gh, 45, none⟩ = some (.slice (some ⟨b2, o2, none⟩) N cap2) := cell_below hI (Nat.le_refl _) h45
          refine RegG.rel_value (.slice (some ⟨b2, o2, none⟩) N cap2) ?_ ⟨hI, rfl⟩
          go_simp
        refine RegG.allOps_cons ?_ ?_
        · intro vs w0 ρ hρ hcst hglb hfun hI hp
          have e4 : ρ (.tmp 4) = .int .i64 (i : Nat) := hρ (.tmp 4)
          clear hρ hp
          refine RegG.rel_value (.int .i64 (i : Nat)) ?_ ⟨hI, rfl⟩
          go_simp
        refine RegG.allOps_cons ?_ ?_
        · intro vs w0 ρ hρ hcst hglb hfun hI hp
          have e139 : ρ (.tmp 139) = .slice (some ⟨b2, o2, none⟩) N cap2 := (hρ (.tmp 139)).trans (show vs 36 = .slice (some ⟨b2, o2, none⟩) N cap2 from hp 36 rfl)
          have e140 : ρ (.tmp 140) = .int .i64 (i : Nat) := (hρ (.tmp 140)).trans (show vs 37 = .int .i64 (i : Nat) from hp 37 rfl)
          clear hρ hp
          refine RegG.rel_value (.pointer (some ⟨b2, o2 + i * 2, none⟩)) ?_ ⟨hI, rfl⟩
          have hq0 := HIN.out
          go_simp
        refine RegG.allOps_cons ?_ ?_
        · intro vs w0 ρ hρ hcst hglb hfun hI hp
          have e141 : ρ (.tmp 141) = .pointer (some ⟨b2, o2 + i * 2, none⟩) := (hρ (.tmp 141)).trans (show vs 38 = .pointer (some ⟨b2, o2 + i * 2, none⟩) from hp 38 rfl)
          clear hρ hp
          refine RegG.rel_value (.pointer (some ⟨b2, o2 + i * 2 + 1, none⟩)) ?_ ⟨hI, rfl⟩
          go_simp
        refine RegG.allOps_cons ?_ ?_
        · intro vs w0 ρ hρ hcst hglb hfun hI hp
          have e142 : ρ (.tmp 142) = .pointer (some ⟨b2, o2 + i * 2 + 1, none⟩) := (hρ (.tmp 142)).trans (show vs 39 = .pointer (some ⟨b2, o2 + i * 2 + 1, none⟩) from hp 39 rfl)
          clear hρ hp
          have hl2 : w0.cell? ⟨b2, o2 + i * 2 + 1, none⟩ = some (.slice B2 L c2) := cell_below hI (Nat.le_refl _) hp2
          refine RegG.rel_value (.slice B2 L c2) ?_ ⟨hI, rfl⟩
          go_simp
        refine RegG.allOps_cons ?_ ?_
        · intro vs w0 ρ hρ hcst hglb hfun hI hp
          have e134 : ρ (.tmp 134) = .slice (some ⟨q, 0, none⟩) L cq := (hρ (.tmp 134)).trans (show vs 31 = .slice (some ⟨q, 0, none⟩) L cq from hp 31 rfl)
          have e143 : ρ (.tmp 143) = .slice B2 L c2 := (hρ (.tmp 143)).trans (show vs 40 = .slice B2 L c2 from hp 40 rfl)
          clear hρ hp
          refine RegG.rel_call Tryd.func19 (by kernel_rfl) rfl #[.slice (some ⟨q, 0, none⟩) L cq, .slice B2 L c2] rfl (hfun _) (by simp [e134, e143]) ?_
          refine (HSI w0 hI).out.mono ?_
          rintro e w3 ⟨rfl, hd⟩
          exact ⟨_, rfl, hd.below, hI.trans (hd.below.mono hI.size), rfl⟩
        refine RegG.allOps_cons ?_ ?_
        · intro vs w0 ρ hρ hcst hglb hfun hI hp
          have e144 : ρ (.tmp 144) = .bool true := (hρ (.tmp 144)).trans (show vs 41 = .bool true from hp 41 rfl)
          clear hρ hp
          refine RegG.rel_value (.bool false) ?_ ⟨hI, rfl⟩
          go_simp
        refine RegG.allOps_cons ?_ ?_
        · intro vs w0 ρ hρ hcst hglb hfun hI hp
          have e131 : ρ (.tmp 131) = .bool false := (hρ (.tmp 131)).trans (show vs 28 = .bool false from hp 28 rfl)
          have e145 : ρ (.tmp 145) = .bool false := (hρ (.tmp 145)).trans (show vs 42 = .bool false from hp 42 rfl)
          clear hρ hp
          refine RegG.rel_value (.bool false) ?_ ⟨hI, rfl⟩
          go_simp
        refine RegG.allOps_cons ?_ ?_
        · intro vs w0 ρ hρ hcst hglb hfun hI hp
          have e146 : ρ (.tmp 146) = .bool false := (hρ (.tmp 146)).trans (show vs 43 = .bool false from hp 43 rfl)
          clear hρ hp
          refine RegG.rel_value (.bool false) ?_ ⟨hI, rfl⟩
          go_simp
        refine RegG.allOps_cons ?_ ?_
        · intro vs w0 ρ hρ hcst hglb hfun hI hp
          have e0 : ρ (.tmp 0) = .pointer (some ⟨gh, 0, none⟩) := hρ (.tmp 0)
          clear hρ hp
          refine RegG.rel_value (.pointer (some ⟨gh, 0, none⟩)) ?_ ⟨hI, rfl⟩
          go_simp
        refine RegG.allOps_cons ?_ ?_
        · intro vs w0 ρ hρ hcst hglb hfun hI hp
          have e148 : ρ (.tmp 148) = .pointer (some ⟨gh, 0, none⟩) := (hρ (.tmp 148)).trans (show vs 45 = .pointer (some ⟨gh, 0, none⟩) from hp 45 rfl)
          clear hρ hp
          refine RegG.rel_value (.pointer (some ⟨gh, 0, none⟩)) ?_ ⟨hI, rfl⟩
          go_simp
        refine RegG.allOps_cons ?_ ?_
        · intro vs w0 ρ hρ hcst hglb hfun hI hp
          have e149 : ρ (.tmp 149) = .pointer (some ⟨gh, 0, none⟩) := (hρ (.tmp 149)).trans (show vs 46 = .pointer (some ⟨gh, 0, none⟩) from hp 46 rfl)
          clear hρ hp
          refine RegG.rel_value (.pointer (some ⟨gh, 46, none⟩)) ?_ ⟨hI, rfl⟩
          go_simp
        refine RegG.allOps_cons ?_ ?_
        · intro vs w0 ρ hρ hcst hglb hfun hI hp
          have e150 : ρ (.tmp 150) = .pointer (some ⟨gh, 46, none⟩) := (hρ (.tmp 150)).trans (show vs 47 = .pointer (some ⟨gh, 46, none⟩) from hp 47 rfl)
          clear hρ hp
          have hl2 : w0.cell? ⟨gh, 46, none⟩ = some (.slice (some ⟨gn, 0, none⟩) M cn) := cell_below hI (Nat.le_refl _) h46
          refine RegG.rel_value (.slice (some ⟨gn, 0, none⟩) M cn) ?_ ⟨hI, rfl⟩
          go_simp
        refine RegG.allOps_cons ?_ ?_
        · intro vs w0 ρ hρ hcst hglb hfun hI hp
          have e4 : ρ (.tmp 4) = .int .i64 (i : Nat) := hρ (.tmp 4)
          clear hρ hp
          refine RegG.rel_value (.int .i64 (i : Nat)) ?_ ⟨hI, rfl⟩
          go_simp
        refine RegG.allOps_cons ?_ ?_
        · intro vs w0 ρ hρ hcst hglb hfun hI hp
          have e151 : ρ (.tmp 151) = .slice (some ⟨gn, 0, none⟩) M cn := (hρ (.tmp 151)).trans (show vs 48 = .slice (some ⟨gn, 0, none⟩) M cn from hp 48 rfl)
          have e152 : ρ (.tmp 152) = .int .i64 (i : Nat) := (hρ (.tmp 152)).trans (show vs 49 = .int .i64 (i : Nat) from hp 49 rfl)
          clear hρ hp
          refine RegG.rel_value (.pointer (some ⟨gn, i * 2, none⟩)) ?_ ⟨hI, rfl⟩
          have hq0 := HIM.out
          go_simp
        refine RegG.allOps_cons ?_ ?_
        · intro vs w0 ρ hρ hcst hglb hfun hI hp
          have e153 : ρ (.tmp 153) = .pointer (some ⟨gn, i * 2, none⟩) := (hρ (.tmp 153)).trans (show vs 50 = .pointer (some ⟨gn, i * 2, none⟩) from hp 50 rfl)
          clear hρ hp
          refine RegG.rel_value (.pointer (some ⟨gn, i * 2 + 1, none⟩)) ?_ ⟨hI, rfl⟩
          go_simp
        refine RegG.allOps_cons ?_ ?_
        · intro vs w0 ρ hρ hcst hglb hfun hI hp
          have e154 : ρ (.tmp 154) = .pointer (some ⟨gn, i * 2 + 1, none⟩) := (hρ (.tmp 154)).trans (show vs 51 = .pointer (some ⟨gn, i * 2 + 1, none⟩) from hp 51 rfl)
          clear hρ hp
          have hl2 : w0.cell? ⟨gn, i * 2 + 1, none⟩ = some (.slice (some ⟨q, 0, none⟩) L cq) := cell_below hI (Nat.le_refl _) hk1
          refine RegG.rel_value (.slice (some ⟨q, 0, none⟩) L cq) ?_ ⟨hI, rfl⟩
          go_simp
        refine RegG.allOps_cons ?_ ?_
        · intro vs w0 ρ hρ hcst hglb hfun hI hp
          have e0 : ρ (.tmp 0) = .pointer (some ⟨gh, 0, none⟩) := hρ (.tmp 0)
          clear hρ hp
          refine RegG.rel_value (.pointer (some ⟨gh, 0, none⟩)) ?_ ⟨hI, rfl⟩
          go_simp
        refine RegG.allOps_cons ?_ ?_
        · intro vs w0 ρ hρ hcst hglb hfun hI hp
          have e156 : ρ (.tmp 156) = .pointer (some ⟨gh, 0, none⟩) := (hρ (.tmp 156)).trans (show vs 53 = .pointer (some ⟨gh, 0, none⟩) from hp 53 rfl)
          clear hρ hp
          refine RegG.rel_value (.pointer (some ⟨gh, 0, none⟩)) ?_ ⟨hI, rfl⟩
          go_simp
        refine RegG.allOps_cons ?_ ?_
        · intro vs w0 ρ hρ hcst hglb hfun hI hp
          have e157 : ρ (.tmp 157) = .pointer (some ⟨gh, 0, none⟩) := (hρ (.tmp 157)).trans (show vs 54 = .pointer (some ⟨gh, 0, none⟩) from hp 54 rfl)
          clear hρ hp
          refine RegG.rel_value (.pointer (some ⟨gh, 23, none⟩)) ?_ ⟨hI, rfl⟩
          go_simp
        refine RegG.allOps_cons ?_ ?_
        · intro vs w0 ρ hρ hcst hglb hfun hI hp
          have e158 : ρ (.tmp 158) = .pointer (some ⟨gh, 23, none⟩) := (hρ (.tmp 158)).trans (show vs 55 = .pointer (some ⟨gh, 23, none⟩) from hp 55 rfl)
          clear hρ hp
          refine RegG.rel_value (.pointer (some ⟨gh, 45, none⟩)) ?_ ⟨hI, rfl⟩
          go_simp
        refine RegG.allOps_cons ?_ ?_
        · intro vs w0 ρ hρ hcst hglb hfun hI hp
          have e159 : ρ (.tmp 159) = .pointer (some ⟨gh, 45, none⟩) := (hρ (.tmp 159)).trans (show vs 56 = .pointer (some ⟨gh, 45, none⟩) from hp 56 rfl)
          clear hρ hp
          have hl2 : w0.cell? ⟨gh, 45, none⟩ = some (.slice (some ⟨b2, o2, none⟩) N cap2) := cell_below hI (Nat.le_refl _) h45
          refine RegG.rel_value (.slice (some ⟨b2, o2, none⟩) N cap2) ?_ ⟨hI, rfl⟩
          go_simp
        refine RegG.allOps_cons ?_ ?_
        · intro vs w0 ρ hρ hcst hglb hfun hI hp
          have e4 : ρ (.tmp 4) = .int .i64 (i : Nat) := hρ (.tmp 4)
          clear hρ hp
          refine RegG.rel_value (.int .i64 (i : Nat)) ?_ ⟨hI, rfl⟩
          go_simp
        refine RegG.allOps_cons ?_ ?_
        · intro vs w0 ρ hρ hcst hglb hfun hI hp
          have e160 : ρ (.tmp 160) = .slice (some ⟨b2, o2, none⟩) N cap2 := (hρ (.tmp 160)).trans (show vs 57 = .slice (some ⟨b2, o2, none⟩) N cap2 from hp 57 rfl)
          have e161 : ρ (.tmp 161) = .int .i64 (i : Nat) := (hρ (.tmp 161)).trans (show vs 58 = .int .i64 (i : Nat) from hp 58 rfl)
          clear hρ hp
          refine RegG.rel_value (.pointer (some ⟨b2, o2 + i * 2, none⟩)) ?_ ⟨hI, rfl⟩
          have hq0 := HIN.out
          go_simp
        refine RegG.allOps_cons ?_ ?_
        · intro vs w0 ρ hρ hcst hglb hfun hI hp
          have e162 : ρ (.tmp 162) = .pointer (some ⟨b2, o2 + i * 2, none⟩) := (hρ (.tmp 162)).trans (show vs 59 = .pointer (some ⟨b2, o2 + i * 2, none⟩) from hp 59 rfl)
          clear hρ hp
          refine RegG.rel_value (.pointer (some ⟨b2, o2 + i * 2 + 1, none⟩)) ?_ ⟨hI, rfl⟩
          go_simp
        refine RegG.allOps_cons ?_ ?_
        · intro vs w0 ρ hρ hcst hglb hfun hI hp
          have e163 : ρ (.tmp 163) = .pointer (some ⟨b2, o2 + i * 2 + 1, none⟩) := (hρ (.tmp 163)).trans (show vs 60 = .pointer (some ⟨b2, o2 + i * 2 + 1, none⟩) from hp 60 rfl)
          clear hρ hp
          have hl2 : w0.cell? ⟨b2, o2 + i * 2 + 1, none⟩ = some (.slice B2 L c2) := cell_below hI (Nat.le_refl _) hp2
          refine RegG.rel_value (.slice B2 L c2) ?_ ⟨hI, rfl⟩
          go_simp
        refine RegG.allOps_cons ?_ ?_
        · intro vs w0 ρ hρ hcst hglb hfun hI hp
          have e155 : ρ (.tmp 155) = .slice (some ⟨q, 0, none⟩) L cq := (hρ (.tmp 155)).trans (show vs 52 = .slice (some ⟨q, 0, none⟩) L cq from hp 52 rfl)
          have e164 : ρ (.tmp 164) = .slice B2 L c2 := (hρ (.tmp 164)).trans (show vs 61 = .slice B2 L c2 from hp 61 rfl)
          clear hρ hp
          refine RegG.rel_call Tryd.func19 (by kernel_rfl) rfl #[.slice (some ⟨q, 0, none⟩) L cq, .slice B2 L c2] rfl (hfun _) (by simp [e155, e164]) ?_
          refine (HSI w0 hI).out.mono ?_
          rintro e w3 ⟨rfl, hd⟩
          exact ⟨_, rfl, hd.below, hI.trans (hd.below.mono hI.size), rfl⟩
        refine RegG.allOps_cons ?_ ?_
        · intro vs w0 ρ hρ hcst hglb hfun hI hp
          have e165 : ρ (.tmp 165) = .bool true := (hρ (.tmp 165)).trans (show vs 62 = .bool true from hp 62 rfl)
          clear hρ hp
          refine RegG.rel_value (.bool false) ?_ ⟨hI, rfl⟩
          go_simp
        refine RegG.allOps_cons ?_ ?_
        · intro vs w0 ρ hρ hcst hglb hfun hI hp
          have e147 : ρ (.tmp 147) = .bool false := (hρ (.tmp 147)).trans (show vs 44 = .bool false from hp 44 rfl)
          have e166 : ρ (.tmp 166) = .bool false := (hρ (.tmp 166)).trans (show vs 63 = .bool false from hp 63 rfl)
          clear hρ hp
          refine RegG.rel_value (.bool false) ?_ ⟨hI, rfl⟩
          go_simp
        exact RegG.allOps_nil
      intro vs w0 hI hR
      have r0 : vs 0 = .slice (some ⟨q, 0, none⟩) L3 cq := hR 0 (by decide)
      have r1 : vs 1 = .int .i64 (L3 : Nat) := hR 1 (by decide)
      have r2 : vs 2 = .int .i64 (L : Nat) := hR 2 (by decide)
      have r3 : vs 3 = .int .i64 (L3 : Nat) := hR 3 (by decide)
      have r4 : vs 4 = .bool false := hR 4 (by decide)
      have r5 : vs 5 = .bool false := hR 5 (by decide)
      have r6 : vs 6 = .slice (some ⟨q, 0, none⟩) L3 cq := hR 6 (by decide)
      have r7 : vs 7 = .int .i64 (L : Nat) := hR 7 (by decide)
      have r8 : vs 8 = .pointer (some ⟨q, L, none⟩) := hR 8 (by decide)
      have r9 : vs 9 = .int .i64 701 := hR 9 (by decide)
      have r10 : vs 10 = .bool false := hR 10 (by decide)
      have r11 : vs 11 = .bool false := hR 11 (by decide)
      have r12 : vs 12 = .bool false := hR 12 (by decide)
      have r13 : vs 13 = .slice (some ⟨q, 0, none⟩) L3 cq := hR 13 (by decide)
      have r14 : vs 14 = .int .i64 (L : Nat) := hR 14 (by decide)
      have r15 : vs 15 = .int .i64 (L1 : Nat) := hR 15 (by decide)
      have r16 : vs 16 = .pointer (some ⟨q, L1, none⟩) := hR 16 (by decide)
      have r17 : vs 17 = .int .i64 702 := hR 17 (by decide)
      have r18 : vs 18 = .bool false := hR 18 (by decide)
      have r19 : vs 19 = .bool false := hR 19 (by decide)
      have r20 : vs 20 = .bool false := hR 20 (by decide)
      have r21 : vs 21 = .slice (some ⟨q, 0, none⟩) L3 cq := hR 21 (by decide)
      have r22 : vs 22 = .int .i64 (L : Nat) := hR 22 (by decide)
      have r23 : vs 23 = .int .i64 (L2 : Nat) := hR 23 (by decide)
      have r24 : vs 24 = .pointer (some ⟨q, L2, none⟩) := hR 24 (by decide)
      have r25 : vs 25 = .int .i64 703 := hR 25 (by decide)
      have r26 : vs 26 = .bool false := hR 26 (by decide)
      have r27 : vs 27 = .bool false := hR 27 (by decide)
      have r28 : vs 28 = .bool false := hR 28 (by decide)
      have r29 : vs 29 = .slice (some ⟨q, 0, none⟩) L3 cq := hR 29 (by decide)
      have r30 : vs 30 = .int .i64 (L : Nat) := hR 30 (by decide)
      have r31 : vs 31 = .slice (some ⟨q, 0, none⟩) L cq := hR 31 (by decide)
      have r32 : vs 32 = .pointer (some ⟨gh, 0, none⟩) := hR 32 (by decide)
      have r33 : vs 33 = .pointer (some ⟨gh, 0, none⟩) := hR 33 (by decide)
      have r34 : vs 34 = .pointer (some ⟨gh, 23, none⟩) := hR 34 (by decide)
      have r35 : vs 35 = .pointer (some ⟨gh, 45, none⟩) := hR 35 (by decide)
      have r36 : vs 36 = .slice (some ⟨b2, o2, none⟩) N cap2 := hR 36 (by decide)
      have r37 : vs 37 = .int .i64 (i : Nat) := hR 37 (by decide)
      have r38 : vs 38 = .pointer (some ⟨b2, o2 + i * 2, none⟩) := hR 38 (by decide)
      have r39 : vs 39 = .pointer (some ⟨b2, o2 + i * 2 + 1, none⟩) := hR 39 (by decide)
      have r40 : vs 40 = .slice B2 L c2 := hR 40 (by decide)
      have r41 : vs 41 = .bool true := hR 41 (by decide)
      have r42 : vs 42 = .bool false := hR 42 (by decide)
      have r43 : vs 43 = .bool false := hR 43 (by decide)
      have r44 : vs 44 = .bool false := hR 44 (by decide)
      have r45 : vs 45 = .pointer (some ⟨gh, 0, none⟩) := hR 45 (by decide)
      have r46 : vs 46 = .pointer (some ⟨gh, 0, none⟩) := hR 46 (by decide)
      have r47 : vs 47 = .pointer (some ⟨gh, 46, none⟩) := hR 47 (by decide)
      have r48 : vs 48 = .slice (some ⟨gn, 0, none⟩) M cn := hR 48 (by decide)
      have r49 : vs 49 = .int .i64 (i : Nat) := hR 49 (by decide)
      have r50 : vs 50 = .pointer (some ⟨gn, i * 2, none⟩) := hR 50 (by decide)
      have r51 : vs 51 = .pointer (some ⟨gn, i * 2 + 1, none⟩) := hR 51 (by decide)
      have r52 : vs 52 = .slice (some ⟨q, 0, none⟩) L cq := hR 52 (by decide)
      have r53 : vs 53 = .pointer (some ⟨gh, 0, none⟩) := hR 53 (by decide)
      have r54 : vs 54 = .pointer (some ⟨gh, 0, none⟩) := hR 54 (by decide)
      have r55 : vs 55 = .pointer (some ⟨gh, 23, none⟩) := hR 55 (by decide)
      have r56 : vs 56 = .pointer (some ⟨gh, 45, none⟩) := hR 56 (by decide)
      have r57 : vs 57 = .slice (some ⟨b2, o2, none⟩) N cap2 := hR 57 (by decide)
      have r58 : vs 58 = .int .i64 (i : Nat) := hR 58 (by decide)
      have r59 : vs 59 = .pointer (some ⟨b2, o2 + i * 2, none⟩) := hR 59 (by decide)
      have r60 : vs 60 = .pointer (some ⟨b2, o2 + i * 2 + 1, none⟩) := hR 60 (by decide)
      have r61 : vs 61 = .slice B2 L c2 := hR 61 (by decide)
      have r62 : vs 62 = .bool true := hR 62 (by decide)
      have r63 : vs 63 = .bool false := hR 63 (by decide)
      have r64 : vs 64 = .bool false := hR 64 (by decide)
      simp only [RegG.fillFrom, Act.put, List.setIfInBounds_toArray, List.set_cons_zero, List.set_cons_succ, r0, r1, r2, r3, r4, r5, r6, r7, r8, r9, r10, r11, r12, r13, r14, r15, r16, r17, r18, r19, r20, r21, r22, r23, r24, r25, r26, r27, r28, r29, r30, r31, r32, r33, r34, r35, r36, r37, r38, r39, r40, r41, r42, r43, r44, r45, r46, r47, r48, r49, r50, r51, r52, r53, r54, r55, r56, r57, r58, r59, r60, r61, r62, r63, r64]
      clear hR r0 r1 r2 r3 r4 r5 r6 r7 r8 r9 r10 r11 r12 r13 r14 r15 r16 r17 r18 r19 r20 r21 r22 r23 r24 r25 r26 r27 r28 r29 r30 r31 r32 r33 r34 r35 r36 r37 r38 r39 r40 r41 r42 r43 r44 r45 r46 r47 r48 r49 r50 r51 r52 r53 r54 r55 r56 r57 r58 r59 r60 r61 r62 r63 r64
      have HR2 := Aside0.mk (HR.out.trans (hI.mono HR.out.size))
      clear hI HSI
      go_wp2_with fail
      go_roundw
      case rel => exact ⟨i + 1, by omega, by go_num, HR2⟩
      case measure => simp [intOf]; omega
    · go_wp2_with fail
      go_ret
      exact ⟨rfl, HR.out⟩
end Go.Proofs.YtljjpdjknnhceaaDoor.LeftW
