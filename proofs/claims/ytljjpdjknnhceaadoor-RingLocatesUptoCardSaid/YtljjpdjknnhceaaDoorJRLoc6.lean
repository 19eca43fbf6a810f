/- Joined texts of this claim: HandW, EqV, RegG, SameC -/
import Derived.Test.YtljjpdjknnhceaaDoorJRLoc3
import Derived.Test.YtljjpdjknnhceaaDoorJRLoc5
import Derived.Test.YtljjpdjknnhceaaDoorJRLoc4
import Derived.Laws.StructEq
import Derived.Test.YtljjpdjknnhceaaDoorWWords
import Derived.Test.YtljjpdjknnhceaaDoorWLast
import Derived.Orders
import Derived.Below
import Derived.Test.YtljjpdjknnhceaaDoorJRLoc2
import Derived.Deep.QuietTactic
import Derived.BigQuiet
set_option linter.unusedVariables false
set_option linter.unusedSimpArgs false
/- Hand walked. -/
set_option linter.unusedVariables false
set_option linter.unusedSimpArgs false
namespace Go.Proofs.YtljjpdjknnhceaaDoor.HandW
open Go.RowKit Go.Proofs.YtljjpdjknnhceaaDoorW.PrintWords Go.Proofs.YtljjpdjknnhceaaDoorW.PrintLast Go.Proofs.YtljjpdjknnhceaaDoorW.PrintMore
open Go.Proofs.YtljjpdjknnhceaaDoor.Base Go.Proofs.YtljjpdjknnhceaaDoor.App Go.Proofs.YtljjpdjknnhceaaDoor.RingPure Go.Proofs.YtljjpdjknnhceaaDoor.ChkPure Go.Proofs.YtljjpdjknnhceaaDoor.Clus Go.Proofs.YtljjpdjknnhceaaDoor.Mids Go.Proofs.YtljjpdjknnhceaaDoor.Chkd Go.Proofs.YtljjpdjknnhceaaDoor.AppR Go.Proofs.YtljjpdjknnhceaaDoor.Twin Go.Proofs.YtljjpdjknnhceaaDoor.TwinW Go.Proofs.YtljjpdjknnhceaaDoor.Hand Go.Proofs.YtljjpdjknnhceaaDoor.RefCheck
theorem exec_build {P : Program} {ρ : Operand → Value} {o : Oper} {w : World} (t : TypeId) (parts : Array (Nat × Operand)) (ho : o.op = .build t parts) (cs : Array Value)
    (h : P.built t (parts.map fun (i, x) => (i, ρ x)).toList = some cs) : (execOp ρ o).run P w = .ok (.value (.agg cs)) w := by
  unfold execOp
  simp only [ho]
  have hb := run_build (P := P) w t (parts.map fun (i, x) => (i, ρ x)) cs h
  simp only [Sem.run_bind, hb, Result.andThen_ok, Sem.run_pure]
theorem built_hand (c : Cl) (cv tv : Value) : Tryd.prog.built 31 [(0, .agg (cL c cv).toArray), (1, .agg (cL c tv).toArray)] = some (hL c cv tv (.slice none 0 0) (.slice none 0 0)).toArray := by kernel_rfl
set_option maxRecDepth 100000 in
set_option maxHeartbeats 8000000 in
theorem hand_any (c : Cl) (A : Option Addr) (cap : Nat) (ns : List Nd) (w : World) (hN : NodesAt w A ns) (hcap : ns.length ≤ cap) (hl : ns.length ≤ 1073741824) (hc : cnt ns ≤ 1073741824) :
    Calls Tryd.prog 12 #[.agg (cL c (.slice A ns.length cap)).toArray] w (HandPost c ns w) := by
  have hb0 := (Below.refl w.heap.size w).alloc (Nat.le_refl _) (.cells (cL c (.slice A ns.length cap)).toArray 24)
  have HN := Aside0.mk (hN.below hb0)
  have HB := Aside0.mk hb0
  have HC : Aside0 (CBox (w.alloc (.cells (cL c (.slice A ns.length cap)).toArray 24)) w.heap.size c (.slice A ns.length cap)) := ⟨⟨Go.heap_alloc_new w _⟩⟩
  have HCT := Aside0.mk (fun k => cnt_take ns k)
  clear hN hb0
  go_enter Tryd.func12, Tryd.ntmps12
  go_upto_region 1 with fail
  generalize w.alloc (.cells (cL c (.slice A ns.length cap)).toArray 24) = w1 at HN HB HC ⊢
  obtain ⟨ga, hga⟩ : ∃ ga, ga = w.heap.size := ⟨_, rfl⟩
  rw [← hga] at HC ⊢
  have HGA := Aside0.mk hga
  clear hga
  have hlb := hl
  have hcb := hc
  have hl : ns.length ≤ 1099511627776 := by omega
  have hc : cnt ns ≤ 1099511627776 := by omega
  refine Reg.wp_region_rel _ (by kernel_rfl) _ _ _ rfl (by kernel_rfl) (fun w' => Below w1.heap.size w1 w') (fun _ w w' => Below w.heap.size w w') (fun jq vs w' => match jq with
    | 0 => vs 0 = .agg (cL c (.slice A ns.length cap)).toArray
    | 1 => vs 1 = .agg (cL c (.slice A ns.length cap)).toArray
    | 2 => ∃ (A2 : Option Addr) (cap2 : Nat) (vs2 : List Value), (vs 2) = .agg (cL c (.slice A2 ns.length cap2)).toArray ∧ ns.length ≤ cap2 ∧ Own w' w1.heap.size (.slice A2 ns.length cap2) ns vs2
    | 3 => ∃ (A2 : Option Addr) (cap2 : Nat) (vs2 : List Value), (vs 3) = .agg (hL c (.slice A ns.length cap) (.slice A2 ns.length cap2) (.slice none 0 0) (.slice none 0 0)).toArray ∧ ns.length ≤ cap2 ∧ Own w' w1.heap.size (.slice A2 ns.length cap2) ns vs2
    | 4 => ∃ (g : Nat) (A2 : Option Addr) (cap2 : Nat) (vs2 : List Value), (vs 4) = .pointer (some ⟨g, 0, none⟩) ∧ w1.heap.size ≤ g ∧ w'.heap[g]? = some (.cells (hL c (.slice A ns.length cap) (.slice A2 ns.length cap2) (.slice none 0 0) (.slice none 0 0)).toArray 31 (0, 0)) ∧ ns.length ≤ cap2 ∧ Own w' w1.heap.size (.slice A2 ns.length cap2) ns vs2
    | 5 => ∃ (g : Nat) (A2 : Option Addr) (cap2 : Nat) (vs2 : List Value), (vs 5) = .pointer (some ⟨g, 0, none⟩) ∧ w1.heap.size ≤ g ∧ w'.heap[g]? = some (.cells (hL c (.slice A ns.length cap) (.slice A2 ns.length cap2) (.slice none 0 0) (.slice none 0 0)).toArray 31 (0, 0)) ∧ ns.length ≤ cap2 ∧ Own w' w1.heap.size (.slice A2 ns.length cap2) ns vs2
    | _ => True) (below_drew (Below.refl _ _)) ?_ ?_ ?_ ?_
  · intro i j vs w0 w' hij hI hR hb
    rcases j with _ | j
    · exact hR
    rcases j with _ | j
    · exact hR
    rcases j with _ | j
    · obtain ⟨A2, cap2, vs2, hv, hle, how⟩ := hR
      exact ⟨A2, cap2, vs2, hv, hle, how.below hb⟩
    rcases j with _ | j
    · obtain ⟨A2, cap2, vs2, hv, hle, how⟩ := hR
      exact ⟨A2, cap2, vs2, hv, hle, how.below hb⟩
    rcases j with _ | j
    · obtain ⟨g, A2, cap2, vs2, hv, hg, hblk, hle, how⟩ := hR
      exact ⟨g, A2, cap2, vs2, hv, hg, (hb.block _ (blk_lt hblk)).trans hblk, hle, how.below hb⟩
    rcases j with _ | j
    · obtain ⟨g, A2, cap2, vs2, hv, hg, hblk, hle, how⟩ := hR
      exact ⟨g, A2, cap2, vs2, hv, hg, (hb.block _ (blk_lt hblk)).trans hblk, hle, how.below hb⟩
    exact trivial
  · intro j o vs vs1 w0 ho he hp hR
    rcases j with _ | j
    · exact he.trans hR
    rcases j with _ | j
    · exact he.trans hR
    rcases j with _ | j
    · show ∃ (A2 : Option Addr) (cap2 : Nat) (vs2 : List Value), (vs1 2) = .agg (cL c (.slice A2 ns.length cap2)).toArray ∧ ns.length ≤ cap2 ∧ Own w0 w1.heap.size (.slice A2 ns.length cap2) ns vs2
      rw [he]; exact hR
    rcases j with _ | j
    · show ∃ (A2 : Option Addr) (cap2 : Nat) (vs2 : List Value), (vs1 3) = .agg (hL c (.slice A ns.length cap) (.slice A2 ns.length cap2) (.slice none 0 0) (.slice none 0 0)).toArray ∧ ns.length ≤ cap2 ∧ Own w0 w1.heap.size (.slice A2 ns.length cap2) ns vs2
      rw [he]; exact hR
    rcases j with _ | j
    · show ∃ (g : Nat) (A2 : Option Addr) (cap2 : Nat) (vs2 : List Value), (vs1 4) = .pointer (some ⟨g, 0, none⟩) ∧ w1.heap.size ≤ g ∧ w0.heap[g]? = some (.cells (hL c (.slice A ns.length cap) (.slice A2 ns.length cap2) (.slice none 0 0) (.slice none 0 0)).toArray 31 (0, 0)) ∧ ns.length ≤ cap2 ∧ Own w0 w1.heap.size (.slice A2 ns.length cap2) ns vs2
      rw [he]; exact hR
    rcases j with _ | j
    · show ∃ (g : Nat) (A2 : Option Addr) (cap2 : Nat) (vs2 : List Value), (vs1 5) = .pointer (some ⟨g, 0, none⟩) ∧ w1.heap.size ≤ g ∧ w0.heap[g]? = some (.cells (hL c (.slice A ns.length cap) (.slice A2 ns.length cap2) (.slice none 0 0) (.slice none 0 0)).toArray 31 (0, 0)) ∧ ns.length ≤ cap2 ∧ Own w0 w1.heap.size (.slice A2 ns.length cap2) ns vs2
      rw [he]; exact hR
    exact trivial
  · skip
    refine Reg.allOps_cons ?_ ?_
    · intro vs w0 ρ hρ hcst hglb hfun hI hp
      have e1 : ρ (.tmp 1) = .pointer (some ⟨ga, 0, none⟩) := hρ (.tmp 1)
      clear hρ hp
      refine Reg.rel_value (.agg (cL c (.slice A ns.length cap)).toArray) (exec_load_mid 24 (.tmp 1) rfl ga 0 e1 _ _ (blk_range (HC.out.below hI HC.out.lt).row) Tryd.underlying24 rfl infoC23) ⟨hI, rfl⟩
    refine Reg.allOps_cons ?_ ?_
    · intro vs w0 ρ hρ hcst hglb hfun hI hp
      have e1 : ρ (.tmp 1) = .pointer (some ⟨ga, 0, none⟩) := hρ (.tmp 1)
      clear hρ hp
      refine Reg.rel_value (.agg (cL c (.slice A ns.length cap)).toArray) (exec_load_mid 24 (.tmp 1) rfl ga 0 e1 _ _ (blk_range (HC.out.below hI HC.out.lt).row) Tryd.underlying24 rfl infoC23) ⟨hI, rfl⟩
    refine Reg.allOps_cons ?_ ?_
    · intro vs w0 ρ hρ hcst hglb hfun hI hp
      have e9 : ρ (.tmp 9) = .agg (cL c (.slice A ns.length cap)).toArray := (hρ (.tmp 9)).trans (show vs 1 = .agg (cL c (.slice A ns.length cap)).toArray from hp 1 rfl)
      clear hρ hp
      refine Reg.rel_call Tryd.func25 (by kernel_rfl) rfl #[.agg (cL c (.slice A ns.length cap)).toArray] rfl (hfun _) (by simp [e9]) ?_
      refine (twin_any c A cap ns w0 (HN.out.below hI) hcap hl hc).mono ?_
      rintro e w3 ⟨hb, A2, cap2, vs2, rfl, hle, how⟩
      exact ⟨_, rfl, hb, hI.trans (hb.mono hI.size), A2, cap2, vs2, rfl, hle, own_lower how hI.size⟩
    refine Reg.allOps_cons ?_ ?_
    · intro vs w0 ρ hρ hcst hglb hfun hI hp
      have e8 : ρ (.tmp 8) = .agg (cL c (.slice A ns.length cap)).toArray := (hρ (.tmp 8)).trans (show vs 0 = .agg (cL c (.slice A ns.length cap)).toArray from hp 0 rfl)
      have r2 : ∃ (A2 : Option Addr) (cap2 : Nat) (vs2 : List Value), (vs 2) = .agg (cL c (.slice A2 ns.length cap2)).toArray ∧ ns.length ≤ cap2 ∧ Own w0 w1.heap.size (.slice A2 ns.length cap2) ns vs2 := hp 2 rfl
      have e10 : ρ (.tmp 10) = vs 2 := hρ (.tmp 10)
      obtain ⟨A2, cap2, vs2, hv, hle, how⟩ := r2
      rw [hv] at e10
      clear hρ hp
      refine Reg.rel_value (.agg (hL c (.slice A ns.length cap) (.slice A2 ns.length cap2) (.slice none 0 0) (.slice none 0 0)).toArray) ?_ ⟨hI, A2, cap2, vs2, rfl, hle, how⟩
      exact exec_build 31 _ rfl _ (by simp only [List.map_toArray, List.map_cons, List.map_nil, e8, e10]; exact built_hand c (.slice A ns.length cap) (.slice A2 ns.length cap2))
    refine Reg.allOps_cons ?_ ?_
    · intro vs w0 ρ hρ hcst hglb hfun hI hp
      have r3 : ∃ (A2 : Option Addr) (cap2 : Nat) (vs2 : List Value), (vs 3) = .agg (hL c (.slice A ns.length cap) (.slice A2 ns.length cap2) (.slice none 0 0) (.slice none 0 0)).toArray ∧ ns.length ≤ cap2 ∧ Own w0 w1.heap.size (.slice A2 ns.length cap2) ns vs2 := hp 3 rfl
      have e11 : ρ (.tmp 11) = vs 3 := hρ (.tmp 11)
      obtain ⟨A2, cap2, vs2, hv, hle, how⟩ := r3
      rw [hv] at e11
      clear hρ hp
      refine Reg.rel_made (.pointer (some ⟨w0.heap.size, 0, none⟩)) (w' := w0.alloc (.cells (hL c (.slice A ns.length cap) (.slice A2 ns.length cap2) (.slice none 0 0) (.slice none 0 0)).toArray 31)) ?_ ((Below.refl _ _).alloc (Nat.le_refl _) _) ⟨hI.alloc hI.size _, w0.heap.size, A2, cap2, vs2, rfl, hI.size, Go.heap_alloc_new _ _, hle, how.below ((Below.refl _ _).alloc (Nat.le_refl _) _)⟩
      go_simp
    refine Reg.allOps_cons ?_ ?_
    · intro vs w0 ρ hρ hcst hglb hfun hI hp
      have r4 : ∃ (g : Nat) (A2 : Option Addr) (cap2 : Nat) (vs2 : List Value), (vs 4) = .pointer (some ⟨g, 0, none⟩) ∧ w1.heap.size ≤ g ∧ w0.heap[g]? = some (.cells (hL c (.slice A ns.length cap) (.slice A2 ns.length cap2) (.slice none 0 0) (.slice none 0 0)).toArray 31 (0, 0)) ∧ ns.length ≤ cap2 ∧ Own w0 w1.heap.size (.slice A2 ns.length cap2) ns vs2 := hp 4 rfl
      have e12 : ρ (.tmp 12) = vs 4 := hρ (.tmp 12)
      obtain ⟨g, A2, cap2, vs2, hv, hg, hblk, hle, how⟩ := r4
      rw [hv] at e12
      clear hρ hp
      refine Reg.rel_value (.pointer (some ⟨g, 0, none⟩)) ?_ ⟨hI, g, A2, cap2, vs2, rfl, hg, hblk, hle, how⟩
      go_simp
    exact Reg.allOps_nil
  intro vs w0 hI hR
  have r0 : vs 0 = .agg (cL c (.slice A ns.length cap)).toArray := hR 0 (by decide)
  have r1 : vs 1 = .agg (cL c (.slice A ns.length cap)).toArray := hR 1 (by decide)
  obtain ⟨gh, A2, cap2, vs2, r5, hgh, hblk, hle, how⟩ := hR 5 (by decide)
  simp only [Reg.fillFrom, Act.put, List.setIfInBounds_toArray, List.set_cons_zero, List.set_cons_succ, r0, r1]
  clear hR r0 r1
  rw [show vs 5 = .pointer (some ⟨gh, 0, none⟩) from r5]
  clear r5
  have HGH := Aside0.mk hgh
  generalize w0 = wz at hI hblk how ⊢
  generalize vs (0 + 1 + 1) = q1
  generalize vs (0 + 1 + 1 + 1) = q2
  generalize vs (0 + 1 + 1 + 1 + 1) = q3
  obtain ⟨tv, htv⟩ : ∃ tv, tv = Value.slice A2 ns.length cap2 := ⟨_, rfl⟩
  rw [← htv] at hblk how
  have HTV := Aside0.mk htv
  have HLE := Aside0.mk hle
  have HGB := Aside0.mk (HC.out.lt)
  have HR0 := Aside0.mk hI
  have HH0 : Aside0 (HInv wz wz.heap.size gh c (.slice A ns.length cap) tv (.slice none 0 0) (.slice none 0 0) [] [] [] 0) :=
    ⟨rfl, hblk, World.ownsRow_nil _ _ _ _, World.ownsRow_nil _ _ _ _, fun i n g h => by simp at h⟩
  have HT0 := Aside0.mk how
  have HTB : Aside0 (∀ k, tv.ownBlock = some k → k < wz.heap.size) := ⟨own_lt how.row⟩
  have HW1 := Aside0.mk hI.size
  clear htv hle hI hblk how hgh
  go_wp2_with fail
  go_loopw [4, 5, 6] (fun v4 _ _ wr => ∃ (k : Nat) (gs : List G) (nv pv : Value), k ≤ ns.length ∧ v4 = .int .i64 (k : Nat) ∧ Aside0 (Below w1.heap.size w1 wr) ∧ Aside0 (HInv wr wz.heap.size gh c (.slice A ns.length cap) tv nv pv (ns.take k) gs [] 0) ∧ Aside0 (Own wr w1.heap.size tv ns vs2) ∧ Aside0 (wz.heap.size ≤ wr.heap.size)) (fun v4 _ _ _ => ns.length - (intOf v4).toNat)
  case atStart => exact ⟨0, [], _, _, Nat.zero_le _, rfl, HR0, HH0, HT0, ⟨Nat.le_refl _⟩⟩
  case round =>
    clear HR0 HH0 HT0
    obtain ⟨k, gs, nv, pv, hk, rfl, HR, HH, HT, HSZ⟩ := hrel
    obtain ⟨wo, rfl⟩ : ∃ wo : World, wo = wr := ⟨_, rfl⟩
    have h22 : wo.cell? ⟨ga, 22, none⟩ = some (.slice A ns.length cap) := (HC.out.below HR.out HC.out.lt).c 22
    by_cases hlt : k < ns.length
    · obtain ⟨n, hn⟩ : ∃ n, ns[k]? = some n := ⟨_, List.getElem?_eq_getElem hlt⟩
      obtain ⟨b, o, rfl, hz0, B, cp, hp0, hcp, hnm⟩ := HN.out.get hn
      have hz := cell_below HR.out (Nat.le_refl _) hz0
      have hp := cell_below HR.out (Nat.le_refl _) hp0
      have HSRC := Aside0.mk (nums_src (hnm.below HR.out) hcp.2)
      have hbl : b < w1.heap.size := World.block_lt_of_cell? w1 _ hz0
      have hkl : (ns.take k).length = k := by rw [List.length_take]; omega
      have hnl := cnt_snoc ns k n hn
      have hct := HCT.out (k + 1)
      have hnlb : n.2.length ≤ 1073741824 := by omega
      have HNI := Aside0.mk hn
      have HZ0 := Aside0.mk hz0
      clear hz0 hp0 hn hnm hnl hct hcp
      go_wp2_with ((with_reducible refine gate_call (args := #[.const (.slice none 0 0), .tmp 25]) rfl ?_); refine Hid.out ?_)
      refine Lib.hid ?_
      refine list_append_any (P := Tryd.prog) rfl wo.heap.size (.const (.slice none 0 0)) (.tmp 25) 36 3 _ 1 8 rfl Tryd.underlying36 infoI rfl (by decide) (by decide) (.slice none 0 0) 0 [] B n.2.length cp (nums .i64 n.2) ?hs ?hx (by simp [nums]) (nums_one _) HSRC.out (World.ownsRow_nil _ _ _ _) (Nat.le_refl _) (by omega) n.2.length (Nat.zero_add _) ?_
      case hs => rfl
      case hx => rfl
      intro A1 c1 w2 hle1 hown1 hg1
      have HO1 : Aside0 (w2.ownsRow wo.heap.size 3 1 (.slice A1 n.2.length c1) n.2.length (nums .i64 n.2)) := ⟨by rw [List.nil_append] at hown1; exact hown1⟩
      have HB1 : Aside0 (Below wo.heap.size wo w2) := ⟨(Below.refl wo.heap.size wo).grown hg1 (Nat.le_refl _) (fun k hk => by simp [Value.ownBlock] at hk)⟩
      clear hown1 hg1 HSRC
      have HNW := Aside0.mk (news w2 [.int .i64 701, .int .i64 702, .int .i64 703] 3)
      have HBS := Aside0.mk HB1.out.size
      go_wp2_with ((with_reducible refine gate_call (args := #[.tmp 29, .tmp 30]) rfl ?_); refine Hid.out ?_)
      refine Lib.hid ?_
      refine list_append_any (P := Tryd.prog) rfl wo.heap.size (.tmp 29) (.tmp 30) 36 3 _ 1 8 rfl Tryd.underlying36 infoI rfl (by decide) (by decide) (.slice A1 n.2.length c1) n.2.length (nums .i64 n.2) (some ⟨w2.heap.size, 0, none⟩) 3 3 [.int .i64 701, .int .i64 702, .int .i64 703] ?hs ?hx rfl (by simp [Value.oneCell']) (.inr ⟨_, rfl, fun j u hj => by have := HNW.out j u hj; rwa [show (⟨w2.heap.size, 0, none⟩ : Addr).add j = ⟨w2.heap.size, j, none⟩ by unfold Addr.add; split <;> simp_all]⟩) (HO1.out.alloc _) (by have := HBS.out; simp; omega) (by omega) (n.2.length + 3) rfl ?_
      case hs => rfl
      case hx => rfl
      intro A3 c3 w3 hle3 hown3 hg3
      obtain ⟨g, rfl⟩ : ∃ g, A3 = some ⟨g, 0, none⟩ := by
        rcases hown3.2 with ⟨_, h0⟩ | ⟨g, cap', cs, e, _⟩
        · omega
        · injection e with e; exact ⟨g, e⟩
      have HB3 : Aside0 (Below wo.heap.size wo w3) := ⟨(HB1.out.alloc HB1.out.size _).grown hg3 (by have := HBS.out; simp; omega) (own_base HO1.out)⟩
      have HO3 : Aside0 (w3.ownsRow wz.heap.size 3 1 (pV n (g, c3)) (n.2.length + 3) (nums .i64 (n.2 ++ marks))) := ⟨own_weaken (by rw [nums_append]; exact hown3) HSZ.out⟩
      have HH3 := Aside0.mk (HH.out.below HB3.out)
      have HT3 := Aside0.mk (HT.out.below HB3.out)
      have HR3 := Aside0.mk (HR.out.trans (HB3.out.mono HR.out.size))
      have HS3 := Aside0.mk (Nat.le_trans HSZ.out HB3.out.size)
      have h22' : w3.cell? ⟨ga, 22, none⟩ = some (.slice (some ⟨b, o, none⟩) ns.length cap) := (HC.out.below HR3.out HC.out.lt).c 22
      have hz' := cell_below HR3.out (Nat.le_refl _) HZ0.out
      have h46 : w3.cell? ⟨gh, 46, none⟩ = some nv := by rw [blk_cell HH3.out.box]; rfl
      have h47 : w3.cell? ⟨gh, 47, none⟩ = some pv := by rw [blk_cell HH3.out.box]; rfl
      have hlen4 := HH3.out.parts
      rw [hkl] at hlen4
      have HP3 := Aside0.mk hlen4
      have hsl : (n.2.length : Int) ≤ (c3 : Int) := by omega
      clear hown3 hg3 HO1 HB1 HNW HBS HH HT h22 hz hp hlen4
      go_wp2_with ((with_reducible refine gate_call (args := #[.tmp 36, .tmp 38]) rfl ?_); refine Hid.out ?_)
      refine Lib.hid ?_
      refine list_append_any (P := Tryd.prog) rfl wz.heap.size (.tmp 36) (.tmp 38) 29 36 _ 1 24 rfl Tryd.underlying29 infoL rfl (by decide) (by decide) pv k (pVs (ns.take k) gs) (some ⟨w3.heap.size, 0, none⟩) 1 1 [pV n (g, c3)] ?hs ?hx rfl (by simp [pV, Value.oneCell']) (.inr ⟨_, rfl, fun j u hj => by have := news w3 [pV n (g, c3)] 36 j u hj; rwa [show (⟨w3.heap.size, 0, none⟩ : Addr).add j = ⟨w3.heap.size, j, none⟩ by unfold Addr.add; split <;> simp_all]⟩) (HP3.out.alloc _) (by have := HS3.out; simp; omega) (by omega) (k + 1) rfl ?_
      case hs => rfl
      case hx => rfl
      intro A4 c4 w4 hle4 hown4 hg4
      have hstep := part_step HH3.out HO3.out HT3.out hg4 (by rw [hkl]) hown4
      have hr4 : Below w1.heap.size w1 w4 := (HR3.out.alloc HR3.out.size _).grown hg4 (by have := HS3.out; have := HW1.out; simp; omega) (fun q hq => Nat.le_trans HW1.out (own_base HP3.out q hq))
      have HR5 : Aside0 (Below w1.heap.size w1 (w4.setCell ⟨gh, 47, none⟩ (.slice A4 (k + 1) c4))) := ⟨hr4.setCell HGH.out _⟩
      have HM5 := Aside0.mk hstep.2
      have HS5 : Aside0 (wz.heap.size ≤ (w4.setCell ⟨gh, 47, none⟩ (.slice A4 (k + 1) c4)).heap.size) := ⟨by have h1 := hg4.size; have := HS3.out; simp at h1 ⊢; omega⟩
      have h47 : w4.cell? ⟨gh, 47, none⟩ = some pv := by rw [blk_cell hstep.1]; rfl
      have hfz : w4.frozen? ⟨gh, 47, none⟩ = false := blk_frozen hstep.1 47
      clear hown4 hg4 hstep hr4 HP3 HH3 HT3 HO3 HR3 HS3 h22' hz' h46
      go_upto_region 9 with fail
      clear h47 hfz
      generalize w4.setCell ⟨gh, 47, none⟩ (.slice A4 (k + 1) c4) = w5 at HR5 HM5 HS5 ⊢
      have h22 : w5.cell? ⟨ga, 22, none⟩ = some (.slice (some ⟨b, o, none⟩) ns.length cap) := (HC.out.below HR5.out HC.out.lt).c 22
      have hz := cell_below HR5.out (Nat.le_refl _) HZ0.out
      have h46 : w5.cell? ⟨gh, 46, none⟩ = some nv := by rw [blk_cell HM5.out.box]; rfl
      have hlen5 := HM5.out.nodes
      rw [hkl] at hlen5
      have HN5 := Aside0.mk hlen5
      have hne1 : some ga ≠ nv.ownBlock := own_far hlen5 (Nat.lt_of_lt_of_le HC.out.lt HW1.out)
      have hne2 : some b ≠ nv.ownBlock := own_far hlen5 (Nat.lt_of_lt_of_le hbl HW1.out)
      have hs5 := HS5.out
      have hkb : k ≤ 1073741824 := by omega
      obtain ⟨nA, nc, rfl, hnc⟩ := own_form hlen5
      have HTN : Aside0 (tv.ownBlock = none ∨ tv.ownBlock ≠ (Value.slice nA k nc).ownBlock) := ⟨by
        cases e : tv.ownBlock with
        | none => exact .inl rfl
        | some q => exact .inr (own_far HN5.out (HTB.out q e))⟩
      have h46a : ∀ o, (w5.alloc o).cell? ⟨gh, 46, none⟩ = some (.slice nA k nc) := fun o => pw_cell_below ((Below.refl w5.heap.size w5).alloc (Nat.le_refl _) o) h46
      have h46b : ∀ o, (w5.drew.alloc o).cell? ⟨gh, 46, none⟩ = some (.slice nA k nc) := fun o => h46a o
      have hgx1 : (⟨gh, 46, none⟩ : Addr).block ≠ (⟨ga, 22, none⟩ : Addr).block := by have := HGH.out; have := HC.out.lt; show gh ≠ ga; omega
      have hgx2 : (⟨gh, 46, none⟩ : Addr).block ≠ (⟨b, o + k * 2, none⟩ : Addr).block := by have := HGH.out; show gh ≠ b; omega
      clear hlen5
      refine start_ (n := 20) (S := fun w' => w'.cell? ⟨ga, 22, none⟩ = some (.slice (some ⟨b, o, none⟩) ns.length cap) ∧ w'.cell? ⟨b, o + k * 2, none⟩ = some (.int .i64 n.1) ∧ w'.cell? ⟨gh, 46, none⟩ = some (.slice nA k nc)) (ds := [19]) #[false, false, false, false, false, false, false, false, false, false, false, false, false, false, false, false, false, false, false, false] (by kernel_rfl) rfl rfl ⟨h22, hz, h46⟩ (fun hHeld => ?_)
      refine pure_ (i := 0) (N := some 42) (v := ?_) (a' := ?_) #[true, false, false, false, false, false, false, false, false, false, false, false, false, false, false, false, false, false, false, false] rfl rfl (by kernel_rfl) (fun _ _ _ h => h) (Or.inl ⟨by rfl, ?_⟩) ?_ ?_
      rotate_left
      · intro w'
        go_simp
        with_reducible rfl
      rotate_left
      · simp only [Act.put, List.setIfInBounds_toArray, List.set_cons_zero, List.set_cons_succ, i64_w, i32_w]
        rfl
      refine pure_ (i := 1) (N := some 43) (v := ?_) (a' := ?_) #[true, true, false, false, false, false, false, false, false, false, false, false, false, false, false, false, false, false, false, false] rfl rfl (by kernel_rfl) (fun _ _ _ h => h) (Or.inl ⟨by rfl, ?_⟩) ?_ ?_
      rotate_left
      · intro w'
        go_simp
        with_reducible rfl
      rotate_left
      · simp only [Act.put, List.setIfInBounds_toArray, List.set_cons_zero, List.set_cons_succ, i64_w, i32_w]
        rfl
      refine pure_ (i := 2) (N := some 44) (v := ?_) (a' := ?_) #[true, true, true, false, false, false, false, false, false, false, false, false, false, false, false, false, false, false, false, false] rfl rfl (by kernel_rfl) (fun _ _ _ h => h) (Or.inl ⟨by rfl, ?_⟩) ?_ ?_
      rotate_left
      · intro w'
        go_simp
        with_reducible rfl
      rotate_left
      · simp only [Act.put, List.setIfInBounds_toArray, List.set_cons_zero, List.set_cons_succ, i64_w, i32_w]
        rfl
      refine pure_ (i := 3) (N := some 45) (v := ?_) (a' := ?_) #[true, true, true, true, false, false, false, false, false, false, false, false, false, false, false, false, false, false, false, false] rfl rfl (by kernel_rfl) (fun _ _ _ h => h) (Or.inl ⟨by rfl, ?_⟩) ?_ ?_
      rotate_left
      · intro w'
        go_simp
        with_reducible rfl
      rotate_left
      · simp only [Act.put, List.setIfInBounds_toArray, List.set_cons_zero, List.set_cons_succ, i64_w, i32_w]
        rfl
      refine pure_ (i := 5) (N := some 47) (v := ?_) (a' := ?_) #[true, true, true, true, false, true, false, false, false, false, false, false, false, false, false, false, false, false, false, false] rfl rfl (by kernel_rfl) (fun _ _ _ h => h) (Or.inl ⟨by rfl, ?_⟩) ?_ ?_
      rotate_left
      · intro w'
        go_simp
        with_reducible rfl
      rotate_left
      · simp only [Act.put, List.setIfInBounds_toArray, List.set_cons_zero, List.set_cons_succ, i64_w, i32_w]
        rfl
      refine pure_ (i := 7) (N := some 49) (v := ?_) (a' := ?_) #[true, true, true, true, false, true, false, true, false, false, false, false, false, false, false, false, false, false, false, false] rfl rfl (by kernel_rfl) (fun _ _ _ h => h) (Or.inl ⟨by rfl, ?_⟩) ?_ ?_
      rotate_left
      · intro w'
        go_simp
        with_reducible rfl
      rotate_left
      · simp only [Act.put, List.setIfInBounds_toArray, List.set_cons_zero, List.set_cons_succ, i64_w, i32_w]
        rfl
      refine pure_ (i := 11) (N := some 53) (v := ?_) (a' := ?_) #[true, true, true, true, false, true, false, true, false, false, false, true, false, false, false, false, false, false, false, false] rfl rfl (by kernel_rfl) (fun _ _ _ h => h) (Or.inl ⟨by rfl, ?_⟩) ?_ ?_
      rotate_left
      · intro w'
        go_simp
        with_reducible rfl
      rotate_left
      · simp only [Act.put, List.setIfInBounds_toArray, List.set_cons_zero, List.set_cons_succ, i64_w, i32_w]
        rfl
      refine pure_ (i := 12) (N := some 54) (v := ?_) (a' := ?_) #[true, true, true, true, false, true, false, true, false, false, false, true, true, false, false, false, false, false, false, false] rfl rfl (by kernel_rfl) (fun _ _ _ h => h) (Or.inl ⟨by rfl, ?_⟩) ?_ ?_
      rotate_left
      · intro w'
        go_simp
        with_reducible rfl
      rotate_left
      · simp only [Act.put, List.setIfInBounds_toArray, List.set_cons_zero, List.set_cons_succ, i64_w, i32_w]
        rfl
      refine pure_ (i := 13) (N := some 55) (v := ?_) (a' := ?_) #[true, true, true, true, false, true, false, true, false, false, false, true, true, true, false, false, false, false, false, false] rfl rfl (by kernel_rfl) (fun _ _ _ h => h) (Or.inl ⟨by rfl, ?_⟩) ?_ ?_
      rotate_left
      · intro w'
        go_simp
        with_reducible rfl
      rotate_left
      · simp only [Act.put, List.setIfInBounds_toArray, List.set_cons_zero, List.set_cons_succ, i64_w, i32_w]
        rfl
      refine take_ (i := 4) (N := some 46) (v := ?_) (a' := ?_) #[true, true, true, true, true, true, false, true, false, false, false, true, true, true, false, false, false, false, false, false] rfl rfl (by kernel_rfl) (fun _ _ _ h => h) (Or.inl ⟨by rfl, ?_⟩) hHeld ?_ ?_
      rotate_left
      · rintro w' ⟨s0, s1, s2⟩
        go_simp
        with_reducible rfl
      rotate_left
      · simp only [Act.put, List.setIfInBounds_toArray, List.set_cons_zero, List.set_cons_succ, i64_w, i32_w]
        rfl
      refine take_ (i := 6) (N := some 48) (v := ?_) (a' := ?_) #[true, true, true, true, true, true, true, true, false, false, false, true, true, true, false, false, false, false, false, false] rfl rfl (by kernel_rfl) (fun _ _ _ h => h) (Or.inl ⟨by rfl, ?_⟩) hHeld ?_ ?_
      rotate_left
      · rintro w' ⟨s0, s1, s2⟩
        go_simp
        with_reducible rfl
      rotate_left
      · simp only [Act.put, List.setIfInBounds_toArray, List.set_cons_zero, List.set_cons_succ, i64_w, i32_w]
        rfl
      refine pure_ (i := 8) (N := some 50) (v := ?_) (a' := ?_) #[true, true, true, true, true, true, true, true, true, false, false, true, true, true, false, false, false, false, false, false] rfl rfl (by kernel_rfl) (fun _ _ _ h => h) (Or.inl ⟨by rfl, ?_⟩) ?_ ?_
      rotate_left
      · intro w'
        go_simp
        with_reducible rfl
      rotate_left
      · simp only [Act.put, List.setIfInBounds_toArray, List.set_cons_zero, List.set_cons_succ, i64_w, i32_w]
        rfl
      refine pure_ (i := 9) (N := some 51) (v := ?_) (a' := ?_) #[true, true, true, true, true, true, true, true, true, true, false, true, true, true, false, false, false, false, false, false] rfl rfl (by kernel_rfl) (fun _ _ _ h => h) (Or.inl ⟨by rfl, ?_⟩) ?_ ?_
      rotate_left
      · intro w'
        go_simp
        with_reducible rfl
      rotate_left
      · simp only [Act.put, List.setIfInBounds_toArray, List.set_cons_zero, List.set_cons_succ, i64_w, i32_w]
        rfl
      refine take_ (i := 10) (N := some 52) (v := ?_) (a' := ?_) #[true, true, true, true, true, true, true, true, true, true, true, true, true, true, false, false, false, false, false, false] rfl rfl (by kernel_rfl) (fun _ _ _ h => h) (Or.inl ⟨by rfl, ?_⟩) hHeld ?_ ?_
      rotate_left
      · rintro w' ⟨s0, s1, s2⟩
        go_simp
        with_reducible rfl
      rotate_left
      · simp only [Act.put, List.setIfInBounds_toArray, List.set_cons_zero, List.set_cons_succ, i64_w, i32_w]
        rfl
      refine pure_ (i := 14) (N := some 56) (v := ?_) (a' := ?_) #[true, true, true, true, true, true, true, true, true, true, true, true, true, true, true, false, false, false, false, false] rfl rfl (by kernel_rfl) (fun _ _ _ h => h) (Or.inl ⟨by rfl, ?_⟩) ?_ ?_
      rotate_left
      · intro w'
        go_simp
        with_reducible rfl
      rotate_left
      · simp only [Act.put, List.setIfInBounds_toArray, List.set_cons_zero, List.set_cons_succ, i64_w, i32_w]
        rfl
      refine one_ (i := 15) (N := some 57) #[true, true, true, true, true, true, true, true, true, true, true, true, true, true, true, true, false, false, false, false] rfl rfl (by kernel_rfl) (by decide) (fun K hK => ?_)
      refine value_ (w1 := ?_) (v := ?_) (by rfl) rfl ?_ ?_
      rotate_left 2
      · go_simp
        constructor
        · rfl
        · rfl
      refine hK.out _ _ ⟨pw_cell_below ((Below.refl w5.drew.heap.size w5.drew).alloc (Nat.le_refl _) _) hHeld.1, pw_cell_below ((Below.refl w5.drew.heap.size w5.drew).alloc (Nat.le_refl _) _) hHeld.2.1, pw_cell_below ((Below.refl w5.drew.heap.size w5.drew).alloc (Nat.le_refl _) _) hHeld.2.2⟩ (fun hHeld => ?_)
      clear hK K
      refine norm_ (a' := ?_) ?_ ?_
      rotate_left
      · show Act.put _ (some 57) _ = _
        simp only [Act.put, List.setIfInBounds_toArray, List.set_cons_zero, List.set_cons_succ, i64_w, i32_w]
        rfl
      refine one_ (i := 16) (N := some 58) #[true, true, true, true, true, true, true, true, true, true, true, true, true, true, true, true, true, false, false, false] rfl rfl (by kernel_rfl) (by decide) (fun K hK => ?_)
      refine step_append_any rfl wz.heap.size (.tmp 46) (.tmp 57) 22 56 _ 2 32 (by rfl) Tryd.underlying22 infoN rfl (by decide) (by decide) (.slice nA k nc) k (ndsC (ns.take k) (lVs (ns.take k) gs)) (some ⟨w5.heap.size, 0, none⟩) 1 1 [.int .i64 n.1, lV n (g, c3)] (by rfl) (by rfl) rfl (by simp [Value.oneCell', lV]) (.inr ⟨_, rfl, World.news_of_block (cs := #[.int .i64 n.1, lV n (g, c3)]) (t := 56) (fr := (0, 0)) (heap_alloc_new w5.drew _)⟩) (HN5.out.drew.alloc _) (by have : wz.heap.size ≤ w5.drew.heap.size := hs5; simp; omega) (by omega) (k + 1) rfl ?_
      intro A6 c6 w6 hle6 hown6 hg6
      have hbx := (node_step HM5.out hg6 (by rw [hkl]) hown6 HTN.out).1
      have hx46 : w6.cell? ⟨gh, 46, none⟩ = some (.slice nA k nc) := (by rw [blk_cell hbx]; rfl)
      have hf46 : w6.frozen? ⟨gh, 46, none⟩ = false := blk_frozen hbx 46
      clear hbx
      refine hK.out _ _ ⟨hg6.cell hHeld.1 hne1, hg6.cell hHeld.2.1 hne2, hx46⟩ (fun hHeld => ?_)
      clear hK K
      refine norm_ (a' := ?_) ?_ ?_
      rotate_left
      · show Act.put _ (some 58) _ = _
        simp only [Act.put, List.setIfInBounds_toArray, List.set_cons_zero, List.set_cons_succ, i64_w, i32_w]
        rfl
      refine pure_ (i := 17) (N := some 59) (v := ?_) (a' := ?_) #[true, true, true, true, true, true, true, true, true, true, true, true, true, true, true, true, true, true, false, false] rfl rfl (by kernel_rfl) (fun _ _ _ h => h) (Or.inl ⟨by rfl, ?_⟩) ?_ ?_
      rotate_left
      · intro w'
        go_simp
        with_reducible rfl
      rotate_left
      · simp only [Act.put, List.setIfInBounds_toArray, List.set_cons_zero, List.set_cons_succ, i64_w, i32_w]
        rfl
      refine pure_ (i := 18) (N := some 60) (v := ?_) (a' := ?_) #[true, true, true, true, true, true, true, true, true, true, true, true, true, true, true, true, true, true, true, false] rfl rfl (by kernel_rfl) (fun _ _ _ h => h) (Or.inl ⟨by rfl, ?_⟩) ?_ ?_
      rotate_left
      · intro w'
        go_simp
        with_reducible rfl
      rotate_left
      · simp only [Act.put, List.setIfInBounds_toArray, List.set_cons_zero, List.set_cons_succ, i64_w, i32_w]
        rfl
      refine last_ (i := 19) (N := none) #[true, true, true, true, true, true, true, true, true, true, true, true, true, true, true, true, true, true, true, true] rfl rfl (by kernel_rfl) (by decide) (fun K hK => ?_)
      refine skip_ (w1 := ?_) (by rfl) rfl ?_ ?_
      rotate_left
      · go_simp
        rfl
      refine hK.out _ _ ?_
      clear hK K
      refine done_ (by kernel_rfl) ?_
      all_goals
        clear h46a h46b hx46 hf46 hgx1 hgx2
        have hstep := node_step HM5.out hg6 (by rw [hkl]) hown6 HTN.out
        have hr6 : Below w1.heap.size w1 w6 := ((below_drew HR5.out).alloc (show w1.heap.size ≤ w5.drew.heap.size from HR5.out.size) _).grown hg6 (by have h1 : w1.heap.size ≤ w5.heap.size := HR5.out.size; simp; omega) (fun q hq => Nat.le_trans HW1.out (own_base HN5.out q hq))
        have HR7 : Aside0 (Below w1.heap.size w1 (w6.setCell ⟨gh, 46, none⟩ (.slice A6 (k + 1) c6))) := ⟨hr6.setCell HGH.out _⟩
        have HH7 : Aside0 (HInv (w6.setCell ⟨gh, 46, none⟩ (.slice A6 (k + 1) c6)) wz.heap.size gh c (.slice (some ⟨b, o, none⟩) ns.length cap) tv (.slice A6 (k + 1) c6) (.slice A4 (k + 1) c4) (ns.take (k + 1)) (gs ++ [(g, c3)]) [] 0) := ⟨by
          rw [take_snoc ns k n HNI.out]; exact hstep.2.1⟩
        have HT7 := Aside0.mk hstep.2.2
        have HS7 : Aside0 (wz.heap.size ≤ (w6.setCell ⟨gh, 46, none⟩ (.slice A6 (k + 1) c6)).heap.size) := ⟨by
          have h1 : (w5.drew.alloc (.cells #[.int .i64 n.1, lV n (g, c3)] 56)).heap.size ≤ w6.heap.size := hg6.size
          have h2 : wz.heap.size ≤ w5.heap.size := HS5.out
          simp at h1 ⊢; omega⟩
        clear hown6 hg6 hstep hr6
        go_wp2_with fail
        go_roundw
        case rel => exact ⟨k + 1, _, _, _, by omega, by go_num, HR7, HH7, HT7, HS7⟩
        case measure => simp [intOf]; omega
    · obtain rfl : k = ns.length := by omega
      rw [List.take_length] at HH
      obtain ⟨nA, nc, rfl, hnc⟩ := own_form HH.out.nodes
      rw [Nat.add_zero] at HH hnc
      have h46 : wo.cell? ⟨gh, 46, none⟩ = some (.slice nA ns.length nc) := by rw [blk_cell HH.out.box]; rfl
      have hnod := HH.out.nodes
      rw [List.append_nil, Nat.add_zero] at hnod
      have HN6 := Aside0.mk hnod
      have HTN : Aside0 (tv.ownBlock = none ∨ tv.ownBlock ≠ (Value.slice nA ns.length nc).ownBlock) := ⟨by
        cases e : tv.ownBlock with
        | none => exact .inl rfl
        | some q => exact .inr (own_far hnod (HTB.out q e))⟩
      have hs6 := HSZ.out
      clear hnod hlt hk
      go_wp2_with ((with_reducible refine gate_call (args := #[.tmp 70, .tmp 73]) rfl ?_); refine Hid.out ?_)
      refine Lib.hid ?_
      refine list_append_any (P := Tryd.prog) rfl wz.heap.size (.tmp 70) (.tmp 73) 22 56 _ 2 32 rfl Tryd.underlying22 infoN rfl (by decide) (by decide) (.slice nA ns.length nc) ns.length (ndsC ns (lVs ns gs)) (some ⟨wo.heap.size, 0, none⟩) 2 2 ends ?hs ?hx rfl (by simp [ends, Value.oneCell']) (.inr ⟨_, rfl, fun j u hj => by have := news wo ends 56 j u hj; rwa [show (⟨wo.heap.size, 0, none⟩ : Addr).add j = ⟨wo.heap.size, j, none⟩ by unfold Addr.add; split <;> simp_all]⟩) (HN6.out.alloc _) (by simp; omega) (by omega) (ns.length + 2) rfl ?_
      case hs => rfl
      case hx => rfl
      intro A6 c6 w6 hle6 hown6 hg6
      obtain ⟨gn, rfl⟩ : ∃ g, A6 = some ⟨g, 0, none⟩ := by
        rcases hown6.2 with ⟨_, h0⟩ | ⟨g, cap', cs, e, _⟩
        · omega
        · injection e with e; exact ⟨g, e⟩
      have hstep := last_step (v := .slice (some ⟨gn, 0, none⟩) ns.length c6) HH.out HT.out hg6 rfl hown6 HTN.out
      have hr6 : Below w1.heap.size w1 w6 := (HR.out.alloc HR.out.size _).grown hg6 (by have := HR.out.size; simp; omega) (fun q hq => Nat.le_trans HW1.out (own_base HN6.out q hq))
      have HR7 : Aside0 (Below w1.heap.size w1 ((w6.setCell ⟨gh, 46, none⟩ (.slice (some ⟨gn, 0, none⟩) (ns.length + 2) c6)).setCell ⟨gh, 22, none⟩ (.slice (some ⟨gn, 0, none⟩) ns.length c6))) := ⟨(hr6.setCell HGH.out _).setCell HGH.out _⟩
      have HST := Aside0.mk hstep
      have hx46 : w6.cell? ⟨gh, 46, none⟩ = some (.slice nA ns.length nc) := by rw [blk_cell hstep.1]; rfl
      have hf46 : w6.frozen? ⟨gh, 46, none⟩ = false := blk_frozen hstep.1 46
      have hy46 : (w6.setCell ⟨gh, 46, none⟩ (.slice (some ⟨gn, 0, none⟩) (ns.length + 2) c6)).cell? ⟨gh, 46, none⟩ = some (.slice (some ⟨gn, 0, none⟩) (ns.length + 2) c6) := by rw [blk_cell hstep.2.1]; rfl
      have hy22 : (w6.setCell ⟨gh, 46, none⟩ (.slice (some ⟨gn, 0, none⟩) (ns.length + 2) c6)).cell? ⟨gh, 22, none⟩ = some (.slice A ns.length cap) := by rw [blk_cell hstep.2.1]; rfl
      have hg22 : (w6.setCell ⟨gh, 46, none⟩ (.slice (some ⟨gn, 0, none⟩) (ns.length + 2) c6)).frozen? ⟨gh, 22, none⟩ = false := blk_frozen hstep.2.1 22
      clear hown6 hg6 hstep hr6 h46
      have hcl : (ns.length : Int) ≤ (c6 : Int) := by omega
      go_wp2_with fail
      go_ret
      have htv := HTV.out
      have hh := HST.out.2.2.1
      have ht := HST.out.2.2.2
      rw [htv] at hh ht
      exact ⟨HB.out.trans (HR7.out.mono HB.out.size), gh, gn, c6, A2, cap2, pv, gs, vs2, _, _, rfl, hh, ht, HLE.out, hle6⟩
end Go.Proofs.YtljjpdjknnhceaaDoor.HandW

/- == of two rows of settings that are the same. -/
set_option linter.unusedVariables false
set_option linter.unusedSimpArgs false
namespace Go.Proofs.YtljjpdjknnhceaaDoor.EqV
open Go.RowKit Go.Proofs.YtljjpdjknnhceaaDoorW.PrintWords Go.Proofs.YtljjpdjknnhceaaDoorW.PrintLast Go.Proofs.YtljjpdjknnhceaaDoorW.PrintMore
open Go.Proofs.YtljjpdjknnhceaaDoor.Base Go.Proofs.YtljjpdjknnhceaaDoor.RingPure Go.Proofs.YtljjpdjknnhceaaDoor.ChkPure Go.Proofs.YtljjpdjknnhceaaDoor.Clus Go.Proofs.YtljjpdjknnhceaaDoor.Ref6
theorem eqInt (d : Nat) (w : World) (x : Int) : (Op.equalIn (d + 1) 3 (.int .i64 x) (.int .i64 x)).run Tryd.prog w = .ok true w := by
  simp [Op.equalIn, run_underlying Tryd.underlying3]
theorem part_at (w : World) (c : Cl) (i : Nat) (h : i < 21) : (part 3 (valL c).toArray i).run Tryd.prog w = .ok (.int .i64 ((vals c).getD i 0)) w := by
  have hv := valL_at c i h
  obtain ⟨i0, hi, hzz⟩ := Option.map_eq_some_iff.1 infoI
  simp only [Prod.mk.injEq] at hzz
  obtain ⟨hz0, hz1, hz2⟩ := hzz
  simp [part, run_underlying Tryd.underlying3, hv]
set_option maxHeartbeats 2000000 in
theorem eqV (w : World) (c : Cl) : (Op.equalIn 10000 102 (.agg (valL c).toArray) (.agg (valL c).toArray)).run Tryd.prog w = .ok true w := by
  have hp := fun i h => part_at w c i h
  obtain ⟨i0, hi, hzz⟩ := Option.map_eq_some_iff.1 infoI
  simp only [Prod.mk.injEq] at hzz
  obtain ⟨hz0, hz1, hz2⟩ := hzz
  rw [Op.equalIn]
  simp [run_underlying Tryd.underlying102, sizeOf, typeInfo, hi, hz1]
  have key : ∀ l : List Nat, (∀ i ∈ l, i < 21) → Sem.run Tryd.prog
          (forIn l ((none, ()) : Option Bool × Unit) fun i __s => do
            let __do_lift ← part 3 (valL c).toArray i
            let __do_lift_1 ← part 3 (valL c).toArray i
            let __do_lift ← Op.equalIn 9999 3 __do_lift __do_lift_1
            if __do_lift = false then pure (ForInStep.done (some false, ())) else pure (ForInStep.yield (none, ()))) w = .ok (none, ()) w := by
    intro l
    induction l with
    | nil => intro _; simp
    | cons i l ih =>
      intro h
      have h1 := hp i (h i (List.mem_cons_self ..))
      obtain ⟨x, hx⟩ : ∃ x, x = (vals c).getD i 0 := ⟨_, rfl⟩
      rw [← hx] at h1
      have h2 : (Op.equalIn 9999 3 (.int .i64 x) (.int .i64 x)).run Tryd.prog w = .ok true w := eqInt 9998 w x
      have h3 := ih (fun j hj => h j (List.mem_cons_of_mem _ hj))
      rw [List.forIn_cons]
      simp [h1, h2, h3]
  rw [key _ (fun i hi => by simp [List.mem_range'] at hi; omega)]
  simp
end Go.Proofs.YtljjpdjknnhceaaDoor.EqV

/- A region that draws its order, its guards all let by, walked without its order: each operation gives a value that stands in a relation to the world. -/
set_option linter.unusedVariables false
set_option linter.unusedSimpArgs false
namespace Go.Proofs.YtljjpdjknnhceaaDoor.RegG
open Go.RowKit Go.Proofs.YtljjpdjknnhceaaDoorW.PrintWords Go.Proofs.YtljjpdjknnhceaaDoorW.PrintLast
def srcFrom : List Oper → Nat → Tmp → Option Nat
  | [], _, _ => none
  | o :: l, k, t => if o.dst = some t then some k else srcFrom l (k + 1) t
theorem srcFrom_spec : ∀ (l : List Oper) (k : Nat) (t : Tmp) (j : Nat), srcFrom l k t = some j → ∃ i o, j = k + i ∧ l[i]? = some o ∧ o.dst = some t
  | [], _, _, _, h => by cases h
  | o :: l, k, t, j, h => by
    unfold srcFrom at h
    split at h
    · cases h; exact ⟨0, o, rfl, rfl, by assumption⟩
    · obtain ⟨i, o', hj, hi, hd⟩ := srcFrom_spec l (k + 1) t j h
      exact ⟨i + 1, o', by omega, hi, hd⟩
def predB (o : Oper) (j : Nat) : Bool := o.after.toList.any fun e => Region.binds .any e && (e.on == j)
def okOne (L : List Oper) (N : Nat) (o : Oper) (i : Nat) : Bool :=
  (match o.guard with | none => true | some (j, _) => predB o j && (match L[j]? with | some oj => (match oj.dst with | some d => decide (d < N) && (srcFrom L 0 d == some j) | none => false) | none => false)) && (match o.op with | .select .. => false | _ => true) && (match o.dst with | some d => decide (d < N) && (srcFrom L 0 d == some i) | none => true) &&
  o.op.operands.all (fun x => match x with
    | .tmp t => decide (t < N) && (match srcFrom L 0 t with | some j => predB o j || (match L[j]? with | some oj => predB oj i | none => false) | none => true)
    | _ => true) && o.after.all fun e => !Region.binds .any e || decide (e.on < i)
def okFrom (L : List Oper) (N : Nat) : List Oper → Nat → Bool
  | [], _ => true
  | o :: r, i => okOne L N o i && okFrom L N r (i + 1)
theorem okFrom_spec (L : List Oper) (N : Nat) : ∀ (r : List Oper) (k j : Nat) (o : Oper), okFrom L N r k = true → r[j]? = some o → okOne L N o (k + j) = true
  | [], _, _, _, _, h => by simp at h
  | o :: r, k, 0, o', h, hj => by
    simp only [okFrom, Bool.and_eq_true] at h
    simp at hj
    subst hj
    exact h.1
  | o :: r, k, j + 1, o', h, hj => by
    simp only [okFrom, Bool.and_eq_true] at h
    have := okFrom_spec L N r (k + 1) j o' h.2 (by simpa using hj)
    rw [show k + (j + 1) = k + 1 + j by omega]
    exact this
/-- an operation's operands, out of what those ahead of it gave -/
def envOf (L : List Oper) (a0 : Act) (vs : Nat → Value) (o : Oper) : Operand → Value
  | .tmp t => match srcFrom L 0 t with
    | some j => if predB o j = true then vs j else a0.tmps.getD t undef
    | none => a0.tmps.getD t undef
  | x => a0.eval x
def slotV (L : List Oper) (a0 : Act) (listed : Array Bool) (vs : Nat → Value) (t : Tmp) : Value :=
  match srcFrom L 0 t with
  | some j => if listed.getD j false = true then vs j else a0.tmps.getD t undef
  | none => a0.tmps.getD t undef
def Framed (L : List Oper) (a0 : Act) (listed : Array Bool) (vs : Nat → Value) (a : Act) : Prop :=
  a.defers = a0.defers ∧ a.tmps.size = a0.tmps.size ∧ ∀ t, t < a0.tmps.size → a.tmps[t]? = some (slotV L a0 listed vs t)
def Closed (L : List Oper) (listed : Array Bool) : Prop := ∀ i o j, L[i]? = some o → listed.getD i false = true → predB o j = true → listed.getD j false = true
def upd (vs : Nat → Value) (i : Nat) (v : Value) : Nat → Value := fun j => if j = i then v else vs j
theorem getD_set (listed : Array Bool) (i j : Nat) (hi : i < listed.size) : (listed.setIfInBounds i true).getD j false = if j = i then true else listed.getD j false := by
  simp only [Array.getD_eq_getD_getElem?, Array.getElem?_setIfInBounds]
  by_cases h : j = i
  · subst h; simp [hi]
  · rw [if_neg (fun e => h e.symm), if_neg h]
theorem framed_put {L : List Oper} {a0 a : Act} {listed : Array Bool} {vs : Nat → Value} {i : Nat} {o : Oper} (v : Value) (hok : okOne L a0.tmps.size o i = true) (hi : L[i]? = some o) (hil : i < listed.size) (hun : listed.getD i false = false)
    (h : Framed L a0 listed vs a) : Framed L a0 (listed.setIfInBounds i true) (upd vs i v) (a.put o.dst v) := by
  obtain ⟨hd, hs, hv⟩ := h
  unfold okOne at hok
  simp only [Bool.and_eq_true] at hok
  obtain ⟨⟨⟨⟨_, _⟩, hdst⟩, _⟩, _⟩ := hok
  refine ⟨?_, ?_, ?_⟩
  · cases o.dst <;> exact hd
  · cases o.dst with
    | none => exact hs
    | some d => simp only [Act.put, Array.size_setIfInBounds]; exact hs
  · intro t ht
    have hsl : ∀ (hne : srcFrom L 0 t ≠ some i), slotV L a0 (listed.setIfInBounds i true) (upd vs i v) t = slotV L a0 listed vs t := by
      intro hne
      unfold slotV
      cases hsrc : srcFrom L 0 t with
      | none => rfl
      | some j =>
        have hji : j ≠ i := fun e => hne (by rw [hsrc, e])
        simp only
        rw [getD_set _ _ _ hil, if_neg hji]
        unfold upd
        rw [if_neg hji]
    cases hod : o.dst with
    | none =>
      have hne : srcFrom L 0 t ≠ some i := by
        intro he
        obtain ⟨k, o', hk, hk2, hk3⟩ := srcFrom_spec _ _ _ _ he
        rw [Nat.zero_add] at hk
        subst hk
        rw [hi] at hk2
        cases hk2
        rw [hod] at hk3
        cases hk3
      rw [hsl hne]
      exact hv t ht
    | some d =>
      rw [hod] at hdst
      simp only [Bool.and_eq_true, decide_eq_true_eq, beq_iff_eq] at hdst
      simp only [Act.put, Array.getElem?_setIfInBounds]
      by_cases hdt : d = t
      · subst hdt
        rw [if_pos rfl, if_pos (by rw [hs]; exact ht)]
        unfold slotV
        rw [hdst.2]
        simp only
        rw [getD_set _ _ _ hil, if_pos rfl, if_pos rfl]
        unfold upd
        rw [if_pos rfl]
      · rw [if_neg hdt]
        have hne : srcFrom L 0 t ≠ some i := by
          intro he
          obtain ⟨k, o', hk, hk2, hk3⟩ := srcFrom_spec _ _ _ _ he
          rw [Nat.zero_add] at hk
          subst hk
          rw [hi] at hk2
          cases hk2
          rw [hod] at hk3
          cases hk3
          exact hdt rfl
        rw [hsl hne]
        exact hv t ht
/-- what the region leaves, in the text's order -/
def fillFrom : List Oper → Nat → Act → (Nat → Value) → Act
  | [], _, a, _ => a
  | o :: l, k, a, vs => fillFrom l (k + 1) (a.put o.dst (vs k)) vs
theorem upd_self (vs : Nat → Value) (i : Nat) : upd vs i (vs i) = vs := by
  funext j; unfold upd; split
  · subst_vars; rfl
  · rfl
def firstK (n k : Nat) : Array Bool := ((List.range n).map fun j => decide (j < k)).toArray
theorem firstK_size (n k : Nat) : (firstK n k).size = n := by simp [firstK]
theorem firstK_getD (n k j : Nat) : (firstK n k).getD j false = (decide (j < n) && decide (j < k)) := by
  unfold firstK
  simp only [Array.getD_eq_getD_getElem?, List.getElem?_toArray, List.getElem?_map]
  by_cases h : j < n
  · rw [List.getElem?_range h]; simp [h]
  · rw [List.getElem?_eq_none (by simpa using h)]; simp [h]
theorem framed_congr {L : List Oper} {a0 a : Act} {l1 l2 : Array Bool} {vs : Nat → Value} (h : Framed L a0 l1 vs a) (e : ∀ j, j < L.length → l1.getD j false = l2.getD j false) : Framed L a0 l2 vs a := by
  refine ⟨h.1, h.2.1, fun t ht => ?_⟩
  rw [h.2.2 t ht]
  unfold slotV
  cases hs : srcFrom L 0 t with
  | none => rfl
  | some j =>
    obtain ⟨k, o', hk, hk2, hk3⟩ := srcFrom_spec _ _ _ _ hs
    have : j < L.length := by rw [hk, Nat.zero_add]; exact (List.getElem?_eq_some_iff.1 hk2).1
    simp only
    rw [e j this]
theorem framed_fill {L : List Oper} {a0 : Act} (hok : okFrom L a0.tmps.size L 0 = true) (vs : Nat → Value) : ∀ (r pre : List Oper) (a : Act), L = pre ++ r → Framed L a0 (firstK L.length pre.length) vs a → Framed L a0 (firstK L.length L.length) vs (fillFrom r pre.length a vs)
  | [], pre, a, hL, h => by
    have : L.length = pre.length := by rw [hL]; simp
    rw [← this] at h
    exact h
  | o :: r, pre, a, hL, h => by
    have hi : L[pre.length]? = some o := by rw [hL]; simp
    have ho := okFrom_spec L _ L 0 pre.length o hok hi
    rw [Nat.zero_add] at ho
    have hlt : pre.length < L.length := (List.getElem?_eq_some_iff.1 hi).1
    have h2 := framed_put (vs pre.length) ho hi (by rw [firstK_size]; exact hlt) (by rw [firstK_getD]; simp) h
    rw [upd_self] at h2
    have h3 := framed_congr (l2 := firstK L.length (pre ++ [o]).length) h2 (fun j hj => by
      rw [getD_set _ _ _ (by rw [firstK_size]; exact hlt), firstK_getD, firstK_getD]
      by_cases e : j = pre.length
      · subst e; simp [hlt]
      · rw [if_neg e]
        congr 1
        rw [Bool.eq_iff_iff]
        simp only [decide_eq_true_iff, List.length_append, List.length_singleton]
        omega)
    have h4 := framed_fill hok vs r (pre ++ [o]) _ (by rw [hL]; simp) h3
    have e : (pre ++ [o]).length = pre.length + 1 := by simp
    rw [e] at h4
    exact h4
theorem framed_unique {L : List Oper} {a0 a b : Act} {listed : Array Bool} {vs : Nat → Value} (ha : Framed L a0 listed vs a) (hb : Framed L a0 listed vs b) : a = b := by
  obtain ⟨a1, a2, a3⟩ := ha
  obtain ⟨b1, b2, b3⟩ := hb
  cases a with | mk at_ ad =>
  cases b with | mk bt_ bd =>
  simp only at a1 a2 a3 b1 b2 b3
  have e : at_ = bt_ := by
    apply Array.ext_getElem?
    intro t
    by_cases ht : t < a0.tmps.size
    · rw [a3 t ht, b3 t ht]
    · rw [Array.getElem?_eq_none (by omega), Array.getElem?_eq_none (by omega)]
  subst e
  rw [a1, b1]
def cnt (f : Nat → Bool) : Nat → Nat
  | 0 => 0
  | n + 1 => cnt f n + (if f n = true then 1 else 0)
theorem cnt_congr {f g : Nat → Bool} : ∀ n, (∀ j, j < n → f j = g j) → cnt f n = cnt g n
  | 0, _ => rfl
  | n + 1, h => by
    simp only [cnt]
    rw [cnt_congr n (fun j hj => h j (by omega)), h n (by omega)]
theorem cnt_upd {f g : Nat → Bool} {i : Nat} (hf : f i = true) (hg : g i = false) (h : ∀ j, j ≠ i → f j = g j) : ∀ n, i < n → cnt g n + 1 = cnt f n
  | 0, hi => by omega
  | n + 1, hi => by
    simp only [cnt]
    by_cases e : i = n
    · subst e
      rw [cnt_congr i (fun j hj => h j (by omega)), hf, hg]
      simp
    · have := cnt_upd hf hg h n (by omega)
      rw [h n (fun e2 => e e2.symm)]
      omega
theorem cnt_zero {f : Nat → Bool} : ∀ n, cnt f n = 0 → ∀ j, j < n → f j = false
  | 0, _, j, hj => by omega
  | n + 1, h, j, hj => by
    simp only [cnt] at h
    by_cases e : j = n
    · subst e
      cases hf : f j
      · rfl
      · rw [hf] at h; simp at h
    · exact cnt_zero n (by omega) j (by omega)
/-- what an operation does: it yields a value, or calls -/
def OpRel (P : Program) (S : World → World → Prop) (ρ : Operand → Value) (o : Oper) (w : World) (K : Value → World → Prop) : Prop :=
  (∃ v w', (execOp ρ o).run P w = .ok (.value v) w' ∧ S w w' ∧ K v w') ∨
  (∃ w', (execOp ρ o).run P w = .ok .skip w' ∧ S w w' ∧ K undef w') ∨
  (∃ f args, (execOp ρ o).run P w = .ok (.enter f args) w ∧ Calls P f args w fun e w' => ∃ v, e = .returned v ∧ S w w' ∧ K v w')
section
variable {P : Program} {Q : Exit → Act → World → Prop}
theorem wpAny_rel (L : List Oper) (a0 : Act) (hok : okFrom L a0.tmps.size L 0 = true) (Inv : World → Prop) (S : Nat → World → World → Prop) (R : Nat → (Nat → Value) → World → Prop)
    (hst : ∀ i j vs w w', i ≠ j → Inv w → R j vs w → S i w w' → R j vs w')
    (hcg : ∀ j o vs vs' w, L[j]? = some o → vs' j = vs j → (∀ k, predB o k = true → vs' k = vs k) → R j vs w → R j vs' w)
    (hgd : ∀ (i : Nat) (o : Oper), L[i]? = some o → ∀ (j : Nat) (b : Bool), o.guard = some (j, b) → ∀ (vs : Nat → Value) (w : World), R j vs w → vs j = .bool b)
    (step : ∀ i o, L[i]? = some o → ∀ (vs : Nat → Value) (w : World), Inv w → (∀ j, predB o j = true → R j vs w) → OpRel P (S i) (envOf L a0 vs o) o w (fun v w' => Inv w' ∧ R i (upd vs i v) w'))
    (done : ∀ vs w, Inv w → (∀ j, j < L.length → R j vs w) → Q .normal (fillFrom L 0 a0 vs) w) :
    ∀ (fuel : Nat) (listed : Array Bool) (vs : Nat → Value) (a : Act) (w : World), listed.size = L.length → Closed L listed → Framed L a0 listed vs a → Inv w → (∀ j, listed.getD j false = true → R j vs w) →
      cnt (fun j => !listed.getD j false) L.length ≤ fuel → wpAny P .any L.toArray Q fuel listed a w := by
  have hall : ∀ (listed : Array Bool) (vs : Nat → Value) (a : Act) (w : World), listed.size = L.length → Framed L a0 listed vs a → Inv w → (∀ j, listed.getD j false = true → R j vs w) → (∀ j, j < L.length → listed.getD j false = true) → Q .normal a w := by
    intro listed vs a w hsz hF hI hR hl
    have h1 := framed_congr (l2 := firstK L.length L.length) hF (fun j hj => by rw [hl j hj, firstK_getD]; simp [hj])
    have h0 : Framed L a0 (firstK L.length ([] : List Oper).length) vs a0 := by
      refine ⟨rfl, rfl, fun t ht => ?_⟩
      have e : slotV L a0 (firstK L.length ([] : List Oper).length) vs t = a0.tmps.getD t undef := by
        unfold slotV
        cases srcFrom L 0 t with
        | none => rfl
        | some j => simp only; rw [firstK_getD]; simp
      rw [e]
      simp [Array.getD_eq_getD_getElem?, Array.getElem?_eq_getElem ht]
    have h2 := framed_fill hok vs L [] a0 rfl h0
    rw [framed_unique h1 h2]
    exact done vs w hI (fun j hj => hR j (hl j hj))
  have hready : ∀ (listed : Array Bool) (i : Nat), listed.size = L.length → i ∈ Region.ready .any L.toArray listed → ∃ o, L[i]? = some o ∧ i < L.length ∧ listed.getD i false = false ∧ ∀ j, predB o j = true → listed.getD j false = true := by
    intro listed i hsz hi
    unfold Region.ready at hi
    rw [List.mem_filter] at hi
    obtain ⟨hi1, hi2⟩ := hi
    have hlt : i < L.length := by simpa using hi1
    obtain ⟨o, ho⟩ : ∃ o, L[i]? = some o := ⟨_, List.getElem?_eq_getElem hlt⟩
    simp only [List.getElem?_toArray, ho, Option.map_some, Option.getD_some, Bool.and_eq_true, Bool.not_eq_true'] at hi2
    refine ⟨o, ho, hlt, ?_, fun j hj => ?_⟩
    · have := hi2.1
      simp only [Array.getD_eq_getD_getElem?] at this ⊢
      rw [Array.getElem?_eq_getElem (by omega)] at this ⊢
      simpa using this
    · unfold predB at hj
      obtain ⟨e, he, hj⟩ := List.any_eq_true.1 hj
      simp only [Bool.and_eq_true, beq_iff_eq] at hj
      have h3 := Array.all_eq_true'.1 hi2.2 e (by simpa using he)
      rw [hj.1] at h3
      simp only [Bool.not_true, Bool.false_or] at h3
      rw [← hj.2]
      exact h3
  have hnone : ∀ (listed : Array Bool), listed.size = L.length → Region.ready .any L.toArray listed = [] → ∀ j, j < L.length → listed.getD j false = true := by
    intro listed hsz hr
    have hs : ∀ n j, j < n → j < L.length → listed.getD j false = true := by
      intro n
      induction n with
      | zero => intro j hj; omega
      | succ n ih =>
        intro j hj hjl
        by_cases e : j < n
        · exact ih j e hjl
        · obtain rfl : j = n := by omega
          cases hb : listed.getD j false
          · exfalso
            obtain ⟨o, ho⟩ : ∃ o, L[j]? = some o := ⟨_, List.getElem?_eq_getElem hjl⟩
            have ho1 := okFrom_spec L _ L 0 j o hok ho
            rw [Nat.zero_add] at ho1
            unfold okOne at ho1
            simp only [Bool.and_eq_true] at ho1
            have haf := ho1.2
            have hm : j ∈ Region.ready .any L.toArray listed := by
              unfold Region.ready
              rw [List.mem_filter]
              refine ⟨by simpa using hjl, ?_⟩
              simp only [List.getElem?_toArray, ho, Option.map_some, Option.getD_some, Bool.and_eq_true, Bool.not_eq_true']
              refine ⟨?_, ?_⟩
              · simp only [Array.getD_eq_getD_getElem?] at hb ⊢
                rw [Array.getElem?_eq_getElem (by omega)] at hb ⊢
                simpa using hb
              · rw [Array.all_eq_true]
                intro k hk
                have h3 := Array.all_eq_true.1 haf k hk
                simp only [Bool.or_eq_true, decide_eq_true_eq] at h3 ⊢
                rcases h3 with h3 | h3
                · exact .inl h3
                · exact .inr (ih _ h3 (by omega))
            rw [hr] at hm
            cases hm
          · rfl
    intro j hj
    exact hs (j + 1) j (by omega) hj
  intro fuel
  induction fuel with
  | zero =>
    intro listed vs a w hsz hC hF hI hR hc
    have hz := cnt_zero (f := fun j => !listed.getD j false) L.length (by omega)
    have hl : ∀ j, j < L.length → listed.getD j false = true := fun j hj => by simpa using hz j hj
    refine ⟨?_, hall listed vs a w hsz hF hI hR hl⟩
    cases hr : Region.ready .any L.toArray listed with
    | nil => rfl
    | cons i r =>
      obtain ⟨o, _, hi, hun, _⟩ := hready listed i hsz (by rw [hr]; simp)
      rw [hl i hi] at hun
      cases hun
  | succ fuel ih =>
    intro listed vs a w hsz hC hF hI hR hc
    refine ⟨fun hr => hall listed vs a w hsz hF hI hR (hnone listed hsz hr), fun i hi => ?_⟩
    obtain ⟨o, ho, hil, hun, hp⟩ := hready listed i hsz hi
    have ho1 := okFrom_spec L _ L 0 i o hok ho
    rw [Nat.zero_add] at ho1
    have hok1 := ho1
    unfold okOne at ho1
    simp only [Bool.and_eq_true] at ho1
    obtain ⟨⟨⟨⟨hg, hsel⟩, hdst⟩, hops⟩, haf⟩ := ho1
    have hns : ∀ cs b, o.op ≠ .select cs b := by
      intro cs b he
      rw [he] at hsel
      cases hsel
    have hev : ∀ x ∈ o.op.operands, a.eval x = envOf L a0 vs o x := by
      intro x hx
      have hx2 := Array.all_eq_true'.1 hops x hx
      cases x with
      | tmp t =>
        simp only [Bool.and_eq_true, decide_eq_true_eq] at hx2
        have hv := hF.2.2 t hx2.1
        have he : a.eval (.tmp t) = slotV L a0 listed vs t := by
          simp [Act.eval, Array.getD_eq_getD_getElem?, hv]
        have henv : envOf L a0 vs o (.tmp t) = (match srcFrom L 0 t with | some j => if predB o j = true then vs j else a0.tmps.getD t undef | none => a0.tmps.getD t undef) := rfl
        rw [he, henv]
        unfold slotV
        have hx3 := hx2.2
        cases hs : srcFrom L 0 t with
        | none => rfl
        | some j =>
          rw [hs] at hx3
          simp only at hx3 ⊢
          by_cases hpj : predB o j = true
          · rw [if_pos hpj, if_pos (hp j hpj)]
          · rw [if_neg hpj]
            have hpf : predB o j = false := by simpa using hpj
            rw [hpf, Bool.false_or] at hx3
            rw [if_neg]
            intro hlj
            cases hoj : L[j]? with
            | none => rw [hoj] at hx3; cases hx3
            | some oj =>
              rw [hoj] at hx3
              have := hC j oj i hoj hlj hx3
              rw [hun] at this
              cases this
      | const v => rfl
      | global g => rfl
      | func f => rfl
    have hw : Region.wanted o (yielded L.toArray a.tmps) = true := by
      unfold Region.wanted
      cases hgo : o.guard with
      | none => rfl
      | some jb =>
        obtain ⟨j, b⟩ := jb
        rw [hgo] at hg
        simp only [Bool.and_eq_true] at hg
        obtain ⟨hg1, hg2⟩ := hg
        cases hoj : L[j]? with
        | none => rw [hoj] at hg2; cases hg2
        | some oj =>
          rw [hoj] at hg2
          cases hod : oj.dst with
          | none => simp only [hod] at hg2; cases hg2
          | some d =>
            simp only [hod, Bool.and_eq_true, decide_eq_true_eq, beq_iff_eq] at hg2
            have hlj := hp j hg1
            have hvj := hgd i o ho j b hgo vs w (hR j hlj)
            have hv := hF.2.2 d hg2.1
            have hsl : slotV L a0 listed vs d = vs j := by unfold slotV; rw [hg2.2]; simp only; rw [if_pos hlj]
            rw [hsl, hvj] at hv
            simp [yielded, hoj, hod, hv]
    have hnext : ∀ v w', S i w w' → Inv w' → R i (upd vs i v) w' → wpAny P .any L.toArray Q fuel (listed.setIfInBounds i true) (a.put o.dst v) w' := by
      intro v w' hb hI' hRi
      refine ih (listed.setIfInBounds i true) (upd vs i v) (a.put o.dst v) w' (by simpa using hsz) ?_ (framed_put v hok1 ho (by omega) hun hF) hI' ?_ ?_
      · intro i' o' j' ho' hl' hp'
        rw [getD_set _ _ _ (by omega)] at hl' ⊢
        by_cases e : i' = i
        · subst e
          rw [ho] at ho'
          cases ho'
          split
          · rfl
          · exact hp j' hp'
        · rw [if_neg e] at hl'
          split
          · rfl
          · exact hC i' o' j' ho' hl' hp'
      · intro j hj
        rw [getD_set _ _ _ (by omega)] at hj
        by_cases e : j = i
        · subst e; exact hRi
        · rw [if_neg e] at hj
          have hjl : j < L.length := by
            rcases Nat.lt_or_ge j L.length with h | h
            · exact h
            · rw [Array.getD_eq_getD_getElem?, Array.getElem?_eq_none (by omega)] at hj; cases hj
          have hoj : L[j]? = some L[j] := List.getElem?_eq_getElem hjl
          refine hcg j _ vs _ w' hoj (by unfold upd; rw [if_neg e]) (fun k hk => ?_) (hst i j vs w w' (fun e2 => e e2.symm) hI (hR j hj) hb)
          have hkl := hC j _ k hoj hj hk
          unfold upd
          rw [if_neg]
          intro e2
          rw [e2, hun] at hkl
          cases hkl
      · have := cnt_upd (f := fun j => !listed.getD j false) (g := fun j => !(listed.setIfInBounds i true).getD j false) (i := i) (by simp [hun]) (by show (!(listed.setIfInBounds i true).getD i false) = false; rw [getD_set _ _ _ (by omega), if_pos rfl]; rfl) (fun j hj => by show (!listed.getD j false) = !(listed.setIfInBounds i true).getD j false; rw [getD_set _ _ _ (by omega), if_neg hj]) L.length hil
        omega
    unfold wpOp
    rw [List.getElem?_toArray, ho]
    simp only
    rw [if_pos hw]
    left
    have hex : execOp a.eval o = execOp (envOf L a0 vs o) o := execOp_congr o hns hev
    unfold Oper.wp
    rw [hex]
    rcases step i o ho vs w hI (fun j hj => hR j (hp j hj)) with ⟨v, w', hrun, hb, hI', hRi⟩ | ⟨w', hrun, hb, hI', hRi⟩ | ⟨f, args, hrun, hcall⟩
    · rw [hrun]
      exact hnext v w' hb hI' hRi
    · rw [hrun]
      exact hnext undef w' hb hI' hRi
    · rw [hrun, Oper.upon_enter]
      refine hcall.mono ?_
      rintro e w' ⟨v, rfl, hb, hI', hRi⟩
      exact hnext v w' hb hI' hRi
def AllOps (F : Nat → Oper → Prop) : List Oper → Nat → Prop
  | [], _ => True
  | o :: l, k => F k o ∧ AllOps F l (k + 1)
theorem allOps_nil {F : Nat → Oper → Prop} {k : Nat} : AllOps F [] k := trivial
theorem allOps_cons {F : Nat → Oper → Prop} {o : Oper} {l : List Oper} {k : Nat} (h : F k o) (t : AllOps F l (k + 1)) : AllOps F (o :: l) k := ⟨h, t⟩
theorem allOps_spec {F : Nat → Oper → Prop} : ∀ {L : List Oper} {k : Nat}, AllOps F L k → ∀ i o, L[i]? = some o → F (k + i) o
  | [], _, _, i, o, h => by simp at h
  | o :: l, k, hA, 0, o', h => by
    simp at h
    subst h
    exact hA.1
  | o :: l, k, hA, i + 1, o', h => by
    have := allOps_spec hA.2 i o' (by simpa using h)
    rw [show k + (i + 1) = k + 1 + i by omega]
    exact this
/-- what is to be shown of one operation -/
def OneOp (P : Program) (L : List Oper) (a0 : Act) (Inv : World → Prop) (S : Nat → World → World → Prop) (R : Nat → (Nat → Value) → World → Prop) (i : Nat) (o : Oper) : Prop :=
  ∀ (vs : Nat → Value) (w : World) (ρ : Operand → Value), (∀ x, ρ x = envOf L a0 vs o x) → (∀ c, ρ (.const c) = c) → (∀ g, ρ (.global g) = .pointer (some ⟨g, 0, none⟩)) → (∀ f, ρ (.func f) = .func (.func f) #[] #[]) →
    Inv w → (∀ j, predB o j = true → R j vs w) → OpRel P (S i) ρ o w (fun v w' => Inv w' ∧ R i (upd vs i v) w')
theorem rel_value {S : World → World → Prop} {ρ : Operand → Value} {o : Oper} {w : World} {K : Value → World → Prop} (v : Value) (h : (execOp ρ o).run P w = .ok (.value v) w) (hk : K v w) (hs : S w w := by exact Below.refl _ _) : OpRel P S ρ o w K := .inl ⟨v, w, h, hs, hk⟩
theorem rel_made {S : World → World → Prop} {ρ : Operand → Value} {o : Oper} {w w' : World} {K : Value → World → Prop} (v : Value) (h : (execOp ρ o).run P w = .ok (.value v) w') (hb : S w w') (hk : K v w') : OpRel P S ρ o w K := .inl ⟨v, w', h, hb, hk⟩
theorem rel_skip {S : World → World → Prop} {ρ : Operand → Value} {o : Oper} {w w' : World} {K : Value → World → Prop} (h : (execOp ρ o).run P w = .ok .skip w') (hb : S w w') (hk : K undef w') : OpRel P S ρ o w K := .inr (.inl ⟨w', h, hb, hk⟩)
theorem rel_call {S : World → World → Prop} {ρ : Operand → Value} {oi : Oper} {w : World} {K : Value → World → Prop} {f : FuncId} {fn : Func} {ars : Array Operand} {ts : Array TypeId} (hf : P.funcs[f]? = some fn) (hname : (fn.name == "runtime.NumGoroutine") = false) (hb : fn.body.isSome = true) (args : Array Value)
    (hop : oi.op = .call { callee := .value (.func f), args := ars, argTypes := ts }) (hfun : ρ (.func f) = .func (.func f) #[] #[]) (hargs : ars.map ρ = args)
    (h : Calls P f args w fun e w' => ∃ v, e = .returned v ∧ S w w' ∧ K v w') : OpRel P S ρ oi w K := by
  refine .inr (.inr ⟨f, args, ?_, h⟩)
  have he := enters_ hf hname hb args w
  unfold execOp
  simp [hop, resolve, Deferred.ofValue, invoke, hfun, hargs, he]
/-- the law: a region that draws its order -/
theorem wp_region_rel {id : Nat} (L : List Oper) (hm : P.follows .mixedOrders = true) (N : Nat) (a0 : Act) (w0 : World) (hN : a0.tmps.size = N) (hok : okFrom L N L 0 = true) (Inv : World → Prop) (S : Nat → World → World → Prop) (R : Nat → (Nat → Value) → World → Prop) (hI : Inv w0.drew)
    (hst : ∀ i j vs w w', i ≠ j → Inv w → R j vs w → S i w w' → R j vs w')
    (hcg : ∀ j o vs vs' w, L[j]? = some o → vs' j = vs j → (∀ k, predB o k = true → vs' k = vs k) → R j vs w → R j vs' w)
    (hgd : AllOps (fun (_ : Nat) (o : Oper) => ∀ (j : Nat) (b : Bool), o.guard = some (j, b) → ∀ (vs : Nat → Value) (w : World), R j vs w → vs j = .bool b) L 0)
    (step : AllOps (OneOp P L a0 Inv S R) L 0)
    (done : ∀ vs w, Inv w → (∀ j, j < L.length → R j vs w) → Q .normal (fillFrom L 0 a0 vs) w) :
    (Code.region id L.toArray true).wp P Q a0 w0 := by
  subst hN
  have step' : ∀ i o, L[i]? = some o → ∀ (vs : Nat → Value) (w : World), Inv w → (∀ j, predB o j = true → R j vs w) → OpRel P (S i) (envOf L a0 vs o) o w (fun v w' => Inv w' ∧ R i (upd vs i v) w') := by
    intro i o ho vs w hI hp
    have h := allOps_spec step i o ho
    rw [Nat.zero_add] at h
    exact h vs w (envOf L a0 vs o) (fun _ => rfl) (fun _ => rfl) (fun _ => rfl) (fun _ => rfl) hI hp
  refine wp_region_any hm ?_
  have hgd' : ∀ (i : Nat) (o : Oper), L[i]? = some o → ∀ (j : Nat) (b : Bool), o.guard = some (j, b) → ∀ (vs : Nat → Value) (w : World), R j vs w → vs j = .bool b := fun i o ho => by
    have h := allOps_spec hgd i o ho
    exact h
  refine wpAny_rel L a0 hok Inv S R hst hcg hgd' step' done L.toArray.size (Array.replicate L.toArray.size false) (fun _ => undef) a0 _ (by simp) ?_ ?_ hI ?_ ?_
  · intro i o j _ h
    simp [Array.getD_eq_getD_getElem?, Array.getElem?_replicate] at h
    split at h <;> simp at h
  · refine ⟨rfl, rfl, fun t ht => ?_⟩
    have e : slotV L a0 (Array.replicate L.toArray.size false) (fun _ => undef) t = a0.tmps.getD t undef := by
      unfold slotV
      cases srcFrom L 0 t with
      | none => rfl
      | some j =>
        simp only
        rw [if_neg]
        simp [Array.getD_eq_getD_getElem?, Array.getElem?_replicate]
        split <;> simp
    rw [e]
    simp [Array.getD_eq_getD_getElem?, Array.getElem?_eq_getElem ht]
  · intro j h
    simp [Array.getD_eq_getD_getElem?, Array.getElem?_replicate] at h
    split at h <;> simp at h
  · have : ∀ (f : Nat → Bool) n, cnt f n ≤ n := by
      intro f n
      induction n with
      | zero => exact Nat.le_refl _
      | succ n ih => simp only [cnt]; split <;> omega
    exact Nat.le_trans (this _ _) (by simp)
end
end Go.Proofs.YtljjpdjknnhceaaDoor.RegG

/- sameCluster: of two definitions alike, true. -/
set_option linter.unusedVariables false
set_option linter.unusedSimpArgs false
namespace Go.Proofs.YtljjpdjknnhceaaDoor.SameC
open Go.RowKit Go.Proofs.YtljjpdjknnhceaaDoorW.PrintWords Go.Proofs.YtljjpdjknnhceaaDoorW.PrintLast Go.Proofs.YtljjpdjknnhceaaDoorW.PrintMore
open Go.Proofs.YtljjpdjknnhceaaDoor.Base Go.Proofs.YtljjpdjknnhceaaDoor.RingPure Go.Proofs.YtljjpdjknnhceaaDoor.ChkPure Go.Proofs.YtljjpdjknnhceaaDoor.Clus Go.Proofs.YtljjpdjknnhceaaDoor.Mids Go.Proofs.YtljjpdjknnhceaaDoor.Chkd Go.Proofs.YtljjpdjknnhceaaDoor.Ref6 Go.Proofs.YtljjpdjknnhceaaDoor.EqV Go.Proofs.YtljjpdjknnhceaaDoor.Sort Go.Proofs.YtljjpdjknnhceaaDoor.RefCheck Go.Proofs.YtljjpdjknnhceaaDoor.PRingWalks
attribute [local go_sem high] eqV
theorem same_l0 (l : List Int) (hl : l.length ≤ 9223372036854775806) : ∀ (d i k : Nat), l.length - i = d → d < k → granarylaw6_sameInts.l0 k l l (i : Int) = some true
  | 0, i, k, hd, hk => by
    obtain ⟨k, rfl⟩ : ∃ m, k = m + 1 := ⟨k - 1, by omega⟩
    simp only [granarylaw6_sameInts.l0]
    rw [if_neg (by omega)]
  | d + 1, i, k, hd, hk => by
    obtain ⟨k, rfl⟩ : ∃ m, k = m + 1 := ⟨k - 1, by omega⟩
    have e : wrap64 ((i : Int) + 1) = ((i + 1 : Nat) : Int) := by unfold wrap64; omega
    simp only [granarylaw6_sameInts.l0]
    rw [if_pos (by omega), if_pos (by omega), if_pos (by omega), if_pos trivial, e]
    exact same_l0 l hl d (i + 1) k (by omega) (by omega)
theorem sameInts_yes (A B : Option Addr) (c1 c2 : Nat) (l : List Int) (w : World) (h1 : NumsAt w A l) (h2 : NumsAt w B l) (hc1 : l.length ≤ c1) (hc2 : l.length ≤ c2) (hl : l.length ≤ 1099511627776) :
    Calls Tryd.prog 19 #[.slice A l.length c1, .slice B l.length c2] w fun e w' => e = .returned (.bool true) ∧ Drawn0 w w' := by
  refine granarylaw6_sameInts.calls (l.length + 1) A c1 l B c2 l true w (NumsAt.kd h1 (by omega)) hc1 (NumsAt.kd h2 (by omega)) hc2 ?_
  unfold granarylaw6_sameInts.f
  rw [if_pos rfl]
  exact same_l0 l (by omega) l.length 0 _ (by omega) (by omega)
set_option maxRecDepth 100000 in
set_option maxHeartbeats 8000000 in
theorem same_any (c : Cl) (A B : Option Addr) (ca cb : Nat) (ns : List Nd) (w : World) (hA : NodesAt w A ns) (hB : NodesAt w B ns) (hl : ns.length ≤ 1099511627776) (hc : cnt ns ≤ 1099511627776) :
    Calls Tryd.prog 32 #[.agg (cL c (.slice A ns.length ca)).toArray, .agg (cL c (.slice B ns.length cb)).toArray] w fun e w' => e = .returned (.bool true) ∧ Below w.heap.size w w' := by
  obtain ⟨w0, hw0⟩ : ∃ w0, w0 = w.alloc (.cells (cL c (.slice A ns.length ca)).toArray 24) := ⟨_, rfl⟩
  have hb0 : Below w.heap.size w w0 := by rw [hw0]; exact (Below.refl _ _).alloc (Nat.le_refl _) _
  have hs0 : w0.heap.size = w.heap.size + 1 := by rw [hw0]; simp
  have hb1 : Below w0.heap.size w0 (w0.alloc (.cells (cL c (.slice B ns.length cb)).toArray 24)) := (Below.refl _ _).alloc (Nat.le_refl _) _
  have HB := Aside0.mk (hb0.trans (hb1.mono hb0.size))
  have HCA : Aside0 (CBox (w0.alloc (.cells (cL c (.slice B ns.length cb)).toArray 24)) w.heap.size c (.slice A ns.length ca)) := ⟨by
    have : CBox w0 w.heap.size c (.slice A ns.length ca) := ⟨by rw [hw0]; exact Go.heap_alloc_new w _⟩
    exact this.below hb1 this.lt⟩
  have HCB : Aside0 (CBox (w0.alloc (.cells (cL c (.slice B ns.length cb)).toArray 24)) (w.heap.size + 1) c (.slice B ns.length cb)) := ⟨⟨by rw [← hs0]; exact Go.heap_alloc_new w0 _⟩⟩
  have HNA := Aside0.mk ((hA.below hb0).below hb1)
  have HNB := Aside0.mk ((hB.below hb0).below hb1)
  rw [hw0] at HB HCA HCB HNA HNB
  clear hw0 hb0 hs0 hb1 hA hB w0
  go_enter Tryd.func32, Tryd.ntmps32
  go_upto_region 1 with fail
  generalize (w.alloc (.cells (cL c (.slice A ns.length ca)).toArray 24)).alloc (.cells (cL c (.slice B ns.length cb)).toArray 24) = w1 at HB HCA HCB HNA HNB ⊢
  generalize hga : w.heap.size = ga at HCA HCB ⊢
  clear hga
  refine RegG.wp_region_rel _ (by kernel_rfl) _ _ _ rfl (by kernel_rfl) (fun w' => Below w1.heap.size w1 w') (fun _ w w' => Below w.heap.size w w') (fun jq vs w' => match jq with
    | 0 => vs 0 = .pointer (some ⟨ga, 0, none⟩)
    | 1 => vs 1 = .string c.store
    | 2 => vs 2 = .pointer (some ⟨ga + 1, 0, none⟩)
    | 3 => vs 3 = .string c.store
    | 4 => vs 4 = .bool false
    | 5 => vs 5 = .bool false
    | 6 => vs 6 = .agg (cL c (.slice A ns.length ca)).toArray
    | 7 => vs 7 = .agg (valL c).toArray
    | 8 => vs 8 = .agg (cL c (.slice B ns.length cb)).toArray
    | 9 => vs 9 = .agg (valL c).toArray
    | 10 => vs 10 = .bool false
    | 11 => vs 11 = .bool false
    | 12 => vs 12 = .bool false
    | 13 => vs 13 = .pointer (some ⟨ga, 22, none⟩)
    | 14 => vs 14 = .slice A ns.length ca
    | 15 => vs 15 = .int .i64 (ns.length : Nat)
    | 16 => vs 16 = .pointer (some ⟨ga + 1, 22, none⟩)
    | 17 => vs 17 = .slice B ns.length cb
    | 18 => vs 18 = .int .i64 (ns.length : Nat)
    | 19 => vs 19 = .bool false
    | 20 => vs 20 = .bool false
    | _ => True) (below_drew (Below.refl _ _)) ?_ ?_ ?_ ?_ ?_
  · intro i j vs w0 w' hij hI hR hb
    rcases j with _ | j
    · exact hR
    rcases j with _ | j
    · exact hR
    rcases j with _ | j
    · exact hR
    rcases j with _ | j
    · exact hR
    rcases j with _ | j
    · exact hR
    rcases j with _ | j
    · exact hR
    rcases j with _ | j
    · exact hR
    rcases j with _ | j
    · exact hR
    rcases j with _ | j
    · exact hR
    rcases j with _ | j
    · exact hR
    rcases j with _ | j
    · exact hR
    rcases j with _ | j
    · exact hR
    rcases j with _ | j
    · exact hR
    rcases j with _ | j
    · exact hR
    rcases j with _ | j
    · exact hR
    rcases j with _ | j
    · exact hR
    rcases j with _ | j
    · exact hR
    rcases j with _ | j
    · exact hR
    rcases j with _ | j
    · exact hR
    rcases j with _ | j
    · exact hR
    rcases j with _ | j
    · exact hR
    exact trivial
  · intro j o vs vs1 w0 ho he hp hR
    rcases j with _ | j
    · exact he.trans hR
    rcases j with _ | j
    · exact he.trans hR
    rcases j with _ | j
    · exact he.trans hR
    rcases j with _ | j
    · exact he.trans hR
    rcases j with _ | j
    · exact he.trans hR
    rcases j with _ | j
    · exact he.trans hR
    rcases j with _ | j
    · exact he.trans hR
    rcases j with _ | j
    · exact he.trans hR
    rcases j with _ | j
    · exact he.trans hR
    rcases j with _ | j
    · exact he.trans hR
    rcases j with _ | j
    · exact he.trans hR
    rcases j with _ | j
    · exact he.trans hR
    rcases j with _ | j
    · exact he.trans hR
    rcases j with _ | j
    · exact he.trans hR
    rcases j with _ | j
    · exact he.trans hR
    rcases j with _ | j
    · exact he.trans hR
    rcases j with _ | j
    · exact he.trans hR
    rcases j with _ | j
    · exact he.trans hR
    rcases j with _ | j
    · exact he.trans hR
    rcases j with _ | j
    · exact he.trans hR
    rcases j with _ | j
    · exact he.trans hR
    exact trivial
  · skip
    refine RegG.allOps_cons ?_ ?_
    · intro j b hg vs w hR
      first
        | (cases hg; done)
        | (cases hg; exact hR)
    refine RegG.allOps_cons ?_ ?_
    · intro j b hg vs w hR
      first
        | (cases hg; done)
        | (cases hg; exact hR)
    refine RegG.allOps_cons ?_ ?_
    · intro j b hg vs w hR
      first
        | (cases hg; done)
        | (cases hg; exact hR)
    refine RegG.allOps_cons ?_ ?_
    · intro j b hg vs w hR
      first
        | (cases hg; done)
        | (cases hg; exact hR)
    refine RegG.allOps_cons ?_ ?_
    · intro j b hg vs w hR
      first
        | (cases hg; done)
        | (cases hg; exact hR)
    refine RegG.allOps_cons ?_ ?_
    · intro j b hg vs w hR
      first
        | (cases hg; done)
        | (cases hg; exact hR)
    refine RegG.allOps_cons ?_ ?_
    · intro j b hg vs w hR
      first
        | (cases hg; done)
        | (cases hg; exact hR)
    refine RegG.allOps_cons ?_ ?_
    · intro j b hg vs w hR
      first
        | (cases hg; done)
        | (cases hg; exact hR)
    refine RegG.allOps_cons ?_ ?_
    · intro j b hg vs w hR
      first
        | (cases hg; done)
        | (cases hg; exact hR)
    refine RegG.allOps_cons ?_ ?_
    · intro j b hg vs w hR
      first
        | (cases hg; done)
        | (cases hg; exact hR)
    refine RegG.allOps_cons ?_ ?_
    · intro j b hg vs w hR
      first
        | (cases hg; done)
        | (cases hg; exact hR)
    refine RegG.allOps_cons ?_ ?_
    · intro j b hg vs w hR
      first
        | (cases hg; done)
        | (cases hg; exact hR)
    refine RegG.allOps_cons ?_ ?_
    · intro j b hg vs w hR
      first
        | (cases hg; done)
        | (cases hg; exact hR)
    refine RegG.allOps_cons ?_ ?_
    · intro j b hg vs w hR
      first
        | (cases hg; done)
        | (cases hg; exact hR)
    refine RegG.allOps_cons ?_ ?_
    · intro j b hg vs w hR
      first
        | (cases hg; done)
        | (cases hg; exact hR)
    refine RegG.allOps_cons ?_ ?_
    · intro j b hg vs w hR
      first
        | (cases hg; done)
        | (cases hg; exact hR)
    refine RegG.allOps_cons ?_ ?_
    · intro j b hg vs w hR
      first
        | (cases hg; done)
        | (cases hg; exact hR)
    refine RegG.allOps_cons ?_ ?_
    · intro j b hg vs w hR
      first
        | (cases hg; done)
        | (cases hg; exact hR)
    refine RegG.allOps_cons ?_ ?_
    · intro j b hg vs w hR
      first
        | (cases hg; done)
        | (cases hg; exact hR)
    refine RegG.allOps_cons ?_ ?_
    · intro j b hg vs w hR
      first
        | (cases hg; done)
        | (cases hg; exact hR)
    refine RegG.allOps_cons ?_ ?_
    · intro j b hg vs w hR
      first
        | (cases hg; done)
        | (cases hg; exact hR)
    exact RegG.allOps_nil
  · skip
    refine RegG.allOps_cons ?_ ?_
    · intro vs w0 ρ hρ hcst hglb hfun hI hp
      have e2 : ρ (.tmp 2) = .pointer (some ⟨ga, 0, none⟩) := hρ (.tmp 2)
      clear hρ hp
      refine RegG.rel_value (.pointer (some ⟨ga, 0, none⟩)) ?_ ⟨hI, rfl⟩
      go_simp
    refine RegG.allOps_cons ?_ ?_
    · intro vs w0 ρ hρ hcst hglb hfun hI hp
      have e6 : ρ (.tmp 6) = .pointer (some ⟨ga, 0, none⟩) := (hρ (.tmp 6)).trans (show vs 0 = .pointer (some ⟨ga, 0, none⟩) from hp 0 rfl)
      clear hρ hp
      have hl2 : w0.cell? ⟨ga, 0, none⟩ = some (.string c.store) := (HCA.out.below hI HCA.out.lt).c 0
      refine RegG.rel_value (.string c.store) ?_ ⟨hI, rfl⟩
      go_simp
    refine RegG.allOps_cons ?_ ?_
    · intro vs w0 ρ hρ hcst hglb hfun hI hp
      have e3 : ρ (.tmp 3) = .pointer (some ⟨ga + 1, 0, none⟩) := hρ (.tmp 3)
      clear hρ hp
      refine RegG.rel_value (.pointer (some ⟨ga + 1, 0, none⟩)) ?_ ⟨hI, rfl⟩
      go_simp
    refine RegG.allOps_cons ?_ ?_
    · intro vs w0 ρ hρ hcst hglb hfun hI hp
      have e8 : ρ (.tmp 8) = .pointer (some ⟨ga + 1, 0, none⟩) := (hρ (.tmp 8)).trans (show vs 2 = .pointer (some ⟨ga + 1, 0, none⟩) from hp 2 rfl)
      clear hρ hp
      have hl2 : w0.cell? ⟨ga + 1, 0, none⟩ = some (.string c.store) := (HCB.out.below hI HCB.out.lt).c 0
      refine RegG.rel_value (.string c.store) ?_ ⟨hI, rfl⟩
      go_simp
    refine RegG.allOps_cons ?_ ?_
    · intro vs w0 ρ hρ hcst hglb hfun hI hp
      have e7 : ρ (.tmp 7) = .string c.store := (hρ (.tmp 7)).trans (show vs 1 = .string c.store from hp 1 rfl)
      have e9 : ρ (.tmp 9) = .string c.store := (hρ (.tmp 9)).trans (show vs 3 = .string c.store from hp 3 rfl)
      clear hρ hp
      refine RegG.rel_value (.bool false) ?_ ⟨hI, rfl⟩
      go_simp
    refine RegG.allOps_cons ?_ ?_
    · intro vs w0 ρ hρ hcst hglb hfun hI hp
      have e10 : ρ (.tmp 10) = .bool false := (hρ (.tmp 10)).trans (show vs 4 = .bool false from hp 4 rfl)
      clear hρ hp
      refine RegG.rel_value (.bool false) ?_ ⟨hI, rfl⟩
      go_simp
    refine RegG.allOps_cons ?_ ?_
    · intro vs w0 ρ hρ hcst hglb hfun hI hp
      have e2 : ρ (.tmp 2) = .pointer (some ⟨ga, 0, none⟩) := hρ (.tmp 2)
      clear hρ hp
      refine RegG.rel_value (.agg (cL c (.slice A ns.length ca)).toArray) (exec_load_mid 24 (.tmp 2) rfl (ga) 0 e2 _ _ (blk_range (HCA.out.below hI HCA.out.lt).row) Tryd.underlying24 rfl infoC23) ⟨hI, rfl⟩
    refine RegG.allOps_cons ?_ ?_
    · intro vs w0 ρ hρ hcst hglb hfun hI hp
      have e12 : ρ (.tmp 12) = .agg (cL c (.slice A ns.length ca)).toArray := (hρ (.tmp 12)).trans (show vs 6 = .agg (cL c (.slice A ns.length ca)).toArray from hp 6 rfl)
      clear hρ hp
      refine RegG.rel_call Tryd.func68 (by kernel_rfl) rfl #[.agg (cL c (.slice A ns.length ca)).toArray] rfl (hfun _) (by simp [e12]) ?_
      refine (values_any c (.slice A ns.length ca) w0).mono ?_
      rintro e w3 ⟨rfl, hb⟩
      exact ⟨_, rfl, hb, hI.trans (hb.mono hI.size), rfl⟩
    refine RegG.allOps_cons ?_ ?_
    · intro vs w0 ρ hρ hcst hglb hfun hI hp
      have e3 : ρ (.tmp 3) = .pointer (some ⟨ga + 1, 0, none⟩) := hρ (.tmp 3)
      clear hρ hp
      refine RegG.rel_value (.agg (cL c (.slice B ns.length cb)).toArray) (exec_load_mid 24 (.tmp 3) rfl (ga + 1) 0 e3 _ _ (blk_range (HCB.out.below hI HCB.out.lt).row) Tryd.underlying24 rfl infoC23) ⟨hI, rfl⟩
    refine RegG.allOps_cons ?_ ?_
    · intro vs w0 ρ hρ hcst hglb hfun hI hp
      have e14 : ρ (.tmp 14) = .agg (cL c (.slice B ns.length cb)).toArray := (hρ (.tmp 14)).trans (show vs 8 = .agg (cL c (.slice B ns.length cb)).toArray from hp 8 rfl)
      clear hρ hp
      refine RegG.rel_call Tryd.func68 (by kernel_rfl) rfl #[.agg (cL c (.slice B ns.length cb)).toArray] rfl (hfun _) (by simp [e14]) ?_
      refine (values_any c (.slice B ns.length cb) w0).mono ?_
      rintro e w3 ⟨rfl, hb⟩
      exact ⟨_, rfl, hb, hI.trans (hb.mono hI.size), rfl⟩
    refine RegG.allOps_cons ?_ ?_
    · intro vs w0 ρ hρ hcst hglb hfun hI hp
      have e13 : ρ (.tmp 13) = .agg (valL c).toArray := (hρ (.tmp 13)).trans (show vs 7 = .agg (valL c).toArray from hp 7 rfl)
      have e15 : ρ (.tmp 15) = .agg (valL c).toArray := (hρ (.tmp 15)).trans (show vs 9 = .agg (valL c).toArray from hp 9 rfl)
      clear hρ hp
      refine RegG.rel_value (.bool false) ?_ ⟨hI, rfl⟩
      go_simp
    refine RegG.allOps_cons ?_ ?_
    · intro vs w0 ρ hρ hcst hglb hfun hI hp
      have e11 : ρ (.tmp 11) = .bool false := (hρ (.tmp 11)).trans (show vs 5 = .bool false from hp 5 rfl)
      have e16 : ρ (.tmp 16) = .bool false := (hρ (.tmp 16)).trans (show vs 10 = .bool false from hp 10 rfl)
      clear hρ hp
      refine RegG.rel_value (.bool false) ?_ ⟨hI, rfl⟩
      go_simp
    refine RegG.allOps_cons ?_ ?_
    · intro vs w0 ρ hρ hcst hglb hfun hI hp
      have e17 : ρ (.tmp 17) = .bool false := (hρ (.tmp 17)).trans (show vs 11 = .bool false from hp 11 rfl)
      clear hρ hp
      refine RegG.rel_value (.bool false) ?_ ⟨hI, rfl⟩
      go_simp
    refine RegG.allOps_cons ?_ ?_
    · intro vs w0 ρ hρ hcst hglb hfun hI hp
      have e2 : ρ (.tmp 2) = .pointer (some ⟨ga, 0, none⟩) := hρ (.tmp 2)
      clear hρ hp
      refine RegG.rel_value (.pointer (some ⟨ga, 22, none⟩)) ?_ ⟨hI, rfl⟩
      go_simp
    refine RegG.allOps_cons ?_ ?_
    · intro vs w0 ρ hρ hcst hglb hfun hI hp
      have e19 : ρ (.tmp 19) = .pointer (some ⟨ga, 22, none⟩) := (hρ (.tmp 19)).trans (show vs 13 = .pointer (some ⟨ga, 22, none⟩) from hp 13 rfl)
      clear hρ hp
      have hl2 : w0.cell? ⟨ga, 22, none⟩ = some (.slice A ns.length ca) := (HCA.out.below hI HCA.out.lt).c 22
      refine RegG.rel_value (.slice A ns.length ca) ?_ ⟨hI, rfl⟩
      go_simp
    refine RegG.allOps_cons ?_ ?_
    · intro vs w0 ρ hρ hcst hglb hfun hI hp
      have e20 : ρ (.tmp 20) = .slice A ns.length ca := (hρ (.tmp 20)).trans (show vs 14 = .slice A ns.length ca from hp 14 rfl)
      clear hρ hp
      refine RegG.rel_value (.int .i64 (ns.length : Nat)) ?_ ⟨hI, rfl⟩
      go_simp
    refine RegG.allOps_cons ?_ ?_
    · intro vs w0 ρ hρ hcst hglb hfun hI hp
      have e3 : ρ (.tmp 3) = .pointer (some ⟨ga + 1, 0, none⟩) := hρ (.tmp 3)
      clear hρ hp
      refine RegG.rel_value (.pointer (some ⟨ga + 1, 22, none⟩)) ?_ ⟨hI, rfl⟩
      go_simp
    refine RegG.allOps_cons ?_ ?_
    · intro vs w0 ρ hρ hcst hglb hfun hI hp
      have e22 : ρ (.tmp 22) = .pointer (some ⟨ga + 1, 22, none⟩) := (hρ (.tmp 22)).trans (show vs 16 = .pointer (some ⟨ga + 1, 22, none⟩) from hp 16 rfl)
      clear hρ hp
      have hl2 : w0.cell? ⟨ga + 1, 22, none⟩ = some (.slice B ns.length cb) := (HCB.out.below hI HCB.out.lt).c 22
      refine RegG.rel_value (.slice B ns.length cb) ?_ ⟨hI, rfl⟩
      go_simp
    refine RegG.allOps_cons ?_ ?_
    · intro vs w0 ρ hρ hcst hglb hfun hI hp
      have e23 : ρ (.tmp 23) = .slice B ns.length cb := (hρ (.tmp 23)).trans (show vs 17 = .slice B ns.length cb from hp 17 rfl)
      clear hρ hp
      refine RegG.rel_value (.int .i64 (ns.length : Nat)) ?_ ⟨hI, rfl⟩
      go_simp
    refine RegG.allOps_cons ?_ ?_
    · intro vs w0 ρ hρ hcst hglb hfun hI hp
      have e21 : ρ (.tmp 21) = .int .i64 (ns.length : Nat) := (hρ (.tmp 21)).trans (show vs 15 = .int .i64 (ns.length : Nat) from hp 15 rfl)
      have e24 : ρ (.tmp 24) = .int .i64 (ns.length : Nat) := (hρ (.tmp 24)).trans (show vs 18 = .int .i64 (ns.length : Nat) from hp 18 rfl)
      clear hρ hp
      refine RegG.rel_value (.bool false) ?_ ⟨hI, rfl⟩
      go_simp
    refine RegG.allOps_cons ?_ ?_
    · intro vs w0 ρ hρ hcst hglb hfun hI hp
      have e18 : ρ (.tmp 18) = .bool false := (hρ (.tmp 18)).trans (show vs 12 = .bool false from hp 12 rfl)
      have e25 : ρ (.tmp 25) = .bool false := (hρ (.tmp 25)).trans (show vs 19 = .bool false from hp 19 rfl)
      clear hρ hp
      refine RegG.rel_value (.bool false) ?_ ⟨hI, rfl⟩
      go_simp
    exact RegG.allOps_nil
  intro vs w0 hI hR
  have r0 : vs 0 = .pointer (some ⟨ga, 0, none⟩) := hR 0 (by decide)
  have r1 : vs 1 = .string c.store := hR 1 (by decide)
  have r2 : vs 2 = .pointer (some ⟨ga + 1, 0, none⟩) := hR 2 (by decide)
  have r3 : vs 3 = .string c.store := hR 3 (by decide)
  have r4 : vs 4 = .bool false := hR 4 (by decide)
  have r5 : vs 5 = .bool false := hR 5 (by decide)
  have r6 : vs 6 = .agg (cL c (.slice A ns.length ca)).toArray := hR 6 (by decide)
  have r7 : vs 7 = .agg (valL c).toArray := hR 7 (by decide)
  have r8 : vs 8 = .agg (cL c (.slice B ns.length cb)).toArray := hR 8 (by decide)
  have r9 : vs 9 = .agg (valL c).toArray := hR 9 (by decide)
  have r10 : vs 10 = .bool false := hR 10 (by decide)
  have r11 : vs 11 = .bool false := hR 11 (by decide)
  have r12 : vs 12 = .bool false := hR 12 (by decide)
  have r13 : vs 13 = .pointer (some ⟨ga, 22, none⟩) := hR 13 (by decide)
  have r14 : vs 14 = .slice A ns.length ca := hR 14 (by decide)
  have r15 : vs 15 = .int .i64 (ns.length : Nat) := hR 15 (by decide)
  have r16 : vs 16 = .pointer (some ⟨ga + 1, 22, none⟩) := hR 16 (by decide)
  have r17 : vs 17 = .slice B ns.length cb := hR 17 (by decide)
  have r18 : vs 18 = .int .i64 (ns.length : Nat) := hR 18 (by decide)
  have r19 : vs 19 = .bool false := hR 19 (by decide)
  have r20 : vs 20 = .bool false := hR 20 (by decide)
  simp only [RegG.fillFrom, Act.put, List.setIfInBounds_toArray, List.set_cons_zero, List.set_cons_succ, r0, r1, r2, r3, r4, r5, r6, r7, r8, r9, r10, r11, r12, r13, r14, r15, r16, r17, r18, r19, r20]
  clear hR r0 r1 r2 r3 r4 r5 r6 r7 r8 r9 r10 r11 r12 r13 r14 r15 r16 r17 r18 r19 r20
  have HR0 := Aside0.mk hI
  clear hI
  generalize w0 = wz at HR0 ⊢
  go_wp2_with fail
  go_loopw [5] (fun v5 wr => ∃ k : Nat, k ≤ ns.length ∧ v5 = .int .i64 (k : Nat) ∧ Aside0 (Below w1.heap.size w1 wr)) (fun v5 _ => ns.length - (intOf v5).toNat)
  case atStart => exact ⟨0, Nat.zero_le _, rfl, HR0⟩
  case round =>
    clear HR0
    obtain ⟨k, hk, rfl, HR⟩ := hrel
    obtain ⟨wo, rfl⟩ : ∃ wo : World, wo = wr := ⟨_, rfl⟩
    have a22 : wo.cell? ⟨ga, 22, none⟩ = some (.slice A ns.length ca) := (HCA.out.below HR.out HCA.out.lt).c 22
    have b22 : wo.cell? ⟨ga + 1, 22, none⟩ = some (.slice B ns.length cb) := (HCB.out.below HR.out HCB.out.lt).c 22
    by_cases hlt : k < ns.length
    · obtain ⟨n, hn⟩ : ∃ n, ns[k]? = some n := ⟨_, List.getElem?_eq_getElem hlt⟩
      obtain ⟨b1, o1, rfl, hz1, B1, c1, hp1, hc1, hn1⟩ := (HNA.out.below HR.out).get hn
      obtain ⟨b2, o2, rfl, hz2, B2, c2, hp2, hc2, hn2⟩ := (HNB.out.below HR.out).get hn
      have hnl : n.2.length ≤ 1099511627776 := by
        have h1 := cnt_snoc ns k n hn
        have h2 := cnt_take ns (k + 1)
        omega
      have hq := fun q => Aside0.mk (sameInts_yes B1 B2 c1 c2 n.2 (wo.drewN q) (hn1.below (pw_below_drewN (Below.refl _ _) q)) (hn2.below (pw_below_drewN (Below.refl _ _) q)) hc1.1 hc2.1 hnl)
      have hne : (n.1 != n.1) = false := bne_self_eq_false _
      clear hn hn1 hn2 hc1 hc2 hnl
      go_wp2_with fail
      go_quiet ((go_at_call 19; exact Calls.quiet_of ((hq _).out.mono fun e w' h => ⟨h.1, h.2.out⟩)))
      have HR2 : Aside0 (Below w1.heap.size w1 (wo.drewN nq)) := ⟨pw_below_drewN HR.out _⟩
      clear hq
      go_wp2_with fail
      go_roundw
      case rel => exact ⟨k + 1, by omega, by go_num, HR2⟩
      case measure => simp [intOf]; omega
    · go_wp2_with fail
      go_ret
      exact ⟨rfl, HB.out.trans (HR.out.mono HB.out.size)⟩
end Go.Proofs.YtljjpdjknnhceaaDoor.SameC
