/- Joined texts of this claim: Made6 -/
import Derived.Test.YtljjpdjknnhceaaDoorJRPlc8
import Derived.Deep.DeepCutAuto
set_option linter.unusedVariables false
set_option linter.unusedSimpArgs false
/- Made walked. -/
set_option linter.unusedVariables false
set_option linter.unusedSimpArgs false
namespace Go.Proofs.YtljjpdjknnhceaaDoor.Made6
open Go.RowKit Go.Proofs.YtljjpdjknnhceaaDoorW.PrintWords Go.Proofs.YtljjpdjknnhceaaDoorW.PrintLast Go.Proofs.YtljjpdjknnhceaaDoorW.PrintMore
open Go.Proofs.YtljjpdjknnhceaaDoor.Base Go.Proofs.YtljjpdjknnhceaaDoor.App Go.Proofs.YtljjpdjknnhceaaDoor.RingPure Go.Proofs.YtljjpdjknnhceaaDoor.ChkPure Go.Proofs.YtljjpdjknnhceaaDoor.Clus Go.Proofs.YtljjpdjknnhceaaDoor.Mids Go.Proofs.YtljjpdjknnhceaaDoor.Chkd Go.Proofs.YtljjpdjknnhceaaDoor.AppR Go.Proofs.YtljjpdjknnhceaaDoor.Twin Go.Proofs.YtljjpdjknnhceaaDoor.TwinW Go.Proofs.YtljjpdjknnhceaaDoor.WithV Go.Proofs.YtljjpdjknnhceaaDoor.ModAt Go.Proofs.YtljjpdjknnhceaaDoor.MadePure Go.Proofs.YtljjpdjknnhceaaDoor.FewPure
open Go.Proofs.YtljjpdjknnhceaaDoor.MadeV
open Go.Proofs.YtljjpdjknnhceaaDoor.Round (own_later2)
theorem own_setCell {w : World} {base : Nat} {e : TypeId} {size n : Nat} {v u : Value} {xs : List Value} {g o : Nat} (h : w.ownsRow base e size v n xs) (hg : g < base) : (w.setCell ⟨g, o, none⟩ u).ownsRow base e size v n xs :=
  own_move h (fun k hk => Below.heap_setCell _ _ _ _ (fun (ek : k = g) => by have := own_base h k hk; omega))
structure MW (R : List Value) (w w1 : World) : Prop where mk ::
  (box : w1.heap[w.heap.size]? = some (.cells R.toArray 51 (0, 0))) (res : w1.heap[w.heap.size + 1]? = some (.cells zL.toArray 24 (0, 0))) (bel : Below w.heap.size w w1)
theorem mw_of (R : List Value) (w : World) : MW R w ((w.alloc (.cells R.toArray 51)).alloc (.cells #[.string { data := #[] }, .int .i64 0, .int .i64 0, .int .i64 0, .int .i64 0, .int .i64 0, .int .i64 0, .int .i64 0, .int .i64 0, .int .i64 0, .int .i64 0, .int .i64 0, .int .i64 0, .int .i64 0, .int .i64 0, .int .i64 0, .int .i64 0, .int .i64 0, .int .i64 0, .int .i64 0, .int .i64 0, .int .i64 0, .slice none 0 0] 24)) := by
  obtain ⟨w0, hw0⟩ : ∃ w0, w0 = w.alloc (.cells R.toArray 51) := ⟨_, rfl⟩
  rw [← hw0]
  have hb0 : Below w.heap.size w w0 := by rw [hw0]; exact (Below.refl _ _).alloc (Nat.le_refl _) _
  have hs0 : w0.heap.size = w.heap.size + 1 := by rw [hw0]; simp
  have hb1 : Below w0.heap.size w0 (w0.alloc (.cells #[.string { data := #[] }, .int .i64 0, .int .i64 0, .int .i64 0, .int .i64 0, .int .i64 0, .int .i64 0, .int .i64 0, .int .i64 0, .int .i64 0, .int .i64 0, .int .i64 0, .int .i64 0, .int .i64 0, .int .i64 0, .int .i64 0, .int .i64 0, .int .i64 0, .int .i64 0, .int .i64 0, .int .i64 0, .int .i64 0, .slice none 0 0] 24)) := (Below.refl _ _).alloc (Nat.le_refl _) _
  have hc : w0.heap[w.heap.size]? = some (.cells R.toArray 51 (0, 0)) := by rw [hw0]; exact Go.heap_alloc_new w _
  exact ⟨(hb1.block _ (by omega)).trans hc, by rw [← hs0]; exact Go.heap_alloc_new w0 _, hb0.trans (hb1.mono hb0.size)⟩
def MadePost (w : World) (e : Ending) (w' : World) : Prop := Below w.heap.size w w' ∧ ∃ (c : Cl) (f z : Nat → Int) (n p : Nat) (A : Option Addr) (cap : Nat), e = .returned (.agg (cL c (.slice A n cap)).toArray) ∧ NodesAt w' A (nds f z p n) ∧ n ≤ cap ∧ Fz f z n ∧ (1 ≤ n ∧ n ≤ 16) ∧ (1 ≤ p ∧ p ≤ 64) ∧ (chkC c (nds f z p n)).1 = 0 ∧ c.store = aStore
set_option maxRecDepth 100000 in
set_option maxHeartbeats 8000000 in
theorem made_any (nd rp wd ch : Int) (HA ZA NA : Option Addr) (hc zc nc : Nat) (H Z Nu : List Int) (w : World) (hH : NumsAt w HA H) (hZ : NumsAt w ZA Z) (hN : NumsAt w NA Nu) (cH : H.length ≤ hc) (cZ : Z.length ≤ zc) (cN : Nu.length ≤ nc) (bH : H.length ≤ 1099511627776) (bZ : Z.length ≤ 1099511627776) (bN : Nu.length ≤ 1099511627776) :
    Calls Tryd.prog 24 #[.agg (rawL nd rp wd ch HA ZA NA hc zc nc H Z Nu).toArray] w (MadePost w) := by
  have HM := Aside0.mk (mw_of (rawL nd rp wd ch HA ZA NA hc zc nc H Z Nu) w)
  have HH := Aside0.mk (hH.below HM.out.bel)
  have HZ := Aside0.mk (hZ.below HM.out.bel)
  have HN := Aside0.mk (hN.below HM.out.bel)
  clear hH hZ hN
  go_enter Tryd.func24, Tryd.ntmps24
  go_upto_region 1 with fail
  generalize (w.alloc (.cells (rawL nd rp wd ch HA ZA NA hc zc nc H Z Nu).toArray 51)).alloc (.cells #[.string { data := #[] }, .int .i64 0, .int .i64 0, .int .i64 0, .int .i64 0, .int .i64 0, .int .i64 0, .int .i64 0, .int .i64 0, .int .i64 0, .int .i64 0, .int .i64 0, .int .i64 0, .int .i64 0, .int .i64 0, .int .i64 0, .int .i64 0, .int .i64 0, .int .i64 0, .int .i64 0, .int .i64 0, .int .i64 0, .slice none 0 0] 24) = w1 at HM HH HZ HN ⊢
  obtain ⟨gr, hgr⟩ : ∃ gr, gr = w.heap.size := ⟨_, rfl⟩
  have HRB : Aside0 (w1.heap[gr]? = some (.cells (rawL nd rp wd ch HA ZA NA hc zc nc H Z Nu).toArray 51 (0, 0))) := ⟨by rw [hgr]; exact HM.out.box⟩
  have HRS : Aside0 (w1.heap[gr + 1]? = some (.cells zL.toArray 24 (0, 0))) := ⟨by rw [hgr]; exact HM.out.res⟩
  rw [← hgr]
  have HGR := Aside0.mk hgr
  clear hgr
  have h0 : w1.cell? ⟨gr, 0, none⟩ = some (.int .i64 nd) := by rw [blk_cell HRB.out]; rfl
  go_wp2_with fail
  refine (mod_any nd 16 w1 (by decide) (by decide)).mono ?_
  rintro e w2 ⟨rfl, hb⟩
  have HR2 := Aside0.mk hb
  obtain ⟨m0, m1⟩ := md_lt nd 16 (by decide)
  obtain ⟨m, hm⟩ : ∃ m : Nat, md nd 16 = (m : Int) := ⟨(md nd 16).toNat, by omega⟩
  rw [hm] at m0 m1 ⊢
  have hm16 : m ≤ 15 := by omega
  clear hb h0 hm m0 m1
  have h4 : w2.cell? ⟨gr, 4, none⟩ = some (.slice HA H.length hc) := by rw [blk_cell ((HR2.out.block _ (blk_lt HRB.out)).trans HRB.out)]; rfl
  obtain ⟨p1, hp1e⟩ : ∃ p1 : Nat, p1 = if H.length < 1 then 1 else H.length := ⟨_, rfl⟩
  obtain ⟨p, hpe⟩ : ∃ p : Nat, p = if 64 < p1 then 64 else p1 := ⟨_, rfl⟩
  have hp1 : 1 ≤ p := by rw [hpe]; split; omega; rw [hp1e]; split <;> omega
  have hp2 : p ≤ 64 := by rw [hpe]; split <;> omega
  have hp3 : p1 ≤ 1099511627776 := by rw [hp1e]; split <;> omega
  have HP1E := Aside0.mk hp1e
  have HPE := Aside0.mk hpe
  clear hp1e hpe
  have HF : Aside0 (Fz (fun j => md (atL H j) (1 + (m : Int))) (fun i => md (atL Z i) 8) (m + 1)) := ⟨⟨fun j => (md_lt _ _ (by omega)).1, fun j => by have := (md_lt (atL H j) (1 + (m : Int)) (by omega)).2; omega, fun i => by have := md_lt (atL Z i) 8 (by decide); omega⟩⟩
  obtain ⟨f, hf⟩ : ∃ f : Nat → Int, f = fun j => md (atL H j) (1 + (m : Int)) := ⟨_, rfl⟩
  obtain ⟨z, hz⟩ : ∃ z : Nat → Int, z = fun i => md (atL Z i) 8 := ⟨_, rfl⟩
  rw [← hf, ← hz] at HF
  have HFE : Aside0 (∀ j, md (atL H j) (1 + (m : Int)) = f j) := ⟨fun j => by rw [hf]⟩
  have HZE : Aside0 (∀ i, md (atL Z i) 8 = z i) := ⟨fun i => by rw [hz]⟩
  have HO0 := Aside0.mk (Own.nil w2 w1.heap.size)
  have HFL : Aside0 (∀ k, full (nds f z p k) ≤ k) := ⟨fun k => by have := full_le (nds f z p k); rwa [nds_length] at this⟩
  clear hf hz
  go_upto_if 22 with fail
  go_cut [4] (fun s4 wx => s4 = .int .i64 (p1 : Nat) ∧ wx = w2)
  case first =>
    by_cases e1 : H.length < 1
    · go_wp2_with fail
      go_meet
      exact ⟨by rw [HP1E.out, if_pos e1]; rfl, rfl⟩
    · go_wp2_with fail
      go_meet
      exact ⟨by rw [HP1E.out, if_neg e1], rfl⟩
  case rest =>
    obtain ⟨rfl, hw⟩ := hcut; rw [hw]; clear hw
    clear h4
    go_upto_if 24 with fail
    go_cut [4] (fun s4 wx => s4 = .int .i64 (p : Nat) ∧ wx = w2)
    case first =>
      by_cases e1 : 64 < p1
      · go_wp2_with fail
        go_meet
        exact ⟨by rw [HPE.out, if_pos e1]; rfl, rfl⟩
      · go_wp2_with fail
        go_meet
        exact ⟨by rw [HPE.out, if_neg e1], rfl⟩
    case rest =>
      obtain ⟨rfl, hw⟩ := hcut; rw [hw]; clear hw
      go_wp2_with fail
      go_loopw [5, 6, 7, 8, 9] (fun v5 v6 v7 _ _ wr => ∃ (k : Nat) (vs : List Value), k ≤ m + 1 ∧ v7 = .int .i64 (k : Nat) ∧ v6 = .int .i64 (full (nds f z p k) : Nat) ∧ Aside0 (Below w1.heap.size w1 wr) ∧ Aside0 (Own wr w1.heap.size v5 (nds f z p k) vs)) (fun _ _ v7 _ _ _ => m + 1 - (intOf v7).toNat)
      case atStart => exact ⟨0, [], Nat.zero_le _, rfl, rfl, HR2, HO0⟩
      case round =>
        clear HO0 HR2
        obtain ⟨k, vs, hk, rfl, rfl, HR, HO⟩ := hrel
        obtain ⟨wo, rfl⟩ : ∃ wo : World, wo = wr := ⟨_, rfl⟩
        have hfl := HFL.out k
        by_cases hlt : k < m + 1
        · have h5 : wo.cell? ⟨gr, 5, none⟩ = some (.slice ZA Z.length zc) := by rw [blk_cell ((HR.out.block _ (blk_lt HRB.out)).trans HRB.out)]; rfl
          go_wp2_with fail
          refine (at_any ZA zc Z k wo (HZ.out.below HR.out) cZ bZ).mono ?_
          rintro e w3 ⟨rfl, hb⟩
          have HR3 := Aside0.mk (HR.out.trans (hb.mono HR.out.size))
          have HO3 := Aside0.mk (HO.out.below hb)
          clear hb h5
          go_wp2_with fail
          refine (mod_any (atL Z k) 8 w3 (by decide) (by decide)).mono ?_
          rintro e w4 ⟨rfl, hb⟩
          rw [HZE.out k]
          have HR4 := Aside0.mk (HR3.out.trans (hb.mono HR3.out.size))
          have HO4 := Aside0.mk (HO3.out.below hb)
          clear hb
          go_upto_region 13 with fail
          have HBL : Aside0 ((w4.alloc (.cells #[.int .i64 (z k), .slice none 0 0] 56)).heap[w4.heap.size]? = some (.cells #[.int .i64 (z k), .slice none 0 0] 56 (0, 0))) := ⟨Go.heap_alloc_new w4 _⟩
          have HB5 : Aside0 (Below w4.heap.size w4 (w4.alloc (.cells #[.int .i64 (z k), .slice none 0 0] 56))) := ⟨(Below.refl _ _).alloc (Nat.le_refl _) _⟩
          have HSZ5 : Aside0 (w4.heap.size + 1 ≤ (w4.alloc (.cells #[.int .i64 (z k), .slice none 0 0] 56)).heap.size) := ⟨by simp⟩
          generalize w4.alloc (.cells #[.int .i64 (z k), .slice none 0 0] 56) = w5 at HBL HB5 HSZ5 ⊢
          obtain ⟨gd, hgd⟩ : ∃ gd, gd = w4.heap.size := ⟨_, rfl⟩
          rw [← hgd] at HBL HB5 HSZ5 ⊢
          have HGD := Aside0.mk hgd
          clear hgd
          have HLO : Aside0 (w5.ownsRow (gd + 1) 3 1 (.slice none 0 0) (ps f (k : Nat) 0).length (nums .i64 (ps f (k : Nat) 0))) := ⟨World.ownsRow_nil _ _ _ _⟩
          go_wp2_with fail
          go_loopw [9] (fun v9 wr => ∃ (j : Nat) (lv : Value), j ≤ p ∧ v9 = .int .i64 (j : Nat) ∧ Aside0 (Below gd w4 wr) ∧ Aside0 (wr.heap[gd]? = some (.cells #[.int .i64 (z k), lv] 56 (0, 0))) ∧ Aside0 (wr.ownsRow (gd + 1) 3 1 lv (ps f (k : Nat) j).length (nums .i64 (ps f (k : Nat) j))) ∧ Aside0 (gd + 1 ≤ wr.heap.size)) (fun v9 _ => p - (intOf v9).toNat)
          case atStart => exact ⟨0, _, Nat.zero_le _, rfl, HB5, HBL, HLO, HSZ5⟩
          case round =>
            clear HB5 HBL HLO HSZ5
            obtain ⟨j, lv, hj, rfl, HB, HBL, HLO, HSZ⟩ := hrel
            obtain ⟨wi, rfl⟩ : ∃ wi : World, wi = wr := ⟨_, rfl⟩
            have HRI : Aside0 (Below w1.heap.size w1 wi) := ⟨by have := HB.out; rw [HGD.out] at this; exact HR4.out.trans (this.mono HR4.out.size)⟩
            have hpsl := ps_le f (k : Nat) j
            obtain ⟨lA, lc, rfl, hlc⟩ := own_form HLO.out
            by_cases hjl : j < p
            · have h4 : wi.cell? ⟨gr, 4, none⟩ = some (.slice HA H.length hc) := by rw [blk_cell ((HRI.out.block _ (blk_lt HRB.out)).trans HRB.out)]; rfl
              go_wp2_with fail
              refine (at_any HA hc H j wi (HH.out.below HRI.out) cH bH).mono ?_
              rintro e wa ⟨rfl, hb⟩
              have HBA := Aside0.mk hb
              clear hb h4
              go_wp2_with fail
              refine (mod_any (atL H j) (1 + (m : Int)) wa (by omega) (by omega)).mono ?_
              rintro e wb ⟨rfl, hb2⟩
              rw [HFE.out j]
              have HBB : Aside0 (Below wi.heap.size wi wb) := ⟨HBA.out.trans (hb2.mono HBA.out.size)⟩
              have HBI : Aside0 (Below gd w4 wb) := ⟨HB.out.trans (HBB.out.mono (by have := HSZ.out; omega))⟩
              have HBL2 := Aside0.mk ((HBB.out.block _ (blk_lt HBL.out)).trans HBL.out)
              have HLO2 := Aside0.mk (own_later2 HLO.out HBB.out)
              have HSZ2 : Aside0 (gd + 1 ≤ wb.heap.size) := ⟨Nat.le_trans HSZ.out HBB.out.size⟩
              clear hb2
              by_cases he : f j = (k : Int)
              · have hq : (f j == (k : Int)) = true := by rw [he]; simp
                have HPS : Aside0 (ps f (k : Nat) (j + 1) = ps f (k : Nat) j ++ [(j : Int)]) := ⟨by show (if f j = _ then _ else _) = _; rw [if_pos he]⟩
                obtain ⟨ln, hln⟩ : ∃ ln, ln = (ps f (k : Nat) j).length := ⟨_, rfl⟩
                have HLN := Aside0.mk hln
                rw [← hln] at HBL2 HLO2 hpsl hlc
                have h1 : wb.cell? ⟨gd, 1, none⟩ = some (.slice lA ln lc) := by rw [blk_cell HBL2.out]; rfl
                have hsz2 := HSZ2.out
                clear he hln
                go_wp2_with ((with_reducible refine gate_call (args := #[.tmp 50, .tmp 52]) rfl ?_); refine Hid.out ?_)
                refine Lib.hid ?_
                refine list_append_any (P := Tryd.prog) rfl (gd + 1) (.tmp 50) (.tmp 52) 36 3 _ 1 8 rfl Tryd.underlying36 infoI rfl (by decide) (by decide) (.slice lA ln lc) ln (nums .i64 (ps f (k : Nat) j)) (some ⟨wb.heap.size, 0, none⟩) 1 1 [.int .i64 (j : Nat)] ?hs ?hx rfl (by simp [Value.oneCell']) (.inr ⟨_, rfl, fun i u hi => by have := news wb [.int .i64 (j : Nat)] 3 i u hi; rwa [show (⟨wb.heap.size, 0, none⟩ : Addr).add i = ⟨wb.heap.size, i, none⟩ by unfold Addr.add; split <;> simp_all]⟩) (HLO2.out.alloc _) (by simp; omega) (by omega) (ln + 1) rfl ?_
                case hs => rfl
                case hx => rfl
                intro A5 c5 w7 hle5 hown5 hg5
                have hbx : (wb.alloc (.cells #[.int .i64 (j : Nat)] 3)).heap[gd]? = some (.cells #[.int .i64 (z k), .slice lA ln lc] 56 (0, 0)) := (Go.heap_alloc_old wb _ (blk_lt HBL2.out)).trans HBL2.out
                have HBL7 : Aside0 (w7.heap[gd]? = some (.cells #[.int .i64 (z k), .slice lA ln lc] 56 (0, 0))) := ⟨(hg5.block _ (blk_lt hbx) (own_far HLO2.out (Nat.lt_succ_self gd))).trans hbx⟩
                have hs7 : gd + 1 ≤ w7.heap.size := by have h := hg5.size; simp at h; omega
                have HB8 : Aside0 (Below gd w4 (w7.setCell ⟨gd, 1, none⟩ (.slice A5 (ln + 1) c5))) := ⟨((HBI.out.alloc (by omega) _).grown hg5 (by simp; omega) (fun q hq => by have := own_base HLO2.out q hq; omega)).setCell (Nat.le_refl gd) _⟩
                have HBL8 : Aside0 ((w7.setCell ⟨gd, 1, none⟩ (.slice A5 (ln + 1) c5)).heap[gd]? = some (.cells #[.int .i64 (z k), .slice A5 (ps f (k : Nat) (j + 1)).length c5] 56 (0, 0))) := ⟨by rw [HPS.out, List.length_append, List.length_singleton, ← HLN.out]; exact (blk_set HBL7.out _ _).trans rfl⟩
                have HLO8 : Aside0 ((w7.setCell ⟨gd, 1, none⟩ (.slice A5 (ln + 1) c5)).ownsRow (gd + 1) 3 1 (.slice A5 (ps f (k : Nat) (j + 1)).length c5) (ps f (k : Nat) (j + 1)).length (nums .i64 (ps f (k : Nat) (j + 1)))) := ⟨by rw [HPS.out, List.length_append, List.length_singleton, ← HLN.out, nums_append]; exact own_setCell hown5 (Nat.lt_succ_self gd)⟩
                have HSZ8 : Aside0 (gd + 1 ≤ (w7.setCell ⟨gd, 1, none⟩ (.slice A5 (ln + 1) c5)).heap.size) := ⟨by simpa using hs7⟩
                have h1 : w7.cell? ⟨gd, 1, none⟩ = some (.slice lA ln lc) := by rw [blk_cell HBL7.out]; rfl
                have hfz : w7.frozen? ⟨gd, 1, none⟩ = false := blk_frozen HBL7.out 1
                clear hown5 hg5 hbx hs7
                go_wp2_with fail
                go_roundw
                case rel => exact ⟨j + 1, _, by omega, by go_num, HB8, HBL8, HLO8, HSZ8⟩
                case measure => simp [intOf]; omega
              · have hq : (f j == (k : Int)) = false := by simpa using he
                have HPS : Aside0 (ps f (k : Nat) (j + 1) = ps f (k : Nat) j) := ⟨by show (if f j = _ then _ else _) = _; rw [if_neg he]⟩
                clear he
                go_wp2_with fail
                go_roundw
                case rel => exact ⟨j + 1, _, by omega, by go_num, HBI, HBL2, ⟨by rw [HPS.out]; exact HLO2.out⟩, HSZ2⟩
                case measure => simp [intOf]; omega
            · have hjp : j = p := by omega
              have HPL : Aside0 (ps f (k : Nat) j = ps f (k : Nat) p) := ⟨by rw [hjp]⟩
              rw [HPL.out] at HBL HLO hpsl hlc
              clear hjp
              have HON := Aside0.mk (HO4.out.below (by have := HB.out; rwa [HGD.out] at this))
              have HFN : Aside0 (full (nds f z p (k + 1)) = full (nds f z p k) + if 0 < (ps f (k : Nat) p).length then 1 else 0) := ⟨by
                show full (nds f z p k ++ [(z k, ps f (k : Nat) p)]) = _
                rw [full_app]
                congr 1
                unfold full
                by_cases e : 0 < (ps f (k : Nat) p).length
                · rw [if_pos e, List.filter_cons_of_pos (by simpa using e)]; rfl
                · rw [if_neg e, List.filter_cons_of_neg (by simpa using e)]; rfl⟩
              have hnl := nds_length f z p k
              obtain ⟨ln, hln⟩ : ∃ ln, ln = (ps f (k : Nat) p).length := ⟨_, rfl⟩
              have HLN := Aside0.mk hln
              rw [← hln] at HBL HLO HFN hpsl hlc
              clear hln
              obtain ⟨F, hF⟩ : ∃ F, F = full (nds f z p k) := ⟨_, rfl⟩
              rw [← hF] at HFN hfl ⊢
              clear hF
              have hc0 : wi.cell? ⟨gd, 0, none⟩ = some (.int .i64 (z k)) := by rw [blk_cell HBL.out]; rfl
              have hc1 : wi.cell? ⟨gd, 1, none⟩ = some (.slice lA ln lc) := by rw [blk_cell HBL.out]; rfl
              obtain ⟨nA, nC, rfl, hnC⟩ := own_form HON.out.row
              rw [hnl] at hnC HON ⊢
              have HROW : Aside0 (wi.ownsRow w1.heap.size 56 2 (.slice nA k nC) k (ndsC (nds f z p k) vs)) := ⟨by have := HON.out.row; rwa [hnl] at this⟩
              have hsw := HRI.out.size
              have hfin : ∃ F2 : Nat, F2 = full (nds f z p (k + 1)) ∧ ((0 < ln ∧ F2 = F + 1) ∨ (ln < 1 ∧ F2 = F)) := by
                rw [HFN.out]
                by_cases e : 0 < ln
                · exact ⟨_, rfl, .inl ⟨e, by rw [if_pos e]⟩⟩
                · exact ⟨_, rfl, .inr ⟨by omega, by rw [if_neg e, Nat.add_zero]⟩⟩
              obtain ⟨F2, hF2, hcs⟩ := hfin
              have HF2 := Aside0.mk hF2
              clear hF2
              rcases hcs with ⟨e1, e2⟩ | ⟨e1, e2⟩
              all_goals
                go_wp2_with ((with_reducible refine gate_call (args := #[.tmp 61, .tmp 63]) rfl ?_); refine Hid.out ?_)
                refine Lib.hid ?_
                refine list_append_any (P := Tryd.prog) rfl w1.heap.size (.tmp 61) (.tmp 63) 22 56 _ 2 32 rfl Tryd.underlying22 infoN rfl (by decide) (by decide) (.slice nA k nC) k (ndsC (nds f z p k) vs) (some ⟨wi.heap.size, 0, none⟩) 1 1 [.int .i64 (z k), .slice lA ln lc] ?hs ?hx rfl (by simp [Value.oneCell']) (.inr ⟨_, rfl, fun i u hi => by have := news wi [.int .i64 (z k), .slice lA ln lc] 56 i u hi; rwa [show (⟨wi.heap.size, 0, none⟩ : Addr).add i = ⟨wi.heap.size, i, none⟩ by unfold Addr.add; split <;> simp_all]⟩) (HROW.out.alloc _) (by simp; omega) (by omega) (k + 1) rfl ?_
                case hs => rfl
                case hx => rfl
                intro A6 c6 w8 hle6 hown6 hg6
                have HON8 : Aside0 (Own w8 w1.heap.size (.slice A6 (k + 1) c6) (nds f z p (k + 1)) (vs ++ [.slice lA ln lc])) := ⟨by
                  refine Own.snoc (n := (z k, ps f (k : Nat) p)) (HON.out.below ((Below.refl _ _).alloc (Nat.le_refl _) (.cells #[.int .i64 (z k), .slice lA ln lc] 56))) ?_ (by rw [hnl]; exact hown6) hg6
                  rw [← HLN.out]
                  exact (own_weaken HLO.out (by have := HGD.out; have := HR4.out.size; omega)).alloc _⟩
                have HR8 : Aside0 (Below w1.heap.size w1 w8) := ⟨(HRI.out.alloc HRI.out.size _).grown hg6 (by simp; omega) (own_base HROW.out)⟩
                clear hown6 hg6
                go_wp2_with fail
                go_roundw
                case rel => exact ⟨k + 1, _, by omega, by go_num, by rw [← HF2.out]; subst e2; first | rfl | go_num, HR8, HON8⟩
                case measure => simp [intOf]; omega
        · obtain rfl : k = m + 1 := by omega
          have hfp : 1 ≤ full (nds f z p (m + 1)) := full_pos (by rw [made_cnt HF.out p]; omega)
          obtain ⟨F, hF⟩ : ∃ F, F = full (nds f z p (m + 1)) := ⟨_, rfl⟩
          rw [← hF] at hfl hfp ⊢
          have HFF := Aside0.mk hF
          clear hF hlt hk
          have hFP : F * p ≤ 16 * 64 := Nat.mul_le_mul (by omega) hp2
          obtain ⟨FP, hFPe⟩ : ∃ FP, FP = F * p := ⟨_, rfl⟩
          rw [← hFPe] at hFP
          have hw1 : IntKind.i64.wrap ((F : Int) * (p : Int)) = (FP : Int) := by rw [hFPe, IntWalk.i64_in _ (by rw [← Int.natCast_mul, ← hFPe]; omega), Int.natCast_mul]
          have hdv : (512 : Int) / (p : Int) = ((512 / p : Nat) : Int) := by rw [Int.natCast_ediv]; rfl
          obtain ⟨M, hM⟩ : ∃ M : Nat, M = if 512 < FP then 512 / p else F := ⟨_, rfl⟩
          have hM1 : 1 ≤ M := by
            rw [hM]; split
            · exact (Nat.le_div_iff_mul_le (by omega)).2 (by omega)
            · exact hfp
          have hM2 : M ≤ F := by
            rw [hM]; split
            · exact Nat.div_le_of_le_mul (by rw [Nat.mul_comm, ← hFPe]; omega)
            · exact Nat.le_refl _
          have hM3 : M * p ≤ 512 := by
            rw [hM]; split
            · exact Nat.div_mul_le_self 512 p
            · rw [← hFPe]; omega
          have HM1 := Aside0.mk hM
          have HM3 := Aside0.mk hM3
          clear hM hFPe hM3
          go_upto_if 69 with fail
          go_cut [10] (fun s10 wx => s10 = .int .i64 (M : Nat) ∧ wx = wo)
          case first =>
            by_cases e1 : 512 < FP
            · go_wp2_with fail
              go_meet
              exact ⟨by rw [HM1.out, if_pos e1, ← hdv], rfl⟩
            · go_wp2_with fail
              go_meet
              exact ⟨by rw [HM1.out, if_neg e1], rfl⟩
          case rest =>
            obtain ⟨rfl, hw⟩ := hcut; rw [hw]; clear hw
            clear hw1 hdv hFP
            have c1 : wo.cell? ⟨gr, 1, none⟩ = some (.int .i64 rp) := by rw [blk_cell ((HR.out.block _ (blk_lt HRB.out)).trans HRB.out)]; rfl
            go_wp2_with fail
            refine (mod_any rp (M : Nat) wo (by omega) (by omega)).mono ?_
            rintro e w3 ⟨rfl, hb⟩
            have HR3 := Aside0.mk (HR.out.trans (hb.mono HR.out.size))
            have HO3 := Aside0.mk (HO.out.below hb)
            obtain ⟨r0, r1⟩ := md_lt rp (M : Nat) (by omega)
            obtain ⟨r, hr⟩ : ∃ r : Nat, md rp (M : Nat) = (r : Int) := ⟨(md rp (M : Nat)).toNat, by omega⟩
            rw [hr] at r0 r1 ⊢
            have hrM : r < M := by omega
            clear hb c1 hr r0 r1
            have c3 : w3.cell? ⟨gr, 3, none⟩ = some (.int .i64 ch) := by rw [blk_cell ((HR3.out.block _ (blk_lt HRB.out)).trans HRB.out)]; rfl
            go_wp2_with fail
            refine (mod_any ch 16 w3 (by decide) (by decide)).mono ?_
            rintro e w4 ⟨rfl, hb⟩
            have HR4 := Aside0.mk (HR3.out.trans (hb.mono HR3.out.size))
            have HO4 := Aside0.mk (HO3.out.below hb)
            obtain ⟨r0, r1⟩ := md_lt ch 16 (by decide)
            obtain ⟨q, hq⟩ : ∃ q : Nat, md ch 16 = (q : Int) := ⟨(md ch 16).toNat, by omega⟩
            rw [hq] at r0 r1 ⊢
            have hq16 : q ≤ 15 := by omega
            clear hb c3 hq r0 r1
            obtain ⟨R1, hR1⟩ : ∃ R1 : Nat, R1 = 1 + r := ⟨_, rfl⟩
            obtain ⟨Q1, hQ1⟩ : ∃ Q1 : Nat, Q1 = 1 + q := ⟨_, rfl⟩
            have HeR : Aside0 (((R1 : Nat) : Int) = 1 + (r : Int)) := ⟨by omega⟩
            have HeQ : Aside0 (((Q1 : Nat) : Int) = 1 + (q : Int)) := ⟨by omega⟩
            have hR1b : 1 ≤ R1 ∧ R1 ≤ M := by omega
            have hQ1b : 1 ≤ Q1 ∧ Q1 ≤ 16 := by omega
            have HR1E := Aside0.mk hR1
            have HQ1E := Aside0.mk hQ1
            clear hR1 hQ1
            rw [← HeR.out]
            go_upto_region 26 with fail
            rw [← HeQ.out]
            obtain ⟨X1, hX1⟩ : ∃ X1 : Nat, X1 = Q1 * p := ⟨_, rfl⟩
            obtain ⟨X2, hX2⟩ : ∃ X2 : Nat, X2 = X1 * R1 := ⟨_, rfl⟩
            obtain ⟨Y, hY⟩ : ∃ Y : Nat, Y = p * R1 := ⟨_, rfl⟩
            have bX1 : X1 ≤ 16 * 64 := by rw [hX1]; exact Nat.mul_le_mul hQ1b.2 hp2
            have bX2 : X2 ≤ 1024 * 16 := by rw [hX2]; exact Nat.mul_le_mul (by omega) (by omega)
            have bY : Y ≤ 512 := by rw [hY]; exact Nat.le_trans (Nat.mul_le_mul (Nat.le_refl p) hR1b.2) (by rw [Nat.mul_comm]; exact HM3.out)
            have bY1 : 1 ≤ Y := by rw [hY]; exact Nat.mul_pos (by omega) (by omega)
            have hXY : X2 = Q1 * Y := by rw [hX2, hX1, hY, Nat.mul_assoc]
            obtain ⟨C, hC⟩ : ∃ C : Nat, C = if 512 < X2 then 512 / Y else Q1 := ⟨_, rfl⟩
            have hC1 : 1 ≤ C := by
              rw [hC]; split
              · exact (Nat.le_div_iff_mul_le (by omega)).2 (by omega)
              · omega
            have hC2 : C ≤ 16 := by
              rw [hC]; split
              · exact Nat.le_trans (Nat.div_le_of_le_mul (by rw [Nat.mul_comm, ← hXY]; omega)) hQ1b.2
              · omega
            have hC3 : C * Y ≤ 512 := by
              rw [hC]; split
              · exact Nat.div_mul_le_self 512 Y
              · rw [← hXY]; omega
            have HCE := Aside0.mk hC
            have HCY := Aside0.mk hC3
            have HYE := Aside0.mk hY
            have hw1 : IntKind.i64.wrap ((Q1 : Int) * (p : Int)) = (X1 : Int) := by rw [hX1, IntWalk.i64_in _ (by rw [← Int.natCast_mul, ← hX1]; omega), Int.natCast_mul]
            have hw2 : IntKind.i64.wrap ((X1 : Int) * (R1 : Int)) = (X2 : Int) := by rw [hX2, IntWalk.i64_in _ (by rw [← Int.natCast_mul, ← hX2]; omega), Int.natCast_mul]
            have hw3 : IntKind.i64.wrap ((p : Int) * (R1 : Int)) = (Y : Int) := by rw [hY, IntWalk.i64_in _ (by rw [← Int.natCast_mul, ← hY]; omega), Int.natCast_mul]
            have hdv : (512 : Int) / (Y : Int) = ((512 / Y : Nat) : Int) := by rw [Int.natCast_ediv]; rfl
            have HW1 := Aside0.mk hw1
            have HW2 := Aside0.mk hw2
            have HW3 := Aside0.mk hw3
            have HDV := Aside0.mk hdv
            clear hw1 hw2 hw3 hdv hX1 hX2 hY hXY hC hC3
            have hw1 := HW1.out
            have hw2 := HW2.out
            have hw3 := HW3.out
            go_upto_if 86 with fail
            go_cut [12] (fun s12 wx => s12 = .int .i64 (C : Nat) ∧ wx = w4)
            case first =>
              by_cases e1 : 512 < X2
              · go_wp2_with fail
                go_meet
                exact ⟨by rw [HCE.out, if_pos e1, ← HDV.out], rfl⟩
              · go_wp2_with fail
                go_meet
                exact ⟨by rw [HCE.out, if_neg e1], rfl⟩
            case rest =>
              obtain ⟨rfl, hw⟩ := hcut; rw [hw]; clear hw
              clear hw1 hw2 hw3 bX1 bX2
              have HRB4 : Aside0 (w4.heap[gr]? = some (.cells (rawL nd rp wd ch HA ZA NA hc zc nc H Z Nu).toArray 51 (0, 0))) := ⟨(HR4.out.block _ (blk_lt HRB.out)).trans HRB.out⟩
              have HN4 := Aside0.mk (HN.out.below HR4.out)
              obtain ⟨W1, gW1, eW⟩ := md_letter wd 16 16 rfl (by decide) (by decide)
              have HWW := Aside0.mk eW
              have GW1 := Aside0.mk gW1
              clear eW gW1
              obtain ⟨V3, g, e⟩ := md_letter (atL Nu 0) 8 8 rfl (by decide) (by decide)
              have HL3 := Aside0.mk e
              have G3 := Aside0.mk g
              clear e g
              obtain ⟨V4, g, e⟩ := md_letter (atL Nu 1) 4096 4096 rfl (by decide) (by decide)
              have HL4 := Aside0.mk e
              have G4 := Aside0.mk g
              clear e g
              obtain ⟨V5, g, e⟩ := md_letter (atL Nu 2) 65536 65536 rfl (by decide) (by decide)
              have HL5 := Aside0.mk e
              have G5 := Aside0.mk g
              clear e g
              obtain ⟨V6, g, e⟩ := md_letter (atL Nu 3) 1024 1024 rfl (by decide) (by decide)
              have HL6 := Aside0.mk e
              have G6 := Aside0.mk g
              clear e g
              obtain ⟨V8, g, e⟩ := md_letter (atL Nu 5) 64 64 rfl (by decide) (by decide)
              have HL8 := Aside0.mk e
              have G8 := Aside0.mk g
              clear e g
              obtain ⟨V9, g, e⟩ := md_letter (atL Nu 6) 1024 1024 rfl (by decide) (by decide)
              have HL9 := Aside0.mk e
              have G9 := Aside0.mk g
              clear e g
              obtain ⟨V11, g, e⟩ := md_letter (atL Nu 8) 1073741824 1073741824 rfl (by decide) (by decide)
              have HL11 := Aside0.mk e
              have G11 := Aside0.mk g
              clear e g
              obtain ⟨V12, g, e⟩ := md_letter (atL Nu 9) 1073741824 1073741824 rfl (by decide) (by decide)
              have HL12 := Aside0.mk e
              have G12 := Aside0.mk g
              clear e g
              obtain ⟨V13, g, e⟩ := md_letter (atL Nu 10) 1073741824 1073741824 rfl (by decide) (by decide)
              have HL13 := Aside0.mk e
              have G13 := Aside0.mk g
              clear e g
              obtain ⟨V14, g, e⟩ := md_letter (atL Nu 11) 1024 1024 rfl (by decide) (by decide)
              have HL14 := Aside0.mk e
              have G14 := Aside0.mk g
              clear e g
              obtain ⟨V15, g, e⟩ := md_letter (atL Nu 12) 64 64 rfl (by decide) (by decide)
              have HL15 := Aside0.mk e
              have G15 := Aside0.mk g
              clear e g
              obtain ⟨V16, g, e⟩ := md_letter (atL Nu 13) 65536 65536 rfl (by decide) (by decide)
              have HL16 := Aside0.mk e
              have G16 := Aside0.mk g
              clear e g
              obtain ⟨V17, g, e⟩ := md_letter (atL Nu 14) 1024 1024 rfl (by decide) (by decide)
              have HL17 := Aside0.mk e
              have G17 := Aside0.mk g
              clear e g
              obtain ⟨V18, g, e⟩ := md_letter (atL Nu 15) 64 64 rfl (by decide) (by decide)
              have HL18 := Aside0.mk e
              have G18 := Aside0.mk g
              clear e g
              obtain ⟨V19, g, e⟩ := md_letter (atL Nu 16) 1024 1024 rfl (by decide) (by decide)
              have HL19 := Aside0.mk e
              have G19 := Aside0.mk g
              clear e g
              obtain ⟨D7, V7, hd7, hD0, g7, e7, e8⟩ := pair_letter V4 (atL Nu 4) 65537 (by have := G4.out; omega) (by decide)
              have HD7 := Aside0.mk e7
              have HL7 := Aside0.mk e8
              have G7 := Aside0.mk g7
              clear g7 e7 e8
              obtain ⟨D10, V10, hd10, hD1, g7, e7, e8⟩ := pair_letter V9 (atL Nu 7) 1025 (by have := G9.out; omega) (by decide)
              have HD10 := Aside0.mk e7
              have HL10 := Aside0.mk e8
              have G10 := Aside0.mk g7
              clear g7 e7 e8
              have HB20 := Aside0.mk (md_lt (atL Nu 17) 8 (by decide))
              have HR116 : Aside0 (1 ≤ R1 ∧ R1 ≤ 16) := ⟨by omega⟩
              have HC16 : Aside0 (1 ≤ C ∧ C ≤ 16) := ⟨⟨hC1, hC2⟩⟩
              have HV4 : Aside0 (V4 ≤ 4096) := ⟨G4.out.2⟩
              have HV9 : Aside0 (V9 ≤ 1024) := ⟨G9.out.2⟩
              have HSET : Aside0 (setB (clM R1 W1 C V3 V4 V5 V6 V7 V8 V9 V10 V11 V12 V13 V14 V15 V16 V17 V18 V19 (md (atL Nu 17) 8)) = true) := ⟨setB_made R1 W1 C V3 V4 V5 V6 V7 V8 V9 V10 V11 V12 V13 V14 V15 V16 V17 V18 V19 _ HR116.out GW1.out HC16.out G3.out G4.out G5.out G6.out (le_65536 G4.out.1 G7.out) G8.out G9.out (le_1024 G9.out.1 G10.out) G11.out G12.out G13.out G14.out G15.out G16.out G17.out G18.out G19.out (le_7 HB20.out) G7.out.1 G10.out.1⟩
              go_upto_region 28 with fail
              refine MadeA.made28 _ _ w4 gr nd rp wd ch HA ZA NA hc zc nc H Z Nu R1 W1 C V3 V4 V5 V6 V8 V9 HRB4 HN4 cN bN HWW HL3 HL4 HL5 HL6 HL8 HL9 rfl rfl rfl rfl ?_
              intro w5 gv hgv hB5 hblk
              have HV5 : Aside0 (Below w4.heap.size w4 w5) ∧ Aside0 (w5.heap[gv]? = some (.cells ([.int .i64 ((R1 : Nat) : Int), .int .i64 ((W1 : Nat) : Int), .int .i64 ((C : Nat) : Int), .int .i64 ((V3 : Nat) : Int), .int .i64 ((V4 : Nat) : Int), .int .i64 ((V5 : Nat) : Int), .int .i64 ((V6 : Nat) : Int), .int .i64 0, .int .i64 ((V8 : Nat) : Int), .int .i64 ((V9 : Nat) : Int), .int .i64 0, .int .i64 0, .int .i64 0, .int .i64 0, .int .i64 0, .int .i64 0, .int .i64 0, .int .i64 0, .int .i64 0, .int .i64 0, .int .i64 0] : List Value).toArray 102 (0, 0))) := ⟨⟨hB5⟩, ⟨hblk⟩⟩
              have HGV := Aside0.mk hgv
              clear hB5 hblk hgv
              simp only [RegA.putV, Act.put, List.setIfInBounds_toArray, List.set_cons_zero, List.set_cons_succ]
              go_upto_region 29 with fail
              refine MadeB.made29 _ _ w4 w5 gr gv nd rp wd ch HA ZA NA hc zc nc H Z Nu R1 W1 C V3 V4 V5 V6 V7 V8 V9 V10 D7 D10 HRB4 HN4 cN bN HD7 HL7 hd7 HV4.out HGV.out HV5 rfl rfl rfl ?_
              intro w6 hB5 hblk
              have HV6 : Aside0 (Below w4.heap.size w4 w6) ∧ Aside0 (w6.heap[gv]? = some (.cells ([.int .i64 ((R1 : Nat) : Int), .int .i64 ((W1 : Nat) : Int), .int .i64 ((C : Nat) : Int), .int .i64 ((V3 : Nat) : Int), .int .i64 ((V4 : Nat) : Int), .int .i64 ((V5 : Nat) : Int), .int .i64 ((V6 : Nat) : Int), .int .i64 ((V7 : Nat) : Int), .int .i64 ((V8 : Nat) : Int), .int .i64 ((V9 : Nat) : Int), .int .i64 0, .int .i64 0, .int .i64 0, .int .i64 0, .int .i64 0, .int .i64 0, .int .i64 0, .int .i64 0, .int .i64 0, .int .i64 0, .int .i64 0] : List Value).toArray 102 (0, 0))) := ⟨⟨hB5⟩, ⟨hblk⟩⟩
              clear hB5 hblk
              simp only [RegA.putV, Act.put, List.setIfInBounds_toArray, List.set_cons_zero, List.set_cons_succ]
              go_upto_region 30 with fail
              refine MadeC.made30 _ _ w4 w6 gr gv nd rp wd ch HA ZA NA hc zc nc H Z Nu R1 W1 C V3 V4 V5 V6 V7 V8 V9 V10 D7 D10 HRB4 HN4 cN bN HD10 HL10 hd10 HV9.out HGV.out HV6 rfl rfl rfl ?_
              intro w7 hB5 hblk
              have HV7 : Aside0 (Below w4.heap.size w4 w7) ∧ Aside0 (w7.heap[gv]? = some (.cells ([.int .i64 ((R1 : Nat) : Int), .int .i64 ((W1 : Nat) : Int), .int .i64 ((C : Nat) : Int), .int .i64 ((V3 : Nat) : Int), .int .i64 ((V4 : Nat) : Int), .int .i64 ((V5 : Nat) : Int), .int .i64 ((V6 : Nat) : Int), .int .i64 ((V7 : Nat) : Int), .int .i64 ((V8 : Nat) : Int), .int .i64 ((V9 : Nat) : Int), .int .i64 ((V10 : Nat) : Int), .int .i64 0, .int .i64 0, .int .i64 0, .int .i64 0, .int .i64 0, .int .i64 0, .int .i64 0, .int .i64 0, .int .i64 0, .int .i64 0] : List Value).toArray 102 (0, 0))) := ⟨⟨hB5⟩, ⟨hblk⟩⟩
              clear hB5 hblk
              simp only [RegA.putV, Act.put, List.setIfInBounds_toArray, List.set_cons_zero, List.set_cons_succ]
              have h6 : w7.cell? ⟨gr, 6, none⟩ = some (.slice NA Nu.length nc) := by rw [blk_cell ((HV7.1.out.block _ (blk_lt HRB4.out)).trans HRB4.out)]; rfl
              go_wp2_with fail
              refine (at_any NA nc Nu 8 w7 (HN4.out.below HV7.1.out) cN bN).mono ?_
              rintro e wa ⟨rfl, hb⟩
              have HBA := Aside0.mk hb
              clear hb h6
              go_wp2_with fail
              refine (mod_any (atL Nu 8) 1073741824 wa (by decide) (by decide)).mono ?_
              rintro e wb ⟨rfl, hb⟩
              have HBB : Aside0 (Below w7.heap.size w7 wb) := ⟨HBA.out.trans (hb.mono HBA.out.size)⟩
              have HKB := Aside0.mk ((HBB.out.block _ (blk_lt HV7.2.out)).trans HV7.2.out)
              have HBV : Aside0 (Below w4.heap.size w4 wb) := ⟨HV7.1.out.trans (HBB.out.mono HV7.1.out.size)⟩
              have hfz : wb.frozen? ⟨gv, 11, none⟩ = false := blk_frozen HKB.out 11
              have hcc : wb.cell? ⟨gv, 11, none⟩ = some (.int .i64 0) := by rw [blk_cell HKB.out]; rfl
              clear hb HBA HBB
              have hq := HL11.out
              go_upto_region 32 with fail
              have HV8 : Aside0 (Below w4.heap.size w4 (wb.setCell ⟨gv, 11, none⟩ (.int .i64 ((V11 : Nat) : Int)))) ∧ Aside0 ((wb.setCell ⟨gv, 11, none⟩ (.int .i64 ((V11 : Nat) : Int))).heap[gv]? = some (.cells ([.int .i64 ((R1 : Nat) : Int), .int .i64 ((W1 : Nat) : Int), .int .i64 ((C : Nat) : Int), .int .i64 ((V3 : Nat) : Int), .int .i64 ((V4 : Nat) : Int), .int .i64 ((V5 : Nat) : Int), .int .i64 ((V6 : Nat) : Int), .int .i64 ((V7 : Nat) : Int), .int .i64 ((V8 : Nat) : Int), .int .i64 ((V9 : Nat) : Int), .int .i64 ((V10 : Nat) : Int), .int .i64 ((V11 : Nat) : Int), .int .i64 0, .int .i64 0, .int .i64 0, .int .i64 0, .int .i64 0, .int .i64 0, .int .i64 0, .int .i64 0, .int .i64 0] : List Value).toArray 102 (0, 0))) := ⟨⟨HBV.out.setCell HGV.out _⟩, ⟨(blk_set HKB.out _ _).trans rfl⟩⟩
              generalize wb.setCell ⟨gv, 11, none⟩ (.int .i64 ((V11 : Nat) : Int)) = w8 at HV8 ⊢
              clear hq hfz hcc HKB HBV HV7
              have h6 : w8.cell? ⟨gr, 6, none⟩ = some (.slice NA Nu.length nc) := by rw [blk_cell ((HV8.1.out.block _ (blk_lt HRB4.out)).trans HRB4.out)]; rfl
              go_wp2_with fail
              refine (at_any NA nc Nu 9 w8 (HN4.out.below HV8.1.out) cN bN).mono ?_
              rintro e wa ⟨rfl, hb⟩
              have HBA := Aside0.mk hb
              clear hb h6
              go_wp2_with fail
              refine (mod_any (atL Nu 9) 1073741824 wa (by decide) (by decide)).mono ?_
              rintro e wb ⟨rfl, hb⟩
              have HBB : Aside0 (Below w8.heap.size w8 wb) := ⟨HBA.out.trans (hb.mono HBA.out.size)⟩
              have HKB := Aside0.mk ((HBB.out.block _ (blk_lt HV8.2.out)).trans HV8.2.out)
              have HBV : Aside0 (Below w4.heap.size w4 wb) := ⟨HV8.1.out.trans (HBB.out.mono HV8.1.out.size)⟩
              have hfz : wb.frozen? ⟨gv, 12, none⟩ = false := blk_frozen HKB.out 12
              have hcc : wb.cell? ⟨gv, 12, none⟩ = some (.int .i64 0) := by rw [blk_cell HKB.out]; rfl
              clear hb HBA HBB
              have hq := HL12.out
              go_upto_region 33 with fail
              have HV9 : Aside0 (Below w4.heap.size w4 (wb.setCell ⟨gv, 12, none⟩ (.int .i64 ((V12 : Nat) : Int)))) ∧ Aside0 ((wb.setCell ⟨gv, 12, none⟩ (.int .i64 ((V12 : Nat) : Int))).heap[gv]? = some (.cells ([.int .i64 ((R1 : Nat) : Int), .int .i64 ((W1 : Nat) : Int), .int .i64 ((C : Nat) : Int), .int .i64 ((V3 : Nat) : Int), .int .i64 ((V4 : Nat) : Int), .int .i64 ((V5 : Nat) : Int), .int .i64 ((V6 : Nat) : Int), .int .i64 ((V7 : Nat) : Int), .int .i64 ((V8 : Nat) : Int), .int .i64 ((V9 : Nat) : Int), .int .i64 ((V10 : Nat) : Int), .int .i64 ((V11 : Nat) : Int), .int .i64 ((V12 : Nat) : Int), .int .i64 0, .int .i64 0, .int .i64 0, .int .i64 0, .int .i64 0, .int .i64 0, .int .i64 0, .int .i64 0] : List Value).toArray 102 (0, 0))) := ⟨⟨HBV.out.setCell HGV.out _⟩, ⟨(blk_set HKB.out _ _).trans rfl⟩⟩
              generalize wb.setCell ⟨gv, 12, none⟩ (.int .i64 ((V12 : Nat) : Int)) = w9 at HV9 ⊢
              clear hq hfz hcc HKB HBV HV8
              have h6 : w9.cell? ⟨gr, 6, none⟩ = some (.slice NA Nu.length nc) := by rw [blk_cell ((HV9.1.out.block _ (blk_lt HRB4.out)).trans HRB4.out)]; rfl
              go_wp2_with fail
              refine (at_any NA nc Nu 10 w9 (HN4.out.below HV9.1.out) cN bN).mono ?_
              rintro e wa ⟨rfl, hb⟩
              have HBA := Aside0.mk hb
              clear hb h6
              go_wp2_with fail
              refine (mod_any (atL Nu 10) 1073741824 wa (by decide) (by decide)).mono ?_
              rintro e wb ⟨rfl, hb⟩
              have HBB : Aside0 (Below w9.heap.size w9 wb) := ⟨HBA.out.trans (hb.mono HBA.out.size)⟩
              have HKB := Aside0.mk ((HBB.out.block _ (blk_lt HV9.2.out)).trans HV9.2.out)
              have HBV : Aside0 (Below w4.heap.size w4 wb) := ⟨HV9.1.out.trans (HBB.out.mono HV9.1.out.size)⟩
              have hfz : wb.frozen? ⟨gv, 13, none⟩ = false := blk_frozen HKB.out 13
              have hcc : wb.cell? ⟨gv, 13, none⟩ = some (.int .i64 0) := by rw [blk_cell HKB.out]; rfl
              clear hb HBA HBB
              have hq := HL13.out
              go_upto_region 34 with fail
              have HV10 : Aside0 (Below w4.heap.size w4 (wb.setCell ⟨gv, 13, none⟩ (.int .i64 ((V13 : Nat) : Int)))) ∧ Aside0 ((wb.setCell ⟨gv, 13, none⟩ (.int .i64 ((V13 : Nat) : Int))).heap[gv]? = some (.cells ([.int .i64 ((R1 : Nat) : Int), .int .i64 ((W1 : Nat) : Int), .int .i64 ((C : Nat) : Int), .int .i64 ((V3 : Nat) : Int), .int .i64 ((V4 : Nat) : Int), .int .i64 ((V5 : Nat) : Int), .int .i64 ((V6 : Nat) : Int), .int .i64 ((V7 : Nat) : Int), .int .i64 ((V8 : Nat) : Int), .int .i64 ((V9 : Nat) : Int), .int .i64 ((V10 : Nat) : Int), .int .i64 ((V11 : Nat) : Int), .int .i64 ((V12 : Nat) : Int), .int .i64 ((V13 : Nat) : Int), .int .i64 0, .int .i64 0, .int .i64 0, .int .i64 0, .int .i64 0, .int .i64 0, .int .i64 0] : List Value).toArray 102 (0, 0))) := ⟨⟨HBV.out.setCell HGV.out _⟩, ⟨(blk_set HKB.out _ _).trans rfl⟩⟩
              generalize wb.setCell ⟨gv, 13, none⟩ (.int .i64 ((V13 : Nat) : Int)) = w10 at HV10 ⊢
              clear hq hfz hcc HKB HBV HV9
              have h6 : w10.cell? ⟨gr, 6, none⟩ = some (.slice NA Nu.length nc) := by rw [blk_cell ((HV10.1.out.block _ (blk_lt HRB4.out)).trans HRB4.out)]; rfl
              go_wp2_with fail
              refine (at_any NA nc Nu 11 w10 (HN4.out.below HV10.1.out) cN bN).mono ?_
              rintro e wa ⟨rfl, hb⟩
              have HBA := Aside0.mk hb
              clear hb h6
              go_wp2_with fail
              refine (mod_any (atL Nu 11) 1024 wa (by decide) (by decide)).mono ?_
              rintro e wb ⟨rfl, hb⟩
              have HBB : Aside0 (Below w10.heap.size w10 wb) := ⟨HBA.out.trans (hb.mono HBA.out.size)⟩
              have HKB := Aside0.mk ((HBB.out.block _ (blk_lt HV10.2.out)).trans HV10.2.out)
              have HBV : Aside0 (Below w4.heap.size w4 wb) := ⟨HV10.1.out.trans (HBB.out.mono HV10.1.out.size)⟩
              have hfz : wb.frozen? ⟨gv, 14, none⟩ = false := blk_frozen HKB.out 14
              have hcc : wb.cell? ⟨gv, 14, none⟩ = some (.int .i64 0) := by rw [blk_cell HKB.out]; rfl
              clear hb HBA HBB
              have hq := HL14.out
              go_upto_region 35 with fail
              have HV11 : Aside0 (Below w4.heap.size w4 (wb.setCell ⟨gv, 14, none⟩ (.int .i64 ((V14 : Nat) : Int)))) ∧ Aside0 ((wb.setCell ⟨gv, 14, none⟩ (.int .i64 ((V14 : Nat) : Int))).heap[gv]? = some (.cells ([.int .i64 ((R1 : Nat) : Int), .int .i64 ((W1 : Nat) : Int), .int .i64 ((C : Nat) : Int), .int .i64 ((V3 : Nat) : Int), .int .i64 ((V4 : Nat) : Int), .int .i64 ((V5 : Nat) : Int), .int .i64 ((V6 : Nat) : Int), .int .i64 ((V7 : Nat) : Int), .int .i64 ((V8 : Nat) : Int), .int .i64 ((V9 : Nat) : Int), .int .i64 ((V10 : Nat) : Int), .int .i64 ((V11 : Nat) : Int), .int .i64 ((V12 : Nat) : Int), .int .i64 ((V13 : Nat) : Int), .int .i64 ((V14 : Nat) : Int), .int .i64 0, .int .i64 0, .int .i64 0, .int .i64 0, .int .i64 0, .int .i64 0] : List Value).toArray 102 (0, 0))) := ⟨⟨HBV.out.setCell HGV.out _⟩, ⟨(blk_set HKB.out _ _).trans rfl⟩⟩
              generalize wb.setCell ⟨gv, 14, none⟩ (.int .i64 ((V14 : Nat) : Int)) = w11 at HV11 ⊢
              clear hq hfz hcc HKB HBV HV10
              have h6 : w11.cell? ⟨gr, 6, none⟩ = some (.slice NA Nu.length nc) := by rw [blk_cell ((HV11.1.out.block _ (blk_lt HRB4.out)).trans HRB4.out)]; rfl
              go_wp2_with fail
              refine (at_any NA nc Nu 12 w11 (HN4.out.below HV11.1.out) cN bN).mono ?_
              rintro e wa ⟨rfl, hb⟩
              have HBA := Aside0.mk hb
              clear hb h6
              go_wp2_with fail
              refine (mod_any (atL Nu 12) 64 wa (by decide) (by decide)).mono ?_
              rintro e wb ⟨rfl, hb⟩
              have HBB : Aside0 (Below w11.heap.size w11 wb) := ⟨HBA.out.trans (hb.mono HBA.out.size)⟩
              have HKB := Aside0.mk ((HBB.out.block _ (blk_lt HV11.2.out)).trans HV11.2.out)
              have HBV : Aside0 (Below w4.heap.size w4 wb) := ⟨HV11.1.out.trans (HBB.out.mono HV11.1.out.size)⟩
              have hfz : wb.frozen? ⟨gv, 15, none⟩ = false := blk_frozen HKB.out 15
              have hcc : wb.cell? ⟨gv, 15, none⟩ = some (.int .i64 0) := by rw [blk_cell HKB.out]; rfl
              clear hb HBA HBB
              have hq := HL15.out
              go_upto_region 36 with fail
              have HV12 : Aside0 (Below w4.heap.size w4 (wb.setCell ⟨gv, 15, none⟩ (.int .i64 ((V15 : Nat) : Int)))) ∧ Aside0 ((wb.setCell ⟨gv, 15, none⟩ (.int .i64 ((V15 : Nat) : Int))).heap[gv]? = some (.cells ([.int .i64 ((R1 : Nat) : Int), .int .i64 ((W1 : Nat) : Int), .int .i64 ((C : Nat) : Int), .int .i64 ((V3 : Nat) : Int), .int .i64 ((V4 : Nat) : Int), .int .i64 ((V5 : Nat) : Int), .int .i64 ((V6 : Nat) : Int), .int .i64 ((V7 : Nat) : Int), .int .i64 ((V8 : Nat) : Int), .int .i64 ((V9 : Nat) : Int), .int .i64 ((V10 : Nat) : Int), .int .i64 ((V11 : Nat) : Int), .int .i64 ((V12 : Nat) : Int), .int .i64 ((V13 : Nat) : Int), .int .i64 ((V14 : Nat) : Int), .int .i64 ((V15 : Nat) : Int), .int .i64 0, .int .i64 0, .int .i64 0, .int .i64 0, .int .i64 0] : List Value).toArray 102 (0, 0))) := ⟨⟨HBV.out.setCell HGV.out _⟩, ⟨(blk_set HKB.out _ _).trans rfl⟩⟩
              generalize wb.setCell ⟨gv, 15, none⟩ (.int .i64 ((V15 : Nat) : Int)) = w12 at HV12 ⊢
              clear hq hfz hcc HKB HBV HV11
              have h6 : w12.cell? ⟨gr, 6, none⟩ = some (.slice NA Nu.length nc) := by rw [blk_cell ((HV12.1.out.block _ (blk_lt HRB4.out)).trans HRB4.out)]; rfl
              go_wp2_with fail
              refine (at_any NA nc Nu 13 w12 (HN4.out.below HV12.1.out) cN bN).mono ?_
              rintro e wa ⟨rfl, hb⟩
              have HBA := Aside0.mk hb
              clear hb h6
              go_wp2_with fail
              refine (mod_any (atL Nu 13) 65536 wa (by decide) (by decide)).mono ?_
              rintro e wb ⟨rfl, hb⟩
              have HBB : Aside0 (Below w12.heap.size w12 wb) := ⟨HBA.out.trans (hb.mono HBA.out.size)⟩
              have HKB := Aside0.mk ((HBB.out.block _ (blk_lt HV12.2.out)).trans HV12.2.out)
              have HBV : Aside0 (Below w4.heap.size w4 wb) := ⟨HV12.1.out.trans (HBB.out.mono HV12.1.out.size)⟩
              have hfz : wb.frozen? ⟨gv, 16, none⟩ = false := blk_frozen HKB.out 16
              have hcc : wb.cell? ⟨gv, 16, none⟩ = some (.int .i64 0) := by rw [blk_cell HKB.out]; rfl
              clear hb HBA HBB
              have hq := HL16.out
              go_upto_region 37 with fail
              have HV13 : Aside0 (Below w4.heap.size w4 (wb.setCell ⟨gv, 16, none⟩ (.int .i64 ((V16 : Nat) : Int)))) ∧ Aside0 ((wb.setCell ⟨gv, 16, none⟩ (.int .i64 ((V16 : Nat) : Int))).heap[gv]? = some (.cells ([.int .i64 ((R1 : Nat) : Int), .int .i64 ((W1 : Nat) : Int), .int .i64 ((C : Nat) : Int), .int .i64 ((V3 : Nat) : Int), .int .i64 ((V4 : Nat) : Int), .int .i64 ((V5 : Nat) : Int), .int .i64 ((V6 : Nat) : Int), .int .i64 ((V7 : Nat) : Int), .int .i64 ((V8 : Nat) : Int), .int .i64 ((V9 : Nat) : Int), .int .i64 ((V10 : Nat) : Int), .int .i64 ((V11 : Nat) : Int), .int .i64 ((V12 : Nat) : Int), .int .i64 ((V13 : Nat) : Int), .int .i64 ((V14 : Nat) : Int), .int .i64 ((V15 : Nat) : Int), .int .i64 ((V16 : Nat) : Int), .int .i64 0, .int .i64 0, .int .i64 0, .int .i64 0] : List Value).toArray 102 (0, 0))) := ⟨⟨HBV.out.setCell HGV.out _⟩, ⟨(blk_set HKB.out _ _).trans rfl⟩⟩
              generalize wb.setCell ⟨gv, 16, none⟩ (.int .i64 ((V16 : Nat) : Int)) = w13 at HV13 ⊢
              clear hq hfz hcc HKB HBV HV12
              have h6 : w13.cell? ⟨gr, 6, none⟩ = some (.slice NA Nu.length nc) := by rw [blk_cell ((HV13.1.out.block _ (blk_lt HRB4.out)).trans HRB4.out)]; rfl
              go_wp2_with fail
              refine (at_any NA nc Nu 14 w13 (HN4.out.below HV13.1.out) cN bN).mono ?_
              rintro e wa ⟨rfl, hb⟩
              have HBA := Aside0.mk hb
              clear hb h6
              go_wp2_with fail
              refine (mod_any (atL Nu 14) 1024 wa (by decide) (by decide)).mono ?_
              rintro e wb ⟨rfl, hb⟩
              have HBB : Aside0 (Below w13.heap.size w13 wb) := ⟨HBA.out.trans (hb.mono HBA.out.size)⟩
              have HKB := Aside0.mk ((HBB.out.block _ (blk_lt HV13.2.out)).trans HV13.2.out)
              have HBV : Aside0 (Below w4.heap.size w4 wb) := ⟨HV13.1.out.trans (HBB.out.mono HV13.1.out.size)⟩
              have hfz : wb.frozen? ⟨gv, 17, none⟩ = false := blk_frozen HKB.out 17
              have hcc : wb.cell? ⟨gv, 17, none⟩ = some (.int .i64 0) := by rw [blk_cell HKB.out]; rfl
              clear hb HBA HBB
              have hq := HL17.out
              go_upto_region 38 with fail
              have HV14 : Aside0 (Below w4.heap.size w4 (wb.setCell ⟨gv, 17, none⟩ (.int .i64 ((V17 : Nat) : Int)))) ∧ Aside0 ((wb.setCell ⟨gv, 17, none⟩ (.int .i64 ((V17 : Nat) : Int))).heap[gv]? = some (.cells ([.int .i64 ((R1 : Nat) : Int), .int .i64 ((W1 : Nat) : Int), .int .i64 ((C : Nat) : Int), .int .i64 ((V3 : Nat) : Int), .int .i64 ((V4 : Nat) : Int), .int .i64 ((V5 : Nat) : Int), .int .i64 ((V6 : Nat) : Int), .int .i64 ((V7 : Nat) : Int), .int .i64 ((V8 : Nat) : Int), .int .i64 ((V9 : Nat) : Int), .int .i64 ((V10 : Nat) : Int), .int .i64 ((V11 : Nat) : Int), .int .i64 ((V12 : Nat) : Int), .int .i64 ((V13 : Nat) : Int), .int .i64 ((V14 : Nat) : Int), .int .i64 ((V15 : Nat) : Int), .int .i64 ((V16 : Nat) : Int), .int .i64 ((V17 : Nat) : Int), .int .i64 0, .int .i64 0, .int .i64 0] : List Value).toArray 102 (0, 0))) := ⟨⟨HBV.out.setCell HGV.out _⟩, ⟨(blk_set HKB.out _ _).trans rfl⟩⟩
              generalize wb.setCell ⟨gv, 17, none⟩ (.int .i64 ((V17 : Nat) : Int)) = w14 at HV14 ⊢
              clear hq hfz hcc HKB HBV HV13
              have h6 : w14.cell? ⟨gr, 6, none⟩ = some (.slice NA Nu.length nc) := by rw [blk_cell ((HV14.1.out.block _ (blk_lt HRB4.out)).trans HRB4.out)]; rfl
              go_wp2_with fail
              refine (at_any NA nc Nu 15 w14 (HN4.out.below HV14.1.out) cN bN).mono ?_
              rintro e wa ⟨rfl, hb⟩
              have HBA := Aside0.mk hb
              clear hb h6
              go_wp2_with fail
              refine (mod_any (atL Nu 15) 64 wa (by decide) (by decide)).mono ?_
              rintro e wb ⟨rfl, hb⟩
              have HBB : Aside0 (Below w14.heap.size w14 wb) := ⟨HBA.out.trans (hb.mono HBA.out.size)⟩
              have HKB := Aside0.mk ((HBB.out.block _ (blk_lt HV14.2.out)).trans HV14.2.out)
              have HBV : Aside0 (Below w4.heap.size w4 wb) := ⟨HV14.1.out.trans (HBB.out.mono HV14.1.out.size)⟩
              have hfz : wb.frozen? ⟨gv, 18, none⟩ = false := blk_frozen HKB.out 18
              have hcc : wb.cell? ⟨gv, 18, none⟩ = some (.int .i64 0) := by rw [blk_cell HKB.out]; rfl
              clear hb HBA HBB
              have hq := HL18.out
              go_upto_region 39 with fail
              have HV15 : Aside0 (Below w4.heap.size w4 (wb.setCell ⟨gv, 18, none⟩ (.int .i64 ((V18 : Nat) : Int)))) ∧ Aside0 ((wb.setCell ⟨gv, 18, none⟩ (.int .i64 ((V18 : Nat) : Int))).heap[gv]? = some (.cells ([.int .i64 ((R1 : Nat) : Int), .int .i64 ((W1 : Nat) : Int), .int .i64 ((C : Nat) : Int), .int .i64 ((V3 : Nat) : Int), .int .i64 ((V4 : Nat) : Int), .int .i64 ((V5 : Nat) : Int), .int .i64 ((V6 : Nat) : Int), .int .i64 ((V7 : Nat) : Int), .int .i64 ((V8 : Nat) : Int), .int .i64 ((V9 : Nat) : Int), .int .i64 ((V10 : Nat) : Int), .int .i64 ((V11 : Nat) : Int), .int .i64 ((V12 : Nat) : Int), .int .i64 ((V13 : Nat) : Int), .int .i64 ((V14 : Nat) : Int), .int .i64 ((V15 : Nat) : Int), .int .i64 ((V16 : Nat) : Int), .int .i64 ((V17 : Nat) : Int), .int .i64 ((V18 : Nat) : Int), .int .i64 0, .int .i64 0] : List Value).toArray 102 (0, 0))) := ⟨⟨HBV.out.setCell HGV.out _⟩, ⟨(blk_set HKB.out _ _).trans rfl⟩⟩
              generalize wb.setCell ⟨gv, 18, none⟩ (.int .i64 ((V18 : Nat) : Int)) = w15 at HV15 ⊢
              clear hq hfz hcc HKB HBV HV14
              have h6 : w15.cell? ⟨gr, 6, none⟩ = some (.slice NA Nu.length nc) := by rw [blk_cell ((HV15.1.out.block _ (blk_lt HRB4.out)).trans HRB4.out)]; rfl
              go_wp2_with fail
              refine (at_any NA nc Nu 16 w15 (HN4.out.below HV15.1.out) cN bN).mono ?_
              rintro e wa ⟨rfl, hb⟩
              have HBA := Aside0.mk hb
              clear hb h6
              go_wp2_with fail
              refine (mod_any (atL Nu 16) 1024 wa (by decide) (by decide)).mono ?_
              rintro e wb ⟨rfl, hb⟩
              have HBB : Aside0 (Below w15.heap.size w15 wb) := ⟨HBA.out.trans (hb.mono HBA.out.size)⟩
              have HKB := Aside0.mk ((HBB.out.block _ (blk_lt HV15.2.out)).trans HV15.2.out)
              have HBV : Aside0 (Below w4.heap.size w4 wb) := ⟨HV15.1.out.trans (HBB.out.mono HV15.1.out.size)⟩
              have hfz : wb.frozen? ⟨gv, 19, none⟩ = false := blk_frozen HKB.out 19
              have hcc : wb.cell? ⟨gv, 19, none⟩ = some (.int .i64 0) := by rw [blk_cell HKB.out]; rfl
              clear hb HBA HBB
              have hq := HL19.out
              go_upto_region 40 with fail
              have HV16 : Aside0 (Below w4.heap.size w4 (wb.setCell ⟨gv, 19, none⟩ (.int .i64 ((V19 : Nat) : Int)))) ∧ Aside0 ((wb.setCell ⟨gv, 19, none⟩ (.int .i64 ((V19 : Nat) : Int))).heap[gv]? = some (.cells ([.int .i64 ((R1 : Nat) : Int), .int .i64 ((W1 : Nat) : Int), .int .i64 ((C : Nat) : Int), .int .i64 ((V3 : Nat) : Int), .int .i64 ((V4 : Nat) : Int), .int .i64 ((V5 : Nat) : Int), .int .i64 ((V6 : Nat) : Int), .int .i64 ((V7 : Nat) : Int), .int .i64 ((V8 : Nat) : Int), .int .i64 ((V9 : Nat) : Int), .int .i64 ((V10 : Nat) : Int), .int .i64 ((V11 : Nat) : Int), .int .i64 ((V12 : Nat) : Int), .int .i64 ((V13 : Nat) : Int), .int .i64 ((V14 : Nat) : Int), .int .i64 ((V15 : Nat) : Int), .int .i64 ((V16 : Nat) : Int), .int .i64 ((V17 : Nat) : Int), .int .i64 ((V18 : Nat) : Int), .int .i64 ((V19 : Nat) : Int), .int .i64 0] : List Value).toArray 102 (0, 0))) := ⟨⟨HBV.out.setCell HGV.out _⟩, ⟨(blk_set HKB.out _ _).trans rfl⟩⟩
              generalize wb.setCell ⟨gv, 19, none⟩ (.int .i64 ((V19 : Nat) : Int)) = w16 at HV16 ⊢
              clear hq hfz hcc HKB HBV HV15
              have h6 : w16.cell? ⟨gr, 6, none⟩ = some (.slice NA Nu.length nc) := by rw [blk_cell ((HV16.1.out.block _ (blk_lt HRB4.out)).trans HRB4.out)]; rfl
              go_wp2_with fail
              refine (at_any NA nc Nu 17 w16 (HN4.out.below HV16.1.out) cN bN).mono ?_
              rintro e wa ⟨rfl, hb⟩
              have HBA := Aside0.mk hb
              clear hb h6
              go_wp2_with fail
              refine (mod_any (atL Nu 17) 8 wa (by decide) (by decide)).mono ?_
              rintro e wb ⟨rfl, hb⟩
              have HBB : Aside0 (Below w16.heap.size w16 wb) := ⟨HBA.out.trans (hb.mono HBA.out.size)⟩
              have HKB := Aside0.mk ((HBB.out.block _ (blk_lt HV16.2.out)).trans HV16.2.out)
              have HBV : Aside0 (Below w4.heap.size w4 wb) := ⟨HV16.1.out.trans (HBB.out.mono HV16.1.out.size)⟩
              have hfz : wb.frozen? ⟨gv, 20, none⟩ = false := blk_frozen HKB.out 20
              have hcc : wb.cell? ⟨gv, 20, none⟩ = some (.int .i64 0) := by rw [blk_cell HKB.out]; rfl
              clear hb HBA HBB
              go_upto_region 41 with fail
              have HV17 : Aside0 (Below w4.heap.size w4 (wb.setCell ⟨gv, 20, none⟩ (.int .i64 (md (atL Nu 17) 8)))) ∧ Aside0 ((wb.setCell ⟨gv, 20, none⟩ (.int .i64 (md (atL Nu 17) 8))).heap[gv]? = some (.cells ([.int .i64 ((R1 : Nat) : Int), .int .i64 ((W1 : Nat) : Int), .int .i64 ((C : Nat) : Int), .int .i64 ((V3 : Nat) : Int), .int .i64 ((V4 : Nat) : Int), .int .i64 ((V5 : Nat) : Int), .int .i64 ((V6 : Nat) : Int), .int .i64 ((V7 : Nat) : Int), .int .i64 ((V8 : Nat) : Int), .int .i64 ((V9 : Nat) : Int), .int .i64 ((V10 : Nat) : Int), .int .i64 ((V11 : Nat) : Int), .int .i64 ((V12 : Nat) : Int), .int .i64 ((V13 : Nat) : Int), .int .i64 ((V14 : Nat) : Int), .int .i64 ((V15 : Nat) : Int), .int .i64 ((V16 : Nat) : Int), .int .i64 ((V17 : Nat) : Int), .int .i64 ((V18 : Nat) : Int), .int .i64 ((V19 : Nat) : Int), .int .i64 (md (atL Nu 17) 8)] : List Value).toArray 102 (0, 0))) := ⟨⟨HBV.out.setCell HGV.out _⟩, ⟨(blk_set HKB.out _ _).trans rfl⟩⟩
              generalize wb.setCell ⟨gv, 20, none⟩ (.int .i64 (md (atL Nu 17) 8)) = w17 at HV17 ⊢
              clear hfz hcc HKB HBV HV16
              obtain ⟨nA, nC, rfl, hnC⟩ := own_form HO4.out.row
              have HNC : Aside0 (m + 1 ≤ nC) := ⟨by rw [nds_length] at hnC; exact hnC⟩
              have HRP : Aside0 (R1 ≤ F) := ⟨Nat.le_trans hR1b.2 hM2⟩
              simp only [nds_length]
              clear hnC
              have HRS4 : Aside0 (w4.heap[gr + 1]? = some (.cells zL.toArray 24 (0, 0))) := ⟨(HR4.out.block _ (blk_lt HRS.out)).trans HRS.out⟩
              have hrg := blk_range HV17.2.out
              go_wp2_with ((with_reducible refine gate_load (ty := 102) (x := .tmp 13) rfl ?_); refine wpList_load_mid rfl 102 (.tmp 13) rfl gv 0 rfl ([.int .i64 ((R1 : Nat) : Int), .int .i64 ((W1 : Nat) : Int), .int .i64 ((C : Nat) : Int), .int .i64 ((V3 : Nat) : Int), .int .i64 ((V4 : Nat) : Int), .int .i64 ((V5 : Nat) : Int), .int .i64 ((V6 : Nat) : Int), .int .i64 ((V7 : Nat) : Int), .int .i64 ((V8 : Nat) : Int), .int .i64 ((V9 : Nat) : Int), .int .i64 ((V10 : Nat) : Int), .int .i64 ((V11 : Nat) : Int), .int .i64 ((V12 : Nat) : Int), .int .i64 ((V13 : Nat) : Int), .int .i64 ((V14 : Nat) : Int), .int .i64 ((V15 : Nat) : Int), .int .i64 ((V16 : Nat) : Int), .int .i64 ((V17 : Nat) : Int), .int .i64 ((V18 : Nat) : Int), .int .i64 ((V19 : Nat) : Int), .int .i64 (md (atL Nu 17) 8)] : List Value) _ hrg Tryd.underlying102 rfl infoV21 ?_)
              clear hrg
              refine (with_any (clM R1 W1 C V3 V4 V5 V6 V7 V8 V9 V10 V11 V12 V13 V14 V15 V16 V17 V18 V19 (md (atL Nu 17) 8)) nA (m + 1) nC w17).mono ?_
              rintro e w18 ⟨rfl, hb⟩
              have HB18 := Aside0.mk (HV17.1.out.trans (hb.mono HV17.1.out.size))
              have HR18 : Aside0 (w18.heap[gr + 1]? = some (.cells zL.toArray 24 (0, 0))) := ⟨(HB18.out.block _ (blk_lt HRS4.out)).trans HRS4.out⟩
              clear hb HV17
              have ht := blk_there HR18.out
              have hone := cl_one (clM R1 W1 C V3 V4 V5 V6 V7 V8 V9 V10 V11 V12 V13 V14 V15 V16 V17 V18 V19 (md (atL Nu 17) 8)) nA (m + 1) nC
              have HX : Aside0 ((w18.setCells (gr + 1) 0 (cL (clM R1 W1 C V3 V4 V5 V6 V7 V8 V9 V10 V11 V12 V13 V14 V15 V16 V17 V18 V19 (md (atL Nu 17) 8)) (.slice nA (m + 1) nC))).heap[gr + 1]? = some (.cells (cL (clM R1 W1 C V3 V4 V5 V6 V7 V8 V9 V10 V11 V12 V13 V14 V15 V16 V17 V18 V19 (md (atL Nu 17) 8)) (.slice nA (m + 1) nC)).toArray 24 (0, 0))) := ⟨setCells_whole HR18.out rfl⟩
              have HFB : Aside0 (Below w.heap.size w (w18.setCells (gr + 1) 0 (cL (clM R1 W1 C V3 V4 V5 V6 V7 V8 V9 V10 V11 V12 V13 V14 V15 V16 V17 V18 V19 (md (atL Nu 17) 8)) (.slice nA (m + 1) nC)))) := ⟨below_setCells (HM.out.bel.trans ((HR4.out.trans (HB18.out.mono HR4.out.size)).mono HM.out.bel.size)) (by have := HGR.out; omega) _ _⟩
              have HNO : Aside0 (NodesAt (w18.setCells (gr + 1) 0 (cL (clM R1 W1 C V3 V4 V5 V6 V7 V8 V9 V10 V11 V12 V13 V14 V15 V16 V17 V18 V19 (md (atL Nu 17) 8)) (.slice nA (m + 1) nC))) nA (nds f z p (m + 1))) := ⟨(own_at (HO4.out.below HB18.out) HR18.out (fun k hk => setCells_other (gr + 1) hk _ _ _)).nodes⟩
              go_wp2_with ((with_reducible refine gate_store (ty := 24) (x := .tmp 2) (y := .tmp 211) rfl ?_); go_loud (refine wpList_store_mid rfl 24 (.tmp 2) (.tmp 211) rfl (gr + 1) 0 (cL (clM R1 W1 C V3 V4 V5 V6 V7 V8 V9 V10 V11 V12 V13 V14 V15 V16 V17 V18 V19 (md (atL Nu 17) 8)) (.slice nA (m + 1) nC)).toArray rfl rfl ht infoC23 hone ?_))
              clear ht hone
              have hfl : (p : Int) * (R1 : Int) * (C : Int) ≤ 512 := by
                have h1 := HCY.out
                rw [HYE.out, Nat.mul_comm] at h1
                exact_mod_cast h1
              have hrep : ((R1 : Nat) : Int) ≤ full (nds f z p (m + 1)) := by rw [← HFF.out]; exact_mod_cast HRP.out
              refine bodyPost_ret (v := .agg (cL (clM R1 W1 C V3 V4 V5 V6 V7 V8 V9 V10 V11 V12 V13 V14 V15 V16 V17 V18 V19 (md (atL Nu 17) 8)) (.slice nA (m + 1) nC)).toArray) ?_ rfl ⟨HFB.out, (clM R1 W1 C V3 V4 V5 V6 V7 V8 V9 V10 V11 V12 V13 V14 V15 V16 V17 V18 V19 (md (atL Nu 17) 8)), f, z, m + 1, p, nA, nC, rfl, HNO.out, HNC.out, HF.out, ⟨Nat.le_add_left 1 m, by omega⟩, ⟨hp1, hp2⟩, made_chk HF.out ⟨Nat.le_add_left 1 m, by omega⟩ ⟨hp1, hp2⟩ aStore_ok HSET.out hrep hfl, rfl⟩
              exact results_c_mid rfl _ _ (gr + 1) 0 (cL (clM R1 W1 C V3 V4 V5 V6 V7 V8 V9 V10 V11 V12 V13 V14 V15 V16 V17 V18 V19 (md (atL Nu 17) 8)) (.slice nA (m + 1) nC)) _ rfl (blk_range HX.out) Tryd.underlying24 rfl infoC23
      
end Go.Proofs.YtljjpdjknnhceaaDoor.Made6
