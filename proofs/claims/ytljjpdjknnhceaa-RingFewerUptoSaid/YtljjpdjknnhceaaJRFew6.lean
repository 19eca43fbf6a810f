/- Joined texts of this claim: LawFew, Bulk, OpenC, OpenR -/
import Derived.Test.YtljjpdjknnhceaaJRFew4
import Derived.Test.YtljjpdjknnhceaaJRFew5
import Derived.Test.YtljjpdjknnhceaaRows
import Derived.Test.YtljjpdjknnhceaaJRFew0
import Derived.ProofKit
import Derived.Lib.SmallJoins
import Derived.Deep.Slices
import Derived.Test.YtljjpdjknnhceaaJRFew2
/- RingFewer: with fewer replicas a partition's owners are the first ones of those that it has with more. -/
set_option linter.unusedVariables false
set_option linter.unusedSimpArgs false
namespace Go.Proofs.Ytljjpdjknnhceaa.LawFew
open Go.RowKit Go.Proofs.YtljjpdjknnhceaaW.PrintWords Go.Proofs.YtljjpdjknnhceaaW.PrintLast Go.Proofs.YtljjpdjknnhceaaW.PrintMore
open Go.Proofs.Ytljjpdjknnhceaa.Base Go.Proofs.Ytljjpdjknnhceaa.App Go.Proofs.Ytljjpdjknnhceaa.RingPure Go.Proofs.Ytljjpdjknnhceaa.ChkPure Go.Proofs.Ytljjpdjknnhceaa.Clus Go.Proofs.Ytljjpdjknnhceaa.Mids Go.Proofs.Ytljjpdjknnhceaa.Chkd Go.Proofs.Ytljjpdjknnhceaa.AppR Go.Proofs.Ytljjpdjknnhceaa.Twin Go.Proofs.Ytljjpdjknnhceaa.TwinW Go.Proofs.Ytljjpdjknnhceaa.WithV Go.Proofs.Ytljjpdjknnhceaa.ModAt Go.Proofs.Ytljjpdjknnhceaa.MadePure Go.Proofs.Ytljjpdjknnhceaa.FewPure Go.Proofs.Ytljjpdjknnhceaa.MadeV Go.Proofs.Ytljjpdjknnhceaa.Made6 Go.Proofs.Ytljjpdjknnhceaa.FewKit Go.Proofs.Ytljjpdjknnhceaa.Walk Go.Proofs.Ytljjpdjknnhceaa.RoundPure Go.Proofs.Ytljjpdjknnhceaa.Name Go.Proofs.Ytljjpdjknnhceaa.CountL
open Go.Proofs.Ytljjpdjknnhceaa.Round (own_later2)
theorem num_any (x : Int) (w : World) : Calls Try.prog 10 #[.int .i64 x] w fun e w' => e = .returned (.int .i64 x) ∧ w = w' := by
  go_enter Try.func10, Try.ntmps10
  go_wp2
  go_ret
  exact ⟨rfl, rfl⟩
theorem few_setCell {w w1 : World} {B g o : Nat} {v : Value} (h : Below B w w1) (hg : B ≤ g) : Below B w (w1.setCell ⟨g, o, none⟩ v) := h.setCell hg v
/-- what the law needs of a partition -/
structure Part (c : Cl) (ns : List Nd) (f : Nat → Int) (q p R R2 : Nat) (L : List Nat) : Prop where mk ::
  (ow1 : ow c ns (q : Int) = (0, L.map f)) (ow2 : ow (withR c (R2 : Int)) ns (q : Int) = (0, (L.take R2).map f)) (wk1 : wk c ns (q : Int) = (0, L.map fun t : Nat => (t : Int)))
  (len : L.length = R) (lt : ∀ t ∈ L, t < p) (home : ∀ t ∈ L, homeFrom 0 ns (t : Int) = f t)
theorem part_of {f z : Nat → Int} {n p : Nat} (h : Fz f z n) {c : Cl} (h0 : (chkC c (nds f z p n)).1 = 0) {q R R2 : Nat} (hq : q < p) (hR : c.replicas = (R : Int)) (h1 : 1 ≤ R2) (h2 : R2 ≤ R) : Part c (nds f z p n) f q p R R2 (rnd f q p R) := by
  have hg := chk_ok (nm := nmB c.store) h0
  have hw := made_wk h h0 hq hR
  have hw2 := made_wk h (chk_fewer h0 (R := (R2 : Int)) (by omega) (by omega)) hq (R := R2) rfl
  have hl := made_len h (p := p) (part := q) (R := R) hq (by have := hg.rep; omega)
  have hlt : ∀ t ∈ rnd f q p R, t < p := fun t ht => tk_lt (by omega) ht
  refine ⟨hw.2, ?_, hw.1, hl, hlt, fun t ht => made_home h p t (hlt t ht)⟩
  rw [hw2.2]
  congr 2
  exact tk_take h2 p
set_option maxRecDepth 100000 in
set_option maxHeartbeats 8000000 in
theorem law_few (nd rp wd ch fewer : Int) (HA ZA NA : Option Addr) (hc zc nc : Nat) (H Z Nu : List Int) (w : World) (hH : NumsAt w HA H) (hZ : NumsAt w ZA Z) (hN : NumsAt w NA Nu) (cH : H.length ≤ hc) (cZ : Z.length ≤ zc) (cN : Nu.length ≤ nc) (bH : H.length ≤ 1099511627776) (bZ : Z.length ≤ 1099511627776) (bN : Nu.length ≤ 1099511627776) :
    Calls Try.prog 3 #[.agg (rawL nd rp wd ch HA ZA NA hc zc nc H Z Nu).toArray, .int .i64 fewer] w fun e w' => e = .returned (.bool true) ∧ Below w.heap.size w w' := by
  have hb0 := (Below.refl w.heap.size w).alloc (Nat.le_refl _) (.cells (rawL nd rp wd ch HA ZA NA hc zc nc H Z Nu).toArray 24)
  have HB := Aside0.mk hb0
  have HH := Aside0.mk (hH.below hb0)
  have HZ := Aside0.mk (hZ.below hb0)
  have HN := Aside0.mk (hN.below hb0)
  have HRB : Aside0 ((w.alloc (.cells (rawL nd rp wd ch HA ZA NA hc zc nc H Z Nu).toArray 24)).heap[w.heap.size]? = some (.cells (rawL nd rp wd ch HA ZA NA hc zc nc H Z Nu).toArray 24 (0, 0))) := ⟨Go.heap_alloc_new w _⟩
  clear hH hZ hN hb0
  go_enter Try.func3, Try.ntmps3
  go_upto_region 1 with fail
  generalize w.alloc (.cells (rawL nd rp wd ch HA ZA NA hc zc nc H Z Nu).toArray 24) = w1 at HB HH HZ HN HRB ⊢
  obtain ⟨gr, hgr⟩ : ∃ gr, gr = w.heap.size := ⟨_, rfl⟩
  rw [← hgr] at HRB ⊢
  clear hgr
  have hrg := blk_range HRB.out
  go_wp2_with ((with_reducible refine gate_load (ty := 24) (x := .tmp 2) rfl ?_); refine wpList_load_mid rfl 24 (.tmp 2) rfl gr 0 rfl (rawL nd rp wd ch HA ZA NA hc zc nc H Z Nu) _ hrg Try.underlying24 rfl infoR7 ?_)
  clear hrg
  refine (made_any nd rp wd ch HA ZA NA hc zc nc H Z Nu w1 HH.out HZ.out HN.out cH cZ cN bH bZ bN).mono ?_
  rintro e w2 ⟨hb, c, f, z, n, p, A, cap, rfl, hno, hcap, hfz, hn, hp, hchk, hst⟩
  have HB2 := Aside0.mk (HB.out.trans (hb.mono HB.out.size))
  have HFZ := Aside0.mk hfz
  have HCHK := Aside0.mk hchk
  have HST := Aside0.mk hst
  have HP := Aside0.mk hp
  obtain ⟨ns, hns⟩ : ∃ ns, ns = nds f z p n := ⟨_, rfl⟩
  have hnl : ns.length = n := by rw [hns]; exact nds_length f z p n
  have hcn : cnt ns = p := by rw [hns]; exact made_cnt hfz p
  obtain ⟨R, hR⟩ : ∃ R : Nat, c.replicas = (R : Int) := ⟨c.replicas.toNat, by have := setAt_bounds (chk_ok (nm := nmB c.store) hchk).set; omega⟩
  have hRb : 1 ≤ R ∧ R ≤ 16 := by have := setAt_bounds (chk_ok (nm := nmB c.store) hchk).set; omega
  have HRE := Aside0.mk hR
  have HNS := Aside0.mk hns
  have HNL := Aside0.mk hnl
  have HCN := Aside0.mk hcn
  rw [← hns] at hno
  rw [← hnl] at hcap hn ⊢
  have hs : c.store.size ≤ 2147483647 := by rw [hst]; decide
  have hp64 : p ≤ 64 := hp.2
  have hn16 : ns.length ≤ 16 := hn.2
  clear hb HH HZ HN HRB hfz hchk hst hns hnl hcn hR hp
  obtain ⟨ht, hbx⟩ := boxed c A ns.length cap w2
  have HBX := Aside0.mk hbx
  have HTH := Aside0.mk ht
  have HONE := Aside0.mk (cl_one c A ns.length cap)
  clear hbx ht
  go_upto_region 2 with ((with_reducible refine gate_store (ty := 27) (x := .tmp 5) (y := .tmp 17) rfl ?_); go_loud (refine wpList_store_mid rfl 27 (.tmp 5) (.tmp 17) rfl w2.heap.size 0 (cL c (.slice A ns.length cap)).toArray rfl rfl HTH.out infoC23 HONE.out ?_))
  clear HTH HONE
  generalize World.setCells (w2.alloc (.cells #[.string { data := #[] }, .int .i64 0, .int .i64 0, .int .i64 0, .int .i64 0, .int .i64 0, .int .i64 0, .int .i64 0, .int .i64 0, .int .i64 0, .int .i64 0, .int .i64 0, .int .i64 0, .int .i64 0, .int .i64 0, .int .i64 0, .int .i64 0, .int .i64 0, .int .i64 0, .int .i64 0, .int .i64 0, .int .i64 0, .slice none 0 0] 27)) w2.heap.size 0 (cL c (.slice A ns.length cap)) = w3 at HBX ⊢
  obtain ⟨g5, hg5⟩ : ∃ g5, g5 = w2.heap.size := ⟨_, rfl⟩
  have HC5 : Aside0 (w3.heap[g5]? = some (.cells (cL c (.slice A ns.length cap)).toArray 27 (0, 0))) := ⟨by rw [hg5]; exact HBX.out.row⟩
  have HB3 := Aside0.mk (HB2.out.trans (HBX.out.bel.mono HB2.out.size))
  have HNO3 := Aside0.mk (hno.below HBX.out.bel)
  rw [← hg5]
  clear hg5 HBX hno HB2
  have hrg := blk_range HC5.out
  go_wp2_with ((with_reducible refine gate_load (ty := 27) (x := .tmp 5) rfl ?_); refine wpList_load_mid rfl 27 (.tmp 5) rfl g5 0 rfl (cL c (.slice A ns.length cap)) _ hrg Try.underlying27 rfl infoC23 ?_)
  clear hrg
  refine (twin_any c A cap ns w3 HNO3.out hcap (by omega) (by have := HCN.out; omega)).mono ?_
  rintro e w4 ⟨hb, A2, cap2, vs2, rfl, hcap2, how⟩
  have HB4 := Aside0.mk (HB3.out.trans (hb.mono HB3.out.size))
  have HNO4 := Aside0.mk (HNO3.out.below hb)
  have HC54 : Aside0 (w4.heap[g5]? = some (.cells (cL c (.slice A ns.length cap)).toArray 27 (0, 0))) := ⟨(hb.block _ (blk_lt HC5.out)).trans HC5.out⟩
  have HDN4 := Aside0.mk how.nodes
  clear how hb HB3 HNO3 HC5
  obtain ⟨ht, hbx⟩ := boxed c A2 ns.length cap2 w4
  have HBX := Aside0.mk hbx
  have HTH := Aside0.mk ht
  have HONE := Aside0.mk (cl_one c A2 ns.length cap2)
  clear hbx ht
  go_upto_region 3 with ((with_reducible refine gate_store (ty := 27) (x := .tmp 6) (y := .tmp 19) rfl ?_); go_loud (refine wpList_store_mid rfl 27 (.tmp 6) (.tmp 19) rfl w4.heap.size 0 (cL c (.slice A2 ns.length cap2)).toArray rfl rfl HTH.out infoC23 HONE.out ?_))
  clear HTH HONE
  generalize World.setCells (w4.alloc (.cells #[.string { data := #[] }, .int .i64 0, .int .i64 0, .int .i64 0, .int .i64 0, .int .i64 0, .int .i64 0, .int .i64 0, .int .i64 0, .int .i64 0, .int .i64 0, .int .i64 0, .int .i64 0, .int .i64 0, .int .i64 0, .int .i64 0, .int .i64 0, .int .i64 0, .int .i64 0, .int .i64 0, .int .i64 0, .int .i64 0, .slice none 0 0] 27)) w4.heap.size 0 (cL c (.slice A2 ns.length cap2)) = w5 at HBX ⊢
  obtain ⟨g6, hg6⟩ : ∃ g6, g6 = w4.heap.size := ⟨_, rfl⟩
  have HC6 : Aside0 (w5.heap[g6]? = some (.cells (cL c (.slice A2 ns.length cap2)).toArray 27 (0, 0))) := ⟨by rw [hg6]; exact HBX.out.row⟩
  have HX5 := Aside0.mk HBX.out.bel
  have HG6 : Aside0 (w4.heap.size ≤ g6 ∧ g5 < w4.heap.size) := ⟨by omega, blk_lt HC54.out⟩
  rw [← hg6]
  clear hg6 HBX
  have h1 : w5.cell? ⟨g5, 1, none⟩ = some (.int .i64 ((R : Nat) : Int)) := by rw [blk_cell ((HX5.out.block _ (blk_lt HC54.out)).trans HC54.out), ← HRE.out]; rfl
  go_wp2_with fail
  refine (mod_any fewer ((R : Nat) : Int) w5 (by omega) (by omega)).mono ?_
  rintro e w6 ⟨rfl, hb⟩
  obtain ⟨r0, r1⟩ := md_lt fewer ((R : Nat) : Int) (by omega)
  obtain ⟨R2, hR2⟩ : ∃ R2 : Nat, 1 + md fewer ((R : Nat) : Int) = (R2 : Int) := ⟨(1 + md fewer ((R : Nat) : Int)).toNat, by omega⟩
  have hR2b : 1 ≤ R2 ∧ R2 ≤ R := by omega
  have HW2 : Aside0 (IntKind.i64.wrap (1 + md fewer ((R : Nat) : Int)) = ((R2 : Nat) : Int)) := ⟨by rw [IntWalk.i64_in _ (by omega)]; exact hR2⟩
  have HX6 := Aside0.mk (HX5.out.trans (hb.mono HX5.out.size))
  have HC66 : Aside0 (w6.heap[g6]? = some (.cells (cL c (.slice A2 ns.length cap2)).toArray 27 (0, 0))) := ⟨(hb.block _ (blk_lt HC6.out)).trans HC6.out⟩
  clear hb r0 r1 hR2 h1 HC6 HX5
  have hcc : w6.cell? ⟨g6, 1, none⟩ = some (.int .i64 c.replicas) := by rw [blk_cell HC66.out]; rfl
  have hfz : w6.frozen? ⟨g6, 1, none⟩ = false := blk_frozen HC66.out 1
  have hq := HW2.out
  go_upto_region 4 with fail
  clear hq hcc hfz
  have HX7 : Aside0 (Below w4.heap.size w4 (w6.setCell ⟨g6, 1, none⟩ (.int .i64 ((R2 : Nat) : Int)))) := ⟨HX6.out.setCell HG6.out.1 _⟩
  have HC6 : Aside0 ((w6.setCell ⟨g6, 1, none⟩ (.int .i64 ((R2 : Nat) : Int))).heap[g6]? = some (.cells (cL (withR c (R2 : Int)) (.slice A2 ns.length cap2)).toArray 27 (0, 0))) := ⟨(blk_set HC66.out _ _).trans rfl⟩
  generalize w6.setCell ⟨g6, 1, none⟩ (.int .i64 ((R2 : Nat) : Int)) = w7 at HX7 HC6 ⊢
  clear HX6 HC66
  have HB7 := Aside0.mk (HB4.out.trans (HX7.out.mono HB4.out.size))
  have HNO := Aside0.mk (HNO4.out.below HX7.out)
  have HDN := Aside0.mk (HDN4.out.below HX7.out)
  have HC5 : Aside0 (w7.heap[g5]? = some (.cells (cL c (.slice A ns.length cap)).toArray 27 (0, 0))) := ⟨(HX7.out.block _ (blk_lt HC54.out)).trans HC54.out⟩
  clear HNO4 HDN4 HC54 HX7 HB4
  go_wp2_with fail
  go_loopw [7, 8, 9, 10, 11, 12, 13, 14, 15] (fun v7 _ _ _ _ _ _ _ _ wr => ∃ q : Nat, q ≤ p ∧ v7 = .int .i64 ((q : Nat) : Int) ∧ Aside0 (Below w7.heap.size w7 wr)) (fun v7 _ _ _ _ _ _ _ _ _ => p - (intOf v7).toNat)
  case atStart => exact ⟨0, Nat.zero_le _, rfl, ⟨Below.refl _ _⟩⟩
  case round =>
    obtain ⟨q, hq, rfl, HR⟩ := hrel
    obtain ⟨wo, rfl⟩ : ∃ wo : World, wo = wr := ⟨_, rfl⟩
    have hrg := blk_range ((HR.out.block _ (blk_lt HC5.out)).trans HC5.out)
    go_wp2_with ((with_reducible refine gate_load (ty := 27) (x := .tmp 5) rfl ?_); refine wpList_load_mid rfl 27 (.tmp 5) rfl g5 0 rfl (cL c (.slice A ns.length cap)) _ hrg Try.underlying27 rfl infoC23 ?_)
    clear hrg
    refine (partitions_any c A cap ns wo (HNO.out.below HR.out) hcap (by omega) (by have := HCN.out; omega)).mono ?_
    rintro e wa ⟨rfl, hb⟩
    rw [HCN.out]
    have HRa := Aside0.mk (HR.out.trans (hb.mono HR.out.size))
    clear hb HR
    by_cases hlt : q < p
    · obtain ⟨L, hL⟩ : ∃ L, L = rnd f q p R := ⟨_, rfl⟩
      have HPT : Aside0 (Part c ns f q p R R2 L) := ⟨by rw [hL, HNS.out]; exact part_of HFZ.out HCHK.out hlt HRE.out hR2b.1 hR2b.2⟩
      clear hL
      have hrg := blk_range ((HRa.out.block _ (blk_lt HC5.out)).trans HC5.out)
      go_wp2_with ((with_reducible refine gate_load (ty := 27) (x := .tmp 5) rfl ?_); refine wpList_load_mid rfl 27 (.tmp 5) rfl g5 0 rfl (cL c (.slice A ns.length cap)) _ hrg Try.underlying27 rfl infoC23 ?_)
      clear hrg
      refine (twin_any c A cap ns wa (HNO.out.below HRa.out) hcap (by omega) (by have := HCN.out; omega)).mono ?_
      rintro e wb ⟨hb, At, capt, vst, rfl, hcapt, how⟩
      have HRb := Aside0.mk (HRa.out.trans (hb.mono HRa.out.size))
      have hnt := how.nodes
      clear hb how
      go_wp2_with fail
      refine (owners_any c At capt ns ((q : Nat) : Int) wb hnt hcapt hs (by omega) (by have := HCN.out; omega)).mono ?_
      rintro e wc ⟨hb, vo, rfl, ho⟩
      have HRc := Aside0.mk (HRb.out.trans (hb.mono HRb.out.size))
      have hlen : (L.map f).length = R := by rw [List.length_map, HPT.out.len]
      rw [HPT.out.ow1] at ho ⊢
      have HOo : Aside0 (wc.ownsRow wb.heap.size 3 1 vo R (nums .i64 (L.map f))) := ⟨by have h := ho; dsimp only at h; rw [hlen] at h; exact h⟩
      obtain ⟨Bo, co, rfl, hco⟩ := own_form HOo.out
      clear hb ho hlen hnt hcapt
      have hrg := blk_range ((HRc.out.block _ (blk_lt HC6.out)).trans HC6.out)
      go_wp2_with ((with_reducible refine gate_load (ty := 27) (x := .tmp 6) rfl ?_); refine wpList_load_mid rfl 27 (.tmp 6) rfl g6 0 rfl (cL (withR c (R2 : Int)) (.slice A2 ns.length cap2)) _ hrg Try.underlying27 rfl infoC23 ?_)
      clear hrg
      refine (twin_any (withR c (R2 : Int)) A2 cap2 ns wc (HDN.out.below HRc.out) hcap2 (by omega) (by have := HCN.out; omega)).mono ?_
      rintro e wd ⟨hb, At, capt, vst, rfl, hcapt, how⟩
      have HRd := Aside0.mk (HRc.out.trans (hb.mono HRc.out.size))
      have hnt := how.nodes
      have HOo := Aside0.mk (own_later2 HOo.out hb)
      clear hb how
      go_wp2_with fail
      refine (owners_any (withR c (R2 : Int)) At capt ns ((q : Nat) : Int) wd hnt hcapt hs (by omega) (by have := HCN.out; omega)).mono ?_
      rintro e we ⟨hb, vq, rfl, ho⟩
      have HRe := Aside0.mk (HRd.out.trans (hb.mono HRd.out.size))
      have hlen : ((L.take R2).map f).length = R2 := by rw [List.length_map, List.length_take, HPT.out.len]; omega
      rw [HPT.out.ow2] at ho ⊢
      have HOq : Aside0 (we.ownsRow wd.heap.size 3 1 vq R2 (nums .i64 ((L.take R2).map f))) := ⟨by have h := ho; dsimp only at h; rw [hlen] at h; exact h⟩
      obtain ⟨Bq, cq, rfl, hcq⟩ := own_form HOq.out
      have HOo := Aside0.mk (own_later2 HOo.out hb)
      clear hb ho hlen hnt hcapt
      have hrg := blk_range ((HRe.out.block _ (blk_lt HC5.out)).trans HC5.out)
      go_wp2_with ((with_reducible refine gate_load (ty := 27) (x := .tmp 5) rfl ?_); refine wpList_load_mid rfl 27 (.tmp 5) rfl g5 0 rfl (cL c (.slice A ns.length cap)) _ hrg Try.underlying27 rfl infoC23 ?_)
      clear hrg
      refine (twin_any c A cap ns we (HNO.out.below HRe.out) hcap (by omega) (by have := HCN.out; omega)).mono ?_
      rintro e wf ⟨hb, At, capt, vst, rfl, hcapt, how⟩
      have HRf := Aside0.mk (HRe.out.trans (hb.mono HRe.out.size))
      have hnt := how.nodes
      have HOo := Aside0.mk (own_later2 HOo.out hb)
      have HOq := Aside0.mk (own_later2 HOq.out hb)
      clear hb how
      go_wp2_with fail
      refine (walk_any c At capt ns ((q : Nat) : Int) wf hnt hcapt hs (by omega) (by have := HCN.out; omega)).mono ?_
      rintro e wg ⟨hb, vw, rfl, ho⟩
      have HRg := Aside0.mk (HRf.out.trans (hb.mono HRf.out.size))
      have hlen : (L.map fun t : Nat => (t : Int)).length = R := by rw [List.length_map, HPT.out.len]
      rw [HPT.out.wk1] at ho ⊢
      have HOw : Aside0 (wg.ownsRow wf.heap.size 3 1 vw R (nums .i64 (L.map fun t : Nat => (t : Int)))) := ⟨by have h := ho; dsimp only at h; rw [hlen] at h; exact h⟩
      obtain ⟨Bw, cw, rfl, hcw⟩ := own_form HOw.out
      have HOo := Aside0.mk (own_later2 HOo.out hb)
      have HOq := Aside0.mk (own_later2 HOq.out hb)
      clear hb ho hlen hnt hcapt
      have h1 : wg.cell? ⟨g5, 1, none⟩ = some (.int .i64 ((R : Nat) : Int)) := by rw [blk_cell ((HRg.out.block _ (blk_lt HC5.out)).trans HC5.out), ← HRE.out]; rfl
      have h2 : wg.cell? ⟨g6, 1, none⟩ = some (.int .i64 ((R2 : Nat) : Int)) := by rw [blk_cell ((HRg.out.block _ (blk_lt HC6.out)).trans HC6.out)]; rfl
      go_wp2_with fail
      refine (num_any 0 wg).mono ?_
      rintro e w' ⟨rfl, rfl⟩
      go_wp2_with fail
      refine (num_any 0 wg).mono ?_
      rintro e w' ⟨rfl, rfl⟩
      go_wp2_with fail
      refine (num_any 0 wg).mono ?_
      rintro e w' ⟨rfl, rfl⟩
      clear HNS HST HFZ HCHK
      go_wp2_with fail
      clear h1 h2
      go_loopw [14] (fun v14 wr => ∃ k : Nat, k ≤ R2 ∧ v14 = .int .i64 ((k : Nat) : Int) ∧ Aside0 (Below wg.heap.size wg wr)) (fun v14 _ => R2 - (intOf v14).toNat)
      case atStart => exact ⟨0, Nat.zero_le _, rfl, ⟨Below.refl _ _⟩⟩
      case round =>
        obtain ⟨k, hk, rfl, HS⟩ := hrel
        obtain ⟨wi, rfl⟩ : ∃ wi : World, wi = wr := ⟨_, rfl⟩
        by_cases hkl : k < R2
        · obtain ⟨t, ht⟩ : ∃ t, L[k]? = some t := ⟨_, List.getElem?_eq_getElem (by have := HPT.out.len; omega)⟩
          obtain ⟨bo, hBo, _, hlo, hco1⟩ := row_cell (own_later2 HOo.out HS.out) (j := k) (u := .int .i64 (f t)) (by simp [nums, ht]) (by omega)
          obtain ⟨bq, hBq, _, hlq, hcq1⟩ := row_cell (own_later2 HOq.out HS.out) (j := k) (u := .int .i64 (f t)) (by simp [nums, ht, List.getElem?_take, hkl]) (by omega)
          have HLO := Aside0.mk hlo
          have HLQ := Aside0.mk hlq
          have HCO := Aside0.mk hco1
          have HCQ := Aside0.mk hcq1
          clear ht hlo hlq hco1 hcq1
          subst hBo hBq
          go_upto_region 15 with fail
          refine FewR.few15 _ _ wi bq bo R2 R cq co k (f t) HLQ.out HCQ.out hkl HLO.out HCO.out (by omega) (by omega) rfl rfl rfl rfl ?_
          intro wv hb
          have HS2 := Aside0.mk (HS.out.trans (hb.mono HS.out.size))
          clear hb HLO HLQ HCO HCQ
          simp only [RegA.putV, Act.put, List.setIfInBounds_toArray, List.set_cons_zero, List.set_cons_succ]
          go_wp2_with fail
          go_roundw
          case rel => exact ⟨k + 1, by omega, by go_num, HS2⟩
          case measure => simp [intOf]; omega
        · have hkR : k = R2 := by omega
          have HRi := Aside0.mk (HRg.out.trans (HS.out.mono HRg.out.size))
          have HOo2 := Aside0.mk (own_later2 HOo.out HS.out)
          have HOw2 := Aside0.mk (own_later2 HOw.out HS.out)
          clear HOo HOw HOq HS hkR
          go_wp2_with fail
          go_loopw [15] (fun v15 wr => ∃ k : Nat, k ≤ R ∧ v15 = .int .i64 ((k : Nat) : Int) ∧ Aside0 (Below wi.heap.size wi wr)) (fun v15 _ => R - (intOf v15).toNat)
          case atStart => exact ⟨0, Nat.zero_le _, rfl, ⟨Below.refl _ _⟩⟩
          case round =>
            obtain ⟨j, hj, rfl, HS⟩ := hrel
            obtain ⟨wj, rfl⟩ : ∃ wj : World, wj = wr := ⟨_, rfl⟩
            by_cases hjl : j < R
            · obtain ⟨t, ht⟩ : ∃ t, L[j]? = some t := ⟨_, List.getElem?_eq_getElem (by have := HPT.out.len; omega)⟩
              have hmem := List.mem_of_getElem? ht
              obtain ⟨bo, hBo, _, hlo, hco1⟩ := row_cell (own_later2 HOo2.out HS.out) (j := j) (u := .int .i64 (f t)) (by simp [nums, ht]) (by omega)
              obtain ⟨bw, hBw, _, hlw, hcw1⟩ := row_cell (own_later2 HOw2.out HS.out) (j := j) (u := .int .i64 ((t : Nat) : Int)) (by simp [nums, ht]) (by omega)
              have HLO := Aside0.mk hlo
              have HLW := Aside0.mk hlw
              have HCO := Aside0.mk hco1
              have HCW := Aside0.mk hcw1
              have HRj := Aside0.mk (HRi.out.trans (HS.out.mono HRi.out.size))
              have HG5 : Aside0 (wj.heap[g5]? = some (.cells (cL c (.slice A ns.length cap)).toArray 27 (0, 0))) := ⟨(HRj.out.block _ (blk_lt HC5.out)).trans HC5.out⟩
              have HHM : Aside0 (∀ wx : World, Below wj.heap.size wj wx → Calls Try.prog 11 #[.agg (cL c (.slice A ns.length cap)).toArray, .int .i64 ((t : Nat) : Int)] wx fun e w' => e = .returned (.int .i64 (f t)) ∧ Below wx.heap.size wx w') := ⟨fun wx hbx => by
                rw [← HPT.out.home t hmem]
                exact home_any c A cap ns ((t : Nat) : Int) wx ((HNO.out.below HRj.out).below hbx) hcap (by omega) (by have := HCN.out; omega)⟩
              clear ht hmem hlo hlw hco1 hcw1
              subst hBo hBw
              go_upto_region 20 with fail
              refine FewR.few20 _ _ wj bw bo R R cw co j g5 ns.length cap c A ((t : Nat) : Int) (f t) HLW.out HCW.out hjl HLO.out HCO.out hjl (by omega) HG5.out HHM.out rfl rfl rfl rfl rfl ?_
              intro wv hb
              have HS2 := Aside0.mk (HS.out.trans (hb.mono HS.out.size))
              clear hb HLO HLW HCO HCW HG5 HHM HRj
              simp only [RegA.putV, Act.put, List.setIfInBounds_toArray, List.set_cons_zero, List.set_cons_succ]
              go_wp2_with fail
              go_roundw
              case rel => exact ⟨j + 1, by omega, by go_num, HS2⟩
              case measure => simp [intOf]; omega
            · have HRj := Aside0.mk (HRi.out.trans (HS.out.mono HRi.out.size))
              go_wp2_with fail
              go_roundw
              case rel => exact ⟨q + 1, by omega, by go_num, HRj⟩
              case measure => simp [intOf]; omega
    · go_wp2_with fail
      go_ret
      exact ⟨rfl, HB7.out.trans (HRa.out.mono HB7.out.size)⟩
end Go.Proofs.Ytljjpdjknnhceaa.LawFew

/-
  FOR A PROOF OF AN '..UptoSaid': WHAT THE BOUND GIVES. Copy it as <Name>Bulk.lean (put your seat's Name for Ytljjpdjknnhceaa, the bound of 'uptoSmall' for 1048576), name it in GOCLAIM.json's 'order' behind <Name>Rows. By an AI agent, Sun Nov 15 2026. No person has read it. No macro, syntax, notation, axiom, sorry.
-/
namespace Go.Proofs.Ytljjpdjknnhceaa.bulks

theorem one_le {H : Type} (d : DataW H) : 1 ≤ Rows.uptoBulk d := by
  cases d with
  | lit l => cases l <;> simp [Rows.uptoBulk]
  | nil => simp [Rows.uptoBulk]
  | ptr d => simp [Rows.uptoBulk]
  | slice elems spare => simp [Rows.uptoBulk]
  | agg parts => simp [Rows.uptoBulk]
  | iface t d => simp [Rows.uptoBulk]
  | map entries => simp [Rows.uptoBulk]
  | held h => simp [Rows.uptoBulk]

/-- a part's bulk is at most the whole's -/
theorem part_le {H : Type} {d : DataW H} {l : List (DataW H)} (h : d ∈ l) : Rows.uptoBulk d ≤ Rows.uptoBulkAll l := by
  induction l with
  | nil => cases h
  | cons x r ih =>
    simp only [Rows.uptoBulkAll]
    cases List.mem_cons.1 h with
    | inl e => subst e; omega
    | inr e => have := ih e; omega

theorem append {H : Type} (l r : List (DataW H)) : Rows.uptoBulkAll (l ++ r) = Rows.uptoBulkAll l + Rows.uptoBulkAll r := by
  induction l with
  | nil => simp [Rows.uptoBulkAll]
  | cons x l ih => simp only [List.cons_append, Rows.uptoBulkAll, ih]; omega

/-- so many values at the most -/
theorem length_le {H : Type} (l : List (DataW H)) : l.length ≤ Rows.uptoBulkAll l := by
  induction l with
  | nil => simp [Rows.uptoBulkAll]
  | cons x r ih => have := one_le x; simp only [Rows.uptoBulkAll, List.length_cons]; omega

/-- a slice's places, and what they hold -/
theorem slice_le {H : Type} (elems spare : List (DataW H)) : elems.length + spare.length + 1 ≤ Rows.uptoBulk (.slice elems spare) := by
  have h1 := length_le elems
  have h2 := length_le spare
  simp only [Rows.uptoBulk]
  omega
theorem slice_elems {H : Type} (elems spare : List (DataW H)) : Rows.uptoBulkAll elems + 1 ≤ Rows.uptoBulk (.slice elems spare) := by
  simp only [Rows.uptoBulk]
  omega

/-- a string's letters -/
theorem string_eq {H : Type} (bytes : List UInt8) : Rows.uptoBulk (DataW.lit (H := H) (.string bytes)) = bytes.length + 1 := by
  simp [Rows.uptoBulk]

/-- THE BOUND, as the builder hands it over ('hk') -/
theorem bound {H : Type} {l : List (DataW H)} (hk : Rows.uptoSmall H l = true) : Rows.uptoBulkAll l ≤ 1048576 := by
  simpa [Rows.uptoSmall] using hk

/-- ROOM: a slice of n elements of b bytes, grown by append: below the 2^48 bytes that append, make and a Builder bear. Here n up to 2^21, b up to 4,096: put your own numbers. -/
theorem room {n b : Nat} (hn : n ≤ 2097152) (hb : b ≤ 4096) : (n + n / 4 + 192) * b ≤ 281474976710656 := by
  have h : (n + n / 4 + 192) * b ≤ 2621632 * 4096 := Nat.mul_le_mul (by omega) hb
  omega

end Go.Proofs.Ytljjpdjknnhceaa.bulks

/- A definition as an argument. -/
set_option linter.unusedVariables false
set_option linter.unusedSimpArgs false
namespace Go.Proofs.Ytljjpdjknnhceaa.OpenC
open Go.ChangeShapes Go.WideShapes Go.ChangeAt Go.RowKit Go.Joins Go.Deep
open Go.Proofs.YtljjpdjknnhceaaW.PrintWords
open Go.Proofs.Ytljjpdjknnhceaa.Base Go.Proofs.Ytljjpdjknnhceaa.RingPure Go.Proofs.Ytljjpdjknnhceaa.ChkPure Go.Proofs.Ytljjpdjknnhceaa.Clus
theorem list23 {α : Type} {l : List α} (h : l.length = 23) : ∃ c0 c1 c2 c3 c4 c5 c6 c7 c8 c9 c10 c11 c12 c13 c14 c15 c16 c17 c18 c19 c20 c21 c22, l = [c0, c1, c2, c3, c4, c5, c6, c7, c8, c9, c10, c11, c12, c13, c14, c15, c16, c17, c18, c19, c20, c21, c22] := by
  match l, h with
  | [c0, c1, c2, c3, c4, c5, c6, c7, c8, c9, c10, c11, c12, c13, c14, c15, c16, c17, c18, c19, c20, c21, c22], _ => exact ⟨c0, c1, c2, c3, c4, c5, c6, c7, c8, c9, c10, c11, c12, c13, c14, c15, c16, c17, c18, c19, c20, c21, c22, rfl⟩
theorem c3 : Try.prog.cellsOf 3 = 1 := by kernel_rfl
theorem c9 : Try.prog.cellsOf 9 = 1 := by kernel_rfl
theorem cC : Try.prog.cellsOf 27 = 23 := by kernel_rfl
theorem cN : Try.prog.cellsOf 40 = 2 := by kernel_rfl
theorem cI : Try.prog.cellsOf 22 = 1 := by kernel_rfl
theorem cS : Try.prog.cellsOf 25 = 1 := by kernel_rfl
theorem spot_none {w : World} {a : Addr} {v : Value} (h : w.cell? a = some v) : a = ⟨a.block, a.off, none⟩ := by
  cases a with
  | mk b o s =>
    cases s with
    | none => rfl
    | some x =>
      unfold World.cell? at h
      split at h
      · simp at h
      · cases h
theorem add_none (b o j : Nat) : (⟨b, o, none⟩ : Addr).add j = ⟨b, o + j, none⟩ := by unfold Addr.add; split <;> simp_all
theorem add_zero (a : Addr) : a.add 0 = a := by unfold Addr.add; simp
theorem bulk_lits {H : Type} (k : IntKind) (zs : List Int) : Rows.uptoBulkAll (lits (H := H) k zs) = zs.length := by
  induction zs with
  | nil => rfl
  | cons s l ih =>
    simp only [lits, List.map_cons, Rows.uptoBulkAll, Rows.uptoBulk, List.length_cons] at ih ⊢
    rw [ih]; omega
theorem bulk_nodes {H : Type} (D : Nat → DataW H) (l : List Nd) : ∀ n, (∀ i x, l[i]? = some x → 1 + x.2.length ≤ Rows.uptoBulk (D (n + i))) → l.length + cnt l ≤ Rows.uptoBulkAll ((List.range' n l.length).map D) := by
  induction l with
  | nil => intro n _; exact Nat.zero_le _
  | cons o l ih =>
    intro n h
    have h0 := h 0 o rfl
    have := ih (n + 1) (fun i x hi => by
      have e := h (i + 1) x (by simpa using hi)
      rw [show n + 1 + i = n + (i + 1) by omega]
      exact e)
    have h3 : cnt (o :: l) = o.2.length + cnt l := by simp [cnt]
    rw [h3]
    simp only [List.length_cons, List.range'_succ, List.map_cons, Rows.uptoBulkAll] at this ⊢
    rw [Nat.add_zero] at h0
    omega
/-- a list of numbers in a cell -/
theorem open_list {H : Type} {enc : TypeId × Value → H} {W : World} {base fuel : Nat} {sp : Nat → Bool} {held : Bool} {cs : List Value} {d : DataW H × List MemPlace}
    (hf : DataW.trod enc Try.prog W base sp held fuel 22 cs = some d) : ∃ (l : List Int) (B : Option Addr) (c : Nat), cs = [.slice B l.length c] ∧ (l.length ≤ c ∧ SlOK B l.length c) ∧ NumsAt W B l ∧ l.length ≤ Rows.uptoBulk d.1 := by
  rcases open_ints Try.underlying22 Try.underlying3 c3 hf with ⟨hcs, hx⟩ | ⟨x, l, c, zs, hcs, _, hl, hm, hss, hx, hcell, hws⟩
  · exact ⟨[], none, 0, hcs, ⟨Nat.le_refl _, .inl ⟨rfl, rfl, rfl⟩⟩, .inl rfl, Nat.zero_le _⟩
  · have hge : l ≤ zs.length := by rw [hss]; split <;> omega
    have hlen : (zs.take l).length = l := by simp; omega
    refine ⟨zs.take l, some x, c, by rw [hlen]; exact hcs, ⟨by omega, .inr ⟨x, rfl⟩⟩, ?_, ?_⟩
    · by_cases h0 : l = 0
      · left; subst h0; rfl
      · right
        have h1 := hcell 0 (by omega)
        rw [add_zero] at h1
        have hx2 := spot_none h1
        refine ⟨x.block, x.off, by rw [← hx2], fun i y hy => ?_⟩
        have hil : i < l := by have := (List.getElem?_eq_some_iff.1 hy).1; omega
        have h2 := hcell i (by omega)
        rw [hx2, add_none] at h2
        rw [h2]
        rw [List.getElem?_take, if_pos hil] at hy
        simp [List.getD_eq_getElem?_getD, hy]
    · rw [hx]
      simp only [Rows.uptoBulk]
      rw [bulk_lits]; omega
/-- the list of the nodes in a cell -/
theorem open_nodes {H : Type} {enc : TypeId × Value → H} {W : World} {base fuel : Nat} {sp : Nat → Bool} {held : Bool} {cs : List Value} {d : DataW H × List MemPlace}
    (hf : DataW.trod enc Try.prog W base sp held fuel 25 cs = some d) : ∃ (ns : List Nd) (A : Option Addr) (cap : Nat), cs = [.slice A ns.length cap] ∧ ns.length ≤ cap ∧ NodesAt W A ns ∧ ns.length + cnt ns ≤ Rows.uptoBulk d.1 := by
  rcases open_slice Try.underlying25 hf with ⟨hcs, hx⟩ | ⟨a, len, cap, m, k, D, Pl, hcs, hb, hl, hm, hmm, hx, hel⟩
  · exact ⟨[], none, 0, hcs, Nat.le_refl _, .inl rfl, Nat.zero_le _⟩
  · have hlm : len ≤ m := by rw [hmm]; split <;> omega
    have each : ∀ i, i < len → ∃ x : Nd, (∃ B c, W.cell? (a.add (i * 2)) = some (.int .i64 x.1) ∧ W.cell? ((a.add (i * 2)).add 1) = some (.slice B x.2.length c) ∧ (x.2.length ≤ c ∧ SlOK B x.2.length c) ∧ NumsAt W B x.2) ∧ 1 + x.2.length ≤ Rows.uptoBulk (D i) := by
      intro i hi
      obtain ⟨cs', h1, h2⟩ := hel i (by omega)
      rw [cN] at h1
      obtain ⟨_, hlen, hcell⟩ := World.cells?_some h1
      obtain ⟨y0, y1, k2, hxy, _, g0, g1⟩ := trod_struct2 Try.underlying40 h2
      simp only [c3, cI, List.drop_zero] at g0 g1
      obtain ⟨z, hz1, _, _⟩ := DataW.trod_int Try.underlying3 g0
      obtain ⟨l, B, c, hl1, hl2, hl3, hl4⟩ := open_list g1
      have hcs' : cs' = [.int .i64 z, .slice B l.length c] := by
        have e : cs' = cs'.take 1 ++ (cs'.drop 1).take 1 := by
          have e2 : (cs'.drop 1).take 1 = cs'.drop 1 := List.take_of_length_le (by rw [List.length_drop, hlen]; decide)
          rw [e2, List.take_append_drop]
        rw [e, hz1, hl1]
        rfl
      refine ⟨(z, l), ⟨B, c, ?_, ?_, hl2, hl3⟩, ?_⟩
      · have := hcell 0 (by omega)
        rw [hcs', add_zero] at this
        exact this
      · have := hcell 1 (by omega)
        rw [hcs'] at this
        exact this
      · have hD : D i = .agg [y0.1, y1.1] := by simpa using congrArg Prod.fst hxy
        rw [hD]
        simp only [Rows.uptoBulk, Rows.uptoBulkAll]
        have := bulks.one_le y0.1
        show 1 + l.length ≤ _
        omega
    obtain ⟨f, hfo⟩ := choose_lt each
    have hget : ∀ i x, ((List.range len).map f)[i]? = some x → i < len ∧ f i = x := by
      intro i x hx
      simp only [List.getElem?_map, Option.map_eq_some_iff] at hx
      obtain ⟨q, hq, rfl⟩ := hx
      have hkl : i < len := by
        rcases Nat.lt_or_ge i len with h | h
        · exact h
        · rw [List.getElem?_eq_none (by simpa using h)] at hq; cases hq
      rw [List.getElem?_range hkl] at hq
      cases hq
      exact ⟨hkl, rfl⟩
    refine ⟨(List.range len).map f, some a, cap, by simpa using hcs, by simpa using hl, ?_, ?_⟩
    · by_cases h0 : len = 0
      · left; subst h0; rfl
      · right
        obtain ⟨⟨B0, c0, k0, _⟩, _⟩ := hfo 0 (by omega)
        rw [Nat.zero_mul, add_zero] at k0
        have ha := spot_none k0
        refine ⟨a.block, a.off, by rw [← ha], fun i x hi => ?_⟩
        obtain ⟨hil, rfl⟩ := hget i x hi
        obtain ⟨⟨B, c, k1, k2, k3, k4⟩, _⟩ := hfo i hil
        rw [ha, add_none] at k1 k2
        rw [add_none] at k2
        exact ⟨k1, B, c, k2, k3, k4⟩
    · rw [hx]
      simp only [Rows.uptoBulk]
      have := bulk_nodes (H := H) D ((List.range len).map f) 0 (fun i x hi => by
        obtain ⟨hk, rfl⟩ := hget i x hi
        rw [Nat.zero_add]
        exact (hfo i hk).2)
      simp only [List.length_map, List.length_range] at this ⊢
      rw [← List.range_eq_range'] at this
      omega
set_option maxRecDepth 100000 in
set_option maxHeartbeats 2000000 in
theorem open_cluster {H : Type} {enc : TypeId × Value → H} {W : World} {r : Reach} {b0 base : Nat} {sp : Nat → Bool} {held : Bool} {v : Value} {d : DataW H} {p : List MemPlace}
    (hv : Value.okWide Try.prog W r b0 27 v) (h : DataW.Trod enc Try.prog W base sp held 27 v d p) :
    ∃ (c : Cl) (A : Option Addr) (cap : Nat) (ns : List Nd), v = .agg (cL c (.slice A ns.length cap)).toArray ∧ NodesAt W A ns ∧ ns.length ≤ cap ∧ c.store.size + ns.length + cnt ns ≤ Rows.uptoBulk d := by
  obtain ⟨⟨l⟩, rfl, hsz⟩ := okWide_struct Try.underlying27 hv
  rw [cC] at hsz
  obtain ⟨x0, x1, x2, x3, x4, x5, x6, x7, x8, x9, x10, x11, x12, x13, x14, x15, x16, x17, x18, x19, x20, x21, x22, rfl⟩ := list23 (l := l) (by simpa using hsz)
  obtain ⟨fuel, hf⟩ := h
  obtain ⟨xs, n, _, hd, _, hxl, hg⟩ := DataW.trod_struct Try.underlying27 hf
  obtain ⟨u0, u1, u2, u3, u4, u5, u6, u7, u8, u9, u10, u11, u12, u13, u14, u15, u16, u17, u18, u19, u20, u21, u22, rfl⟩ := list23 (l := xs) hxl
  have g0 := hg 0 _ rfl
  have g1 := hg 1 _ rfl
  have g2 := hg 2 _ rfl
  have g3 := hg 3 _ rfl
  have g4 := hg 4 _ rfl
  have g5 := hg 5 _ rfl
  have g6 := hg 6 _ rfl
  have g7 := hg 7 _ rfl
  have g8 := hg 8 _ rfl
  have g9 := hg 9 _ rfl
  have g10 := hg 10 _ rfl
  have g11 := hg 11 _ rfl
  have g12 := hg 12 _ rfl
  have g13 := hg 13 _ rfl
  have g14 := hg 14 _ rfl
  have g15 := hg 15 _ rfl
  have g16 := hg 16 _ rfl
  have g17 := hg 17 _ rfl
  have g18 := hg 18 _ rfl
  have g19 := hg 19 _ rfl
  have g20 := hg 20 _ rfl
  have g21 := hg 21 _ rfl
  have g22 := hg 22 _ rfl
  simp only [c3, c9, cS, Value.cells, List.drop_succ_cons, List.drop_zero, List.take_succ_cons, List.take_zero, List.getElem_toArray, List.getElem_cons_zero, List.getElem_cons_succ, List.getElem?_cons_zero, List.getElem?_cons_succ] at g0 g1 g2 g3 g4 g5 g6 g7 g8 g9 g10 g11 g12 g13 g14 g15 g16 g17 g18 g19 g20 g21 g22
  obtain ⟨a0, e0, z0, _⟩ := DataW.trod_string Try.underlying9 g0
  obtain ⟨a1, e1, _, _⟩ := DataW.trod_int Try.underlying3 g1
  obtain ⟨a2, e2, _, _⟩ := DataW.trod_int Try.underlying3 g2
  obtain ⟨a3, e3, _, _⟩ := DataW.trod_int Try.underlying3 g3
  obtain ⟨a4, e4, _, _⟩ := DataW.trod_int Try.underlying3 g4
  obtain ⟨a5, e5, _, _⟩ := DataW.trod_int Try.underlying3 g5
  obtain ⟨a6, e6, _, _⟩ := DataW.trod_int Try.underlying3 g6
  obtain ⟨a7, e7, _, _⟩ := DataW.trod_int Try.underlying3 g7
  obtain ⟨a8, e8, _, _⟩ := DataW.trod_int Try.underlying3 g8
  obtain ⟨a9, e9, _, _⟩ := DataW.trod_int Try.underlying3 g9
  obtain ⟨a10, e10, _, _⟩ := DataW.trod_int Try.underlying3 g10
  obtain ⟨a11, e11, _, _⟩ := DataW.trod_int Try.underlying3 g11
  obtain ⟨a12, e12, _, _⟩ := DataW.trod_int Try.underlying3 g12
  obtain ⟨a13, e13, _, _⟩ := DataW.trod_int Try.underlying3 g13
  obtain ⟨a14, e14, _, _⟩ := DataW.trod_int Try.underlying3 g14
  obtain ⟨a15, e15, _, _⟩ := DataW.trod_int Try.underlying3 g15
  obtain ⟨a16, e16, _, _⟩ := DataW.trod_int Try.underlying3 g16
  obtain ⟨a17, e17, _, _⟩ := DataW.trod_int Try.underlying3 g17
  obtain ⟨a18, e18, _, _⟩ := DataW.trod_int Try.underlying3 g18
  obtain ⟨a19, e19, _, _⟩ := DataW.trod_int Try.underlying3 g19
  obtain ⟨a20, e20, _, _⟩ := DataW.trod_int Try.underlying3 g20
  obtain ⟨a21, e21, _, _⟩ := DataW.trod_int Try.underlying3 g21
  obtain ⟨ns, A, cap, e22, hcap, hN, hbk⟩ := open_nodes g22
  simp only [List.cons.injEq, and_true] at e0 e1 e2 e3 e4 e5 e6 e7 e8 e9 e10 e11 e12 e13 e14 e15 e16 e17 e18 e19 e20 e21 e22
  subst e0 e1 e2 e3 e4 e5 e6 e7 e8 e9 e10 e11 e12 e13 e14 e15 e16 e17 e18 e19 e20 e21 e22
  refine ⟨⟨a0, a1, a2, a3, a4, a5, a6, a7, a8, a9, a10, a11, a12, a13, a14, a15, a16, a17, a18, a19, a20, a21⟩, A, cap, ns, rfl, hN, hcap, ?_⟩
  have hd2 := congrArg Prod.fst hd
  simp only at hd2
  rw [hd2]
  have h0 : a0.size ≤ Rows.uptoBulk u0.1 := by
    rw [z0]
    simp only [Rows.uptoBulk, Array.length_toList]
    have : a0.data.size = a0.size := rfl
    omega
  simp only [List.map_cons, List.map_nil, Rows.uptoBulk, Rows.uptoBulkAll]
  show a0.size + _ + _ ≤ _
  omega
end Go.Proofs.Ytljjpdjknnhceaa.OpenC

/- What a definition is made of, as an argument. -/
set_option linter.unusedVariables false
set_option linter.unusedSimpArgs false
namespace Go.Proofs.Ytljjpdjknnhceaa.OpenR
open Go.ChangeShapes Go.WideShapes Go.ChangeAt Go.RowKit Go.Joins Go.Deep
open Go.Proofs.YtljjpdjknnhceaaW.PrintWords
open Go.Proofs.Ytljjpdjknnhceaa.Base Go.Proofs.Ytljjpdjknnhceaa.RingPure Go.Proofs.Ytljjpdjknnhceaa.ChkPure Go.Proofs.Ytljjpdjknnhceaa.Clus Go.Proofs.Ytljjpdjknnhceaa.OpenC Go.Proofs.Ytljjpdjknnhceaa.MadeV
theorem list7 {α : Type} {l : List α} (h : l.length = 7) : ∃ c0 c1 c2 c3 c4 c5 c6, l = [c0, c1, c2, c3, c4, c5, c6] := by
  match l, h with
  | [c0, c1, c2, c3, c4, c5, c6], _ => exact ⟨c0, c1, c2, c3, c4, c5, c6, rfl⟩
theorem cR : Try.prog.cellsOf 24 = 7 := by kernel_rfl
set_option maxRecDepth 100000 in
theorem open_raw {H : Type} {enc : TypeId × Value → H} {W : World} {r : Reach} {b0 base : Nat} {sp : Nat → Bool} {held : Bool} {v : Value} {d : DataW H} {p : List MemPlace}
    (hv : Value.okWide Try.prog W r b0 24 v) (h : DataW.Trod enc Try.prog W base sp held 24 v d p) :
    ∃ (nd rp wd ch : Int) (HA ZA NA : Option Addr) (hc zc nc : Nat) (Ho Z Nu : List Int), v = .agg (rawL nd rp wd ch HA ZA NA hc zc nc Ho Z Nu).toArray ∧ NumsAt W HA Ho ∧ NumsAt W ZA Z ∧ NumsAt W NA Nu ∧ Ho.length ≤ hc ∧ Z.length ≤ zc ∧ Nu.length ≤ nc ∧ Ho.length + Z.length + Nu.length ≤ Rows.uptoBulk d := by
  obtain ⟨⟨l⟩, rfl, hsz⟩ := okWide_struct Try.underlying24 hv
  rw [cR] at hsz
  obtain ⟨x0, x1, x2, x3, x4, x5, x6, rfl⟩ := list7 (l := l) (by simpa using hsz)
  obtain ⟨fuel, hf⟩ := h
  obtain ⟨xs, n, _, hd, _, hxl, hg⟩ := DataW.trod_struct Try.underlying24 hf
  obtain ⟨u0, u1, u2, u3, u4, u5, u6, rfl⟩ := list7 (l := xs) hxl
  have g0 := hg 0 _ rfl
  have g1 := hg 1 _ rfl
  have g2 := hg 2 _ rfl
  have g3 := hg 3 _ rfl
  have g4 := hg 4 _ rfl
  have g5 := hg 5 _ rfl
  have g6 := hg 6 _ rfl
  simp only [c3, cI, Value.cells, List.drop_succ_cons, List.drop_zero, List.take_succ_cons, List.take_zero, List.getElem_toArray, List.getElem_cons_zero, List.getElem_cons_succ, List.getElem?_cons_zero, List.getElem?_cons_succ] at g0 g1 g2 g3 g4 g5 g6
  obtain ⟨a0, e0, _, _⟩ := DataW.trod_int Try.underlying3 g0
  obtain ⟨a1, e1, _, _⟩ := DataW.trod_int Try.underlying3 g1
  obtain ⟨a2, e2, _, _⟩ := DataW.trod_int Try.underlying3 g2
  obtain ⟨a3, e3, _, _⟩ := DataW.trod_int Try.underlying3 g3
  obtain ⟨l4, B4, k4, e4, h4, n4, b4⟩ := open_list g4
  obtain ⟨l5, B5, k5, e5, h5, n5, b5⟩ := open_list g5
  obtain ⟨l6, B6, k6, e6, h6, n6, b6⟩ := open_list g6
  simp only [List.cons.injEq, and_true] at e0 e1 e2 e3 e4 e5 e6
  subst e0 e1 e2 e3 e4 e5 e6
  refine ⟨a0, a1, a2, a3, B4, B5, B6, k4, k5, k6, l4, l5, l6, rfl, n4, n5, n6, h4.1, h5.1, h6.1, ?_⟩
  have hd2 := congrArg Prod.fst hd
  simp only at hd2
  rw [hd2]
  simp only [List.map_cons, List.map_nil, Rows.uptoBulk, Rows.uptoBulkAll]
  show _ + _ + _ ≤ _
  omega
end Go.Proofs.Ytljjpdjknnhceaa.OpenR
