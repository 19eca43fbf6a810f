/- Joined texts of this claim: LawPlc -/
import Derived.Test.YtljjpdjknnhceaaDoorJRPlc9
import Derived.Test.YtljjpdjknnhceaaDoorJRPlc20
set_option linter.unusedVariables false
set_option linter.unusedSimpArgs false
/- RingPlaces: where a key lies hangs on the key and the number of partitions alone; its hash is the end of its MD5. -/
set_option linter.unusedVariables false
set_option linter.unusedSimpArgs false
namespace Go.Proofs.YtljjpdjknnhceaaDoor.LawPlc
open Go.RowKit Go.Proofs.YtljjpdjknnhceaaDoorW.PrintWords Go.Proofs.YtljjpdjknnhceaaDoorW.PrintLast Go.Proofs.YtljjpdjknnhceaaDoorW.PrintMore
open Go.Proofs.YtljjpdjknnhceaaDoor.Base Go.Proofs.YtljjpdjknnhceaaDoor.App Go.Proofs.YtljjpdjknnhceaaDoor.RingPure Go.Proofs.YtljjpdjknnhceaaDoor.ChkPure Go.Proofs.YtljjpdjknnhceaaDoor.Clus Go.Proofs.YtljjpdjknnhceaaDoor.Mids Go.Proofs.YtljjpdjknnhceaaDoor.Chkd Go.Proofs.YtljjpdjknnhceaaDoor.AppR Go.Proofs.YtljjpdjknnhceaaDoor.Twin Go.Proofs.YtljjpdjknnhceaaDoor.TwinW Go.Proofs.YtljjpdjknnhceaaDoor.ModAt Go.Proofs.YtljjpdjknnhceaaDoor.MadePure Go.Proofs.YtljjpdjknnhceaaDoor.FewPure Go.Proofs.YtljjpdjknnhceaaDoor.MadeV Go.Proofs.YtljjpdjknnhceaaDoor.Made6 Go.Proofs.YtljjpdjknnhceaaDoor.FewKit Go.Proofs.YtljjpdjknnhceaaDoor.Name Go.Proofs.YtljjpdjknnhceaaDoor.LocPure Go.Proofs.YtljjpdjknnhceaaDoor.LocKit Go.Proofs.YtljjpdjknnhceaaDoor.Loc Go.Proofs.YtljjpdjknnhceaaDoor.ZoneKit
open Go.Proofs.YtljjpdjknnhceaaDoor.Words (strOf strOf_size)
theorem num_any (x : Int) (w : World) : Calls Tryd.prog 14 #[.int .i64 x] w fun e w' => e = .returned (.int .i64 x) ∧ Below w.heap.size w w' := by
  go_enter Tryd.func14, Tryd.ntmps14
  go_wp2
  go_ret
  exact ⟨rfl, Below.refl _ _⟩
theorem own_blk {w : World} {base b n cp g : Nat} {e ty : TypeId} {size : Nat} {xs : List Value} {cells : Array Value} (h : w.ownsRow base e size (.slice (some ⟨b, 0, none⟩) n cp) n xs) (hg : w.heap[g]? = some (.cells cells ty (0, 0))) (hne : e ≠ ty) : b ≠ g ∧ base ≤ b := by
  rcases h.2 with ⟨h', _⟩ | ⟨g', cap', cur, h', hb, hgg, _⟩
  · simp at h'
  · simp only [Value.slice.injEq, Option.some.injEq, Addr.mk.injEq, and_true, true_and] at h'
    obtain ⟨rfl, rfl⟩ := h'
    refine ⟨fun e2 => ?_, hb⟩
    subst e2
    rw [hgg] at hg
    simp only [Option.some.injEq, Obj.cells.injEq] at hg
    exact hne hg.2.1
theorem loc_good {c : Cl} {ns : List Nd} {key : ByteArray} (h0 : (chkC c ns).1 = 0) (hk : ¬ (key.size < 1 ∨ 255 < key.size)) {P W C : Nat} (hP : P = cnt ns) (hW : c.width = (W : Int)) (hC : c.chunks = (C : Int)) : locP c ns key = ⟨0, ((num4 key 0 % P : Nat) : Int), ((num4 key 4 % C : Nat) : Int), (md key).drop (16 - W)⟩ := by
  unfold locP; rw [if_neg (by rw [h0]; decide), if_neg hk, hP, hC, hW]; rfl
theorem loc_bad {c : Cl} {ns : List Nd} {key : ByteArray} (h0 : (chkC c ns).1 = 0) (hk : key.size < 1 ∨ 255 < key.size) : locP c ns key = ⟨32, 0, 0, []⟩ := by
  unfold locP; rw [if_neg (by rw [h0]; decide), if_pos hk]
set_option maxRecDepth 100000 in
set_option maxHeartbeats 8000000 in
theorem law_plc (nd rp wd ch width chunks : Int) (HA ZA NA : Option Addr) (hc zc nc : Nat) (H Z Nu : List Int) (key : ByteArray) (w : World) (hH : NumsAt w HA H) (hZ : NumsAt w ZA Z) (hN : NumsAt w NA Nu) (cH : H.length ≤ hc) (cZ : Z.length ≤ zc) (cN : Nu.length ≤ nc) (bH : H.length ≤ 1099511627776) (bZ : Z.length ≤ 1099511627776) (bN : Nu.length ≤ 1099511627776) (hkz : key.size ≤ 1073741824) (hG : Hasher.Glob w) :
    Calls Tryd.prog 6 #[.agg (rawL nd rp wd ch HA ZA NA hc zc nc H Z Nu).toArray, .string key, .int .i64 width, .int .i64 chunks] w fun e w' => e = .returned (.bool true) ∧ Below w.heap.size w w' := by
  have hb0 := (Below.refl w.heap.size w).alloc (Nat.le_refl _) (.cells (rawL nd rp wd ch HA ZA NA hc zc nc H Z Nu).toArray 51)
  have HB := Aside0.mk hb0
  have HH := Aside0.mk (hH.below hb0)
  have HZ := Aside0.mk (hZ.below hb0)
  have HN := Aside0.mk (hN.below hb0)
  have HG := Aside0.mk hG
  have HRB : Aside0 ((w.alloc (.cells (rawL nd rp wd ch HA ZA NA hc zc nc H Z Nu).toArray 51)).heap[w.heap.size]? = some (.cells (rawL nd rp wd ch HA ZA NA hc zc nc H Z Nu).toArray 51 (0, 0))) := ⟨Go.heap_alloc_new w _⟩
  clear hH hZ hN hb0 hG
  go_enter Tryd.func6, Tryd.ntmps6
  go_upto_region 1 with fail
  generalize w.alloc (.cells (rawL nd rp wd ch HA ZA NA hc zc nc H Z Nu).toArray 51) = w1 at HB HH HZ HN HRB ⊢
  obtain ⟨gr, hgr⟩ : ∃ gr, gr = w.heap.size := ⟨_, rfl⟩
  rw [← hgr] at HRB ⊢
  clear hgr
  have hrg := blk_range HRB.out
  go_wp2_with ((with_reducible refine gate_load (ty := 51) (x := .tmp 4) rfl ?_); refine wpList_load_mid rfl 51 (.tmp 4) rfl gr 0 rfl (rawL nd rp wd ch HA ZA NA hc zc nc H Z Nu) _ hrg Tryd.underlying51 rfl infoR7 ?_)
  clear hrg
  refine (made_any nd rp wd ch HA ZA NA hc zc nc H Z Nu w1 HH.out HZ.out HN.out cH cZ cN bH bZ bN).mono ?_
  rintro e w2 ⟨hb, c, f, z, n, p, A, cap, rfl, hno, hcap, hfz, hn, hp, hchk, hst⟩
  have HB2 := Aside0.mk (HB.out.trans (hb.mono HB.out.size))
  have HFZ := Aside0.mk hfz
  have HCHK := Aside0.mk hchk
  have HP := Aside0.mk hp
  have HN1 := Aside0.mk hn
  obtain ⟨ns, hns⟩ : ∃ ns, ns = nds f z p n := ⟨_, rfl⟩
  have hnl : ns.length = n := by rw [hns]; exact nds_length f z p n
  have hcn : cnt ns = p := by rw [hns]; exact made_cnt hfz p
  have hbs := setAt_bounds (chk_ok (nm := nmB c.store) hchk).set
  obtain ⟨W, hW⟩ : ∃ W : Nat, c.width = (W : Int) := ⟨c.width.toNat, by omega⟩
  obtain ⟨C, hC⟩ : ∃ C : Nat, c.chunks = (C : Int) := ⟨c.chunks.toNat, by omega⟩
  have hWb : 1 ≤ W ∧ W ≤ 16 := by omega
  have hCb : 1 ≤ C ∧ C ≤ 16 := by omega
  have HWE := Aside0.mk hW
  have HCE := Aside0.mk hC
  have HNS := Aside0.mk hns
  have HNL := Aside0.mk hnl
  have HCN := Aside0.mk hcn
  rw [← hns] at hno
  rw [← hnl] at hcap ⊢
  have hs : c.store.size ≤ 2147483647 := by rw [hst]; decide
  have hp64 : p ≤ 64 := hp.2
  have hn16 : 1 ≤ ns.length ∧ ns.length ≤ 16 := by omega
  clear hb HH HZ HN HRB hfz hchk hst hns hnl hcn hp hn hbs hW hC
  obtain ⟨ht, hbx⟩ := boxed c A ns.length cap w2
  have HBX := Aside0.mk hbx
  have HTH := Aside0.mk ht
  have HONE := Aside0.mk (cl_one c A ns.length cap)
  clear hbx ht
  go_upto_region 2 with ((with_reducible refine gate_store (ty := 24) (x := .tmp 9) (y := .tmp 18) rfl ?_); go_loud (refine wpList_store_mid rfl 24 (.tmp 9) (.tmp 18) rfl w2.heap.size 0 (cL c (.slice A ns.length cap)).toArray rfl rfl HTH.out infoC23 HONE.out ?_))
  clear HTH HONE
  generalize World.setCells (w2.alloc (.cells #[.string { data := #[] }, .int .i64 0, .int .i64 0, .int .i64 0, .int .i64 0, .int .i64 0, .int .i64 0, .int .i64 0, .int .i64 0, .int .i64 0, .int .i64 0, .int .i64 0, .int .i64 0, .int .i64 0, .int .i64 0, .int .i64 0, .int .i64 0, .int .i64 0, .int .i64 0, .int .i64 0, .int .i64 0, .int .i64 0, .slice none 0 0] 24)) w2.heap.size 0 (cL c (.slice A ns.length cap)) = w3 at HBX ⊢
  obtain ⟨g9, hg9⟩ : ∃ g9, g9 = w2.heap.size := ⟨_, rfl⟩
  have H93 : Aside0 (w3.heap[g9]? = some (.cells (cL c (.slice A ns.length cap)).toArray 24 (0, 0))) := ⟨by rw [hg9]; exact HBX.out.row⟩
  have HB3 := Aside0.mk (HB2.out.trans (HBX.out.bel.mono HB2.out.size))
  have HNO3 := Aside0.mk (hno.below HBX.out.bel)
  rw [← hg9]
  clear hg9 HBX hno HB2
  have hrg := blk_range H93.out
  go_wp2_with ((with_reducible refine gate_load (ty := 24) (x := .tmp 9) rfl ?_); refine wpList_load_mid rfl 24 (.tmp 9) rfl g9 0 rfl (cL c (.slice A ns.length cap)) _ hrg Tryd.underlying24 rfl infoC23 ?_)
  clear hrg
  refine (twin_any c A cap ns w3 HNO3.out hcap (by omega) (by have := HCN.out; omega)).mono ?_
  rintro e w4 ⟨hb, At, capt, vst, rfl, hcapt, how⟩
  have HB4 := Aside0.mk (HB3.out.trans (hb.mono HB3.out.size))
  have HNO4 := Aside0.mk (HNO3.out.below hb)
  have H94 : Aside0 (w4.heap[g9]? = some (.cells (cL c (.slice A ns.length cap)).toArray 24 (0, 0))) := ⟨(hb.block _ (blk_lt H93.out)).trans H93.out⟩
  have hnt := how.nodes
  clear hb how HB3 HNO3 H93
  go_wp2_with fail
  refine (locate_any c At capt ns key w4 hnt hcapt hs (by omega) (by have := HCN.out; omega) hkz (HG.out.below HB4.out)).mono ?_
  rintro e w5 ⟨hb, rfl⟩
  have HB5 := Aside0.mk (HB4.out.trans (hb.mono HB4.out.size))
  have HNO5 := Aside0.mk (HNO4.out.below hb)
  have H95 : Aside0 (w5.heap[g9]? = some (.cells (cL c (.slice A ns.length cap)).toArray 24 (0, 0))) := ⟨(hb.block _ (blk_lt H94.out)).trans H94.out⟩
  clear hb hnt hcapt HB4 HNO4 H94
  have HCK : Aside0 ((chkC c ns).1 = 0) := ⟨by rw [HNS.out]; exact HCHK.out⟩
  obtain ⟨r, hr⟩ : ∃ r, r = locP c ns key := ⟨_, rfl⟩
  have HRE := Aside0.mk hr
  rw [← hr]
  clear hr
  obtain ⟨hth, hbk, hbl⟩ := pboxed r w5
  have HTH := Aside0.mk hth
  have HONE := Aside0.mk (plL_one r)
  have HBK := Aside0.mk hbk
  have HBL := Aside0.mk hbl
  clear hth hbk hbl
  go_upto_region 3 with ((with_reducible refine gate_store (ty := 44) (x := .tmp 10) (y := .tmp 24) rfl ?_); go_loud (refine wpList_store_mid rfl 44 (.tmp 10) (.tmp 24) rfl w5.heap.size 0 (plL r).toArray rfl rfl HTH.out infoP HONE.out ?_))
  clear HTH HONE
  generalize World.setCells (w5.alloc (.cells #[.int .i64 0, .int .i64 0, .string { data := #[] }] 44)) w5.heap.size 0 (plL r) = w6 at HBK HBL ⊢
  obtain ⟨gp, hgp⟩ : ∃ gp, gp = w5.heap.size := ⟨_, rfl⟩
  have HB6 := Aside0.mk (HB5.out.trans (HBL.out.mono HB5.out.size))
  have HNO6 := Aside0.mk (HNO5.out.below HBL.out)
  have H96 : Aside0 (w6.heap[g9]? = some (.cells (cL c (.slice A ns.length cap)).toArray 24 (0, 0))) := ⟨(HBL.out.block _ (blk_lt H95.out)).trans H95.out⟩
  rw [← hgp] at HBK ⊢
  clear hgp HBL HB5 HNO5 H95
  by_cases hkey : key.size < 1 ∨ 255 < key.size
  · have hrb : r = ⟨32, 0, 0, []⟩ := HRE.out.trans (loc_bad HCK.out hkey)
    rw [hrb]
    clear HRE HCK
    rcases hkey with hk1 | hk1
    · have hke : key.toList.isEmpty = true := by rw [ByteArray.toList_eq, List.isEmpty_iff]; exact List.eq_nil_of_length_eq_zero (by rw [data_length]; omega)
      clear hrb
      go_wp2_with fail
      refine (num_any 32 w6).mono ?_
      rintro e w7 ⟨rfl, hb⟩
      have HB7 := Aside0.mk (HB6.out.trans (hb.mono HB6.out.size))
      clear hb
      go_wp2_with fail
      go_ret
      exact ⟨rfl, HB7.out⟩
    · have hke : key.toList.isEmpty = false := by rw [ByteArray.toList_eq, List.isEmpty_eq_false_iff]; exact List.ne_nil_of_length_pos (by rw [data_length]; omega)
      have hlt : decide ((255 : Int) < (key.size : Int)) = true := decide_eq_true (by omega)
      clear hrb
      go_wp2_with fail
      refine (num_any 32 w6).mono ?_
      rintro e w7 ⟨rfl, hb⟩
      have HB7 := Aside0.mk (HB6.out.trans (hb.mono HB6.out.size))
      clear hb
      go_wp2_with fail
      go_ret
      exact ⟨rfl, HB7.out⟩
  · obtain ⟨P, hP⟩ : ∃ P, P = cnt ns := ⟨_, rfl⟩
    have hrb : r = ⟨0, ((num4 key 0 % P : Nat) : Int), ((num4 key 4 % C : Nat) : Int), (md key).drop (16 - W)⟩ := HRE.out.trans (loc_good HCK.out hkey hP HWE.out HCE.out)
    have HKEY := Aside0.mk hkey
    have HPE := Aside0.mk hP
    obtain ⟨M, hM⟩ : ∃ M, M = md key := ⟨_, rfl⟩
    obtain ⟨q1, hq1⟩ : ∃ X, X = num4 key 0 % P := ⟨_, rfl⟩
    obtain ⟨q2, hq2⟩ : ∃ X, X = num4 key 4 % C := ⟨_, rfl⟩
    have HML : Aside0 (M.length = 16) := ⟨by rw [hM]; exact md_length key⟩
    have HLT1 : Aside0 (q2 < C) := ⟨by rw [hq2]; exact Nat.mod_lt _ (by omega)⟩
    rw [← hM, ← hq1, ← hq2] at hrb
    rw [hrb] at HBK ⊢
    have HME := Aside0.mk hM
    have HQ1E := Aside0.mk hq1
    have hke : key.toList.isEmpty = false := by rw [ByteArray.toList_eq, List.isEmpty_eq_false_iff]; exact List.ne_nil_of_length_pos (by rw [data_length]; omega)
    have hkb : key.size ≤ 255 := by omega
    clear HRE hP hrb hkey hM hq1 hq2
    have hrg := blk_range H96.out
    go_wp2_with ((with_reducible refine gate_load (ty := 24) (x := .tmp 9) rfl ?_); refine wpList_load_mid rfl 24 (.tmp 9) rfl g9 0 rfl (cL c (.slice A ns.length cap)) _ hrg Tryd.underlying24 rfl infoC23 ?_)
    clear hrg hke
    refine (twin_any c A cap ns w6 HNO6.out hcap (by omega) (by have := HCN.out; omega)).mono ?_
    rintro e w7 ⟨hb, A2, cap2, vs2, rfl, hcap2, how⟩
    have HX7 := Aside0.mk hb
    have HOW := Aside0.mk how
    clear hb how HNO6
    obtain ⟨ht, hbx⟩ := boxed c A2 ns.length cap2 w7
    have HBX := Aside0.mk hbx
    have HTH := Aside0.mk ht
    have HONE := Aside0.mk (cl_one c A2 ns.length cap2)
    clear hbx ht
    go_upto_region 6 with ((with_reducible refine gate_store (ty := 24) (x := .tmp 12) (y := .tmp 37) rfl ?_); go_loud (refine wpList_store_mid rfl 24 (.tmp 12) (.tmp 37) rfl w7.heap.size 0 (cL c (.slice A2 ns.length cap2)).toArray rfl rfl HTH.out infoC23 HONE.out ?_))
    clear HTH HONE
    generalize World.setCells (w7.alloc (.cells #[.string { data := #[] }, .int .i64 0, .int .i64 0, .int .i64 0, .int .i64 0, .int .i64 0, .int .i64 0, .int .i64 0, .int .i64 0, .int .i64 0, .int .i64 0, .int .i64 0, .int .i64 0, .int .i64 0, .int .i64 0, .int .i64 0, .int .i64 0, .int .i64 0, .int .i64 0, .int .i64 0, .int .i64 0, .int .i64 0, .slice none 0 0] 24)) w7.heap.size 0 (cL c (.slice A2 ns.length cap2)) = w8 at HBX ⊢
    obtain ⟨g12, hg12⟩ : ∃ g12, g12 = w7.heap.size := ⟨_, rfl⟩
    have H128 : Aside0 (w8.heap[g12]? = some (.cells (cL c (.slice A2 ns.length cap2)).toArray 24 (0, 0))) := ⟨by rw [hg12]; exact HBX.out.row⟩
    have HX8 := Aside0.mk (HX7.out.trans (HBX.out.bel.mono HX7.out.size))
    have HOW8 := Aside0.mk (HOW.out.below HBX.out.bel)
    have HG12 : Aside0 (w6.heap.size ≤ g12) := ⟨by rw [hg12]; exact HX7.out.size⟩
    rw [← hg12]
    clear hg12 HBX HOW HX7
    go_wp2_with fail
    refine (mod_any width 16 w8 (by decide) (by decide)).mono ?_
    rintro e w9 ⟨rfl, hb⟩
    obtain ⟨W2, hW2b, eW2⟩ := md_letter width 16 16 rfl (by decide) (by decide)
    have HW2 := Aside0.mk eW2
    have HX9 := Aside0.mk (HX8.out.trans (hb.mono HX8.out.size))
    have HOW9 := Aside0.mk (HOW8.out.below hb)
    have H129 : Aside0 (w9.heap[g12]? = some (.cells (cL c (.slice A2 ns.length cap2)).toArray 24 (0, 0))) := ⟨(hb.block _ (blk_lt H128.out)).trans H128.out⟩
    clear hb eW2 HX8 HOW8 H128
    have hcc : w9.cell? ⟨g12, 2, none⟩ = some (.int .i64 c.width) := by rw [blk_cell H129.out]; rfl
    have hfz : w9.frozen? ⟨g12, 2, none⟩ = false := blk_frozen H129.out 2
    have hq := HW2.out
    go_upto_region 7 with fail
    clear hq hcc hfz HW2
    have HX10 : Aside0 (Below w6.heap.size w6 (w9.setCell ⟨g12, 2, none⟩ (.int .i64 ((W2 : Nat) : Int)))) := ⟨HX9.out.setCell HG12.out _⟩
    have H1210 : Aside0 ((w9.setCell ⟨g12, 2, none⟩ (.int .i64 ((W2 : Nat) : Int))).heap[g12]? = some (.cells (cL (withWC c (W2 : Int) c.chunks) (.slice A2 ns.length cap2)).toArray 24 (0, 0))) := ⟨(blk_set H129.out _ _).trans rfl⟩
    have HOW10 : Aside0 (Own (w9.setCell ⟨g12, 2, none⟩ (.int .i64 ((W2 : Nat) : Int))) w6.heap.size (.slice A2 ns.length cap2) ns vs2) := ⟨own_at HOW9.out H129.out (fun k hk => Below.heap_setCell _ _ _ _ hk)⟩
    generalize w9.setCell ⟨g12, 2, none⟩ (.int .i64 ((W2 : Nat) : Int)) = w10 at HX10 H1210 HOW10 ⊢
    clear HX9 H129 HOW9
    have h3 : w10.cell? ⟨g9, 3, none⟩ = some (.int .i64 ((C : Nat) : Int)) := by rw [blk_cell ((HX10.out.block _ (blk_lt H96.out)).trans H96.out), ← HCE.out]; rfl
    go_wp2_with fail
    refine (mod_any chunks ((C : Nat) : Int) w10 (by omega) (by omega)).mono ?_
    rintro e w11 ⟨rfl, hb⟩
    obtain ⟨C2, hC2b, eC2⟩ := md_letter chunks ((C : Nat) : Int) C rfl (by omega) (by omega)
    have HC2 := Aside0.mk eC2
    have HX11 := Aside0.mk (HX10.out.trans (hb.mono HX10.out.size))
    have HOW11 := Aside0.mk (HOW10.out.below hb)
    have H1211 : Aside0 (w11.heap[g12]? = some (.cells (cL (withWC c (W2 : Int) c.chunks) (.slice A2 ns.length cap2)).toArray 24 (0, 0))) := ⟨(hb.block _ (blk_lt H1210.out)).trans H1210.out⟩
    clear hb eC2 h3 HX10 HOW10 H1210
    have hcc : w11.cell? ⟨g12, 3, none⟩ = some (.int .i64 c.chunks) := by rw [blk_cell H1211.out]; rfl
    have hfz : w11.frozen? ⟨g12, 3, none⟩ = false := blk_frozen H1211.out 3
    have hq := HC2.out
    go_upto_region 8 with fail
    clear hq hcc hfz HC2
    have HX12 : Aside0 (Below w6.heap.size w6 (w11.setCell ⟨g12, 3, none⟩ (.int .i64 ((C2 : Nat) : Int)))) := ⟨HX11.out.setCell HG12.out _⟩
    have H1212 : Aside0 ((w11.setCell ⟨g12, 3, none⟩ (.int .i64 ((C2 : Nat) : Int))).heap[g12]? = some (.cells (cL (withWC c (W2 : Int) (C2 : Int)) (.slice A2 ns.length cap2)).toArray 24 (0, 0))) := ⟨(blk_set H1211.out _ _).trans rfl⟩
    have HOW12 : Aside0 (Own (w11.setCell ⟨g12, 3, none⟩ (.int .i64 ((C2 : Nat) : Int))) w6.heap.size (.slice A2 ns.length cap2) ns vs2) := ⟨own_at HOW11.out H1211.out (fun k hk => Below.heap_setCell _ _ _ _ hk)⟩
    generalize w11.setCell ⟨g12, 3, none⟩ (.int .i64 ((C2 : Nat) : Int)) = w12 at HX12 H1212 HOW12 ⊢
    clear HX11 H1211 HOW11
    obtain ⟨bz, hbz⟩ : ∃ bz, A2 = some ⟨bz, 0, none⟩ := by
      rcases HOW12.out.row.2 with ⟨_, h0⟩ | ⟨b, cap', cs, e, _⟩
      · omega
      · injection e with e; exact ⟨b, e⟩
    subst hbz
    have HZ0 : Aside0 (ns = nds f (zk z 0) p n) := ⟨by rw [zk_zero]; exact HNS.out⟩
    have HO0 : Aside0 (Own w12 w6.heap.size (.slice (some ⟨bz, 0, none⟩) n cap2) (nds f (zk z 0) p n) vs2) := ⟨by have h := HOW12.out; rw [HNL.out] at h; rw [← HZ0.out]; exact h⟩
    rw [HNL.out] at hcap2 hn16 H1212 ⊢
    clear HOW12 HZ0
    go_wp2_with fail
    go_loopw [13] (fun v13 wr => ∃ k : Nat, k ≤ n ∧ v13 = .int .i64 ((k : Nat) : Int) ∧ Aside0 (Below w6.heap.size w6 wr) ∧ Aside0 (wr.heap[g12]? = some (.cells (cL (withWC c (W2 : Int) (C2 : Int)) (.slice (some ⟨bz, 0, none⟩) n cap2)).toArray 24 (0, 0))) ∧ Aside0 (Own wr w6.heap.size (.slice (some ⟨bz, 0, none⟩) n cap2) (nds f (zk z k) p n) vs2)) (fun v13 _ => n - (intOf v13).toNat)
    case atStart => exact ⟨0, Nat.zero_le _, rfl, HX12, H1212, HO0⟩
    case round =>
      clear HX12 H1212 HO0
      obtain ⟨k, hk, rfl, HX, H12, HO⟩ := hrel
      obtain ⟨wo, rfl⟩ : ∃ wo : World, wo = wr := ⟨_, rfl⟩
      have h22 : wo.cell? ⟨g12, 22, none⟩ = some (.slice (some ⟨bz, 0, none⟩) n cap2) := by rw [blk_cell H12.out]; rfl
      by_cases hlt : k < n
      · have hgk := nds_get f (zk z k) p n k hlt
        have HOl : Aside0 (Own wo w6.heap.size (.slice (some ⟨bz, 0, none⟩) (nds f (zk z k) p n).length cap2) (nds f (zk z k) p n) vs2) := ⟨by rw [nds_length]; exact HO.out⟩
        obtain ⟨hz1, hz2, hz3⟩ := Own.zone HOl.out hgk 0
        have HZ1 : Aside0 (Own (wo.setCell ⟨bz, k * 2, none⟩ (.int .i64 0)) w6.heap.size (.slice (some ⟨bz, 0, none⟩) n cap2) (nds f (zk z (k + 1)) p n) vs2) := ⟨by rw [nds_length, zk_set f z p n k hlt] at hz1; exact hz1⟩
        obtain ⟨hne, hbb⟩ := own_blk HOl.out.row H12.out (by decide)
        have HXN : Aside0 (Below w6.heap.size w6 (wo.setCell ⟨bz, k * 2, none⟩ (.int .i64 0))) := ⟨HX.out.setCell hbb _⟩
        have H12N : Aside0 ((wo.setCell ⟨bz, k * 2, none⟩ (.int .i64 0)).heap[g12]? = some (.cells (cL (withWC c (W2 : Int) (C2 : Int)) (.slice (some ⟨bz, 0, none⟩) n cap2)).toArray 24 (0, 0))) := ⟨(Below.heap_setCell _ _ _ _ (Ne.symm hne)).trans H12.out⟩
        clear hgk HOl hz1 hne hbb
        go_wp2_with fail
        go_roundw
        case rel => exact ⟨k + 1, by omega, by go_num, HXN, H12N, HZ1⟩
        case measure => simp [intOf]; omega
      · obtain rfl : k = n := by omega
        obtain ⟨ns2, hns2⟩ : ∃ ns2, ns2 = nds f (zk z k) p k := ⟨_, rfl⟩
        have HL2 : Aside0 (ns2.length = k) := ⟨by rw [hns2]; exact nds_length _ _ _ _⟩
        have HC22 : Aside0 (cnt ns2 = p) := ⟨by rw [hns2]; exact made_cnt (zk_fz HFZ.out k) p⟩
        have HCK2 : Aside0 ((chkC (withWC c (W2 : Int) (C2 : Int)) ns2).1 = 0) := ⟨by
          rw [hns2]
          exact chk_wc HFZ.out (zk_fz HFZ.out k) HN1.out HP.out HCHK.out (by omega) ⟨by omega, by rw [HCE.out]; omega⟩⟩
        rw [← hns2] at HO
        have HND2 : Aside0 (NodesAt wo (some ⟨bz, 0, none⟩) ns2) := ⟨by have h := HO.out; rw [← HL2.out] at h; exact h.nodes⟩
        have HBo := Aside0.mk (HB6.out.trans (HX.out.mono HB6.out.size))
        have HLOC := locate_any (withWC c (W2 : Int) (C2 : Int)) (some ⟨bz, 0, none⟩) cap2 ns2 key wo HND2.out (by rw [HL2.out]; exact hcap2) hs (by rw [HL2.out]; omega) (by rw [HC22.out]; omega) hkz (HG.out.below HBo.out)
        rw [HL2.out] at HLOC
        have HLC := Aside0.mk HLOC
        have hr2 := loc_good (c := withWC c (W2 : Int) (C2 : Int)) (ns := ns2) HCK2.out HKEY.out (P := P) (W := W2) (C := C2) (by rw [HPE.out, HCN.out, HC22.out]) rfl rfl
        obtain ⟨q3, hq3⟩ : ∃ X, X = num4 key 4 % C2 := ⟨_, rfl⟩
        have HLT2 : Aside0 (q3 < C2) := ⟨by rw [hq3]; exact Nat.mod_lt _ (by omega)⟩
        rw [← HME.out, ← HQ1E.out, ← hq3] at hr2
        have HR2 := Aside0.mk hr2
        clear hq3
        clear HLOC hr2 hns2 HO HND2
        have hrg := blk_range H12.out
        go_wp2_with ((with_reducible refine gate_load (ty := 24) (x := .tmp 12) rfl ?_); refine wpList_load_mid rfl 24 (.tmp 12) rfl g12 0 rfl (cL (withWC c (W2 : Int) (C2 : Int)) (.slice (some ⟨bz, 0, none⟩) k cap2)) _ hrg Tryd.underlying24 rfl infoC23 ?_)
        clear hrg
        refine HLC.out.mono ?_
        rintro e w13 ⟨hb, rfl⟩
        rw [HR2.out]
        have HX13 := Aside0.mk (HX.out.trans (hb.mono HX.out.size))
        have H1213 : Aside0 (w13.heap[g12]? = some (.cells (cL (withWC c (W2 : Int) (C2 : Int)) (.slice (some ⟨bz, 0, none⟩) k cap2)).toArray 24 (0, 0))) := ⟨(hb.block _ (blk_lt H12.out)).trans H12.out⟩
        clear hb HX H12 HLC HR2
        obtain ⟨hth, hbk, hbl⟩ := pboxed ⟨0, ((q1 : Nat) : Int), ((q3 : Nat) : Int), M.drop (16 - W2)⟩ w13
        have HTH := Aside0.mk hth
        have HONE := Aside0.mk (plL_one ⟨0, ((q1 : Nat) : Int), ((q3 : Nat) : Int), M.drop (16 - W2)⟩)
        have HBQ := Aside0.mk hbk
        have HBL := Aside0.mk hbl
        clear hth hbk hbl
        go_upto_region 13 with ((with_reducible refine gate_store (ty := 44) (x := .tmp 14) (y := .tmp 64) rfl ?_); go_loud (refine wpList_store_mid rfl 44 (.tmp 14) (.tmp 64) rfl w13.heap.size 0 (plL ⟨0, ((q1 : Nat) : Int), ((q3 : Nat) : Int), M.drop (16 - W2)⟩).toArray rfl rfl HTH.out infoP HONE.out ?_))
        clear HTH HONE
        generalize World.setCells (w13.alloc (.cells #[.int .i64 0, .int .i64 0, .string { data := #[] }] 44)) w13.heap.size 0 (plL ⟨0, ((q1 : Nat) : Int), ((q3 : Nat) : Int), M.drop (16 - W2)⟩) = w14 at HBQ HBL ⊢
        obtain ⟨gq, hgq⟩ : ∃ gq, gq = w13.heap.size := ⟨_, rfl⟩
        have HX14 := Aside0.mk (HX13.out.trans (HBL.out.mono HX13.out.size))
        have H1214 : Aside0 (w14.heap[g12]? = some (.cells (cL (withWC c (W2 : Int) (C2 : Int)) (.slice (some ⟨bz, 0, none⟩) k cap2)).toArray 24 (0, 0))) := ⟨(HBL.out.block _ (blk_lt H1213.out)).trans H1213.out⟩
        rw [← hgq] at HBQ ⊢
        clear hgq HBL HX13 H1213
        go_wp2_with fail
        have hc1 := strs_new w14 [key] 9 (by simp)
        have HA1 := Aside0.mk ((Below.refl w14.heap.size w14).alloc (Nat.le_refl _) (.cells (List.map Value.string [key]).toArray 9))
        have hfl : Crc.flat [key] = key.data.toList := by simp [Crc.flat]
        refine (Sum.md5_any (some ⟨w14.heap.size, 0, none⟩) 1 [key] _ hc1 (by simp) (HG.out.below (HB6.out.trans ((HX14.out.trans (HA1.out.mono HX14.out.size)).mono HB6.out.size))) (by simp) (by rw [hfl, data_length]; omega)).mono ?_
        rintro e w15 ⟨rfl, hb⟩
        have hbd := HA1.out.trans (hb.mono HA1.out.size)
        rw [hfl, show Md5Pure.md5 key.data.toList = M from HME.out.symm]
        have HX15 := Aside0.mk (HX14.out.trans (hbd.mono HX14.out.size))
        have H1215 : Aside0 (w15.heap[g12]? = some (.cells (cL (withWC c (W2 : Int) (C2 : Int)) (.slice (some ⟨bz, 0, none⟩) k cap2)).toArray 24 (0, 0))) := ⟨(hbd.block _ (blk_lt H1214.out)).trans H1214.out⟩
        have HBQ15 : Aside0 (w15.heap[gq]? = some (.cells (plL ⟨0, ((q1 : Nat) : Int), ((q3 : Nat) : Int), M.drop (16 - W2)⟩).toArray 44 (0, 0))) := ⟨(hbd.block _ (blk_lt HBQ.out)).trans HBQ.out⟩
        have HBP15 : Aside0 (w15.heap[gp]? = some (.cells (plL ⟨0, ((q1 : Nat) : Int), ((q2 : Nat) : Int), M.drop (16 - W)⟩).toArray 44 (0, 0))) := ⟨(HX15.out.block _ (blk_lt HBK.out)).trans HBK.out⟩
        have H915 : Aside0 (w15.heap[g9]? = some (.cells (cL c (.slice A k cap)).toArray 24 (0, 0))) := ⟨by have h := (HX15.out.block _ (blk_lt H96.out)).trans H96.out; rw [HNL.out] at h; exact h⟩
        clear hc1 HA1 hfl hb hbd HX14 H1214 HBQ
        have HSM : Aside0 ((strOf M).size = 16) := ⟨by rw [strOf_size]; exact HML.out⟩
        go_wp2_with fail
        refine (num_any 0 w15).mono ?_
        rintro e w16 ⟨rfl, hb⟩
        have HX16 := Aside0.mk (HX15.out.trans (hb.mono HX15.out.size))
        have H1216 : Aside0 (w16.heap[g12]? = some (.cells (cL (withWC c (W2 : Int) (C2 : Int)) (.slice (some ⟨bz, 0, none⟩) k cap2)).toArray 24 (0, 0))) := ⟨(hb.block _ (blk_lt H1215.out)).trans H1215.out⟩
        have HBQ16 : Aside0 (w16.heap[gq]? = some (.cells (plL ⟨0, ((q1 : Nat) : Int), ((q3 : Nat) : Int), M.drop (16 - W2)⟩).toArray 44 (0, 0))) := ⟨(hb.block _ (blk_lt HBQ15.out)).trans HBQ15.out⟩
        have HBP16 : Aside0 (w16.heap[gp]? = some (.cells (plL ⟨0, ((q1 : Nat) : Int), ((q2 : Nat) : Int), M.drop (16 - W)⟩).toArray 44 (0, 0))) := ⟨(hb.block _ (blk_lt HBP15.out)).trans HBP15.out⟩
        have H916 : Aside0 (w16.heap[g9]? = some (.cells (cL c (.slice A k cap)).toArray 24 (0, 0))) := ⟨(hb.block _ (blk_lt H915.out)).trans H915.out⟩
        clear hb HX15 H1215 HBQ15 HBP15 H915
        go_wp2_with fail
        refine (num_any 0 w16).mono ?_
        rintro e w17 ⟨rfl, hb⟩
        have HX17 := Aside0.mk (HX16.out.trans (hb.mono HX16.out.size))
        have H1217 : Aside0 (w17.heap[g12]? = some (.cells (cL (withWC c (W2 : Int) (C2 : Int)) (.slice (some ⟨bz, 0, none⟩) k cap2)).toArray 24 (0, 0))) := ⟨(hb.block _ (blk_lt H1216.out)).trans H1216.out⟩
        have HBQ17 : Aside0 (w17.heap[gq]? = some (.cells (plL ⟨0, ((q1 : Nat) : Int), ((q3 : Nat) : Int), M.drop (16 - W2)⟩).toArray 44 (0, 0))) := ⟨(hb.block _ (blk_lt HBQ16.out)).trans HBQ16.out⟩
        have HBP17 : Aside0 (w17.heap[gp]? = some (.cells (plL ⟨0, ((q1 : Nat) : Int), ((q2 : Nat) : Int), M.drop (16 - W)⟩).toArray 44 (0, 0))) := ⟨(hb.block _ (blk_lt HBP16.out)).trans HBP16.out⟩
        have H917 : Aside0 (w17.heap[g9]? = some (.cells (cL c (.slice A k cap)).toArray 24 (0, 0))) := ⟨(hb.block _ (blk_lt H916.out)).trans H916.out⟩
        clear hb HX16 H1216 HBQ16 HBP16 H916
        have hp0 : w17.cell? ⟨gp, 0, none⟩ = some (.int .i64 ((q1 : Nat) : Int)) := by rw [blk_cell HBP17.out]; rfl
        have hq0 : w17.cell? ⟨gq, 0, none⟩ = some (.int .i64 ((q1 : Nat) : Int)) := by rw [blk_cell HBQ17.out]; rfl
        have hsm := HSM.out
        go_upto_region 16 with fail
        clear hp0 hq0 hsm
        refine PlcR.plc16 _ _ w17 gp gq g9 g12 k cap cap2 W C W2 C2 q1 q2 q3 c A (some ⟨bz, 0, none⟩) M HBP17 HBQ17 H917 H1217 HCE HWE hCb (by omega) hWb (by omega) HML.out HLT1 HLT2 rfl rfl rfl rfl rfl rfl ?_
        intro wv hbv
        have HBV := Aside0.mk (HX17.out.trans (hbv.mono HX17.out.size))
        clear hbv
        simp only [RegA.putV, Act.put, List.setIfInBounds_toArray, List.set_cons_zero, List.set_cons_succ]
        go_wp2_with fail
        go_ret
        exact ⟨rfl, HB6.out.trans (HBV.out.mono HB6.out.size)⟩
end Go.Proofs.YtljjpdjknnhceaaDoor.LawPlc
