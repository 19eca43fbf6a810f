/- Joined texts of this claim: LawNames -/
import Derived.Test.YtljjpdjknnhceaaDoorJRNam21
set_option linter.unusedVariables false
set_option linter.unusedSimpArgs false
/- RingNames: FileName and ReadName as the document has them; a file's own name is read back. -/
set_option linter.unusedVariables false
set_option linter.unusedSimpArgs false
namespace Go.Proofs.YtljjpdjknnhceaaDoor.LawNames
open Go.RowKit Go.Proofs.YtljjpdjknnhceaaDoorW.PrintWords Go.Proofs.YtljjpdjknnhceaaDoorW.PrintLast Go.Proofs.YtljjpdjknnhceaaDoorW.PrintMore
open Go.Lib Go.Proofs.YtljjpdjknnhceaaDoor.Base Go.Proofs.YtljjpdjknnhceaaDoor.Mids Go.Proofs.YtljjpdjknnhceaaDoor.Clus Go.Proofs.YtljjpdjknnhceaaDoor.NumPure Go.Proofs.YtljjpdjknnhceaaDoor.CutPure Go.Proofs.YtljjpdjknnhceaaDoor.NamePure Go.Proofs.YtljjpdjknnhceaaDoor.NumR Go.Proofs.YtljjpdjknnhceaaDoor.NumW Go.Proofs.YtljjpdjknnhceaaDoor.FileN Go.Proofs.YtljjpdjknnhceaaDoor.RefName Go.Proofs.YtljjpdjknnhceaaDoor.RefNameR Go.Proofs.YtljjpdjknnhceaaDoor.RefName2 Go.Proofs.YtljjpdjknnhceaaDoor.ReadN
theorem num_any (x : Int) (w : World) : Calls Tryd.prog 14 #[.int .i64 x] w fun e w' => e = .returned (.int .i64 x) ∧ Below w.heap.size w w' := by
  go_enter Tryd.func14, Tryd.ntmps14
  go_wp2
  go_ret
  exact ⟨rfl, Below.refl _ _⟩
def RV (o : Option Fl) (pt rp ck : Nat) (dt : Bool) (kk : Int) : Prop := o.getD fl0 = ⟨pt, rp, ck, dt⟩ ∧ (if o.isSome = true then (0 : Int) else 63) = kk
theorem rv_of (o : Option Fl) : ∃ pt rp ck dt kk, RV o pt rp ck dt kk := by
  rcases h : o.getD fl0 with ⟨a, b, c, d⟩
  exact ⟨a, b, c, d, _, h, rfl⟩
theorem rv_post {o : Option Fl} {pt rp ck : Nat} {dt : Bool} {kk : Int} (h : RV o pt rp ck dt kk) {w w' : World} {e : Ending} (hp : ReadPost o w e w') : e = .returned (.tuple #[.agg #[.int .i64 ((pt : Nat) : Int), .int .i64 ((rp : Nat) : Int), .int .i64 ((ck : Nat) : Int), .bool dt], .int .i64 kk]) ∧ Below w.heap.size w w' := by
  obtain ⟨he, hb⟩ := hp
  refine ⟨?_, hb⟩
  rw [he]
  unfold readV
  rw [h.1, h.2]
  rfl
/-- the file's own name, read: itself, or refused -/
theorem own_name (f : FI) : (okF f = true ∧ errF f = 0 ∧ readV (readP (nameF f).data.toList) = .tuple #[.agg #[.int .i64 f.p, .int .i64 f.r, .int .i64 f.c, .bool f.d], .int .i64 0]) ∨ (errF f = 1 ∧ readV (readP (nameF f).data.toList) = .tuple #[.agg #[.int .i64 0, .int .i64 0, .int .i64 0, .bool false], .int .i64 63]) := by
  by_cases e : okF f = true
  · have hi : inR (toF f) := by
      unfold okF Go.Proofs.YtljjpdjknnhceaaDoor.Sort.wiB at e
      simp only [Bool.and_eq_true, decide_eq_true_eq] at e
      unfold inR toF
      simp only
      omega
    refine .inl ⟨e, by unfold errF; rw [if_pos e], ?_⟩
    have hn : (nameF f).data.toList = fileN (toF f) := by unfold nameF; rw [if_pos e]
    rw [hn, readP_file _ hi]
    unfold readV
    rw [show (some (toF f)).getD fl0 = toF f from rfl, ← fv_eq e]
    rfl
  · refine .inr ⟨by unfold errF; rw [if_neg e], ?_⟩
    have hn : (nameF f).data.toList = [] := by unfold nameF; rw [if_neg e]
    rw [hn, show readP [] = none by decide]
    rfl
set_option maxRecDepth 100000 in
set_option maxHeartbeats 4000000 in
theorem law_names (f : FI) (s : ByteArray) (w : World) (hm : GM w) (hs : s.size ≤ 2147483647) : Calls Tryd.prog 9 #[fV f, .string s] w fun e w' => e = .returned (.bool true) ∧ Below w.heap.size w w' := by
  have hb0 := (Below.refl w.heap.size w).alloc (Nat.le_refl _) (.cells (fvL f).toArray 70)
  have HM := Aside0.mk (hm.below hb0)
  have HB := Aside0.mk hb0
  have HG := Aside0.mk (Go.heap_alloc_new w (.cells (fvL f).toArray 70))
  have HNS : Aside0 (∃ nm : ByteArray, nm = nameF f ∧ nm.size ≤ 14) := ⟨⟨_, rfl, by
    unfold nameF
    by_cases e : okF f = true
    · rw [if_pos e]
      have hi : inR (toF f) := by
        unfold okF Go.Proofs.YtljjpdjknnhceaaDoor.Sort.wiB at e
        simp only [Bool.and_eq_true, decide_eq_true_eq] at e
        unfold inR toF
        simp only
        omega
      simpa [ByteArray.size] using file_len (toF f) hi
    · rw [if_neg e]; decide⟩⟩
  have hf := file_any f (w.alloc (.cells (fvL f).toArray 70))
  have HRF := Aside0.mk (fun W => ref_any f W)
  obtain ⟨nm, hnm, hn14⟩ := HNS.out
  obtain ⟨ee, hee⟩ : ∃ ee, ee = errF f := ⟨_, rfl⟩
  unfold FilePost at hf HRF
  rw [← hnm, ← hee] at hf
  rw [← hnm, ← hee] at HRF
  have HNM := Aside0.mk hnm
  have HEE := Aside0.mk hee
  have HSAME := Aside0.mk (read_same s.data.toList)
  obtain ⟨pt, rp, ck, dt, kk, hrv⟩ := rv_of (readP s.data.toList)
  have HRV := Aside0.mk hrv
  have hown := own_name f
  rw [← hnm, ← hee] at hown
  have HOWN := Aside0.mk hown
  clear hown
  obtain ⟨p, r, c, d⟩ := f
  have hfv : fV ⟨p, r, c, d⟩ = .agg #[.int .i64 p, .int .i64 r, .int .i64 c, .bool d] := rfl
  rw [hfv] at hf HRF ⊢
  have HFB : Aside0 ((w.alloc (.cells (fvL ⟨p, r, c, d⟩).toArray 70)).heap[w.heap.size]? = some (.cells #[.int .i64 p, .int .i64 r, .int .i64 c, .bool d] 70 (0, 0))) := ⟨HG.out⟩
  have hrg := blk_range HG.out
  clear hnm hee hrv hb0 HG HNS hfv hm
  go_enter Tryd.func9, Tryd.ntmps9
  go_upto_region 1 with fail
  generalize hw1 : w.alloc (.cells (fvL ⟨p, r, c, d⟩).toArray 70) = w1 at hf HM HB HFB hrg
  rw [show w.alloc (.cells #[.int .i64 p, .int .i64 r, .int .i64 c, .bool d] 70) = w1 from hw1]
  clear hw1
  obtain ⟨G, hG⟩ : ∃ G, G = w.heap.size := ⟨_, rfl⟩
  rw [← hG] at HFB hrg ⊢
  have HGE := Aside0.mk hG
  have hrg : w1.rangeAt G 0 [.int .i64 p, .int .i64 r, .int .i64 c, .bool d] := hrg
  clear hG
  go_wp2_with ((with_reducible refine gate_load (ty := 70) (x := .tmp 2) rfl ?_); refine wpList_load_mid rfl 70 (.tmp 2) rfl G 0 rfl [.int .i64 p, .int .i64 r, .int .i64 c, .bool d] _ hrg Tryd.underlying70 rfl infoF ?_)
  refine hf.mono ?_
  rintro e w2 ⟨rfl, hb⟩
  have HB2 := Aside0.mk (HB.out.trans (hb.mono HB.out.size))
  have HM2 := Aside0.mk (HM.out.below hb)
  have HFB2 := Aside0.mk ((hb.block _ (blk_lt HFB.out)).trans HFB.out)
  clear hb hf hrg HM HB HFB
  have hrg : w2.rangeAt G 0 [.int .i64 p, .int .i64 r, .int .i64 c, .bool d] := blk_range HFB2.out
  go_wp2_with ((with_reducible refine gate_load (ty := 70) (x := .tmp 2) rfl ?_); refine wpList_load_mid rfl 70 (.tmp 2) rfl G 0 rfl [.int .i64 p, .int .i64 r, .int .i64 c, .bool d] _ hrg Tryd.underlying70 rfl infoF ?_)
  refine (HRF.out w2).mono ?_
  rintro e w3 ⟨rfl, hb⟩
  have HB3 := Aside0.mk (HB2.out.trans (hb.mono HB2.out.size))
  have HM3 := Aside0.mk (HM2.out.below hb)
  have HFB3 := Aside0.mk ((hb.block _ (blk_lt HFB2.out)).trans HFB2.out)
  have hnn : (nm.toList != nm.toList) = false := by simp
  have hne : (ee != ee) = false := by simp
  clear hb hrg HB2 HM2 HFB2 HRF
  go_wp2_with fail
  refine (num_any ee w3).mono ?_
  rintro e w4 ⟨rfl, hb⟩
  have HB4 := Aside0.mk (HB3.out.trans (hb.mono HB3.out.size))
  have HM4 := Aside0.mk (HM3.out.below hb)
  have HFB4 := Aside0.mk ((hb.block _ (blk_lt HFB3.out)).trans HFB3.out)
  clear hb HB3 HM3 HFB3
  go_wp2_with fail
  refine (readn_any s w4 HM4.out hs).mono ?_
  rintro e w5 hpost
  obtain ⟨rfl, hb⟩ := rv_post HRV.out hpost
  have HB5 := Aside0.mk (HB4.out.trans (hb.mono HB4.out.size))
  have HM5 := Aside0.mk (HM4.out.below hb)
  have HFB5 := Aside0.mk ((hb.block _ (blk_lt HFB4.out)).trans HFB4.out)
  clear hb hpost HB4 HM4 HFB4
  go_upto_region 6 with fail
  have hx := Go.heap_alloc_new w5 (.cells #[.int .i64 (pt : Int), .int .i64 (rp : Int), .int .i64 (ck : Int), .bool dt] 70)
  have hbx := (Below.refl w5.heap.size w5).alloc (Nat.le_refl _) (.cells #[.int .i64 (pt : Int), .int .i64 (rp : Int), .int .i64 (ck : Int), .bool dt] 70)
  generalize w5.alloc (.cells #[.int .i64 (pt : Int), .int .i64 (rp : Int), .int .i64 (ck : Int), .bool dt] 70) = w6 at hx hbx ⊢
  have HB6 := Aside0.mk (HB5.out.trans (hbx.mono HB5.out.size))
  have HM6 := Aside0.mk (HM5.out.below hbx)
  have HFB6 := Aside0.mk ((hbx.block _ (blk_lt HFB5.out)).trans HFB5.out)
  generalize w5.heap.size = X at hx ⊢
  have HX6 := Aside0.mk hx
  clear hx hbx HB5 HM5 HFB5
  go_wp2_with fail
  refine (refname_any s w6).mono ?_
  rintro e w7 hpost
  rw [← HSAME.out] at hpost
  obtain ⟨rfl, hb⟩ := rv_post HRV.out hpost
  have HB7 := Aside0.mk (HB6.out.trans (hb.mono HB6.out.size))
  have HM7 := Aside0.mk (HM6.out.below hb)
  have HFB7 := Aside0.mk ((hb.block _ (blk_lt HFB6.out)).trans HFB6.out)
  have HX7 := Aside0.mk ((hb.block _ (blk_lt HX6.out)).trans HX6.out)
  clear hb hpost HB6 HM6 HFB6 HX6
  go_upto_region 7 with fail
  have hx := Go.heap_alloc_new w7 (.cells #[.int .i64 (pt : Int), .int .i64 (rp : Int), .int .i64 (ck : Int), .bool dt] 70)
  have hbx := (Below.refl w7.heap.size w7).alloc (Nat.le_refl _) (.cells #[.int .i64 (pt : Int), .int .i64 (rp : Int), .int .i64 (ck : Int), .bool dt] 70)
  generalize w7.alloc (.cells #[.int .i64 (pt : Int), .int .i64 (rp : Int), .int .i64 (ck : Int), .bool dt] 70) = w8 at hx hbx ⊢
  have HB8 := Aside0.mk (HB7.out.trans (hbx.mono HB7.out.size))
  have HM8 := Aside0.mk (HM7.out.below hbx)
  have HFB8 := Aside0.mk ((hbx.block _ (blk_lt HFB7.out)).trans HFB7.out)
  have hx7 := (hbx.block _ (blk_lt HX7.out)).trans HX7.out
  generalize w7.heap.size = Y at hx ⊢
  have x0 := cell_of_row _ _ 0 _ _ _ hx7
  have x1 := cell_of_row _ _ 1 _ _ _ hx7
  have x2 := cell_of_row _ _ 2 _ _ _ hx7
  have x3 := cell_of_row _ _ 3 _ _ _ hx7
  have y0 := cell_of_row _ _ 0 _ _ _ hx
  have y1 := cell_of_row _ _ 1 _ _ _ hx
  have y2 := cell_of_row _ _ 2 _ _ _ hx
  have y3 := cell_of_row _ _ 3 _ _ _ hx
  simp only [List.getElem?_toArray, List.getElem?_cons_zero, List.getElem?_cons_succ] at x0 x1 x2 x3 y0 y1 y2 y3
  have hkk : (kk != kk) = false := by simp
  have hdd : (dt != dt) = false := by simp
  have hpp : ((pt : Int) != (pt : Int)) = false := by simp
  have hrr : ((rp : Int) != (rp : Int)) = false := by simp
  have hcc : ((ck : Int) != (ck : Int)) = false := by simp
  clear hx hx7 hbx HB7 HM7 HFB7 HX7
  go_wp2_with fail
  refine (num_any kk w8).mono ?_
  rintro e w9 ⟨rfl, hb⟩
  have HB9 := Aside0.mk (HB8.out.trans (hb.mono HB8.out.size))
  have HM9 := Aside0.mk (HM8.out.below hb)
  have HFB9 := Aside0.mk ((hb.block _ (blk_lt HFB8.out)).trans HFB8.out)
  clear hb HB8 HM8 HFB8 x0 x1 x2 x3 y0 y1 y2 y3 hdd hpp hrr hcc
  go_wp2_with fail
  rcases HOWN.out with ⟨hok, he0, hv⟩ | ⟨he0, hv⟩
  · subst he0
    have HV := Aside0.mk hv
    clear hv hok hnn hne hkk
    refine (readn_any nm w9 HM9.out (by omega)).mono ?_
    rintro e w10 ⟨he, hb⟩
    rw [HV.out] at he
    subst he
    have HB10 := Aside0.mk (HB9.out.trans (hb.mono HB9.out.size))
    have HFB10 := Aside0.mk ((hb.block _ (blk_lt HFB9.out)).trans HFB9.out)
    clear hb HB9 HM9 HFB9
    go_upto_region 10 with fail
    have hx := Go.heap_alloc_new w10 (.cells #[.int .i64 p, .int .i64 r, .int .i64 c, .bool d] 70)
    have hbx := (Below.refl w10.heap.size w10).alloc (Nat.le_refl _) (.cells #[.int .i64 p, .int .i64 r, .int .i64 c, .bool d] 70)
    generalize w10.alloc (.cells #[.int .i64 p, .int .i64 r, .int .i64 c, .bool d] 70) = w11 at hx hbx ⊢
    have HB11 := Aside0.mk (HB10.out.trans (hbx.mono HB10.out.size))
    have HFB11 := Aside0.mk ((hbx.block _ (blk_lt HFB10.out)).trans HFB10.out)
    generalize w10.heap.size = Z at hx ⊢
    have HZ11 := Aside0.mk hx
    clear hx hbx HB10 HFB10
    go_wp2_with fail
    refine (num_any _ w11).mono ?_
    rintro e w12 ⟨rfl, hb⟩
    have HB12 := Aside0.mk (HB11.out.trans (hb.mono HB11.out.size))
    have HFB12 := Aside0.mk ((hb.block _ (blk_lt HFB11.out)).trans HFB11.out)
    have HZ12 := Aside0.mk ((hb.block _ (blk_lt HZ11.out)).trans HZ11.out)
    clear hb HB11 HFB11 HZ11
    go_wp2_with fail
    refine (num_any _ w12).mono ?_
    rintro e w13 ⟨rfl, hb⟩
    have HB13 := Aside0.mk (HB12.out.trans (hb.mono HB12.out.size))
    have hf13 := (hb.block _ (blk_lt HFB12.out)).trans HFB12.out
    have hz13 := (hb.block _ (blk_lt HZ12.out)).trans HZ12.out
    have x0 := cell_of_row _ _ 0 _ _ _ hf13
    have x1 := cell_of_row _ _ 1 _ _ _ hf13
    have x2 := cell_of_row _ _ 2 _ _ _ hf13
    have x3 := cell_of_row _ _ 3 _ _ _ hf13
    have y0 := cell_of_row _ _ 0 _ _ _ hz13
    have y1 := cell_of_row _ _ 1 _ _ _ hz13
    have y2 := cell_of_row _ _ 2 _ _ _ hz13
    have y3 := cell_of_row _ _ 3 _ _ _ hz13
    simp only [List.getElem?_toArray, List.getElem?_cons_zero, List.getElem?_cons_succ] at x0 x1 x2 x3 y0 y1 y2 y3
    have hpp : (p == p) = true := by simp
    have hrr : (r == r) = true := by simp
    have hcc : (c == c) = true := by simp
    have hdd : (d == d) = true := by simp
    clear hf13 hz13
    clear hb HB12 HFB12 HZ12
    go_wp2_with fail
    go_ret
    exact ⟨rfl, HB13.out⟩
  · subst he0
    have HV := Aside0.mk hv
    clear hv hnn hne hkk
    refine (readn_any nm w9 HM9.out (by omega)).mono ?_
    rintro e w10 ⟨he, hb⟩
    rw [HV.out] at he
    subst he
    have HB10 := Aside0.mk (HB9.out.trans (hb.mono HB9.out.size))
    have HFB10 := Aside0.mk ((hb.block _ (blk_lt HFB9.out)).trans HFB9.out)
    clear hb HB9 HM9 HFB9
    go_upto_region 10 with fail
    have hx := Go.heap_alloc_new w10 (.cells #[.int .i64 0, .int .i64 0, .int .i64 0, .bool false] 70)
    have hbx := (Below.refl w10.heap.size w10).alloc (Nat.le_refl _) (.cells #[.int .i64 0, .int .i64 0, .int .i64 0, .bool false] 70)
    generalize w10.alloc (.cells #[.int .i64 0, .int .i64 0, .int .i64 0, .bool false] 70) = w11 at hx hbx ⊢
    have HB11 := Aside0.mk (HB10.out.trans (hbx.mono HB10.out.size))
    have HFB11 := Aside0.mk ((hbx.block _ (blk_lt HFB10.out)).trans HFB10.out)
    generalize w10.heap.size = Z at hx ⊢
    have HZ11 := Aside0.mk hx
    clear hx hbx HB10 HFB10
    go_wp2_with fail
    refine (num_any _ w11).mono ?_
    rintro e w12 ⟨rfl, hb⟩
    have HB12 := Aside0.mk (HB11.out.trans (hb.mono HB11.out.size))
    have HFB12 := Aside0.mk ((hb.block _ (blk_lt HFB11.out)).trans HFB11.out)
    have HZ12 := Aside0.mk ((hb.block _ (blk_lt HZ11.out)).trans HZ11.out)
    clear hb HB11 HFB11 HZ11
    go_wp2_with fail
    refine (num_any _ w12).mono ?_
    rintro e w13 ⟨rfl, hb⟩
    have HB13 := Aside0.mk (HB12.out.trans (hb.mono HB12.out.size))
    clear hb HB12 HFB12 HZ12
    go_wp2_with fail
    go_ret
    exact ⟨rfl, HB13.out⟩
end Go.Proofs.YtljjpdjknnhceaaDoor.LawNames
