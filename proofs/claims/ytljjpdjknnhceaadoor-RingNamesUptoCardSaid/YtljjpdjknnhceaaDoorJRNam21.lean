/- Joined texts of this claim: ReadN -/
import Derived.Test.YtljjpdjknnhceaaDoorJRNam20
set_option linter.unusedVariables false
set_option linter.unusedSimpArgs false
/- ring.ReadName walked. -/
set_option linter.unusedVariables false
set_option linter.unusedSimpArgs false
namespace Go.Proofs.YtljjpdjknnhceaaDoor.ReadN
open Go.RowKit Go.Proofs.YtljjpdjknnhceaaDoorW.PrintWords Go.Proofs.YtljjpdjknnhceaaDoorW.PrintLast Go.Proofs.YtljjpdjknnhceaaDoorW.PrintMore
open Go.Lib Go.Proofs.YtljjpdjknnhceaaDoor.Base Go.Proofs.YtljjpdjknnhceaaDoor.Mids Go.Proofs.YtljjpdjknnhceaaDoor.Clus Go.Proofs.YtljjpdjknnhceaaDoor.NumPure Go.Proofs.YtljjpdjknnhceaaDoor.CutPure Go.Proofs.YtljjpdjknnhceaaDoor.NamePure Go.Proofs.YtljjpdjknnhceaaDoor.NumR Go.Proofs.YtljjpdjknnhceaaDoor.NumW Go.Proofs.YtljjpdjknnhceaaDoor.FileN Go.Proofs.YtljjpdjknnhceaaDoor.RefName Go.Proofs.YtljjpdjknnhceaaDoor.RefNameR Go.Proofs.YtljjpdjknnhceaaDoor.RefName2
/-- the library's cell that strings' search reads -/
def GM (w : World) : Prop := ∃ m, w.cell? ⟨Tryd.laysM145_ren.g 1, 0, none⟩ = some (.int .i64 m)
theorem GM.of_shape {w : World} (h : w.ShapedOpen Tryd.prog) : GM w := Tryd.laysM145.s1_3 w h
theorem GM.below {w w1 : World} (h : GM w) (hb : Below w.heap.size w w1) : GM w1 := by
  obtain ⟨m, h⟩ := h
  exact ⟨m, cell_below hb (Nat.le_refl _) h⟩
theorem cut_dot (s : ByteArray) (w : World) (hm : GM w) (hs : s.size ≤ 2147483647) : Calls Tryd.prog 72 #[.string s, .string ⟨#[46]⟩] w fun e w' => e = .returned (.tuple #[.string (strO (cut s.data.toList [46]).1), .string (strO (cut s.data.toList [46]).2.1), .bool (cut s.data.toList [46]).2.2]) ∧ ∃ n, w' = w.drewN n := by
  obtain ⟨m, hm⟩ := hm
  exact Any.strings_Cut { Tryd.laysM145 with } s ⟨#[46]⟩ m w (by omega) hm
theorem split_list (c : UInt8) (s : ByteArray) : Lib.splitB ⟨#[c]⟩ 0 (Lib.countB s ⟨#[c]⟩) s = (pcs c s.data.toList).map strO := by
  have h1 := splitB_data ⟨#[c]⟩ 0 (Lib.countB s ⟨#[c]⟩) s
  have h2 : splitK [c] 0 (Lib.countB s ⟨#[c]⟩) s.data.toList = pcs c s.data.toList := splitK_pcs c _ _ rfl
  have h3 := h1.trans h2
  rw [← h3, List.map_map]
  have : (strO ∘ fun x : ByteArray => x.data.toList) = id := by funext x; rfl
  rw [this, List.map_id]
theorem split_bar2 (s : ByteArray) (w : World) (hm : GM w) (hs : s.size ≤ 2147483647) : Calls Tryd.prog 69 #[.string s, .string ⟨#[95]⟩] w fun e w' =>
    e = .returned (.slice (some ⟨w.heap.size, 0, none⟩) (pcs 95 s.data.toList).length (pcs 95 s.data.toList).length) ∧ w' = w.alloc (.cells (((pcs 95 s.data.toList).map strO).map Value.string).toArray 9) := by
  obtain ⟨m, hm⟩ := hm
  have h := Any.strings_Split { Tryd.laysM146 with } Tryd.laysM146.i9 s ⟨#[95]⟩ m w (by omega) hm (by decide)
  have hl : Lib.countB s ⟨#[95]⟩ + 1 = (pcs 95 s.data.toList).length := by
    have := splitB_all ⟨#[95]⟩ (by decide) 0 _ s rfl
    rw [← this, split_list, List.length_map]
  rw [hl, split_list] at h
  exact h
theorem yes_retN {W w : World} {o : Option Fl} {fi : FI} {tmps : Array Value} (hp : tmps.getD 2 undef = .pointer (some ⟨w.heap.size, 0, none⟩)) (hk : tmps.getD 3 undef = .int .i64 0) (hg : W.heap[w.heap.size]? = some (.cells (flL fl0).toArray 70 (0, 0))) (hB : Below w.heap.size w W) (ho : o = some (toF fi)) (hf : fvL fi = flL (toF fi)) {d : List _} (hd : d = []) :
    bodyPost Tryd.prog Tryd.f35 (ReadPost o w) Exit.ret ⟨tmps, d⟩ (W.setCells w.heap.size 0 (fvL fi)) := by
  subst ho hd
  rw [hf]
  refine bodyPost_ret (v := readV (some (toF fi))) ?_ rfl ⟨rfl, below_setCells hB (Nat.le_refl _) _ _⟩
  unfold readV
  rw [show (if (some (toF fi)).isSome = true then (0 : Int) else 63) = 0 from rfl, ← hk]
  exact results_list (rs := [.cell 2 70, .tmp 3]) rfl (by simp) (.cell _ _ _ _ _ hp (setCells_whole hg rfl) Tryd.underlying70 rfl infoF (.tmp .nil))
theorem no_retN {W w : World} {o : Option Fl} {tmps : Array Value} (hp : tmps.getD 2 undef = .pointer (some ⟨w.heap.size, 0, none⟩)) (hk : tmps.getD 3 undef = .int .i64 63) (hg : W.heap[w.heap.size]? = some (.cells (flL fl0).toArray 70 (0, 0))) (hB : Below w.heap.size w W) (ho : o = none) {d : List _} (hd : d = []) :
    bodyPost Tryd.prog Tryd.f35 (ReadPost o w) Exit.ret ⟨tmps, d⟩ (W.setCells w.heap.size 0 (flL fl0)) := by
  subst ho hd
  refine bodyPost_ret (v := readV none) ?_ rfl ⟨rfl, below_setCells hB (Nat.le_refl _) _ _⟩
  unfold readV
  rw [show (if (none : Option Fl).isSome = true then (0 : Int) else 63) = 63 from rfl, ← hk]
  exact results_list (rs := [.cell 2 70, .tmp 3]) rfl (by simp) (.cell _ _ _ _ _ hp (setCells_whole hg rfl) Tryd.underlying70 rfl infoF (.tmp .nil))
theorem readP_no {l : List UInt8} (h : ¬ ((cut l [46]).2.2 = true ∧ ((cut l [46]).2.1 = indexW ∨ (cut l [46]).2.1 = dataW))) : readP l = none := if_neg h
theorem readP_yes {l : List UInt8} (h : (cut l [46]).2.2 = true ∧ ((cut l [46]).2.1 = indexW ∨ (cut l [46]).2.1 = dataW)) : readP l = readW (decide ((cut l [46]).2.1 = dataW)) (pcs 95 (cut l [46]).1) := if_pos h
theorem cut_le (c : UInt8) (l : List UInt8) : (cut l [c]).1.length ≤ l.length := by
  rcases cut_cases c l with ⟨_, h⟩ | ⟨a, b, _, rfl, h⟩
  · rw [h]; exact Nat.le_refl _
  · rw [h, List.length_append]; exact Nat.le_add_right _ _
theorem new_thereF (w : World) : (w.alloc (.cells (flL fl0).toArray 70)).there w.heap.size 0 4 := blk_there (Go.heap_alloc_new w _)
theorem file_new (w : World) (d : Bool) : (((w.alloc (.cells (flL fl0).toArray 70)).setCells w.heap.size 0 (fvL ⟨0, 0, 0, d⟩)).heap[w.heap.size]? = some (.cells (fvL ⟨0, 0, 0, d⟩).toArray 70 (0, 0))) ∧ Below w.heap.size w ((w.alloc (.cells (flL fl0).toArray 70)).setCells w.heap.size 0 (fvL ⟨0, 0, 0, d⟩)) :=
  ⟨setCells_whole (Go.heap_alloc_new w _) rfl, below_setCells ((Below.refl _ _).alloc (Nat.le_refl _) _) (Nat.le_refl _) _ _⟩
theorem pcs_sum (c : UInt8) : ∀ l, ((pcs c l).map List.length).sum ≤ l.length := fun l => by
  induction l with
  | nil => simp [pcs]
  | cons b l ih =>
    unfold pcs
    split
    · simp; omega
    · split
      · simp
      · next q r hp => rw [hp] at ih; simp at ih ⊢; omega
/-- behind k rounds -/
def fk (k : Nat) (x y z : ByteArray) (d : Bool) : FI := ⟨if 0 < k then ((numN x.data.toList : Nat) : Int) else 0, if 1 < k then ((numN y.data.toList : Nat) : Int) else 0, if 2 < k then ((numN z.data.toList : Nat) : Int) else 0, d⟩
structure St (w w5 wr : World) (F k : Nat) (x y z : ByteArray) (d : Bool) : Prop where mk ::
  (bel : Below w.heap.size w5 wr) (old : ∀ b, b < w5.heap.size → b ≠ F → wr.heap[b]? = w5.heap[b]?) (row : wr.heap[F]? = some (.cells (fvL (fk k x y z d)).toArray 70 (0, 0)))
  (n0 : 0 < k → numB x.data.toList = true) (n1 : 1 < k → numB y.data.toList = true) (n2 : 2 < k → numB z.data.toList = true)
theorem row_set0 {W : World} {F : Nat} {f : FI} (h : W.heap[F]? = some (.cells (fvL f).toArray 70 (0, 0))) (n : Int) : (W.setCell ⟨F, 0, none⟩ (.int .i64 n)).heap[F]? = some (.cells (fvL { f with p := n }).toArray 70 (0, 0)) := by
  rw [heap_setCell_same _ _ _ _ _ _ h]
  rfl
theorem row_set1 {W : World} {F : Nat} {f : FI} (h : W.heap[F]? = some (.cells (fvL f).toArray 70 (0, 0))) (n : Int) : (W.setCell ⟨F, 1, none⟩ (.int .i64 n)).heap[F]? = some (.cells (fvL { f with r := n }).toArray 70 (0, 0)) := by
  rw [heap_setCell_same _ _ _ _ _ _ h]
  rfl
theorem row_set2 {W : World} {F : Nat} {f : FI} (h : W.heap[F]? = some (.cells (fvL f).toArray 70 (0, 0))) (n : Int) : (W.setCell ⟨F, 2, none⟩ (.int .i64 n)).heap[F]? = some (.cells (fvL { f with c := n }).toArray 70 (0, 0)) := by
  rw [heap_setCell_same _ _ _ _ _ _ h]
  rfl
theorem st_next0 {w w5 wr w6 : World} {F : Nat} {x y z : ByteArray} {d : Bool} (h : St w w5 wr F 0 x y z d) (hb : Below wr.heap.size wr w6) (hr : w6.heap[F]? = some (.cells (fvL (fk 0 x y z d)).toArray 70 (0, 0))) (hB : numB x.data.toList = true) (hF : w.heap.size ≤ F) (HSZ : w.heap.size ≤ w5.heap.size) :
    St w w5 (w6.setCell ⟨F, 0, none⟩ (.int .i64 ((numN x.data.toList : Nat) : Int))) F 1 x y z d :=
  ⟨(h.bel.trans (hb.mono (Nat.le_trans HSZ h.bel.size))).setCell hF _, fun b h1 h2 => (heap_setCell_other _ ⟨F, 0, none⟩ b _ h2).trans ((hb.block b (Nat.lt_of_lt_of_le h1 h.bel.size)).trans (h.old b h1 h2)), row_set0 hr _, fun _ => hB, fun h => absurd h (by decide), fun h => absurd h (by decide)⟩
theorem st_next1 {w w5 wr w6 : World} {F : Nat} {x y z : ByteArray} {d : Bool} (h : St w w5 wr F 1 x y z d) (hb : Below wr.heap.size wr w6) (hr : w6.heap[F]? = some (.cells (fvL (fk 1 x y z d)).toArray 70 (0, 0))) (hB : numB y.data.toList = true) (hF : w.heap.size ≤ F) (HSZ : w.heap.size ≤ w5.heap.size) :
    St w w5 (w6.setCell ⟨F, 1, none⟩ (.int .i64 ((numN y.data.toList : Nat) : Int))) F 2 x y z d :=
  ⟨(h.bel.trans (hb.mono (Nat.le_trans HSZ h.bel.size))).setCell hF _, fun b h1 h2 => (heap_setCell_other _ ⟨F, 1, none⟩ b _ h2).trans ((hb.block b (Nat.lt_of_lt_of_le h1 h.bel.size)).trans (h.old b h1 h2)), row_set1 hr _, fun _ => h.n0 (by decide), fun _ => hB, fun h => absurd h (by decide)⟩
theorem st_next2 {w w5 wr w6 : World} {F : Nat} {x y z : ByteArray} {d : Bool} (h : St w w5 wr F 2 x y z d) (hb : Below wr.heap.size wr w6) (hr : w6.heap[F]? = some (.cells (fvL (fk 2 x y z d)).toArray 70 (0, 0))) (hB : numB z.data.toList = true) (hF : w.heap.size ≤ F) (HSZ : w.heap.size ≤ w5.heap.size) :
    St w w5 (w6.setCell ⟨F, 2, none⟩ (.int .i64 ((numN z.data.toList : Nat) : Int))) F 3 x y z d :=
  ⟨(h.bel.trans (hb.mono (Nat.le_trans HSZ h.bel.size))).setCell hF _, fun b h1 h2 => (heap_setCell_other _ ⟨F, 2, none⟩ b _ h2).trans ((hb.block b (Nat.lt_of_lt_of_le h1 h.bel.size)).trans (h.old b h1 h2)), row_set2 hr _, fun _ => h.n0 (by decide), fun _ => h.n1 (by decide), fun _ => hB⟩
theorem readW_b0 {d : Bool} {x y z : List UInt8} (h : numB (strO x).data.toList = false) : readW d [x, y, z] = none := by
  have h : numL x = none := by unfold numB at h; cases e : numL x with
    | none => rfl
    | some n => rw [show (strO x).data.toList = x from rfl, e] at h; cases h
  simp only [readW, h]
theorem readW_b1 {d : Bool} {x y z : List UInt8} (h : numB (strO y).data.toList = false) : readW d [x, y, z] = none := by
  have h : numL y = none := by unfold numB at h; cases e : numL y with
    | none => rfl
    | some n => rw [show (strO y).data.toList = y from rfl, e] at h; cases h
  simp only [readW, h]
  cases numL x <;> rfl
theorem readW_b2 {d : Bool} {x y z : List UInt8} (h : numB (strO z).data.toList = false) : readW d [x, y, z] = none := by
  have h : numL z = none := by unfold numB at h; cases e : numL z with
    | none => rfl
    | some n => rw [show (strO z).data.toList = z from rfl, e] at h; cases h
  simp only [readW, h]
  cases numL x <;> cases numL y <;> rfl
theorem num_of {l : List UInt8} (h : numB l = true) : numL l = some (numN l) := by
  unfold numB at h
  unfold numN
  cases e : numL l with
  | none => rw [e] at h; cases h
  | some n => rfl
theorem readW_in {d : Bool} {x y z : List UInt8} (hx : numB (strO x).data.toList = true) (hy : numB (strO y).data.toList = true) (hz : numB (strO z).data.toList = true) :
    readW d [x, y, z] = if numN (strO x).data.toList ≤ 63 ∧ numN (strO y).data.toList ≤ 15 ∧ numN (strO z).data.toList ≤ 15 then some ⟨numN (strO x).data.toList, numN (strO y).data.toList, numN (strO z).data.toList, d⟩ else none := by
  have h1 : numL x = some (numN (strO x).data.toList) := num_of hx
  have h2 : numL y = some (numN (strO y).data.toList) := num_of hy
  have h3 : numL z = some (numN (strO z).data.toList) := num_of hz
  simp only [readW, h1, h2, h3]
theorem readW_m {d : Bool} {ps : List (List UInt8)} (h : ps.length ≠ 3) : readW d ps = none := by
  rcases ps with _ | ⟨a, _ | ⟨b, _ | ⟨c, _ | ⟨x, l⟩⟩⟩⟩ <;> first | rfl | exact absurd rfl h
set_option maxRecDepth 100000 in
set_option maxHeartbeats 4000000 in
theorem readn_any (s : ByteArray) (w : World) (hm : GM w) (hs : s.size ≤ 2147483647) : Calls Tryd.prog 35 #[.string s] w (ReadPost (readP s.data.toList) w) := by
  have hb0 := (Below.refl w.heap.size w).alloc (Nat.le_refl _) (.cells (flL fl0).toArray 70)
  have HM := Aside0.mk (hm.below hb0)
  have HB := Aside0.mk hb0
  have HG := Aside0.mk (Go.heap_alloc_new w (.cells (flL fl0).toArray 70))
  clear hb0 hm
  go_enter Tryd.func35, Tryd.ntmps35
  go_upto_region 1 with fail
  have HP1 := Aside0.mk (readP_no (l := s.data.toList))
  have HP2 := Aside0.mk (readP_yes (l := s.data.toList))
  have hc := cut_dot s _ HM.out hs
  obtain ⟨p, ex, ok, hcut⟩ : ∃ p ex ok, cut s.data.toList [46] = (p, ex, ok) := ⟨_, _, _, rfl⟩
  rw [hcut] at hc HP1 HP2
  have hpl : (strO p).size ≤ 2147483647 := by
    have := cut_le 46 s.data.toList
    rw [hcut, data_length] at this
    show p.toArray.size ≤ _
    simp only [List.size_toArray]
    exact Nat.le_trans this hs
  have HEN : Aside0 ((strO ex).data.toList = ex) := ⟨rfl⟩
  have HST : Aside0 ((strO p).data.toList = p) := ⟨rfl⟩
  generalize strO ex = en at hc HEN
  generalize strO p = st at hc hpl HST
  clear hcut
  go_wp2_with fail
  refine hc.mono ?_
  rintro e w2 ⟨rfl, q, rfl⟩
  have HB2 := Aside0.mk (pw_below_drewN HB.out q)
  have HM2 := Aside0.mk (HM.out.below (pw_below_drewN (Below.refl _ _) q))
  have HG2 : Aside0 (((w.alloc (.cells (flL fl0).toArray 70)).drewN q).heap[w.heap.size]? = some (.cells (flL fl0).toArray 70 (0, 0))) := ⟨HG.out⟩
  generalize (w.alloc (.cells (flL fl0).toArray 70)).drewN q = w2 at HB2 HM2 HG2 ⊢
  clear hc HM HB HG
  go_upto_region 2 with fail
  have hth := blk_there HG2.out
  have hone := all_oneCell_toArray fl_one
  by_cases hok : ok = true ∧ (ex = indexW ∨ ex = dataW)
  · have HPP := Aside0.mk (HP2.out hok)
    obtain ⟨hok1, hok2⟩ := hok
    subst hok1
    obtain ⟨dd, hdd⟩ : ∃ dd, dd = decide (ex = dataW) := ⟨_, rfl⟩
    rw [← hdd] at HPP
    have hq : ((en.toList == ([105, 110, 100, 101, 120] : List UInt8)) = true ∧ dd = false ∧ (en.toList == ([100, 97, 116, 97] : List UInt8)) = false) ∨ ((en.toList == ([105, 110, 100, 101, 120] : List UInt8)) = false ∧ dd = true ∧ (en.toList == ([100, 97, 116, 97] : List UInt8)) = true) := by
      rw [ByteArray.toList_eq, HEN.out, hdd]
      rcases hok2 with e | e
      · left; rw [e]; decide
      · right; rw [e]; decide
    have HF0 := Aside0.mk (file_new w2 dd)
    have hnz : w.heap.size < w2.heap.size := blk_lt HG2.out
    have hthF := new_thereF w2
    have honeF := all_oneCell_toArray (fv_one ⟨0, 0, 0, dd⟩)
    clear hdd hok2
    go_cut [30] (fun v wx => v = .bool false ∧ wx = w2)
    case first =>
      rcases hq with ⟨q1, q2, q3⟩ | ⟨q1, q2, q3⟩
      · go_wp2_with fail
        go_meet
        case rel => exact ⟨rfl, rfl⟩
      · go_wp2_with fail
        go_meet
        case rel => exact ⟨rfl, rfl⟩
    case rest =>
    obtain ⟨rfl, hwc⟩ := hcut
    subst hwc
    have HNE : Aside0 (wc.heap.size ≠ w.heap.size) := ⟨by omega⟩
    have HFW : Aside0 (w.heap.size ≤ wc.heap.size) := ⟨by omega⟩
    obtain ⟨F, hF⟩ : ∃ F, F = wc.heap.size := ⟨_, rfl⟩
    have HFQ := Aside0.mk hF
    clear hF
    go_upto_region 4 with fail
    go_cut [7] (fun v wx => v = .pointer (some ⟨wc.heap.size, 0, none⟩) ∧ wx = ((wc.alloc (.cells (flL fl0).toArray 70)).setCells wc.heap.size 0 (fvL ⟨0, 0, 0, dd⟩)))
    case first =>
      rcases hq with ⟨q1, q2, q3⟩ | ⟨q1, q2, q3⟩
      · subst q2
        go_wp2_with ((with_reducible refine gate_store (ty := 70) (x := .tmp 7) (y := .tmp 34) rfl ?_); go_loud (refine wpList_store_mid rfl 70 (.tmp 7) (.tmp 34) rfl wc.heap.size 0 (fvL ⟨0, 0, 0, false⟩).toArray rfl rfl hthF infoF honeF ?_))
        go_meet
        case rel => exact ⟨rfl, rfl⟩
      · subst q2
        go_wp2_with ((with_reducible refine gate_store (ty := 70) (x := .tmp 7) (y := .tmp 34) rfl ?_); go_loud (refine wpList_store_mid rfl 70 (.tmp 7) (.tmp 34) rfl wc.heap.size 0 (fvL ⟨0, 0, 0, true⟩).toArray rfl rfl hthF infoF honeF ?_))
        go_meet
        case rel => exact ⟨rfl, rfl⟩
    case rest =>
    obtain ⟨rfl, hwd⟩ := hcut
    have HB3 := Aside0.mk (HB2.out.trans (HF0.out.2.mono HB2.out.size))
    have HM3 := Aside0.mk (HM2.out.below HF0.out.2)
    have HG3 := Aside0.mk ((HF0.out.2.block _ hnz).trans HG2.out)
    have HFR := Aside0.mk HF0.out.1
    rw [← hwd] at HB3 HM3 HG3 HFR
    rw [← HFQ.out] at HFR HNE HFW ⊢
    clear hwd HFQ HF0 hthF HB2 HM2 HG2 hth hone hnz hq
    go_wp2_with fail
    refine (split_bar2 st _ HM3.out hpl).mono ?_
    rintro e w4 ⟨rfl, rfl⟩
    go_upto_region 7 with fail
    obtain ⟨ps, hps⟩ : ∃ ps, ps = pcs 95 st.data.toList := ⟨_, rfl⟩
    rw [← HST.out, ← hps] at HPP
    rw [← hps]
    have hbw := (Below.refl wc.heap.size wc).alloc (Nat.le_refl _) (.cells (ps.map (Value.string ∘ strO)).toArray 9)
    have hbx := hbw.alloc (by simp) (.cells #[.pointer (some ⟨F, 0, none⟩), .pointer (some ⟨F, 1, none⟩), .pointer (some ⟨F, 2, none⟩)] 124)
    have HSM : Aside0 (∀ x y z, ps = [x, y, z] → (strO x).size ≤ 2147483647 ∧ (strO y).size ≤ 2147483647 ∧ (strO z).size ≤ 2147483647) := ⟨fun x y z e => by
      have hl := pcs_sum 95 st.data.toList
      rw [← hps, e, data_length] at hl
      simp only [List.map_cons, List.map_nil, List.sum_cons, List.sum_nil] at hl
      have hh : ∀ l : List UInt8, (strO l).size = l.length := fun l => by simp [strO, ByteArray.size]
      rw [hh, hh, hh]
      omega⟩
    have hwd : ((wc.alloc (.cells (ps.map (Value.string ∘ strO)).toArray 9)).alloc (.cells #[.pointer (some ⟨F, 0, none⟩), .pointer (some ⟨F, 1, none⟩), .pointer (some ⟨F, 2, none⟩)] 124)).heap[wc.heap.size]? = some (.cells (ps.map (Value.string ∘ strO)).toArray 9 (0, 0)) := (Go.heap_alloc_old _ _ (by simp)).trans (Go.heap_alloc_new wc _)
    have hpt := Go.heap_alloc_new (wc.alloc (.cells (ps.map (Value.string ∘ strO)).toArray 9)) (.cells #[.pointer (some ⟨F, 0, none⟩), .pointer (some ⟨F, 1, none⟩), .pointer (some ⟨F, 2, none⟩)] 124)
    rw [show (wc.alloc (.cells (ps.map (Value.string ∘ strO)).toArray 9)).heap.size = wc.heap.size + 1 by simp] at hpt
    generalize (wc.alloc (.cells (ps.map (Value.string ∘ strO)).toArray 9)).alloc (.cells #[.pointer (some ⟨F, 0, none⟩), .pointer (some ⟨F, 1, none⟩), .pointer (some ⟨F, 2, none⟩)] 124) = w5 at hbx hwd hpt ⊢
    have HB5 := Aside0.mk (HB3.out.trans (hbx.mono HB3.out.size))
    have HG5 := Aside0.mk ((hbx.block _ (blk_lt HG3.out)).trans HG3.out)
    have HF5 := Aside0.mk ((hbx.block _ (blk_lt HFR.out)).trans HFR.out)
    have hFlt := blk_lt HFR.out
    have HFP : Aside0 (F ≠ wc.heap.size ∧ F ≠ wc.heap.size + 1) := ⟨by omega⟩
    have HWD : Aside0 (w5.heap[wc.heap.size]? = some (.cells (ps.map (Value.string ∘ strO)).toArray 9 (0, 0))) := ⟨hwd⟩
    generalize wc.heap.size + 1 = Pd at hpt HFP ⊢
    generalize wc.heap.size = Wd at HWD HFP ⊢
    have HPT := Aside0.mk hpt
    clear hbw hbx hwd hpt HB3 HM3 HG3 HFR hps hFlt
    have hth := blk_there HG5.out
    have hone := all_oneCell_toArray fl_one
    by_cases hn : ps.length = 3
    · clear hth hone
      obtain ⟨x, y, z, rfl⟩ : ∃ x y z, ps = [x, y, z] := by
        rcases ps with _ | ⟨a, _ | ⟨b, _ | ⟨c, _ | ⟨d, l⟩⟩⟩⟩
        · cases hn
        · cases hn
        · cases hn
        · exact ⟨a, b, c, rfl⟩
        · simp at hn
      clear hn
      simp only [List.length_cons, List.length_nil, Nat.zero_add, Nat.reduceAdd]
      have w0c : w5.cell? ⟨Wd, 0, none⟩ = some (.string (strO x)) := by rw [cell_of_row _ _ _ _ _ _ HWD.out]; rfl
      have w1c : w5.cell? ⟨Wd, 1, none⟩ = some (.string (strO y)) := by rw [cell_of_row _ _ _ _ _ _ HWD.out]; rfl
      have w2c : w5.cell? ⟨Wd, 2, none⟩ = some (.string (strO z)) := by rw [cell_of_row _ _ _ _ _ _ HWD.out]; rfl
      have p0c : w5.cell? ⟨Pd, 0, none⟩ = some (.pointer (some ⟨F, 0, none⟩)) := by rw [cell_of_row _ _ _ _ _ _ HPT.out]; rfl
      have p1c : w5.cell? ⟨Pd, 1, none⟩ = some (.pointer (some ⟨F, 1, none⟩)) := by rw [cell_of_row _ _ _ _ _ _ HPT.out]; rfl
      have p2c : w5.cell? ⟨Pd, 2, none⟩ = some (.pointer (some ⟨F, 2, none⟩)) := by rw [cell_of_row _ _ _ _ _ _ HPT.out]; rfl
      have HI0 : Aside0 (St w w5 w5 F 0 (strO x) (strO y) (strO z) dd) := ⟨⟨Below.refl _ _, fun k _ _ => rfl, HF5.out, fun h => absurd h (by decide), fun h => absurd h (by decide), fun h => absurd h (by decide)⟩⟩
      have HC0 := Aside0.mk w0c
      have HC1 := Aside0.mk w1c
      have HC2 := Aside0.mk w2c
      have HP0 := Aside0.mk p0c
      have HP1 := Aside0.mk p1c
      have HP2 := Aside0.mk p2c
      have hsx : (strO x).size ≤ 2147483647 ∧ (strO y).size ≤ 2147483647 ∧ (strO z).size ≤ 2147483647 := HSM.out x y z rfl
      clear w0c w1c w2c p0c p1c p2c
      go_wp2_with fail
      go_loopw [49] (fun v49 wr => ∃ k : Nat, k ≤ 3 ∧ v49 = .int .i64 (k : Nat) ∧ Aside0 (St w w5 wr F k (strO x) (strO y) (strO z) dd)) (fun v49 _ => 3 - (intOf v49).toNat)
      case atStart => exact ⟨0, by omega, rfl, HI0⟩
      case round =>
        clear HI0
        obtain ⟨k, hk, rfl, HS⟩ := hrel
        obtain ⟨wo, rfl⟩ : ∃ wo : World, wo = wr := ⟨_, rfl⟩
        have hFl := blk_lt HS.out.row
        have hGo : wo.heap[w.heap.size]? = some (.cells (flL fl0).toArray 70 (0, 0)) := (HS.out.old _ (blk_lt HG5.out) HNE.out.symm).trans HG5.out
        have HGO := Aside0.mk hGo
        have HBO := Aside0.mk (HB5.out.trans (HS.out.bel.mono (Nat.le_refl _)))
        clear hGo
        rcases (show k = 0 ∨ k = 1 ∨ k = 2 ∨ k = 3 by omega) with rfl | rfl | rfl | rfl
        · have hcw : wo.cell? ⟨Wd, 0, none⟩ = some (.string (strO x)) := (World.cell?_of_block (HS.out.old Wd (blk_lt HWD.out) HFP.out.1.symm)).trans HC0.out
          go_wp2_with fail
          refine (number_any (strO x) wo hsx.1).mono ?_
          rintro e w6 ⟨rfl, hb6⟩
          have HB6 := Aside0.mk hb6
          have HG6 := Aside0.mk ((hb6.block _ (blk_lt HGO.out)).trans HGO.out)
          have hr6 := (hb6.block _ hFl).trans HS.out.row
          have HN6 := Aside0.mk (HBO.out.trans (hb6.mono HBO.out.size))
          have hO6 : ∀ b, b < w5.heap.size → b ≠ F → w6.heap[b]? = w5.heap[b]? := fun b h1 h2 => (hb6.block b (Nat.lt_of_lt_of_le h1 HS.out.bel.size)).trans (HS.out.old b h1 h2)
          have HO6 := Aside0.mk hO6
          have hpc : w6.cell? ⟨Pd, 0, none⟩ = some (.pointer (some ⟨F, 0, none⟩)) := (World.cell?_of_block (hO6 Pd (blk_lt HPT.out) HFP.out.2.symm)).trans HP0.out
          have HR6 := Aside0.mk hr6
          have hold := cell_of_row _ _ 0 _ _ _ hr6
          have hfz := frozen_of_row _ _ 0 _ _ hr6
          cases hB : numB (strO x).data.toList with
          | false =>
            have HNO : Aside0 (readP s.data.toList = none) := ⟨HPP.out.trans (readW_b0 hB)⟩
            have hth := blk_there HG6.out
            have hone := all_oneCell_toArray fl_one
            clear hb6 hr6 hO6 hpc hold hfz hcw hB
            go_wp2_with ((with_reducible refine gate_store (ty := 70) (x := .tmp 2) (y := .tmp 61) rfl ?_); go_loud (refine wpList_store_mid rfl 70 (.tmp 2) (.tmp 61) rfl w.heap.size 0 (flL fl0).toArray rfl rfl hth infoF hone ?_))
            try rw [Exit.noGoto_ret]
            exact no_retN rfl rfl HG6.out HN6.out HNO.out rfl
          | true =>
            have HST7 : Aside0 (St w w5 (w6.setCell ⟨F, 0, none⟩ (.int .i64 ((numN (strO x).data.toList : Nat) : Int))) F 1 (strO x) (strO y) (strO z) dd) := ⟨st_next0 HS.out HB6.out HR6.out hB HFW.out HB5.out.size⟩
            generalize ((numN (strO x).data.toList : Nat) : Int) = nn at HST7 ⊢
            clear hb6 hr6 hO6 hcw hB
            go_wp2_with fail
            go_roundw
            case rel => exact ⟨1, by omega, by go_num, HST7⟩
            case measure => simp [intOf]
        · have hcw : wo.cell? ⟨Wd, 1, none⟩ = some (.string (strO y)) := (World.cell?_of_block (HS.out.old Wd (blk_lt HWD.out) HFP.out.1.symm)).trans HC1.out
          go_wp2_with fail
          refine (number_any (strO y) wo hsx.2.1).mono ?_
          rintro e w6 ⟨rfl, hb6⟩
          have HB6 := Aside0.mk hb6
          have HG6 := Aside0.mk ((hb6.block _ (blk_lt HGO.out)).trans HGO.out)
          have hr6 := (hb6.block _ hFl).trans HS.out.row
          have HN6 := Aside0.mk (HBO.out.trans (hb6.mono HBO.out.size))
          have hO6 : ∀ b, b < w5.heap.size → b ≠ F → w6.heap[b]? = w5.heap[b]? := fun b h1 h2 => (hb6.block b (Nat.lt_of_lt_of_le h1 HS.out.bel.size)).trans (HS.out.old b h1 h2)
          have HO6 := Aside0.mk hO6
          have hpc : w6.cell? ⟨Pd, 1, none⟩ = some (.pointer (some ⟨F, 1, none⟩)) := (World.cell?_of_block (hO6 Pd (blk_lt HPT.out) HFP.out.2.symm)).trans HP1.out
          have HR6 := Aside0.mk hr6
          have hold := cell_of_row _ _ 1 _ _ _ hr6
          have hfz := frozen_of_row _ _ 1 _ _ hr6
          cases hB : numB (strO y).data.toList with
          | false =>
            have HNO : Aside0 (readP s.data.toList = none) := ⟨HPP.out.trans (readW_b1 hB)⟩
            have hth := blk_there HG6.out
            have hone := all_oneCell_toArray fl_one
            clear hb6 hr6 hO6 hpc hold hfz hcw hB
            go_wp2_with ((with_reducible refine gate_store (ty := 70) (x := .tmp 2) (y := .tmp 61) rfl ?_); go_loud (refine wpList_store_mid rfl 70 (.tmp 2) (.tmp 61) rfl w.heap.size 0 (flL fl0).toArray rfl rfl hth infoF hone ?_))
            try rw [Exit.noGoto_ret]
            exact no_retN rfl rfl HG6.out HN6.out HNO.out rfl
          | true =>
            have HST7 : Aside0 (St w w5 (w6.setCell ⟨F, 1, none⟩ (.int .i64 ((numN (strO y).data.toList : Nat) : Int))) F 2 (strO x) (strO y) (strO z) dd) := ⟨st_next1 HS.out HB6.out HR6.out hB HFW.out HB5.out.size⟩
            generalize ((numN (strO y).data.toList : Nat) : Int) = nn at HST7 ⊢
            clear hb6 hr6 hO6 hcw hB
            go_wp2_with fail
            go_roundw
            case rel => exact ⟨2, by omega, by go_num, HST7⟩
            case measure => simp [intOf]
        · have hcw : wo.cell? ⟨Wd, 2, none⟩ = some (.string (strO z)) := (World.cell?_of_block (HS.out.old Wd (blk_lt HWD.out) HFP.out.1.symm)).trans HC2.out
          go_wp2_with fail
          refine (number_any (strO z) wo hsx.2.2).mono ?_
          rintro e w6 ⟨rfl, hb6⟩
          have HB6 := Aside0.mk hb6
          have HG6 := Aside0.mk ((hb6.block _ (blk_lt HGO.out)).trans HGO.out)
          have hr6 := (hb6.block _ hFl).trans HS.out.row
          have HN6 := Aside0.mk (HBO.out.trans (hb6.mono HBO.out.size))
          have hO6 : ∀ b, b < w5.heap.size → b ≠ F → w6.heap[b]? = w5.heap[b]? := fun b h1 h2 => (hb6.block b (Nat.lt_of_lt_of_le h1 HS.out.bel.size)).trans (HS.out.old b h1 h2)
          have HO6 := Aside0.mk hO6
          have hpc : w6.cell? ⟨Pd, 2, none⟩ = some (.pointer (some ⟨F, 2, none⟩)) := (World.cell?_of_block (hO6 Pd (blk_lt HPT.out) HFP.out.2.symm)).trans HP2.out
          have HR6 := Aside0.mk hr6
          have hold := cell_of_row _ _ 2 _ _ _ hr6
          have hfz := frozen_of_row _ _ 2 _ _ hr6
          cases hB : numB (strO z).data.toList with
          | false =>
            have HNO : Aside0 (readP s.data.toList = none) := ⟨HPP.out.trans (readW_b2 hB)⟩
            have hth := blk_there HG6.out
            have hone := all_oneCell_toArray fl_one
            clear hb6 hr6 hO6 hpc hold hfz hcw hB
            go_wp2_with ((with_reducible refine gate_store (ty := 70) (x := .tmp 2) (y := .tmp 61) rfl ?_); go_loud (refine wpList_store_mid rfl 70 (.tmp 2) (.tmp 61) rfl w.heap.size 0 (flL fl0).toArray rfl rfl hth infoF hone ?_))
            try rw [Exit.noGoto_ret]
            exact no_retN rfl rfl HG6.out HN6.out HNO.out rfl
          | true =>
            have HST7 : Aside0 (St w w5 (w6.setCell ⟨F, 2, none⟩ (.int .i64 ((numN (strO z).data.toList : Nat) : Int))) F 3 (strO x) (strO y) (strO z) dd) := ⟨st_next2 HS.out HB6.out HR6.out hB HFW.out HB5.out.size⟩
            generalize ((numN (strO z).data.toList : Nat) : Int) = nn at HST7 ⊢
            clear hb6 hr6 hO6 hcw hB
            go_wp2_with fail
            go_roundw
            case rel => exact ⟨3, by omega, by go_num, HST7⟩
            case measure => simp [intOf]
        · have hr3 : wo.heap[F]? = some (.cells (fvL ⟨((numN (strO x).data.toList : Nat) : Int), ((numN (strO y).data.toList : Nat) : Int), ((numN (strO z).data.toList : Nat) : Int), dd⟩).toArray 70 (0, 0)) := HS.out.row
          have hPW : readP s.data.toList = readW dd [x, y, z] := HPP.out
          rw [readW_in (HS.out.n0 (by decide)) (HS.out.n1 (by decide)) (HS.out.n2 (by decide))] at hPW
          have HPW := Aside0.mk hPW
          generalize numN (strO x).data.toList = a at hr3 HPW
          generalize numN (strO y).data.toList = b at hr3 HPW
          generalize numN (strO z).data.toList = c at hr3 HPW
          have c0 := cell_of_row _ _ 0 _ _ _ hr3
          have c1 := cell_of_row _ _ 1 _ _ _ hr3
          have c2 := cell_of_row _ _ 2 _ _ _ hr3
          have c3 := cell_of_row _ _ 3 _ _ _ hr3
          simp only [fvL, List.getElem?_toArray, List.getElem?_cons_zero, List.getElem?_cons_succ] at c0 c1 c2 c3
          have HR3 := Aside0.mk hr3
          have hlow := Go.heap_alloc_new wo (.cells #[.int .i64 (min (a : Int) 63), .int .i64 (min (b : Int) 15), .int .i64 (min (c : Int) 15), .bool dd] 70)
          have hbl := (Below.refl wo.heap.size wo).alloc (Nat.le_refl _) (.cells #[.int .i64 (min (a : Int) 63), .int .i64 (min (b : Int) 15), .int .i64 (min (c : Int) 15), .bool dd] 70)
          have hr7 := (hbl.block F hFl).trans hr3
          have HG7 := Aside0.mk ((hbl.block _ (blk_lt HGO.out)).trans HGO.out)
          have HB7 := Aside0.mk (HBO.out.trans (hbl.mono HBO.out.size))
          have hrl := blk_range (show _ = some (Obj.cells (fvL ⟨min (a : Int) 63, min (b : Int) 15, min (c : Int) 15, dd⟩).toArray 70 (0, 0)) from hlow)
          have hrf := blk_range hr7
          clear hr3 hPW hlow hbl hr7
          go_upto_region 18 with fail
          generalize wo.alloc (.cells #[.int .i64 (min (a : Int) 63), .int .i64 (min (b : Int) 15), .int .i64 (min (c : Int) 15), .bool dd] 70) = w7 at HG7 HB7 hrl hrf ⊢
          generalize wo.heap.size = Lo at hrl ⊢
          have hrf : w7.rangeAt F 0 [.int .i64 (a : Int), .int .i64 (b : Int), .int .i64 (c : Int), .bool dd] := hrf
          have hrl : w7.rangeAt Lo 0 [.int .i64 (min (a : Int) 63), .int .i64 (min (b : Int) 15), .int .i64 (min (c : Int) 15), .bool dd] := hrl
          have hth := blk_there HG7.out
          by_cases ha : a ≤ 63
          · by_cases hb : b ≤ 15
            · by_cases hc : c ≤ 15
              · rw [show min (a : Int) 63 = (a : Int) by omega, show min (b : Int) 15 = (b : Int) by omega, show min (c : Int) 15 = (c : Int) by omega] at hrl
                have HYES : Aside0 (readP s.data.toList = some (toF ⟨(a : Int), (b : Int), (c : Int), dd⟩)) := ⟨by rw [HPW.out, if_pos ⟨ha, hb, hc⟩]; rfl⟩
                have hone := all_oneCell_toArray (fv_one ⟨(a : Int), (b : Int), (c : Int), dd⟩)
                clear ha hb hc
                go_wp2_with (first | ((with_reducible refine gate_load (ty := 70) (x := .tmp 7) rfl ?_); refine wpList_load_mid rfl 70 (.tmp 7) rfl F 0 rfl [.int .i64 (a : Int), .int .i64 (b : Int), .int .i64 (c : Int), .bool dd] _ hrf Tryd.underlying70 rfl infoF ?_) | ((with_reducible refine gate_load (ty := 70) (x := .tmp 14) rfl ?_); refine wpList_load_mid rfl 70 (.tmp 14) rfl Lo 0 rfl [.int .i64 (a : Int), .int .i64 (b : Int), .int .i64 (c : Int), .bool dd] _ hrl Tryd.underlying70 rfl infoF ?_) | ((with_reducible refine gate_store (ty := 70) (x := .tmp 2) (y := .tmp 85) rfl ?_); go_loud (refine wpList_store_mid rfl 70 (.tmp 2) (.tmp 85) rfl w.heap.size 0 (fvL ⟨(a : Int), (b : Int), (c : Int), dd⟩).toArray rfl rfl hth infoF hone ?_)))
                try rw [Exit.noGoto_ret]
                exact yes_retN (fi := ⟨(a : Int), (b : Int), (c : Int), dd⟩) rfl rfl HG7.out HB7.out HYES.out rfl rfl
              · rw [show min (a : Int) 63 = (a : Int) by omega, show min (b : Int) 15 = (b : Int) by omega] at hrl
                have HNO : Aside0 (readP s.data.toList = none) := ⟨by rw [HPW.out, if_neg (fun h => hc h.2.2)]⟩
                have hone := all_oneCell_toArray fl_one
                have hq : ((c : Int) == min (c : Int) 15) = false := by rw [beq_eq_false_iff_ne]; omega
                clear ha
                go_wp2_with (first | ((with_reducible refine gate_load (ty := 70) (x := .tmp 7) rfl ?_); refine wpList_load_mid rfl 70 (.tmp 7) rfl F 0 rfl [.int .i64 (a : Int), .int .i64 (b : Int), .int .i64 (c : Int), .bool dd] _ hrf Tryd.underlying70 rfl infoF ?_) | ((with_reducible refine gate_load (ty := 70) (x := .tmp 14) rfl ?_); refine wpList_load_mid rfl 70 (.tmp 14) rfl Lo 0 rfl [.int .i64 (a : Int), .int .i64 (b : Int), .int .i64 (min (c : Int) 15), .bool dd] _ hrl Tryd.underlying70 rfl infoF ?_) | ((with_reducible refine gate_store (ty := 70) (x := .tmp 2) (y := .tmp 84) rfl ?_); go_loud (refine wpList_store_mid rfl 70 (.tmp 2) (.tmp 84) rfl w.heap.size 0 (flL fl0).toArray rfl rfl hth infoF hone ?_)))
                try rw [Exit.noGoto_ret]
                exact no_retN rfl rfl HG7.out HB7.out HNO.out rfl
            · rw [show min (a : Int) 63 = (a : Int) by omega] at hrl
              have HNO : Aside0 (readP s.data.toList = none) := ⟨by rw [HPW.out, if_neg (fun h => hb h.2.1)]⟩
              have hone := all_oneCell_toArray fl_one
              have hq : ((b : Int) == min (b : Int) 15) = false := by rw [beq_eq_false_iff_ne]; omega
              clear ha
              go_wp2_with (first | ((with_reducible refine gate_load (ty := 70) (x := .tmp 7) rfl ?_); refine wpList_load_mid rfl 70 (.tmp 7) rfl F 0 rfl [.int .i64 (a : Int), .int .i64 (b : Int), .int .i64 (c : Int), .bool dd] _ hrf Tryd.underlying70 rfl infoF ?_) | ((with_reducible refine gate_load (ty := 70) (x := .tmp 14) rfl ?_); refine wpList_load_mid rfl 70 (.tmp 14) rfl Lo 0 rfl [.int .i64 (a : Int), .int .i64 (min (b : Int) 15), .int .i64 (min (c : Int) 15), .bool dd] _ hrl Tryd.underlying70 rfl infoF ?_) | ((with_reducible refine gate_store (ty := 70) (x := .tmp 2) (y := .tmp 84) rfl ?_); go_loud (refine wpList_store_mid rfl 70 (.tmp 2) (.tmp 84) rfl w.heap.size 0 (flL fl0).toArray rfl rfl hth infoF hone ?_)))
              try rw [Exit.noGoto_ret]
              exact no_retN rfl rfl HG7.out HB7.out HNO.out rfl
          · have HNO : Aside0 (readP s.data.toList = none) := ⟨by rw [HPW.out, if_neg (fun h => ha h.1)]⟩
            have hone := all_oneCell_toArray fl_one
            have hq : ((a : Int) == min (a : Int) 63) = false := by rw [beq_eq_false_iff_ne]; omega
            clear ha
            go_wp2_with (first | ((with_reducible refine gate_load (ty := 70) (x := .tmp 7) rfl ?_); refine wpList_load_mid rfl 70 (.tmp 7) rfl F 0 rfl [.int .i64 (a : Int), .int .i64 (b : Int), .int .i64 (c : Int), .bool dd] _ hrf Tryd.underlying70 rfl infoF ?_) | ((with_reducible refine gate_load (ty := 70) (x := .tmp 14) rfl ?_); refine wpList_load_mid rfl 70 (.tmp 14) rfl Lo 0 rfl [.int .i64 (min (a : Int) 63), .int .i64 (min (b : Int) 15), .int .i64 (min (c : Int) 15), .bool dd] _ hrl Tryd.underlying70 rfl infoF ?_) | ((with_reducible refine gate_store (ty := 70) (x := .tmp 2) (y := .tmp 84) rfl ?_); go_loud (refine wpList_store_mid rfl 70 (.tmp 2) (.tmp 84) rfl w.heap.size 0 (flL fl0).toArray rfl rfl hth infoF hone ?_)))
            try rw [Exit.noGoto_ret]
            exact no_retN rfl rfl HG7.out HB7.out HNO.out rfl
    · have HNO : Aside0 (readP s.data.toList = none) := ⟨HPP.out.trans (readW_m hn)⟩
      have hn2 : ((ps.length : Int) != 3) = true := by rw [bne_iff_ne]; omega
      clear hn
      go_wp2_with ((with_reducible refine gate_store (ty := 70) (x := .tmp 2) (y := .tmp 46) rfl ?_); go_loud (refine wpList_store_mid rfl 70 (.tmp 2) (.tmp 46) rfl w.heap.size 0 (flL fl0).toArray rfl rfl hth infoF hone ?_))
      exact no_retN rfl rfl HG5.out HB5.out HNO.out rfl
  · have HNO := Aside0.mk (HP1.out hok)
    cases ok with
    | false =>
      go_wp2_with ((with_reducible refine gate_store (ty := 70) (x := .tmp 2) (y := .tmp 31) rfl ?_); go_loud (refine wpList_store_mid rfl 70 (.tmp 2) (.tmp 31) rfl w.heap.size 0 (flL fl0).toArray rfl rfl hth infoF hone ?_))
      exact no_retN rfl rfl HG2.out HB2.out HNO.out rfl
    | true =>
      have q1 : (en.toList == ([105, 110, 100, 101, 120] : List UInt8)) = false := by
        rw [ByteArray.toList_eq, HEN.out]
        exact beq_eq_false_iff_ne.2 fun h => hok ⟨rfl, .inl h⟩
      have q2 : (en.toList == ([100, 97, 116, 97] : List UInt8)) = false := by
        rw [ByteArray.toList_eq, HEN.out]
        exact beq_eq_false_iff_ne.2 fun h => hok ⟨rfl, .inr h⟩
      go_wp2_with ((with_reducible refine gate_store (ty := 70) (x := .tmp 2) (y := .tmp 31) rfl ?_); go_loud (refine wpList_store_mid rfl 70 (.tmp 2) (.tmp 31) rfl w.heap.size 0 (flL fl0).toArray rfl rfl hth infoF hone ?_))
      exact no_retN rfl rfl HG2.out HB2.out HNO.out rfl
end Go.Proofs.YtljjpdjknnhceaaDoor.ReadN
