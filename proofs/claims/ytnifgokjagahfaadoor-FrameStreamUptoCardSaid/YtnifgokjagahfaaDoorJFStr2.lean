/- Joined texts of this claim: Dec2, DecAny, Beg, Frm, Next, SplitPure -/
import Derived.Test.YtnifgokjagahfaaDoorJFStr1
import Derived.Deep.DeepCutAuto
import Derived.StillTailTactics
import Derived.Lib.Bytealg
/- Decode of the frame package: behind the sum. -/
set_option linter.unusedVariables false
set_option linter.unusedSimpArgs false
namespace Go.Proofs.YtnifgokjagahfaaDoor.Dec
open Go.RowKit Go.Proofs.YtnifgokjagahfaaDoorW.PrintWords Go.Proofs.YtnifgokjagahfaaDoorW.PrintLast Go.Proofs.YtnifgokjagahfaaDoorW.PrintMore
open Go.Proofs.YtnifgokjagahfaaDoor.Base Go.Proofs.YtnifgokjagahfaaDoor.Layouts Go.Proofs.YtnifgokjagahfaaDoor.Msg Go.Proofs.YtnifgokjagahfaaDoor.Put Go.Proofs.YtnifgokjagahfaaDoor.EncPure Go.Proofs.YtnifgokjagahfaaDoor.DecPure Go.Proofs.YtnifgokjagahfaaDoor.Num Go.Proofs.YtnifgokjagahfaaDoor.Mids Go.Proofs.YtnifgokjagahfaaDoor.PFrameDecodes
theorem mbox_head {w : World} {g : Nat} {k : Int} (h : MBox w g (blankM k 0 0 0)) (n1 n2 n3 : Int) : MBox (((w.setCell ⟨g, 1, none⟩ (.int .i64 n1)).setCell ⟨g, 2, none⟩ (.int .i64 n2)).setCell ⟨g, 3, none⟩ (.int .i64 n3)) g (blankM k n1 n2 n3) :=
  ⟨(blk_set (blk_set (blk_set h.row 1 (.int .i64 n1)) 2 (.int .i64 n2)) 3 (.int .i64 n3)).trans (by simp [mL, blankM]), by simpa using h.lt⟩
theorem mbox_far {w : World} {g : Nat} {m : M} (h : MBox w g m) {p : Addr} (hp : g ≠ p.block) (v : Value) : MBox (w.setCell p v) g m := ⟨blk_far h.row hp v, by simpa using h.lt⟩
theorem parseC_snoc (f : Nat) : ∀ (fs : List Nat) (m : M) (c : Cur), parseC (fs ++ [f]) m c = readC (parseC fs m c).1 f (parseC fs m c).2
  | [], m, c => rfl
  | g :: fs, m, c => parseC_snoc f fs (readC m g c).1 (readC m g c).2
structure DInv (w wr : World) (gm gd q : Nat) (fs : List Nat) (m0 : M) (l2 : List Int) (j : Nat) : Prop where mk ::
  (ex : ∃ mj cj, parseC (fs.take j) m0 ⟨l2, false⟩ = (mj, cj) ∧ MBox wr gm mj ∧ CBox w wr gd cj ∧ Byt cj.rest)
  (res : MBox wr w.heap.size zeroM) (bel : Below w.heap.size w wr) (row : ∀ j n, fs[j]? = some n → wr.cell? ⟨q, j, none⟩ = some (.int .u8 (n : Nat))) (qlt : q < wr.heap.size)
def DecR (bad : Bool) (m : M) (w : World) (e : Ending) (w' : World) : Prop := e = .returned (.tuple #[.agg (mL (if bad = true then zeroM else m)).toArray, .int .i64 (if bad = true then 56 else 0)]) ∧ Below w.heap.size w w'
theorem empty_str (l : List Int) : (strOfNums l).toList.isEmpty = l.isEmpty := by
  rw [ByteArray.toList_eq, strOfNums_data]
  cases l <;> rfl
set_option maxRecDepth 100000 in
set_option maxHeartbeats 16000000 in
theorem dec_body (s : ByteArray) (w : World) (h : 24 ≤ s.size) (hmx : s.size ≤ 9223372036854775807) (hm : (bytesOf s).take 3 = [71, 82, 1]) (hk : 1 ≤ kindL (bytesOf s) ∧ kindL (bytesOf s) < 17) (hz : sizeL (bytesOf s) = s.size) (hN : Crc.Nibs w)
    (hs : sumL ((bytesOf s).take (s.size - 4)) = (bytesOf s).drop (s.size - 4)) : Calls Tryd.prog 16 #[.string s] w (DecR (badL (bytesOf s)) (pL (bytesOf s)).1 w) := by
  have h' : ¬ (s.size : Int) < 24 := by omega
  have hz0 := hz
  have g3 : (3 : Int) ≤ (s.size : Int) := by omega
  have h4 : (3 : Int) < (s.size : Int) := by omega
  have hN3 : 3 < s.size := by omega
  have hx := extract_head s 3 (by omega)
  have hq := str_eq ((bytesOf s).take 3) (byt_take (byt_bytesOf s) 3) [71, 82, 1]
  rw [decide_eq_true (by exact hm)] at hq
  obtain ⟨kk, hkk, hke, hk1, hk2⟩ := kind_yes s h hk
  have HB := Aside0.mk ((Below.refl w.heap.size w).alloc (Nat.le_refl _) (.cells (mL zeroM).toArray 24))
  have HM : Aside0 (MBox (w.alloc (.cells (mL zeroM).toArray 24)) w.heap.size zeroM) := ⟨⟨Go.heap_alloc_new w _, by simp⟩⟩
  have HN := Aside0.mk hN
  have KN := fun w => Lib.hid (known_yes (kk : Int) w ⟨hk1, hk2⟩)
  have KS := fun w => size_any s w (by omega) hmx
  rw [hz] at KS
  have KS' := fun w => Lib.hid (KS w)
  have hby := byt_bytesOf s
  have hq2 := str_eq2 (sumL ((bytesOf s).take (s.size - 4))) ((bytesOf s).drop (s.size - 4)) (byt_sumL _) (byt_drop hby _)
  rw [decide_eq_true (by exact hs)] at hq2
  have hS : sumS (strOfNums ((bytesOf s).take (s.size - 4))) = strOfNums (sumL ((bytesOf s).take (s.size - 4))) := by rw [sumS_eq, bytesOf_strOfNums _ (byt_take hby _)]
  have hsm : s.size ≤ 4407 := by
    have hz' := hz0
    unfold sizeL at hz'
    split at hz' <;> omega
  have KU := fun (w : World) (hN : Crc.Nibs w) => sum_any (strOfNums ((bytesOf s).take (s.size - 4))) w (by rw [strOfNums_size, List.length_take]; omega) hN
  rw [hS] at KU
  have hx1 := extract_head s (s.size - 4) (by omega)
  have hx2 := extract_tail s (s.size - 4) (by omega)
  have hx4 := extract_mid s 4 16 (by decide) (by omega)
  have hx5 := extract_mid s 20 (s.size - 4) (by omega) (by omega)
  have e5 : s.size - 4 - 20 = s.size - 24 := by omega
  rw [e5] at hx5
  generalize strOfNums ((bytesOf s).take (s.size - 4)) = S1 at KU hx1
  generalize strOfNums (sumL ((bytesOf s).take (s.size - 4))) = S2 at KU hq2
  generalize strOfNums ((bytesOf s).drop (s.size - 4)) = S3 at hx2 hq2
  have hw4 : (0 : Int) ≤ (s.size : Int) - 4 ∧ (s.size : Int) - 4 ≤ s.size ∧ ((s.size : Int) - 4).toNat = s.size - 4 ∧ (20 : Int) ≤ (s.size : Int) - 4 ∧ (16 : Int) ≤ s.size := by omega
  obtain ⟨hw1, hw2, hw3, hw5, hw6⟩ := hw4
  have hs1 := fun wx => run_slice_string_h (P := Tryd.prog) wx 9 s Tryd.underlying9 .i64 ((s.size : Int) - 4) hw1 hw2
  have hs2 := fun wx => run_slice_string_l (P := Tryd.prog) wx 9 s Tryd.underlying9 .i64 ((s.size : Int) - 4) hw1 hw2
  have hs3 := fun wx => run_slice_string (P := Tryd.prog) (w := wx) 9 s .i64 .i64 4 16 Tryd.underlying9 (by decide) (by decide) hw6
  have hs4 := fun wx => run_slice_string (P := Tryd.prog) (w := wx) 9 s .i64 .i64 20 ((s.size : Int) - 4) Tryd.underlying9 (by decide) hw5 hw2
  rw [hw3, hx1] at hs1
  rw [hw3, hx2] at hs2
  have q4 : (4 : Int).toNat = 4 := rfl
  have q16 : (16 : Int).toNat = 16 := rfl
  have q20 : (20 : Int).toNat = 20 := rfl
  rw [q4, q16, hx4] at hs3
  rw [q20, hw3, hx5] at hs4
  have KU' := fun w h => Lib.hid (KU w h)
  have hlen : (bytesOf s).length = s.size := bytesOf_length s
  have hb1 : Byt (⟨((bytesOf s).drop 4).take (16 - 4), false⟩ : Cur).rest := byt_take (byt_drop hby _) _
  have hb2 : Byt (⟨((bytesOf s).drop 20).take (s.size - 24), false⟩ : Cur).rest := byt_take (byt_drop hby _) _
  have hh1 : h1 (bytesOf s) = numC 2 65535 ⟨((bytesOf s).drop 4).take (16 - 4), false⟩ := rfl
  have hh2 : h2 (bytesOf s) = numC 2 65535 (h1 (bytesOf s)).2 := rfl
  have hh3 : h3 (bytesOf s) = numC 8 9007199254740992 (h2 (bytesOf s)).2 := rfl
  have hm0 : m0 (bytesOf s) = blankM (kindL (bytesOf s)) (h1 (bytesOf s)).1 (h2 (bytesOf s)).1 (h3 (bytesOf s)).1 := rfl
  have hpL : pL (bytesOf s) = parseC (fieldsOf (kindL (bytesOf s)).toNat) (m0 (bytesOf s)) ⟨((bytesOf s).drop 20).take (s.size - 24), false⟩ := by unfold pL; rw [hlen]
  have hbad : badL (bytesOf s) = ((h3 (bytesOf s)).2.short || ((pL (bytesOf s)).2.short || !(pL (bytesOf s)).2.rest.isEmpty)) := rfl
  rw [hke] at hm0
  rw [hm0, hke, Int.toNat_natCast] at hpL
  generalize badL (bytesOf s) = bad at hbad ⊢
  generalize pL (bytesOf s) = pr at hbad hpL ⊢
  have K1 := fun g wx hI hB => number_any g ⟨((bytesOf s).drop 4).take (16 - 4), false⟩ 2 65535 w wx hI hB hb1 (by decide) (by decide) (by decide)
  have y1 := numC_byt 2 65535 _ hb1
  rw [← hh1] at K1 y1
  have K2 := fun g wx hI hB => number_any g (h1 (bytesOf s)).2 2 65535 w wx hI hB y1 (by decide) (by decide) (by decide)
  have y2 := numC_byt 2 65535 _ y1
  rw [← hh2] at K2 y2
  have K3 := fun g wx hI hB => number_any g (h2 (bytesOf s)).2 8 9007199254740992 w wx hI hB y2 (by decide) (by decide) (by decide)
  rw [← hh3] at K3
  generalize h3 (bytesOf s) = r3 at K3 hpL hbad
  generalize h2 (bytesOf s) = r2 at K2 K3 hpL
  generalize h1 (bytesOf s) = r1 at K1 K2 hpL
  generalize ((bytesOf s).drop 4).take (16 - 4) = l1 at hs3 K1
  generalize ((bytesOf s).drop 20).take (s.size - 24) = l2 at hs4 hb2 hpL
  obtain ⟨n1, c1⟩ := r1
  obtain ⟨n2, c2⟩ := r2
  obtain ⟨n3, c3⟩ := r3
  simp only at K1 K2 K3 hpL hbad
  have KK1 := fun g wx h1 h2 => Lib.hid (K1 g wx h1 h2)
  have KK2 := fun g wx h1 h2 => Lib.hid (K2 g wx h1 h2)
  have KK3 := fun g wx h1 h2 => Lib.hid (K3 g wx h1 h2)
  have HPL := Lib.hid hpL
  have HBAD := Lib.hid hbad
  have HB2 := Aside0.mk hb2
  clear hm hk hke KS hN hS hby hs hz hz0 hsm KU hx1 hx2 hx4 hx5 hw3 q4 q16 q20 hh1 hh2 hh3 hm0 K1 K2 K3 y1 y2 hb1 hb2 hpL hbad hlen e5
  go_enter Tryd.func16, Tryd.ntmps16
  go_wp2_with fail
  refine (KN _).out.mono ?_
  rintro e w1 ⟨rfl, hb⟩
  have HM1 := Aside0.mk (HM.out.below hb (by simp))
  have HB1 := Aside0.mk (HB.out.trans (hb.mono HB.out.size))
  clear hb HM HB
  go_wp2_with fail
  refine (KS' _).out.mono ?_
  rintro e w2 ⟨rfl, hb⟩
  have HM2 := Aside0.mk (HM1.out.below hb HM1.out.lt)
  have HBW2 := Aside0.mk (HB1.out.trans (hb.mono HB1.out.size))
  have HN2 := Aside0.mk (HN.out.below HBW2.out)
  clear hb HM1 HB1
  go_upto_region 11 with fail
  go_cut [49] (fun v wx => v = .bool false ∧ Aside0 (MBox wx w.heap.size zeroM) ∧ Aside0 (Below w.heap.size w wx))
  case first =>
    go_region_with ((go_at_call 39; refine (KU' _ (by exact ⟨HN2.out.cell, HN2.out.lt⟩)).out.mono ?_; rintro e w3 ⟨rfl, hb⟩; have HB3 := Aside0.mk hb; clear hb))
    all_goals
      have hb3 : Below w2.heap.size w2 w3 := ⟨HB3.out.os, HB3.out.tape, HB3.out.output, HB3.out.size, HB3.out.block⟩
      have HM3 := HM2.out.below hb3 HM2.out.lt
      have HB4 := HBW2.out.trans (hb3.mono HBW2.out.size)
      go_wp2_with fail
      go_meet
      exact ⟨rfl, ⟨⟨HM3.row, HM3.lt⟩⟩, ⟨⟨HB4.os, HB4.tape, HB4.output, HB4.size, HB4.block⟩⟩⟩
  case rest =>
    obtain ⟨rfl, HM3, HB3⟩ := hcut
    have hwc := HM3.out.lt
    have hMR := (HM3.out.below ((Below.refl wc.heap.size wc).alloc (Nat.le_refl _) (.cells #[.string (strOfNums l1), .bool false] 95)) hwc)
    have hMR2 := hMR.below ((Below.refl (wc.heap.size + 1) (wc.alloc (.cells #[.string (strOfNums l1), .bool false] 95))).alloc (by simp) (.cells (mL (blankM (kk : Int) 0 0 0)).toArray 24)) (by omega)
    have hBx := (HB3.out.alloc (by omega) (.cells #[.string (strOfNums l1), .bool false] 95)).alloc (by simp; omega) (.cells (mL (blankM (kk : Int) 0 0 0)).toArray 24)
    have hCx : CBox w ((wc.alloc (.cells #[.string (strOfNums l1), .bool false] 95)).alloc (.cells (mL (blankM (kk : Int) 0 0 0)).toArray 24)) wc.heap.size ⟨l1, false⟩ := IsS95.alloc (IsS95.new w wc (strOfNums l1) false ⟨HB3.out.os, HB3.out.tape, HB3.out.output, HB3.out.size, HB3.out.block⟩) _
    have hMx : MBox ((wc.alloc (.cells #[.string (strOfNums l1), .bool false] 95)).alloc (.cells (mL (blankM (kk : Int) 0 0 0)).toArray 24)) (wc.heap.size + 1) (blankM (kk : Int) 0 0 0) := ⟨by have := Go.heap_alloc_new (wc.alloc (.cells #[.string (strOfNums l1), .bool false] 95)) (.cells (mL (blankM (kk : Int) 0 0 0)).toArray 24); simpa using this, by simp⟩
    have HMR := Aside0.mk hMR2
    have HBX := Aside0.mk hBx
    have HCX := Aside0.mk hCx
    have HMX := Aside0.mk hMx
    have HWC := Aside0.mk hwc
    clear hMR hMR2 hBx hCx hMx HM3 HB3 KN KS' KU' HM2 HBW2 HN2 hwc HN
    go_wp2_with fail
    have hshow : ((wc.alloc (.cells #[.string (strOfNums l1), .bool false] 95)).alloc (.cells (mL (blankM (kk : Int) 0 0 0)).toArray 24)) = ((wc.alloc (.cells #[.string (strOfNums l1), .bool false] 95)).alloc (.cells #[.int .i64 (kk : Int), .int .i64 0, .int .i64 0, .int .i64 0, .int .i64 0, .int .i64 0, .int .i64 0, .int .i64 0, .int .i64 0, .string { data := #[] }, .string { data := #[] }] 24)) := rfl
    rw [← hshow]
    clear hshow
    generalize ((wc.alloc (.cells #[.string (strOfNums l1), .bool false] 95)).alloc (.cells (mL (blankM (kk : Int) 0 0 0)).toArray 24)) = wd at HMR HBX HCX HMX ⊢
    generalize wc.heap.size = gc at HMR HBX HCX HMX HWC ⊢
    refine (KK1 gc _ HCX.out HBX.out).out.mono ?_
    rintro e w4 ⟨rfl, hI, hB, hK⟩
    have HM4 := Aside0.mk (mbox_kept HMX.out hK (by omega))
    have HR4 := Aside0.mk (mbox_kept HMR.out hK (by have := HWC.out; omega))
    have HI4 := Aside0.mk hI
    have HB4 := Aside0.mk hB
    clear hI hB hK HMR HBX HCX HMX KK1
    go_wp2_with fail
    refine (KK2 gc _ HI4.out HB4.out).out.mono ?_
    rintro e w5 ⟨rfl, hI, hB, hK⟩
    have HM5 := Aside0.mk (mbox_kept HM4.out hK (by omega))
    have HR5 := Aside0.mk (mbox_kept HR4.out hK (by have := HWC.out; omega))
    have HI5 := Aside0.mk hI
    have HB5 := Aside0.mk hB
    clear hI hB hK HM4 HR4 HI4 HB4 KK2
    go_wp2_with fail
    refine (KK3 gc _ HI5.out HB5.out).out.mono ?_
    rintro e w6 ⟨rfl, hI, hB, hK⟩
    have HM6 := Aside0.mk (mbox_kept HM5.out hK (by omega))
    have HR6 := Aside0.mk (mbox_kept HR5.out hK (by have := HWC.out; omega))
    have HI6 := Aside0.mk hI
    have HB6 := Aside0.mk hB
    clear hI hB hK HM5 HR5 HI5 HB5 KK3
    have k1 : w6.cell? ⟨gc + 1, 1, none⟩ = some (.int .i64 0) := HM6.out.c 1
    have k2 : w6.cell? ⟨gc + 1, 2, none⟩ = some (.int .i64 0) := HM6.out.c 2
    have k3 : w6.cell? ⟨gc + 1, 3, none⟩ = some (.int .i64 0) := HM6.out.c 3
    have f1 : w6.frozen? ⟨gc + 1, 1, none⟩ = false := blk_frozen HM6.out.row 1
    have f2 : w6.frozen? ⟨gc + 1, 2, none⟩ = false := blk_frozen HM6.out.row 2
    have f3 : w6.frozen? ⟨gc + 1, 3, none⟩ = false := blk_frozen HM6.out.row 3
    have kc : w6.cell? ⟨gc, 1, none⟩ = some (.bool c3.short) := cellS95_1 HI6.out.1
    go_upto_region 17 with fail
    have HMS := Aside0.mk (mbox_head HM6.out n1 n2 n3)
    have HRS := Aside0.mk (mbox_far (mbox_far (mbox_far HR6.out (p := ⟨gc + 1, 1, none⟩) (by have := HWC.out; simp; omega) (.int .i64 n1)) (p := ⟨gc + 1, 2, none⟩) (by have := HWC.out; simp; omega) (.int .i64 n2)) (p := ⟨gc + 1, 3, none⟩) (by have := HWC.out; simp; omega) (.int .i64 n3))
    have HBS := Aside0.mk (((HB6.out.setCell (p := ⟨gc + 1, 1, none⟩) (by have := HWC.out; simp; omega) (.int .i64 n1)).setCell (p := ⟨gc + 1, 2, none⟩) (by have := HWC.out; simp; omega) (.int .i64 n2)).setCell (p := ⟨gc + 1, 3, none⟩) (by have := HWC.out; simp; omega) (.int .i64 n3))
    clear HM6 HR6 HB6 HI6 k1 k2 k3 f1 f2 f3 kc
    generalize (((w6.setCell ⟨gc + 1, 1, none⟩ (.int .i64 n1)).setCell ⟨gc + 1, 2, none⟩ (.int .i64 n2)).setCell ⟨gc + 1, 3, none⟩ (.int .i64 n3)) = ws at HMS HRS HBS ⊢
    have hmlt := HMS.out.lt
    have HML := Aside0.mk hmlt
    have HIX : CBox w (ws.alloc (.cells #[.string (strOfNums l2), .bool false] 95)) ws.heap.size ⟨l2, false⟩ := IsS95.new w ws (strOfNums l2) false HBS.out
    have hMY := HMS.out.below ((Below.refl ws.heap.size ws).alloc (Nat.le_refl _) (.cells #[.string (strOfNums l2), .bool false] 95)) hmlt
    have hRY := HRS.out.below ((Below.refl ws.heap.size ws).alloc (Nat.le_refl _) (.cells #[.string (strOfNums l2), .bool false] 95)) HRS.out.lt
    have hBY := HBS.out.alloc (by have := HWC.out; omega) (.cells #[.string (strOfNums l2), .bool false] 95)
    have HIY := Aside0.mk HIX
    have HMY := Aside0.mk hMY
    have HRY := Aside0.mk hRY
    have HBY := Aside0.mk hBY
    clear HIX hMY hRY hBY hmlt HMS HRS HBS
    go_upto_region 18 with fail
    generalize (ws.alloc (.cells #[.string (strOfNums l2), .bool false] 95)) = wy at HIY HMY HRY HBY ⊢
    have hkl : kk < 17 := by omega
    have hk0 : kk ≠ 0 := by omega
    generalize ws.heap.size = gd at HIY HML ⊢
    go_cut [81, 82, 83] (fun v81 v82 v83 wx => ∃ q : Nat, v81 = .slice (some ⟨q, 0, none⟩) (fieldsOf kk).length (fieldsOf kk).length ∧ v82 = .int .i64 ((fieldsOf kk).length : Int) ∧ v83 = .int .i64 0 ∧ Aside0 (wy.heap.size ≤ q) ∧ Aside0 (∀ j n, (fieldsOf kk)[j]? = some n → wx.cell? ⟨q, j, none⟩ = some (.int .u8 (n : Nat))) ∧ Aside0 (q < wx.heap.size) ∧ Aside0 (Below wy.heap.size wy wx))
    case first =>
      have hc0 : wy.cell? ⟨gc + 1, 0, none⟩ = some (.int .i64 (kk : Int)) := HMY.out.c 0
      have hgl := HMY.out.lt
      have hidx : (kk : Int) < 17 := by omega
      have hidx0 : (0 : Int) ≤ (kk : Int) := by omega
      have HSL := Aside0.mk (show ∀ b, slOf b kk = .slice (some ⟨b + (kk - 1), 0, none⟩) (fieldsOf kk).length (fieldsOf kk).length from fun b => if_neg hk0)
      go_region_with ((go_at_call 37; refine (layouts_lay _).mono ?_; rintro e w7 ⟨rfl, hL, hb, hsz⟩; have hS3 := (hb.cell (p := ⟨gc + 1, 0, none⟩) hgl).trans hc0; have ho3 : w7.cell? ⟨wy.heap.size + 16, kk, none⟩ = some (.slice (some ⟨wy.heap.size + (kk - 1), 0, none⟩) (fieldsOf kk).length (fieldsOf kk).length) := (hL.out kk hkl).trans (congrArg some (HSL.out _)); have HL3 := Aside0.mk hL; have HB3 := Aside0.mk hb; have HZ3 := Aside0.mk hsz; clear hL hb hsz))
      all_goals
        go_wp2_with fail
        go_meet
        refine ⟨wy.heap.size + (kk - 1), rfl, rfl, rfl, ⟨by omega⟩, ⟨fun j n hj => HL3.out.inn kk j n hkl hj⟩, ⟨by have := HZ3.out; simp at this ⊢; omega⟩, ⟨⟨HB3.out.os, HB3.out.tape, HB3.out.output, HB3.out.size, HB3.out.block⟩⟩⟩
    case rest =>
      obtain ⟨q, rfl, rfl, rfl, HQ, HNN, HQL, HBZ⟩ := hcut
      have hdl := IsS95.lt HIY.out
      have hDI : DInv w wc (gc + 1) gd q (fieldsOf kk) (blankM (kk : Int) n1 n2 n3) l2 0 :=
        ⟨⟨_, _, rfl, HMY.out.below HBZ.out HMY.out.lt, IsS95.below HIY.out HBZ.out, HB2.out⟩, HRY.out.below HBZ.out HRY.out.lt, HBY.out.trans (HBZ.out.mono (HBY.out.size)), HNN.out, HQL.out⟩
      have HDI := Aside0.mk hDI
      have HNE : Aside0 (w.heap.size ≠ gc + 1 ∧ w.heap.size ≠ gd ∧ q ≠ gc + 1 ∧ q ≠ gd ∧ gc + 1 ≠ gd ∧ w.heap.size ≤ gc + 1 ∧ w.heap.size ≤ gd) := ⟨by have := HWC.out; have := HML.out; have := HQ.out; omega⟩
      have hfl := fields_len kk hkl
      have HFL := Aside0.mk (fields_lt kk hkl)
      generalize hfs : fieldsOf kk = fs at HNN HDI hfl HFL HPL ⊢
      clear hDI HMY HIY HRY HBY HNN HBZ HQ HQL hdl hfs hkl hk0 HWC HML HB2
      generalize hb3 : c3.short = b3 at HBAD
      go_wp2
      go_loopw [10, 83] (fun _ iv wr => ∃ j : Nat, j ≤ fs.length ∧ iv = .int .i64 (j : Int) ∧ Aside0 (DInv w wr (gc + 1) gd q fs (blankM (kk : Int) n1 n2 n3) l2 j)) (fun _ iv _ => 7 - (intOf iv).toNat)
      case atStart => exact ⟨0, Nat.zero_le _, rfl, HDI⟩
      case round =>
        clear HDI
        obtain ⟨j, hj, rfl, HDI⟩ := hrel
        obtain ⟨wo, rfl⟩ : ∃ wo : World, wo = wr := ⟨_, rfl⟩
        by_cases hlt : j < fs.length
        · obtain ⟨n, hn⟩ : ∃ n, fs[j]? = some n := ⟨_, List.getElem?_eq_getElem hlt⟩
          have hci := HDI.out.row j n hn
          obtain ⟨mj, cj, hp, hMj, hCj, hYj⟩ := HDI.out.ex
          have HP := Lib.hid hp
          have K := Lib.hid (read_any (gc + 1) gd mj cj n w wo (HFL.out j n hn) hMj HNE.out.2.2.2.2.2.1 hCj HDI.out.bel hYj HNE.out.2.2.2.2.1)
          have HY := Aside0.mk hYj
          have HNX : Aside0 (fs.take (j + 1) = fs.take j ++ [n]) := ⟨by rw [List.take_add_one, hn]; rfl⟩
          clear hn hp hMj hCj hYj
          go_wp2_with fail
          refine K.out.mono ?_
          rintro e w8 ⟨rfl, hM, hC, hB, hKp⟩
          have HD2 : Aside0 (DInv w w8 (gc + 1) gd q fs (blankM (kk : Int) n1 n2 n3) l2 (j + 1)) := ⟨⟨⟨_, _, by rw [HNX.out, parseC_snoc, HP.out], hM, hC, readC_byt _ _ _ HY.out⟩, ⟨(hKp.2 _ HDI.out.res.lt HNE.out.1 HNE.out.2.1).trans HDI.out.res.row, Nat.lt_of_lt_of_le HDI.out.res.lt hKp.1⟩, hB, fun j n hj => (World.cell?_of_block (hKp.2 _ HDI.out.qlt HNE.out.2.2.1 HNE.out.2.2.2.1)).trans (HDI.out.row j n hj), Nat.lt_of_lt_of_le HDI.out.qlt hKp.1⟩⟩
          clear hM hC hB hKp K HP
          go_wp2
          go_roundw
          case rel => exact ⟨j + 1, by omega, by go_num, HD2⟩
          case measure => simp [intOf]; omega
        · obtain rfl : j = fs.length := by omega
          obtain ⟨mj, cj, hp, hMj, hCj, hYj⟩ := HDI.out.ex
          rw [List.take_length] at hp
          rw [hp] at HPL
          obtain ⟨rest, sh⟩ := cj
          have hc1 : wo.cell? ⟨gd, 1, none⟩ = some (.bool sh) := cellS95_1 hCj.1
          have hc0 : wo.cell? ⟨gd, 0, none⟩ = some (.string (strOfNums rest)) := cellS95_0 hCj.1
          have he := empty_str rest
          have HMj := Aside0.mk hMj
          have HRS := Aside0.mk HDI.out.res
          have HBL := Aside0.mk HDI.out.bel
          obtain rfl := HPL.out
          simp only at HBAD
          clear hp hMj hCj hYj HDI HPL hfl HFL
          cases b3
          · cases sh
            · by_cases hr : rest.isEmpty = true
              · rw [hr] at he
                have HE := Aside0.mk hr
                clear hr
                have hrg := blk_range HMj.out.row
                have hth := blk_there HRS.out.row
                go_wp2_with (first | ((with_reducible refine gate_load (ty := 24) (x := .tmp 7) rfl ?_); refine wpList_load_mid rfl 24 (.tmp 7) rfl (gc + 1) 0 rfl (mL mj) _ hrg Tryd.underlying24 rfl infoM ?_) | ((with_reducible refine gate_store (ty := 24) (x := .tmp 2) (y := .tmp 106) rfl ?_); refine wpList_store_mid rfl 24 (.tmp 2) (.tmp 106) rfl w.heap.size 0 (mL mj).toArray rfl rfl hth infoM (mL_one mj) ?_))
                have hbt : ¬ bad = true := by rw [HBAD.out, HE.out]; simp
                unfold DecR; rw [if_neg hbt, if_neg hbt]
                exact err_ret (k := 0) (m := mj) rfl rfl ⟨setCells_whole HRS.out.row rfl, by rw [setCells_size]; exact HRS.out.lt⟩ (below_setCells HBL.out (Nat.le_refl _) _ _) rfl
              · have hr' : rest.isEmpty = false := by simpa using hr
                rw [hr'] at he
                have HE := Aside0.mk hr'
                clear hr hr'
                have hth := blk_there HRS.out.row
                go_wp2_with ((with_reducible refine gate_store (ty := 24) (x := .tmp 2) (y := .tmp 105) rfl ?_); refine wpList_store_mid rfl 24 (.tmp 2) (.tmp 105) rfl w.heap.size 0 (mL zeroM).toArray rfl rfl hth infoM (mL_one zeroM) ?_)
                have hbt : bad = true := by rw [HBAD.out]; rw [HE.out]; rfl
                unfold DecR; rw [if_pos hbt, if_pos hbt]
                exact err_ret (k := 56) (m := zeroM) rfl rfl ⟨setCells_whole HRS.out.row rfl, by rw [setCells_size]; exact HRS.out.lt⟩ (below_setCells HBL.out (Nat.le_refl _) _ _) rfl
            · have hth := blk_there HRS.out.row
              go_wp2_with ((with_reducible refine gate_store (ty := 24) (x := .tmp 2) (y := .tmp 105) rfl ?_); refine wpList_store_mid rfl 24 (.tmp 2) (.tmp 105) rfl w.heap.size 0 (mL zeroM).toArray rfl rfl hth infoM (mL_one zeroM) ?_)
              have hbt : bad = true := by rw [HBAD.out]; simp
              unfold DecR; rw [if_pos hbt, if_pos hbt]
              exact err_ret (k := 56) (m := zeroM) rfl rfl ⟨setCells_whole HRS.out.row rfl, by rw [setCells_size]; exact HRS.out.lt⟩ (below_setCells HBL.out (Nat.le_refl _) _ _) rfl
          · have hth := blk_there HRS.out.row
            go_wp2_with ((with_reducible refine gate_store (ty := 24) (x := .tmp 2) (y := .tmp 105) rfl ?_); refine wpList_store_mid rfl 24 (.tmp 2) (.tmp 105) rfl w.heap.size 0 (mL zeroM).toArray rfl rfl hth infoM (mL_one zeroM) ?_)
            have hbt : bad = true := by rw [HBAD.out]; simp
            unfold DecR; rw [if_pos hbt, if_pos hbt]
            exact err_ret (k := 56) (m := zeroM) rfl rfl ⟨setCells_whole HRS.out.row rfl, by rw [setCells_size]; exact HRS.out.lt⟩ (below_setCells HBL.out (Nat.le_refl _) _ _) rfl
end Go.Proofs.YtnifgokjagahfaaDoor.Dec

/- Decode answers as decP says. -/
set_option linter.unusedVariables false
set_option linter.unusedSimpArgs false
namespace Go.Proofs.YtnifgokjagahfaaDoor.Dec
open Go.RowKit Go.Proofs.YtnifgokjagahfaaDoorW.PrintWords Go.Proofs.YtnifgokjagahfaaDoorW.PrintLast Go.Proofs.YtnifgokjagahfaaDoorW.PrintMore
open Go.Proofs.YtnifgokjagahfaaDoor.Base Go.Proofs.YtnifgokjagahfaaDoor.Layouts Go.Proofs.YtnifgokjagahfaaDoor.Msg Go.Proofs.YtnifgokjagahfaaDoor.Put Go.Proofs.YtnifgokjagahfaaDoor.EncPure Go.Proofs.YtnifgokjagahfaaDoor.DecPure Go.Proofs.YtnifgokjagahfaaDoor.Num Go.Proofs.YtnifgokjagahfaaDoor.Mids
theorem bodyN_nonneg (s : ByteArray) : 0 ≤ bodyN (bytesOf s) := val_nonneg _ (byt_take (byt_drop (byt_bytesOf s) _) _)
theorem sizeL_eq (L : List Int) : sizeL L = if 4383 < bodyN L then -1 else 24 + bodyN L := rfl
theorem dec_any (s : ByteArray) (w : World) (hmx : s.size ≤ 9223372036854775807) (hN : Crc.Nibs w) : Calls Tryd.prog 16 #[.string s] w fun e w' => e = .returned (.tuple #[.agg (mL (decP (bytesOf s)).1).toArray, .int .i64 (decP (bytesOf s)).2]) ∧ Below w.heap.size w w' := by
  have hlen : (bytesOf s).length = s.size := bytesOf_length s
  have hb0 := bodyN_nonneg s
  by_cases c1 : s.size < 24
  · have e : decP (bytesOf s) = (zeroM, 51) := by unfold decP; rw [if_pos (by omega)]
    rw [e]; exact dec_short s w c1
  by_cases c2 : (bytesOf s).take 3 = [71, 82, 1]
  case neg =>
    have e : decP (bytesOf s) = (zeroM, 52) := by unfold decP; rw [if_neg (by omega), if_pos c2]
    rw [e]; exact dec_magic s w (by omega) c2
  by_cases c3 : 1 ≤ kindL (bytesOf s) ∧ kindL (bytesOf s) < 17
  case neg =>
    have e : decP (bytesOf s) = (zeroM, 53) := by unfold decP; rw [if_neg (by omega), if_neg (by simp [c2]), if_pos c3]
    rw [e]; exact dec_kind s w (by omega) c2 c3
  have c3' : ¬ ¬ (1 ≤ kindL (bytesOf s) ∧ kindL (bytesOf s) < 17) := fun h => h c3
  by_cases c4 : 4383 < bodyN (bytesOf s) ∨ 24 + bodyN (bytesOf s) ≠ (bytesOf s).length
  · have e : decP (bytesOf s) = (zeroM, 54) := by unfold decP; rw [if_neg (by omega), if_neg (by simp [c2]), if_neg c3', if_pos c4]
    rw [e]
    refine dec_length s w (by omega) hmx c2 c3 ?_
    rw [sizeL_eq]
    rcases c4 with c | c
    · rw [if_pos c]; exact .inl (by decide)
    · by_cases c5 : 4383 < bodyN (bytesOf s)
      · rw [if_pos c5]; exact .inl (by decide)
      · rw [if_neg c5]; exact .inr (by rw [← hlen]; exact c)
  have hz : sizeL (bytesOf s) = s.size := by
    simp only [not_or, Int.not_lt, ne_eq, Decidable.not_not] at c4
    rw [sizeL_eq, if_neg (by omega), c4.2, hlen]
  by_cases c5 : sumL ((bytesOf s).take (s.size - 4)) = (bytesOf s).drop (s.size - 4)
  case neg =>
    have e : decP (bytesOf s) = (zeroM, 55) := by unfold decP; rw [if_neg (by omega), if_neg (by simp [c2]), if_neg c3', if_neg c4, hlen, if_pos c5]
    rw [e]; exact dec_sum s w (by omega) hmx c2 c3 hz hN c5
  refine (dec_body s w (by omega) hmx c2 c3 hz hN c5).mono ?_
  intro e w' h
  unfold DecR at h
  have e1 : decP (bytesOf s) = ((if badL (bytesOf s) = true then zeroM else (pL (bytesOf s)).1), (if badL (bytesOf s) = true then 56 else 0)) := by
    unfold decP
    rw [if_neg (by omega), if_neg (by simp [c2]), if_neg c3', if_neg c4, hlen, if_neg (fun h => h c5)]
    split <;> rfl
  rw [e1]
  exact h
end Go.Proofs.YtnifgokjagahfaaDoor.Dec

/- begins of the frame package. -/
set_option linter.unusedVariables false
set_option linter.unusedSimpArgs false
namespace Go.Proofs.YtnifgokjagahfaaDoor.Beg
open Go.RowKit Go.Proofs.YtnifgokjagahfaaDoorW.PrintWords Go.Proofs.YtnifgokjagahfaaDoorW.PrintLast Go.Proofs.YtnifgokjagahfaaDoorW.PrintMore
open Go.Proofs.YtnifgokjagahfaaDoor.Base Go.Proofs.YtnifgokjagahfaaDoor.Layouts Go.Proofs.YtnifgokjagahfaaDoor.Msg Go.Proofs.YtnifgokjagahfaaDoor.Put Go.Proofs.YtnifgokjagahfaaDoor.EncPure Go.Proofs.YtnifgokjagahfaaDoor.DecPure Go.Proofs.YtnifgokjagahfaaDoor.Num Go.Proofs.YtnifgokjagahfaaDoor.Mids
open Go.Proofs.YtnifgokjagahfaaDoor.Dec (infoM mL_one str_eq str_eq2 kindL_byte)
theorem known_any (k : Int) (w : World) : Calls Tryd.prog 34 #[.int .i64 k] w fun e w' => e = .returned (.bool (decide (1 ≤ k ∧ k < 17))) ∧ Below w.heap.size w w' := by
  by_cases h : 1 ≤ k ∧ k < 17
  · rw [decide_eq_true h]; exact known_yes k w h
  · rw [decide_eq_false h]; exact known_no k w h
/-- what a call answers -/
def TellW (q n : Int) (m : M) (w : World) (e : Ending) (w' : World) : Prop := e = .returned (.tuple #[.int .i64 q, .int .i64 n, .agg (mL m).toArray]) ∧ Below w.heap.size w w'
theorem results_ttc_mid {P : Program} {fn : Func} {p u1 u2 : Tmp} {ty : TypeId} (h : fn.results = #[.tmp u1, .tmp u2, .cell p ty]) (tmps : Array Value) (w : World) (g o : Nat) (cs : List Value) (d : TypeDesc)
    (hp : tmps.getD p undef = .pointer (some ⟨g, o, none⟩)) (hg : w.rangeAt g o cs) (hu : P.underlying ty = some d) (hd : d.isRow = true) (hi : (P.info? ty).map (·.size) = some cs.length) :
    (results fn tmps).run P w = .ok (.tuple #[tmps.getD u1 undef, tmps.getD u2 undef, .agg cs.toArray]) w := by
  have hp' : tmps[p]?.getD undef = .pointer (some ⟨g, o, none⟩) := by simpa using hp
  simp [results, h, hp', asAddr, run_loadVar_mid w g o ty cs d hg hu hd hi]
theorem tell_ret {W : World} {w : World} {m : M} {tmps : Array Value} {q n : Int} (hp : tmps.getD 4 undef = .pointer (some ⟨w.heap.size, 0, none⟩)) (hq : tmps.getD 2 undef = .int .i64 q) (hn : tmps.getD 3 undef = .int .i64 n) (h : MBox W w.heap.size m) (hB : Below w.heap.size w W) {d : List _} (hd : d = []) :
    bodyPost Tryd.prog Tryd.f63 (TellW q n m w) Exit.ret ⟨tmps, d⟩ W := by
  subst hd
  refine bodyPost_ret (v := .tuple #[.int .i64 q, .int .i64 n, .agg (mL m).toArray]) ?_ rfl ⟨rfl, hB⟩
  rw [← hq, ← hn]
  exact results_ttc_mid rfl tmps W w.heap.size 0 (mL m) _ hp (blk_range h.row) Tryd.underlying24 rfl infoM
/-- the three bytes with which a frame begins -/
def mag : ByteArray := { data := #[71, 82, 1] }
def pre3 (L : List Int) : Bool := decide (L.take (min L.length 3) = ([71, 82, 1] : List Int).take (min L.length 3))
theorem mag_take (k : Nat) (h : k ≤ 3) : (({ data := #[71, 82, 1] } : ByteArray).extract 0 k).toList = ([71, 82, 1] : List UInt8).take k := by
  have e : k = 0 ∨ k = 1 ∨ k = 2 ∨ k = 3 := by omega
  rcases e with rfl | rfl | rfl | rfl <;> decide +kernel
theorem pre_eq (s : ByteArray) (k : Nat) (hk : k = min s.size 3) : ((s.extract 0 k).toList == (({ data := #[71, 82, 1] } : ByteArray).extract 0 k).toList) = pre3 (bytesOf s) := by
  rw [extract_head s k (by omega), mag_take k (by omega), str_eq _ (byt_take (byt_bytesOf s) k)]
  unfold pre3
  rw [bytesOf_length, ← hk, List.map_take]
  rfl
/-- what stands behind the test of the head -/
structure Head (s : ByteArray) (k : Nat) (b : Bool) : Prop where mk ::
  (hmin : (if 3 < (s.size : Int) then 3 else (s.size : Int)) = (k : Int)) (h0 : (0 : Int) ≤ (k : Int)) (h1 : (k : Int) ≤ (s.size : Int)) (h3 : (k : Int) ≤ 3)
  (hq : ((s.extract 0 k).toList == (({ data := #[71, 82, 1] } : ByteArray).extract 0 k).toList) = b)
theorem head_of (s : ByteArray) : ∃ k, Head s k (pre3 (bytesOf s)) := ⟨min s.size 3, ⟨by split <;> omega, by omega, by omega, by omega, pre_eq s _ rfl⟩⟩
theorem three_le {k : Nat} (h : (k : Int) ≤ 3) : (k : Int) ≤ ((({ data := #[71, 82, 1] } : ByteArray).size : Nat) : Int) := by
  have e : ({ data := #[71, 82, 1] } : ByteArray).size = 3 := rfl
  rw [e]; omega
theorem lit_three : (3 : Int) ≤ ((({ data := #[71, 82, 1] } : ByteArray).size : Nat) : Int) := by
  have e : ({ data := #[71, 82, 1] } : ByteArray).size = 3 := rfl
  rw [e]; decide
def litS : ByteArray := { data := #[71, 82, 1] }
-- WALKS
set_option maxRecDepth 100000 in
set_option maxHeartbeats 4000000 in
theorem beg_magic (s : ByteArray) (w : World) (hp : pre3 (bytesOf s) = false) : Calls Tryd.prog 63 #[.string s] w (TellW 0 0 zeroM w) := by
  obtain ⟨k, ⟨hmin, h0, h1, h3, hq⟩⟩ := head_of s
  rw [hp] at hq
  have hs1 := fun wx => run_slice_string_h (P := Tryd.prog) wx 9 s Tryd.underlying9 .i64 (k : Int) h0 h1
  have hs2 := fun wx => run_slice_string_h (P := Tryd.prog) wx 9 { data := #[71, 82, 1] } Tryd.underlying9 .i64 (k : Int) h0 (three_le h3)
  rw [Int.toNat_natCast] at hs1 hs2
  generalize s.extract 0 k = S1 at hs1 hq
  generalize (({ data := #[71, 82, 1] } : ByteArray).extract 0 k) = S2 at hs2 hq
  have HB := Aside0.mk ((Below.refl w.heap.size w).alloc (Nat.le_refl _) (.cells (mL zeroM).toArray 24))
  have HM : Aside0 (MBox (w.alloc (.cells (mL zeroM).toArray 24)) w.heap.size zeroM) := ⟨⟨Go.heap_alloc_new w _, by simp⟩⟩
  generalize hwa : w.alloc (.cells (mL zeroM).toArray 24) = wa at HB HM
  have h3s := three_le h3
  go_enter Tryd.func63, Tryd.ntmps63
  go_upto_region 2 with fail
  rw [show w.alloc (.cells #[.int .i64 0, .int .i64 0, .int .i64 0, .int .i64 0, .int .i64 0, .int .i64 0, .int .i64 0, .int .i64 0, .int .i64 0, .string { data := #[] }, .string { data := #[] }] 24) = wa from hwa]
  refine wp_region_still_tail 7 (by kernel_rfl) (by kernel_rfl) ?_
  simp only [List.take_succ_cons, List.take_zero, List.drop_succ_cons, List.drop_zero]
  iterate 7 still_step
  with_reducible refine wpStill_nil ?_
  clear hs1 hs2 hq hp h3s
  have hth := blk_there (w := wa.drew) HM.out.row
  go_wp2_with ((with_reducible refine gate_store (ty := 24) (x := .tmp 4) (y := .tmp 29) rfl ?_); refine wpList_store_mid rfl 24 (.tmp 4) (.tmp 29) rfl w.heap.size 0 (mL zeroM).toArray rfl rfl hth infoM (mL_one zeroM) ?_)
  exact tell_ret rfl rfl rfl ⟨setCells_whole (w := wa.drew) HM.out.row rfl, by rw [setCells_size]; exact HM.out.lt⟩ (below_setCells (below_drew HB.out) (Nat.le_refl _) _ _) rfl
set_option maxRecDepth 100000 in
set_option maxHeartbeats 4000000 in
theorem beg_short (s : ByteArray) (w : World) (hp : pre3 (bytesOf s) = true) (h : s.size ≤ 3) : Calls Tryd.prog 63 #[.string s] w (TellW 1 0 zeroM w) := by
  obtain ⟨k, ⟨hmin, h0, h1, h3, hq⟩⟩ := head_of s
  rw [hp] at hq
  have H4 : Aside0 (¬ (3 : Int) < (s.size : Int)) := ⟨by omega⟩
  have H5 : Aside0 ((s.size : Int) < 20) := ⟨by omega⟩
  obtain rfl : k = s.size := by rw [if_neg (by omega)] at hmin; omega
  have hs1 := fun wx => run_slice_string_h (P := Tryd.prog) wx 9 s Tryd.underlying9 .i64 (s.size : Int) h0 h1
  have hs2 := fun wx => run_slice_string_h (P := Tryd.prog) wx 9 { data := #[71, 82, 1] } Tryd.underlying9 .i64 (s.size : Int) h0 (three_le h3)
  rw [Int.toNat_natCast] at hs1 hs2
  clear hmin
  generalize s.extract 0 s.size = S1 at hs1 hq
  generalize (({ data := #[71, 82, 1] } : ByteArray).extract 0 s.size) = S2 at hs2 hq
  have HB := Aside0.mk ((Below.refl w.heap.size w).alloc (Nat.le_refl _) (.cells (mL zeroM).toArray 24))
  have HM : Aside0 (MBox (w.alloc (.cells (mL zeroM).toArray 24)) w.heap.size zeroM) := ⟨⟨Go.heap_alloc_new w _, by simp⟩⟩
  generalize hwa : w.alloc (.cells (mL zeroM).toArray 24) = wa at HB HM
  have h3s := three_le h3
  go_enter Tryd.func63, Tryd.ntmps63
  go_upto_region 2 with fail
  rw [show w.alloc (.cells #[.int .i64 0, .int .i64 0, .int .i64 0, .int .i64 0, .int .i64 0, .int .i64 0, .int .i64 0, .int .i64 0, .int .i64 0, .string { data := #[] }, .string { data := #[] }] 24) = wa from hwa]
  refine wp_region_still_tail 7 (by kernel_rfl) (by kernel_rfl) ?_
  simp only [List.take_succ_cons, List.take_zero, List.drop_succ_cons, List.drop_zero]
  iterate 7 still_step
  with_reducible refine wpStill_nil ?_
  clear hs1 hs2 hq hp h3s
  have h4 := H4.out
  have h5 := H5.out
  have hth := blk_there (w := wa.drew) HM.out.row
  go_wp2_with ((with_reducible refine gate_store (ty := 24) (x := .tmp 4) (y := .tmp 33) rfl ?_); refine wpList_store_mid rfl 24 (.tmp 4) (.tmp 33) rfl w.heap.size 0 (mL zeroM).toArray rfl rfl hth infoM (mL_one zeroM) ?_)
  exact tell_ret rfl rfl rfl ⟨setCells_whole (w := wa.drew) HM.out.row rfl, by rw [setCells_size]; exact HM.out.lt⟩ (below_setCells (below_drew HB.out) (Nat.le_refl _) _ _) rfl
set_option maxRecDepth 100000 in
set_option maxHeartbeats 4000000 in
theorem beg_kind (s : ByteArray) (w : World) (hp : pre3 (bytesOf s) = true) (h : 3 < s.size) (hk : ¬ (1 ≤ kindL (bytesOf s) ∧ kindL (bytesOf s) < 17)) : Calls Tryd.prog 63 #[.string s] w (TellW 0 0 zeroM w) := by
  obtain ⟨k, ⟨hmin, h0, h1, h3, hq⟩⟩ := head_of s
  rw [hp] at hq
  obtain ⟨kk, hkk⟩ : ∃ kk : Nat, (s[3]'h).toNat = kk := ⟨_, rfl⟩
  have hk2 : kk ≤ 255 := by have := (s[3]'h).toNat_lt; omega
  rw [kindL_byte s h, hkk] at hk
  have H4 : Aside0 ((3 : Int) < (s.size : Int)) := ⟨by omega⟩
  have KN := fun w => Lib.hid (known_no (kk : Int) w hk)
  obtain rfl : k = 3 := by rw [if_pos (by omega)] at hmin; omega
  have h3 : (3 : Int) ≤ (s.size : Int) := by omega
  have hs1 := fun wx => run_slice_string_h (P := Tryd.prog) wx 9 s Tryd.underlying9 .i64 (3 : Int) (by decide) h3
  have hs2 := fun wx => run_slice_string_h (P := Tryd.prog) wx 9 { data := #[71, 82, 1] } Tryd.underlying9 .i64 (3 : Int) (by decide) lit_three
  have e3 : (3 : Int).toNat = 3 := rfl
  rw [e3] at hs1 hs2
  clear hmin h0 h1 e3
  generalize s.extract 0 3 = S1 at hs1 hq
  generalize (({ data := #[71, 82, 1] } : ByteArray).extract 0 3) = S2 at hs2 hq
  have HB := Aside0.mk ((Below.refl w.heap.size w).alloc (Nat.le_refl _) (.cells (mL zeroM).toArray 24))
  have HM : Aside0 (MBox (w.alloc (.cells (mL zeroM).toArray 24)) w.heap.size zeroM) := ⟨⟨Go.heap_alloc_new w _, by simp⟩⟩
  generalize hwa : w.alloc (.cells (mL zeroM).toArray 24) = wa at HB HM
  have h3s := lit_three
  go_enter Tryd.func63, Tryd.ntmps63
  go_upto_region 2 with fail
  rw [show w.alloc (.cells #[.int .i64 0, .int .i64 0, .int .i64 0, .int .i64 0, .int .i64 0, .int .i64 0, .int .i64 0, .int .i64 0, .int .i64 0, .string { data := #[] }, .string { data := #[] }] 24) = wa from hwa]
  refine wp_region_still_tail 7 (by kernel_rfl) (by kernel_rfl) ?_
  simp only [List.take_succ_cons, List.take_zero, List.drop_succ_cons, List.drop_zero]
  iterate 7 still_step
  with_reducible refine wpStill_nil ?_
  clear hs1 hs2 hq hp h3s
  have h4 := H4.out
  go_wp2_with fail
  refine (KN _).out.mono ?_
  rintro e w1 ⟨rfl, hb⟩
  have hb : Below wa.drew.heap.size wa.drew w1 := hb
  have HM1 := Aside0.mk ((⟨HM.out.row, HM.out.lt⟩ : MBox wa.drew w.heap.size zeroM).below hb HM.out.lt)
  have HB1 := Aside0.mk ((below_drew HB.out).trans (hb.mono (below_drew HB.out).size))
  clear hb HM HB KN hwa
  have hth := blk_there HM1.out.row
  go_wp2_with ((with_reducible refine gate_store (ty := 24) (x := .tmp 4) (y := .tmp 29) rfl ?_); refine wpList_store_mid rfl 24 (.tmp 4) (.tmp 29) rfl w.heap.size 0 (mL zeroM).toArray rfl rfl hth infoM (mL_one zeroM) ?_)
  exact tell_ret rfl rfl rfl ⟨setCells_whole HM1.out.row rfl, by rw [setCells_size]; exact HM1.out.lt⟩ (below_setCells HB1.out (Nat.le_refl _) _ _) rfl
set_option maxRecDepth 100000 in
set_option maxHeartbeats 4000000 in
theorem beg_head (s : ByteArray) (w : World) (hp : pre3 (bytesOf s) = true) (h : 3 < s.size) (hk : 1 ≤ kindL (bytesOf s) ∧ kindL (bytesOf s) < 17) (h20 : s.size < 20) : Calls Tryd.prog 63 #[.string s] w (TellW 1 0 zeroM w) := by
  obtain ⟨k, ⟨hmin, h0, h1, h3, hq⟩⟩ := head_of s
  rw [hp] at hq
  obtain ⟨kk, hkk⟩ : ∃ kk : Nat, (s[3]'h).toNat = kk := ⟨_, rfl⟩
  have hk2 : kk ≤ 255 := by have := (s[3]'h).toNat_lt; omega
  rw [kindL_byte s h, hkk] at hk
  have H4 : Aside0 ((3 : Int) < (s.size : Int)) := ⟨by omega⟩
  have KN := fun w => Lib.hid (known_yes (kk : Int) w hk)
  have H5 : Aside0 ((s.size : Int) < 20) := ⟨by omega⟩
  obtain rfl : k = 3 := by rw [if_pos (by omega)] at hmin; omega
  have h3 : (3 : Int) ≤ (s.size : Int) := by omega
  have hs1 := fun wx => run_slice_string_h (P := Tryd.prog) wx 9 s Tryd.underlying9 .i64 (3 : Int) (by decide) h3
  have hs2 := fun wx => run_slice_string_h (P := Tryd.prog) wx 9 { data := #[71, 82, 1] } Tryd.underlying9 .i64 (3 : Int) (by decide) lit_three
  have e3 : (3 : Int).toNat = 3 := rfl
  rw [e3] at hs1 hs2
  clear hmin h0 h1 e3
  generalize s.extract 0 3 = S1 at hs1 hq
  generalize (({ data := #[71, 82, 1] } : ByteArray).extract 0 3) = S2 at hs2 hq
  have HB := Aside0.mk ((Below.refl w.heap.size w).alloc (Nat.le_refl _) (.cells (mL zeroM).toArray 24))
  have HM : Aside0 (MBox (w.alloc (.cells (mL zeroM).toArray 24)) w.heap.size zeroM) := ⟨⟨Go.heap_alloc_new w _, by simp⟩⟩
  generalize hwa : w.alloc (.cells (mL zeroM).toArray 24) = wa at HB HM
  have h3s := lit_three
  go_enter Tryd.func63, Tryd.ntmps63
  go_upto_region 2 with fail
  rw [show w.alloc (.cells #[.int .i64 0, .int .i64 0, .int .i64 0, .int .i64 0, .int .i64 0, .int .i64 0, .int .i64 0, .int .i64 0, .int .i64 0, .string { data := #[] }, .string { data := #[] }] 24) = wa from hwa]
  refine wp_region_still_tail 7 (by kernel_rfl) (by kernel_rfl) ?_
  simp only [List.take_succ_cons, List.take_zero, List.drop_succ_cons, List.drop_zero]
  iterate 7 still_step
  with_reducible refine wpStill_nil ?_
  clear hs1 hs2 hq hp h3s
  have h4 := H4.out
  have h5 := H5.out
  go_wp2_with fail
  refine (KN _).out.mono ?_
  rintro e w1 ⟨rfl, hb⟩
  have hb : Below wa.drew.heap.size wa.drew w1 := hb
  have HM1 := Aside0.mk ((⟨HM.out.row, HM.out.lt⟩ : MBox wa.drew w.heap.size zeroM).below hb HM.out.lt)
  have HB1 := Aside0.mk ((below_drew HB.out).trans (hb.mono (below_drew HB.out).size))
  clear hb HM HB KN hwa
  have hth := blk_there HM1.out.row
  go_wp2_with ((with_reducible refine gate_store (ty := 24) (x := .tmp 4) (y := .tmp 33) rfl ?_); refine wpList_store_mid rfl 24 (.tmp 4) (.tmp 33) rfl w.heap.size 0 (mL zeroM).toArray rfl rfl hth infoM (mL_one zeroM) ?_)
  exact tell_ret rfl rfl rfl ⟨setCells_whole HM1.out.row rfl, by rw [setCells_size]; exact HM1.out.lt⟩ (below_setCells HB1.out (Nat.le_refl _) _ _) rfl
set_option maxRecDepth 100000 in
set_option maxHeartbeats 4000000 in
theorem beg_neg (s : ByteArray) (w : World) (hp : pre3 (bytesOf s) = true) (h : 3 < s.size) (hk : 1 ≤ kindL (bytesOf s) ∧ kindL (bytesOf s) < 17) (h20 : 20 ≤ s.size) (hmx : s.size ≤ 9223372036854775807) (hz : sizeL (bytesOf s) < 0) : Calls Tryd.prog 63 #[.string s] w (TellW 0 0 zeroM w) := by
  obtain ⟨k, ⟨hmin, h0, h1, h3, hq⟩⟩ := head_of s
  rw [hp] at hq
  obtain ⟨kk, hkk⟩ : ∃ kk : Nat, (s[3]'h).toNat = kk := ⟨_, rfl⟩
  have hk2 : kk ≤ 255 := by have := (s[3]'h).toNat_lt; omega
  rw [kindL_byte s h, hkk] at hk
  have H4 : Aside0 ((3 : Int) < (s.size : Int)) := ⟨by omega⟩
  have KN := fun w => Lib.hid (known_yes (kk : Int) w hk)
  have H5 : Aside0 (¬ (s.size : Int) < 20) := ⟨by omega⟩
  have KS := fun w => size_any s w h20 hmx
  generalize sizeL (bytesOf s) = n at KS hz
  have KS := fun w => Lib.hid (KS w)
  obtain rfl : k = 3 := by rw [if_pos (by omega)] at hmin; omega
  have h3 : (3 : Int) ≤ (s.size : Int) := by omega
  have hs1 := fun wx => run_slice_string_h (P := Tryd.prog) wx 9 s Tryd.underlying9 .i64 (3 : Int) (by decide) h3
  have hs2 := fun wx => run_slice_string_h (P := Tryd.prog) wx 9 { data := #[71, 82, 1] } Tryd.underlying9 .i64 (3 : Int) (by decide) lit_three
  have e3 : (3 : Int).toNat = 3 := rfl
  rw [e3] at hs1 hs2
  clear hmin h0 h1 e3
  generalize s.extract 0 3 = S1 at hs1 hq
  generalize (({ data := #[71, 82, 1] } : ByteArray).extract 0 3) = S2 at hs2 hq
  have HB := Aside0.mk ((Below.refl w.heap.size w).alloc (Nat.le_refl _) (.cells (mL zeroM).toArray 24))
  have HM : Aside0 (MBox (w.alloc (.cells (mL zeroM).toArray 24)) w.heap.size zeroM) := ⟨⟨Go.heap_alloc_new w _, by simp⟩⟩
  generalize hwa : w.alloc (.cells (mL zeroM).toArray 24) = wa at HB HM
  have h3s := lit_three
  go_enter Tryd.func63, Tryd.ntmps63
  go_upto_region 2 with fail
  rw [show w.alloc (.cells #[.int .i64 0, .int .i64 0, .int .i64 0, .int .i64 0, .int .i64 0, .int .i64 0, .int .i64 0, .int .i64 0, .int .i64 0, .string { data := #[] }, .string { data := #[] }] 24) = wa from hwa]
  refine wp_region_still_tail 7 (by kernel_rfl) (by kernel_rfl) ?_
  simp only [List.take_succ_cons, List.take_zero, List.drop_succ_cons, List.drop_zero]
  iterate 7 still_step
  with_reducible refine wpStill_nil ?_
  clear hs1 hs2 hq hp h3s
  have h4 := H4.out
  have h5 := H5.out
  go_wp2_with fail
  refine (KN _).out.mono ?_
  rintro e w1 ⟨rfl, hb⟩
  have hb : Below wa.drew.heap.size wa.drew w1 := hb
  have HM1 := Aside0.mk ((⟨HM.out.row, HM.out.lt⟩ : MBox wa.drew w.heap.size zeroM).below hb HM.out.lt)
  have HB1 := Aside0.mk ((below_drew HB.out).trans (hb.mono (below_drew HB.out).size))
  clear hb HM HB KN hwa
  go_wp2_with fail
  refine (KS _).out.mono ?_
  rintro e w2 ⟨rfl, hb⟩
  have HM2 := Aside0.mk (HM1.out.below hb HM1.out.lt)
  have HB2 := Aside0.mk (HB1.out.trans (hb.mono HB1.out.size))
  clear hb KS HM1 HB1
  have hth := blk_there HM2.out.row
  go_wp2_with ((with_reducible refine gate_store (ty := 24) (x := .tmp 4) (y := .tmp 38) rfl ?_); refine wpList_store_mid rfl 24 (.tmp 4) (.tmp 38) rfl w.heap.size 0 (mL zeroM).toArray rfl rfl hth infoM (mL_one zeroM) ?_)
  exact tell_ret rfl rfl rfl ⟨setCells_whole HM2.out.row rfl, by rw [setCells_size]; exact HM2.out.lt⟩ (below_setCells HB2.out (Nat.le_refl _) _ _) rfl
set_option maxRecDepth 100000 in
set_option maxHeartbeats 4000000 in
theorem beg_wait (s : ByteArray) (w : World) (hp : pre3 (bytesOf s) = true) (h : 3 < s.size) (hk : 1 ≤ kindL (bytesOf s) ∧ kindL (bytesOf s) < 17) (h20 : 20 ≤ s.size) (hmx : s.size ≤ 9223372036854775807) (hz : ¬ sizeL (bytesOf s) < 0 ∧ (s.size : Int) < sizeL (bytesOf s)) : Calls Tryd.prog 63 #[.string s] w (TellW 1 0 zeroM w) := by
  obtain ⟨k, ⟨hmin, h0, h1, h3, hq⟩⟩ := head_of s
  rw [hp] at hq
  obtain ⟨kk, hkk⟩ : ∃ kk : Nat, (s[3]'h).toNat = kk := ⟨_, rfl⟩
  have hk2 : kk ≤ 255 := by have := (s[3]'h).toNat_lt; omega
  rw [kindL_byte s h, hkk] at hk
  have H4 : Aside0 ((3 : Int) < (s.size : Int)) := ⟨by omega⟩
  have KN := fun w => Lib.hid (known_yes (kk : Int) w hk)
  have H5 : Aside0 (¬ (s.size : Int) < 20) := ⟨by omega⟩
  have KS := fun w => size_any s w h20 hmx
  generalize sizeL (bytesOf s) = n at KS hz
  have KS := fun w => Lib.hid (KS w)
  obtain ⟨hz1, hz2⟩ := hz
  obtain rfl : k = 3 := by rw [if_pos (by omega)] at hmin; omega
  have h3 : (3 : Int) ≤ (s.size : Int) := by omega
  have hs1 := fun wx => run_slice_string_h (P := Tryd.prog) wx 9 s Tryd.underlying9 .i64 (3 : Int) (by decide) h3
  have hs2 := fun wx => run_slice_string_h (P := Tryd.prog) wx 9 { data := #[71, 82, 1] } Tryd.underlying9 .i64 (3 : Int) (by decide) lit_three
  have e3 : (3 : Int).toNat = 3 := rfl
  rw [e3] at hs1 hs2
  clear hmin h0 h1 e3
  generalize s.extract 0 3 = S1 at hs1 hq
  generalize (({ data := #[71, 82, 1] } : ByteArray).extract 0 3) = S2 at hs2 hq
  have HB := Aside0.mk ((Below.refl w.heap.size w).alloc (Nat.le_refl _) (.cells (mL zeroM).toArray 24))
  have HM : Aside0 (MBox (w.alloc (.cells (mL zeroM).toArray 24)) w.heap.size zeroM) := ⟨⟨Go.heap_alloc_new w _, by simp⟩⟩
  generalize hwa : w.alloc (.cells (mL zeroM).toArray 24) = wa at HB HM
  have h3s := lit_three
  go_enter Tryd.func63, Tryd.ntmps63
  go_upto_region 2 with fail
  rw [show w.alloc (.cells #[.int .i64 0, .int .i64 0, .int .i64 0, .int .i64 0, .int .i64 0, .int .i64 0, .int .i64 0, .int .i64 0, .int .i64 0, .string { data := #[] }, .string { data := #[] }] 24) = wa from hwa]
  refine wp_region_still_tail 7 (by kernel_rfl) (by kernel_rfl) ?_
  simp only [List.take_succ_cons, List.take_zero, List.drop_succ_cons, List.drop_zero]
  iterate 7 still_step
  with_reducible refine wpStill_nil ?_
  clear hs1 hs2 hq hp h3s
  have h4 := H4.out
  have h5 := H5.out
  go_wp2_with fail
  refine (KN _).out.mono ?_
  rintro e w1 ⟨rfl, hb⟩
  have hb : Below wa.drew.heap.size wa.drew w1 := hb
  have HM1 := Aside0.mk ((⟨HM.out.row, HM.out.lt⟩ : MBox wa.drew w.heap.size zeroM).below hb HM.out.lt)
  have HB1 := Aside0.mk ((below_drew HB.out).trans (hb.mono (below_drew HB.out).size))
  clear hb HM HB KN hwa
  go_wp2_with fail
  refine (KS _).out.mono ?_
  rintro e w2 ⟨rfl, hb⟩
  have HM2 := Aside0.mk (HM1.out.below hb HM1.out.lt)
  have HB2 := Aside0.mk (HB1.out.trans (hb.mono HB1.out.size))
  clear hb KS HM1 HB1
  have hth := blk_there HM2.out.row
  go_wp2_with ((with_reducible refine gate_store (ty := 24) (x := .tmp 4) (y := .tmp 43) rfl ?_); refine wpList_store_mid rfl 24 (.tmp 4) (.tmp 43) rfl w.heap.size 0 (mL zeroM).toArray rfl rfl hth infoM (mL_one zeroM) ?_)
  exact tell_ret rfl rfl rfl ⟨setCells_whole HM2.out.row rfl, by rw [setCells_size]; exact HM2.out.lt⟩ (below_setCells HB2.out (Nat.le_refl _) _ _) rfl
set_option maxRecDepth 100000 in
set_option maxHeartbeats 4000000 in
theorem beg_bad (s : ByteArray) (w : World) (hp : pre3 (bytesOf s) = true) (h : 3 < s.size) (hk : 1 ≤ kindL (bytesOf s) ∧ kindL (bytesOf s) < 17) (h20 : 20 ≤ s.size) (hmx : s.size ≤ 9223372036854775807) (hNb : Crc.Nibs w) (hz : ¬ sizeL (bytesOf s) < 0 ∧ ¬ (s.size : Int) < sizeL (bytesOf s)) (m : M) (x : Int) (he : decP ((bytesOf s).take (sizeL (bytesOf s)).toNat) = (m, x)) (hx : x ≠ 0) : Calls Tryd.prog 63 #[.string s] w (TellW 0 0 zeroM w) := by
  obtain ⟨k, ⟨hmin, h0, h1, h3, hq⟩⟩ := head_of s
  rw [hp] at hq
  obtain ⟨kk, hkk⟩ : ∃ kk : Nat, (s[3]'h).toNat = kk := ⟨_, rfl⟩
  have hk2 : kk ≤ 255 := by have := (s[3]'h).toNat_lt; omega
  rw [kindL_byte s h, hkk] at hk
  have H4 : Aside0 ((3 : Int) < (s.size : Int)) := ⟨by omega⟩
  have KN := fun w => Lib.hid (known_yes (kk : Int) w hk)
  obtain ⟨N, hN1⟩ : ∃ N : Nat, sizeL (bytesOf s) = (N : Int) := ⟨(sizeL (bytesOf s)).toNat, by omega⟩
  rw [hN1, Int.toNat_natCast] at he
  have hz1 : ¬ (N : Int) < 0 := by omega
  have hz2 : ¬ (s.size : Int) < (N : Int) := by omega
  have hz3 : (0 : Int) ≤ (N : Int) := by omega
  have hz4 : (N : Int) ≤ (s.size : Int) := by omega
  have H5 : Aside0 (¬ (s.size : Int) < 20) := ⟨by omega⟩
  have KS := fun w => size_any s w h20 hmx
  rw [hN1] at KS
  have KS := fun w => Lib.hid (KS w)
  have hsN := fun wx => run_slice_string_h (P := Tryd.prog) wx 9 s Tryd.underlying9 .i64 (N : Int) hz3 hz4
  rw [Int.toNat_natCast, extract_head s N (by omega)] at hsN
  have KD := fun (w : World) hN => Dec.dec_any (strOfNums ((bytesOf s).take N)) w (by rw [strOfNums_size, List.length_take, bytesOf_length]; omega) hN
  rw [bytesOf_strOfNums _ (byt_take (byt_bytesOf s) N), he] at KD
  have KD := fun (w : World) hN => Lib.hid (KD w hN)
  generalize strOfNums ((bytesOf s).take N) = S3 at hsN KD
  have HNb := Aside0.mk hNb
  clear hNb
  have hxb : (x != 0) = true := bne_iff_ne.2 hx
  obtain rfl : k = 3 := by rw [if_pos (by omega)] at hmin; omega
  have h3 : (3 : Int) ≤ (s.size : Int) := by omega
  have hs1 := fun wx => run_slice_string_h (P := Tryd.prog) wx 9 s Tryd.underlying9 .i64 (3 : Int) (by decide) h3
  have hs2 := fun wx => run_slice_string_h (P := Tryd.prog) wx 9 { data := #[71, 82, 1] } Tryd.underlying9 .i64 (3 : Int) (by decide) lit_three
  have e3 : (3 : Int).toNat = 3 := rfl
  rw [e3] at hs1 hs2
  clear hmin h0 h1 e3
  generalize s.extract 0 3 = S1 at hs1 hq
  generalize (({ data := #[71, 82, 1] } : ByteArray).extract 0 3) = S2 at hs2 hq
  have HB := Aside0.mk ((Below.refl w.heap.size w).alloc (Nat.le_refl _) (.cells (mL zeroM).toArray 24))
  have HM : Aside0 (MBox (w.alloc (.cells (mL zeroM).toArray 24)) w.heap.size zeroM) := ⟨⟨Go.heap_alloc_new w _, by simp⟩⟩
  generalize hwa : w.alloc (.cells (mL zeroM).toArray 24) = wa at HB HM
  have h3s := lit_three
  go_enter Tryd.func63, Tryd.ntmps63
  go_upto_region 2 with fail
  rw [show w.alloc (.cells #[.int .i64 0, .int .i64 0, .int .i64 0, .int .i64 0, .int .i64 0, .int .i64 0, .int .i64 0, .int .i64 0, .int .i64 0, .string { data := #[] }, .string { data := #[] }] 24) = wa from hwa]
  refine wp_region_still_tail 7 (by kernel_rfl) (by kernel_rfl) ?_
  simp only [List.take_succ_cons, List.take_zero, List.drop_succ_cons, List.drop_zero]
  iterate 7 still_step
  with_reducible refine wpStill_nil ?_
  clear hs1 hs2 hq hp h3s
  have h4 := H4.out
  have h5 := H5.out
  go_wp2_with fail
  refine (KN _).out.mono ?_
  rintro e w1 ⟨rfl, hb⟩
  have hb : Below wa.drew.heap.size wa.drew w1 := hb
  have HM1 := Aside0.mk ((⟨HM.out.row, HM.out.lt⟩ : MBox wa.drew w.heap.size zeroM).below hb HM.out.lt)
  have HB1 := Aside0.mk ((below_drew HB.out).trans (hb.mono (below_drew HB.out).size))
  clear hb HM HB KN hwa
  go_wp2_with fail
  refine (KS _).out.mono ?_
  rintro e w2 ⟨rfl, hb⟩
  have HM2 := Aside0.mk (HM1.out.below hb HM1.out.lt)
  have HB2 := Aside0.mk (HB1.out.trans (hb.mono HB1.out.size))
  clear hb KS HM1 HB1
  go_wp2_with fail
  refine (KD _ (HNb.out.below HB2.out)).out.mono ?_
  rintro e w3 ⟨rfl, hb⟩
  have HM3 := Aside0.mk (HM2.out.below hb HM2.out.lt)
  have HB3 := Aside0.mk (HB2.out.trans (hb.mono HB2.out.size))
  clear hb KD HM2 HB2
  have hth := blk_there (w := w3.alloc (.cells (mL zeroM).toArray 24)) (Go.heap_alloc_new w3 _)
  have hnb := below_setCells ((Below.refl w3.heap.size w3).alloc (Nat.le_refl _) (.cells (mL zeroM).toArray 24)) (Nat.le_refl _) (mL m) 0
  have HM4 := Aside0.mk (HM3.out.below hnb HM3.out.lt)
  have HB4 := Aside0.mk (HB3.out.trans (hnb.mono HB3.out.size))
  have HR4 : Aside0 (MBox ((w3.alloc (.cells (mL zeroM).toArray 24)).setCells w3.heap.size 0 (mL m)) w3.heap.size m) := ⟨⟨setCells_whole (Go.heap_alloc_new w3 _) rfl, by rw [setCells_size]; simp⟩⟩
  clear hnb
  go_upto_region 12 with ((with_reducible refine gate_store (ty := 24) (x := .tmp 6) (y := .tmp 49) rfl ?_); refine wpList_store_mid rfl 24 (.tmp 6) (.tmp 49) rfl w3.heap.size 0 (mL m).toArray rfl rfl hth infoM (mL_one m) ?_)
  clear hth HM3 HB3
  generalize hw4 : (w3.alloc (.cells #[.int .i64 0, .int .i64 0, .int .i64 0, .int .i64 0, .int .i64 0, .int .i64 0, .int .i64 0, .int .i64 0, .int .i64 0, .string { data := #[] }, .string { data := #[] }] 24)).setCells w3.heap.size 0 (mL m) = w4
  rw [show (w3.alloc (.cells (mL zeroM).toArray 24)).setCells w3.heap.size 0 (mL m) = w4 from hw4] at HM4 HB4 HR4
  generalize w3.heap.size = g6 at HR4 hw4 ⊢
  clear hw4
  have hth := blk_there HM4.out.row
  go_wp2_with ((with_reducible refine gate_store (ty := 24) (x := .tmp 4) (y := .tmp 53) rfl ?_); refine wpList_store_mid rfl 24 (.tmp 4) (.tmp 53) rfl w.heap.size 0 (mL zeroM).toArray rfl rfl hth infoM (mL_one zeroM) ?_)
  exact tell_ret rfl rfl rfl ⟨setCells_whole HM4.out.row rfl, by rw [setCells_size]; exact HM4.out.lt⟩ (below_setCells HB4.out (Nat.le_refl _) _ _) rfl
set_option maxRecDepth 100000 in
set_option maxHeartbeats 4000000 in
theorem beg_full (s : ByteArray) (w : World) (hp : pre3 (bytesOf s) = true) (h : 3 < s.size) (hk : 1 ≤ kindL (bytesOf s) ∧ kindL (bytesOf s) < 17) (h20 : 20 ≤ s.size) (hmx : s.size ≤ 9223372036854775807) (hNb : Crc.Nibs w) (hz : ¬ sizeL (bytesOf s) < 0 ∧ ¬ (s.size : Int) < sizeL (bytesOf s)) (m : M) (he : decP ((bytesOf s).take (sizeL (bytesOf s)).toNat) = (m, 0)) : Calls Tryd.prog 63 #[.string s] w (TellW 2 (sizeL (bytesOf s)) m w) := by
  obtain ⟨k, ⟨hmin, h0, h1, h3, hq⟩⟩ := head_of s
  rw [hp] at hq
  obtain ⟨kk, hkk⟩ : ∃ kk : Nat, (s[3]'h).toNat = kk := ⟨_, rfl⟩
  have hk2 : kk ≤ 255 := by have := (s[3]'h).toNat_lt; omega
  rw [kindL_byte s h, hkk] at hk
  have H4 : Aside0 ((3 : Int) < (s.size : Int)) := ⟨by omega⟩
  have KN := fun w => Lib.hid (known_yes (kk : Int) w hk)
  obtain ⟨N, hN1⟩ : ∃ N : Nat, sizeL (bytesOf s) = (N : Int) := ⟨(sizeL (bytesOf s)).toNat, by omega⟩
  rw [hN1, Int.toNat_natCast] at he
  have hz1 : ¬ (N : Int) < 0 := by omega
  have hz2 : ¬ (s.size : Int) < (N : Int) := by omega
  have hz3 : (0 : Int) ≤ (N : Int) := by omega
  have hz4 : (N : Int) ≤ (s.size : Int) := by omega
  have H5 : Aside0 (¬ (s.size : Int) < 20) := ⟨by omega⟩
  have KS := fun w => size_any s w h20 hmx
  rw [hN1] at KS
  have KS := fun w => Lib.hid (KS w)
  have hsN := fun wx => run_slice_string_h (P := Tryd.prog) wx 9 s Tryd.underlying9 .i64 (N : Int) hz3 hz4
  rw [Int.toNat_natCast, extract_head s N (by omega)] at hsN
  have KD := fun (w : World) hN => Dec.dec_any (strOfNums ((bytesOf s).take N)) w (by rw [strOfNums_size, List.length_take, bytesOf_length]; omega) hN
  rw [bytesOf_strOfNums _ (byt_take (byt_bytesOf s) N), he] at KD
  have KD := fun (w : World) hN => Lib.hid (KD w hN)
  generalize strOfNums ((bytesOf s).take N) = S3 at hsN KD
  have HNb := Aside0.mk hNb
  clear hNb
  rw [hN1]
  obtain rfl : k = 3 := by rw [if_pos (by omega)] at hmin; omega
  have h3 : (3 : Int) ≤ (s.size : Int) := by omega
  have hs1 := fun wx => run_slice_string_h (P := Tryd.prog) wx 9 s Tryd.underlying9 .i64 (3 : Int) (by decide) h3
  have hs2 := fun wx => run_slice_string_h (P := Tryd.prog) wx 9 { data := #[71, 82, 1] } Tryd.underlying9 .i64 (3 : Int) (by decide) lit_three
  have e3 : (3 : Int).toNat = 3 := rfl
  rw [e3] at hs1 hs2
  clear hmin h0 h1 e3
  generalize s.extract 0 3 = S1 at hs1 hq
  generalize (({ data := #[71, 82, 1] } : ByteArray).extract 0 3) = S2 at hs2 hq
  have HB := Aside0.mk ((Below.refl w.heap.size w).alloc (Nat.le_refl _) (.cells (mL zeroM).toArray 24))
  have HM : Aside0 (MBox (w.alloc (.cells (mL zeroM).toArray 24)) w.heap.size zeroM) := ⟨⟨Go.heap_alloc_new w _, by simp⟩⟩
  generalize hwa : w.alloc (.cells (mL zeroM).toArray 24) = wa at HB HM
  have h3s := lit_three
  go_enter Tryd.func63, Tryd.ntmps63
  go_upto_region 2 with fail
  rw [show w.alloc (.cells #[.int .i64 0, .int .i64 0, .int .i64 0, .int .i64 0, .int .i64 0, .int .i64 0, .int .i64 0, .int .i64 0, .int .i64 0, .string { data := #[] }, .string { data := #[] }] 24) = wa from hwa]
  refine wp_region_still_tail 7 (by kernel_rfl) (by kernel_rfl) ?_
  simp only [List.take_succ_cons, List.take_zero, List.drop_succ_cons, List.drop_zero]
  iterate 7 still_step
  with_reducible refine wpStill_nil ?_
  clear hs1 hs2 hq hp h3s
  have h4 := H4.out
  have h5 := H5.out
  go_wp2_with fail
  refine (KN _).out.mono ?_
  rintro e w1 ⟨rfl, hb⟩
  have hb : Below wa.drew.heap.size wa.drew w1 := hb
  have HM1 := Aside0.mk ((⟨HM.out.row, HM.out.lt⟩ : MBox wa.drew w.heap.size zeroM).below hb HM.out.lt)
  have HB1 := Aside0.mk ((below_drew HB.out).trans (hb.mono (below_drew HB.out).size))
  clear hb HM HB KN hwa
  go_wp2_with fail
  refine (KS _).out.mono ?_
  rintro e w2 ⟨rfl, hb⟩
  have HM2 := Aside0.mk (HM1.out.below hb HM1.out.lt)
  have HB2 := Aside0.mk (HB1.out.trans (hb.mono HB1.out.size))
  clear hb KS HM1 HB1
  go_wp2_with fail
  refine (KD _ (HNb.out.below HB2.out)).out.mono ?_
  rintro e w3 ⟨rfl, hb⟩
  have HM3 := Aside0.mk (HM2.out.below hb HM2.out.lt)
  have HB3 := Aside0.mk (HB2.out.trans (hb.mono HB2.out.size))
  clear hb KD HM2 HB2
  have hth := blk_there (w := w3.alloc (.cells (mL zeroM).toArray 24)) (Go.heap_alloc_new w3 _)
  have hnb := below_setCells ((Below.refl w3.heap.size w3).alloc (Nat.le_refl _) (.cells (mL zeroM).toArray 24)) (Nat.le_refl _) (mL m) 0
  have HM4 := Aside0.mk (HM3.out.below hnb HM3.out.lt)
  have HB4 := Aside0.mk (HB3.out.trans (hnb.mono HB3.out.size))
  have HR4 : Aside0 (MBox ((w3.alloc (.cells (mL zeroM).toArray 24)).setCells w3.heap.size 0 (mL m)) w3.heap.size m) := ⟨⟨setCells_whole (Go.heap_alloc_new w3 _) rfl, by rw [setCells_size]; simp⟩⟩
  clear hnb
  go_upto_region 12 with ((with_reducible refine gate_store (ty := 24) (x := .tmp 6) (y := .tmp 49) rfl ?_); refine wpList_store_mid rfl 24 (.tmp 6) (.tmp 49) rfl w3.heap.size 0 (mL m).toArray rfl rfl hth infoM (mL_one m) ?_)
  clear hth HM3 HB3
  generalize hw4 : (w3.alloc (.cells #[.int .i64 0, .int .i64 0, .int .i64 0, .int .i64 0, .int .i64 0, .int .i64 0, .int .i64 0, .int .i64 0, .int .i64 0, .string { data := #[] }, .string { data := #[] }] 24)).setCells w3.heap.size 0 (mL m) = w4
  rw [show (w3.alloc (.cells (mL zeroM).toArray 24)).setCells w3.heap.size 0 (mL m) = w4 from hw4] at HM4 HB4 HR4
  generalize w3.heap.size = g6 at HR4 hw4 ⊢
  clear hw4
  have hl0 : w4.cell? ⟨g6, 0, none⟩ = some (.int .i64 m.kind) := HR4.out.c 0
  have hl1 : w4.cell? ⟨g6, 1, none⟩ = some (.int .i64 m.from_) := HR4.out.c 1
  have hl2 : w4.cell? ⟨g6, 2, none⟩ = some (.int .i64 m.to_) := HR4.out.c 2
  have hl3 : w4.cell? ⟨g6, 3, none⟩ = some (.int .i64 m.id) := HR4.out.c 3
  have hl4 : w4.cell? ⟨g6, 4, none⟩ = some (.int .i64 m.epoch) := HR4.out.c 4
  have hl5 : w4.cell? ⟨g6, 5, none⟩ = some (.int .i64 m.seq) := HR4.out.c 5
  have hl6 : w4.cell? ⟨g6, 6, none⟩ = some (.int .i64 m.version) := HR4.out.c 6
  have hl7 : w4.cell? ⟨g6, 7, none⟩ = some (.int .i64 m.prev) := HR4.out.c 7
  have hl8 : w4.cell? ⟨g6, 8, none⟩ = some (.int .i64 m.code) := HR4.out.c 8
  have hl9 : w4.cell? ⟨g6, 9, none⟩ = some (.string m.key) := HR4.out.c 9
  have hl10 : w4.cell? ⟨g6, 10, none⟩ = some (.string m.value) := HR4.out.c 10
  go_upto_region 14 with fail
  refine wp_region_still_tail 4 (by kernel_rfl) (by kernel_rfl) ?_
  simp only [List.take_succ_cons, List.take_zero, List.drop_succ_cons, List.drop_zero]
  iterate 3 still_step
  refine wpStill_step (fun K hK => ?_)
  go_simp
  refine hK _ (wpStill_nil ?_)
  have HM5 : Aside0 (MBox ({ w4 with drawn := w4.drawn + 1 } : World) w.heap.size zeroM) := ⟨⟨HM4.out.row, HM4.out.lt⟩⟩
  have HB5 : Aside0 (Below w.heap.size w ({ w4 with drawn := w4.drawn + 1 } : World)) := ⟨below_drew HB4.out⟩
  generalize ({ w4 with drawn := w4.drawn + 1 } : World) = w5 at HM5 HB5 ⊢
  have hth := blk_there HM5.out.row
  clear hK K hl0 hl1 hl2 hl3 hl4 hl5 hl6 hl7 hl8 hl9 hl10
  go_wp2_with ((with_reducible refine gate_store (ty := 24) (x := .tmp 4) (y := .tmp 55) rfl ?_); refine wpList_store_mid rfl 24 (.tmp 4) (.tmp 55) rfl w.heap.size 0 (mL m).toArray rfl rfl hth infoM (mL_one m) ?_)
  have h1 := (⟨setCells_whole HM5.out.row rfl, by rw [setCells_size]; exact HM5.out.lt⟩ : MBox (w5.setCells w.heap.size 0 (mL m)) w.heap.size m)
  have h2 := below_setCells HB5.out (Nat.le_refl _) (mL m) 0
  refine tell_ret rfl rfl rfl ?_ ?_ rfl
  · exact h1
  · exact h2
/-- what begins at the beginning -/
def begP (L : List Int) : Int × Int × M :=
  if pre3 L = false then (0, 0, zeroM)
  else if L.length ≤ 3 then (1, 0, zeroM)
  else if ¬ (1 ≤ kindL L ∧ kindL L < 17) then (0, 0, zeroM)
  else if L.length < 20 then (1, 0, zeroM)
  else if sizeL L < 0 then (0, 0, zeroM)
  else if (L.length : Int) < sizeL L then (1, 0, zeroM)
  else if (decP (L.take (sizeL L).toNat)).2 ≠ 0 then (0, 0, zeroM)
  else (2, sizeL L, (decP (L.take (sizeL L).toNat)).1)
theorem beg_any (s : ByteArray) (w : World) (hmx : s.size ≤ 9223372036854775807) (hN : Crc.Nibs w) : Calls Tryd.prog 63 #[.string s] w (TellW (begP (bytesOf s)).1 (begP (bytesOf s)).2.1 (begP (bytesOf s)).2.2 w) := by
  have hlen : (bytesOf s).length = s.size := bytesOf_length s
  unfold begP
  rw [hlen]
  cases c1 : pre3 (bytesOf s)
  · rw [if_pos rfl]; exact beg_magic s w c1
  rw [if_neg (by decide)]
  by_cases c2 : s.size ≤ 3
  · rw [if_pos c2]; exact beg_short s w c1 c2
  rw [if_neg c2]
  by_cases c3 : 1 ≤ kindL (bytesOf s) ∧ kindL (bytesOf s) < 17
  case neg => rw [if_pos c3]; exact beg_kind s w c1 (by omega) c3
  rw [if_neg (fun h => h c3)]
  by_cases c4 : s.size < 20
  · rw [if_pos c4]; exact beg_head s w c1 (by omega) c3 c4
  rw [if_neg c4]
  by_cases c5 : sizeL (bytesOf s) < 0
  · rw [if_pos c5]; exact beg_neg s w c1 (by omega) c3 (by omega) hmx c5
  rw [if_neg c5]
  by_cases c6 : (s.size : Int) < sizeL (bytesOf s)
  · rw [if_pos c6]; exact beg_wait s w c1 (by omega) c3 (by omega) hmx ⟨c5, c6⟩
  rw [if_neg c6]
  by_cases c7 : (decP ((bytesOf s).take (sizeL (bytesOf s)).toNat)).2 = 0
  case neg => rw [if_pos c7]; exact beg_bad s w c1 (by omega) c3 (by omega) hmx hN ⟨c5, c6⟩ _ _ rfl c7
  rw [if_neg (fun h => h c7)]
  exact beg_full s w c1 (by omega) c3 (by omega) hmx hN ⟨c5, c6⟩ _ (Prod.ext rfl c7)
end Go.Proofs.YtnifgokjagahfaaDoor.Beg

/- Where a frame begins: what the program's begins and the document's at have in common. -/
set_option linter.unusedVariables false
set_option linter.unusedSimpArgs false
namespace Go.Proofs.YtnifgokjagahfaaDoor.Frm
open Go.RowKit Go.Proofs.YtnifgokjagahfaaDoorW.PrintWords Go.Proofs.YtnifgokjagahfaaDoorW.PrintLast Go.Proofs.YtnifgokjagahfaaDoorW.PrintMore
open Go.Proofs.YtnifgokjagahfaaDoor.Base Go.Proofs.YtnifgokjagahfaaDoor.Layouts Go.Proofs.YtnifgokjagahfaaDoor.Msg Go.Proofs.YtnifgokjagahfaaDoor.Put Go.Proofs.YtnifgokjagahfaaDoor.EncPure Go.Proofs.YtnifgokjagahfaaDoor.DecPure Go.Proofs.YtnifgokjagahfaaDoor.Num Go.Proofs.YtnifgokjagahfaaDoor.Mids Go.Proofs.YtnifgokjagahfaaDoor.Beg
/-- a frame begins here: its size and its message -/
def frm (L : List Int) : Option (Nat × M) :=
  if 24 ≤ L.length ∧ bodyN L ≤ 4383 ∧ 24 + bodyN L ≤ L.length ∧ (decP (L.take (24 + bodyN L).toNat)).2 = 0 then some ((24 + bodyN L).toNat, (decP (L.take (24 + bodyN L).toNat)).1) else none
theorem bodyN_take (L : List Int) (n : Nat) (h : 20 ≤ n) : bodyN (L.take n) = bodyN L := by
  unfold bodyN
  rw [List.drop_take, List.take_take, Nat.min_eq_left (by omega)]
theorem head_of_ok (L : List Int) (n : Nat) (hn : 24 ≤ n) (hl : n ≤ L.length) (hb : Byt L) (h : (decP (L.take n)).2 = 0) : pre3 L = true ∧ (1 ≤ kindL L ∧ kindL L < 17) := by
  generalize hr : decP (L.take n) = r at h
  obtain ⟨m, k⟩ := r
  simp only at h
  subst h
  obtain ⟨hv, hk, hw⟩ := dec_ok (byt_take hb n) hr
  have e4 : (L.take n).take 4 = [71, 82, 1, m.kind] := by rw [hw, whole_parts]; rfl
  have e3 : L.take 4 = [71, 82, 1, m.kind] := by rw [← e4, List.take_take, Nat.min_eq_left (by omega)]
  obtain ⟨q1, q2⟩ := kindL_of e3
  refine ⟨?_, by rw [q1]; exact hk⟩
  unfold pre3
  rw [Nat.min_eq_right (by omega), q2]
  rfl
theorem begP_full (L : List Int) (hb : Byt L) (n : Nat) (m : M) (h : frm L = some (n, m)) : begP L = (2, (n : Int), m) := by
  unfold frm at h
  split at h
  · rename_i hc
    obtain ⟨c1, c2, c3, c4⟩ := hc
    simp only [Option.some.injEq, Prod.mk.injEq] at h
    obtain ⟨h1, h2⟩ := h
    have hn0 : 0 ≤ bodyN L := val_nonneg _ (byt_take (byt_drop hb _) _)
    have hz : sizeL L = 24 + bodyN L := by rw [Dec.sizeL_eq, if_neg (by omega)]
    obtain ⟨p1, p2⟩ := head_of_ok L (24 + bodyN L).toNat (by omega) (by omega) hb c4
    unfold begP
    rw [p1, if_neg (by decide), if_neg (by omega), if_neg (fun h => h p2), if_neg (by omega), hz, if_neg (by omega), if_neg (by omega), if_neg (fun h => h c4), h2, ← h1, Int.toNat_of_nonneg (by omega)]
  · cases h
theorem begP_none (L : List Int) (hb : Byt L) (h : frm L = none) : (begP L).1 ≠ 2 := by
  have hn0 : 0 ≤ bodyN L := val_nonneg _ (byt_take (byt_drop hb _) _)
  unfold begP
  split
  · decide
  split
  · decide
  split
  · decide
  split
  · decide
  split
  · decide
  split
  · decide
  split
  · decide
  rename_i a1 a2 a3 a4 a5 a6 a7
  exfalso
  have hz := Dec.sizeL_eq L
  by_cases c2 : 4383 < bodyN L
  · rw [if_pos c2] at hz; omega
  · rw [if_neg c2] at hz
    rw [hz] at a6 a7
    unfold frm at h
    rw [if_pos ⟨by omega, by omega, by omega, by simpa using a7⟩] at h
    cases h
end Go.Proofs.YtnifgokjagahfaaDoor.Frm

/- next of the frame package: the first place at which a frame can begin. -/
set_option linter.unusedVariables false
set_option linter.unusedSimpArgs false
namespace Go.Proofs.YtnifgokjagahfaaDoor.Next
open Go.RowKit Go.Proofs.YtnifgokjagahfaaDoorW.PrintWords Go.Proofs.YtnifgokjagahfaaDoorW.PrintLast Go.Proofs.YtnifgokjagahfaaDoorW.PrintMore
open Go.Proofs.YtnifgokjagahfaaDoor.Base Go.Proofs.YtnifgokjagahfaaDoor.Layouts Go.Proofs.YtnifgokjagahfaaDoor.Msg Go.Proofs.YtnifgokjagahfaaDoor.Put Go.Proofs.YtnifgokjagahfaaDoor.EncPure Go.Proofs.YtnifgokjagahfaaDoor.DecPure Go.Proofs.YtnifgokjagahfaaDoor.Num Go.Proofs.YtnifgokjagahfaaDoor.Mids Go.Proofs.YtnifgokjagahfaaDoor.Beg
set_option maxRecDepth 100000 in
theorem sindex_any (s : ByteArray) (c : Int) (w : World) : Calls Tryd.prog 86 #[.string s, .int .u8 c] w fun e w' => e = .returned (.int .i64 (Lib.indexByte s.data.toList c.toNat.toUInt8)) ∧ w' = w := by
  go_enter Tryd.func86, Tryd.ntmps86
  go_wp2
  rw [run_callFunc_extern Tryd.func87 (by kernel_rfl) (by kernel_rfl) (by kernel_rfl) (e := Extern.BytealgIndexByte.indexByte) (by kernel_rfl), Lib.run_indexByteString]
  simp only [Result.andThen]
  rw [Oper.upon_value]
  go_wp2
  go_ret
  exact ⟨rfl, rfl⟩
theorem index_any (s : ByteArray) (c : Int) (w : World) : Calls Tryd.prog 80 #[.string s, .int .u8 c] w fun e w' => e = .returned (.int .i64 (Lib.indexByte s.data.toList c.toNat.toUInt8)) ∧ w' = w := by
  go_enter Tryd.func80, Tryd.ntmps80
  go_wp2_with fail
  refine (sindex_any s c w).mono ?_
  rintro e w' ⟨rfl, rfl⟩
  go_wp2
  go_ret
  exact ⟨rfl, rfl⟩
/-- how many bytes stand ahead of the first 71, or of the end -/
def skip : List UInt8 → Nat
  | [] => 0
  | b :: l => if b == 71 then 0 else skip l + 1
theorem skip_le : ∀ l : List UInt8, skip l ≤ l.length
  | [] => Nat.le_refl _
  | b :: l => by
    have := skip_le l
    simp only [skip, List.length_cons]
    split <;> omega
theorem index_skip : ∀ l : List UInt8, Lib.indexByte l 71 = if skip l = l.length then -1 else (skip l : Int)
  | [] => rfl
  | b :: l => by
    have ih := index_skip l
    have hl := skip_le l
    simp only [Lib.indexByte, skip, List.length_cons]
    by_cases hb : (b == 71) = true
    · simp only [if_pos hb]
      rw [if_neg (by omega)]
      rfl
    · simp only [if_neg hb]
      rw [ih]
      by_cases h : skip l = l.length
      · rw [if_pos h, if_pos (by decide), if_pos (by omega)]
      · rw [if_neg h, if_neg (by rw [beq_iff_eq]; omega), if_neg (by omega)]
        omega
/-- the first place at or behind a where a frame can begin, or the end -/
def nxt (s : ByteArray) (a : Nat) : Nat := a + skip (s.data.toList.drop a)
theorem nxt_le (s : ByteArray) (a : Nat) (h : a ≤ s.size) : a ≤ nxt s a ∧ nxt s a ≤ s.size := by
  have := skip_le (s.data.toList.drop a)
  have e : s.data.toList.length = s.size := rfl
  rw [List.length_drop, e] at this
  unfold nxt
  omega
theorem extract_list (s : ByteArray) (a : Nat) : (s.extract a s.size).data.toList = s.data.toList.drop a := by
  rw [ByteArray.data_extract, Array.toList_extract, List.extract_eq_take_drop, List.take_of_length_le]
  rw [List.length_drop]
  exact Nat.le_refl _
theorem lit_at : (({ data := #[71, 82, 1] } : ByteArray)[0]'(by decide)).toNat = 71 := rfl
set_option maxRecDepth 100000 in
set_option maxHeartbeats 2000000 in
theorem next_any (s : ByteArray) (a : Nat) (w : World) (h : a ≤ s.size) (hmx : s.size ≤ 9223372036854775807) : Calls Tryd.prog 64 #[.string s, .int .i64 (a : Nat)] w fun e w' => e = .returned (.int .i64 (nxt s a : Nat)) ∧ Drawn0 w w' := by
  have h0 : (0 : Int) ≤ (a : Int) := by omega
  have h1 : (a : Int) ≤ (s.size : Int) := by omega
  have hs1 := fun wx => run_slice_string_l (P := Tryd.prog) wx 9 s Tryd.underlying9 .i64 (a : Int) h0 h1
  rw [Int.toNat_natCast] at hs1
  have hx := extract_list s a
  have hi := index_skip (s.data.toList.drop a)
  have hle := skip_le (s.data.toList.drop a)
  have hn : nxt s a = a + skip (s.data.toList.drop a) := rfl
  have hlen : (s.data.toList.drop a).length = s.size - a := by rw [List.length_drop]; rfl
  rw [hlen] at hi hle
  generalize skip (s.data.toList.drop a) = k at hi hle hn
  rw [← hx] at hi
  generalize s.extract a s.size = S1 at hs1 hx hi
  have K := fun w => Lib.hid (index_any S1 71 w)
  rw [show (71 : Int).toNat.toUInt8 = 71 from rfl, hi] at K
  clear hx hi hlen
  rw [hn]
  have hcase : k = s.size - a ∨ (k ≠ s.size - a ∧ k < s.size - a) := by omega
  go_enter Tryd.func64, Tryd.ntmps64
  go_upto_region 1 with fail
  refine wp_region_still_tail 4 (by kernel_rfl) (by kernel_rfl) ?_
  simp only [List.take_succ_cons, List.take_zero, List.drop_succ_cons, List.drop_zero]
  iterate 4 still_step
  with_reducible refine wpStill_nil ?_
  rcases hcase with hk | ⟨hk, hlt⟩
  · rw [if_pos hk] at K
    have HSUM := Lib.hid (show s.size = a + k by omega)
    clear hk hle hn
    go_wp2_with fail
    refine (K _).out.mono ?_
    rintro e w1 ⟨rfl, rfl⟩
    go_wp2
    go_ret
    exact ⟨by rw [HSUM.out]; rfl, ⟨1, rfl⟩⟩
  · rw [if_neg hk] at K
    have hneg : ¬ (k : Int) < 0 := by omega
    have hw : wrap64 ((a : Int) + (k : Int)) = ((a + k : Nat) : Int) := by rw [w64 _ (by omega) (by omega)]; omega
    go_wp2_with fail
    refine (K _).out.mono ?_
    rintro e w1 ⟨rfl, rfl⟩
    go_wp2
    go_ret
    exact ⟨by go_num, ⟨1, rfl⟩⟩
end Go.Proofs.YtnifgokjagahfaaDoor.Next

/- The frames of a stream, as a list; plain. -/
set_option linter.unusedVariables false
set_option linter.unusedSimpArgs false
namespace Go.Proofs.YtnifgokjagahfaaDoor.SplitPure
open Go.RowKit Go.Proofs.YtnifgokjagahfaaDoorW.PrintWords Go.Proofs.YtnifgokjagahfaaDoorW.PrintLast Go.Proofs.YtnifgokjagahfaaDoorW.PrintMore
open Go.Proofs.YtnifgokjagahfaaDoor.Base Go.Proofs.YtnifgokjagahfaaDoor.Layouts Go.Proofs.YtnifgokjagahfaaDoor.Msg Go.Proofs.YtnifgokjagahfaaDoor.Put Go.Proofs.YtnifgokjagahfaaDoor.EncPure Go.Proofs.YtnifgokjagahfaaDoor.DecPure Go.Proofs.YtnifgokjagahfaaDoor.Num Go.Proofs.YtnifgokjagahfaaDoor.Mids Go.Proofs.YtnifgokjagahfaaDoor.Beg Go.Proofs.YtnifgokjagahfaaDoor.Frm Go.Proofs.YtnifgokjagahfaaDoor.Next
/-- a piece: its place, its size, its message -/
abbrev Pc := Nat × Nat × M
/-- the frame that begins at a place of a text -/
def fr (s : ByteArray) (i : Nat) : Option (Nat × M) := frm ((bytesOf s).drop i)
theorem frm_bounds {L : List Int} (hb : Byt L) {n : Nat} {m : M} (h : frm L = some (n, m)) : 24 ≤ n ∧ n ≤ 4407 ∧ n ≤ L.length ∧ pre3 L = true := by
  unfold frm at h
  split at h
  · rename_i hc
    obtain ⟨c1, c2, c3, c4⟩ := hc
    simp only [Option.some.injEq, Prod.mk.injEq] at h
    have hn0 : 0 ≤ bodyN L := val_nonneg _ (byt_take (byt_drop hb _) _)
    obtain ⟨p1, _⟩ := head_of_ok L (24 + bodyN L).toNat (by omega) (by omega) hb c4
    exact ⟨by omega, by omega, by omega, p1⟩
  · cases h
theorem byt_at (s : ByteArray) (i : Nat) : Byt ((bytesOf s).drop i) := byt_drop (byt_bytesOf s) i
theorem fr_bounds {s : ByteArray} {i n : Nat} {m : M} (h : fr s i = some (n, m)) : 24 ≤ n ∧ n ≤ 4407 ∧ i + n ≤ s.size := by
  obtain ⟨h1, h2, h3, _⟩ := frm_bounds (byt_at s i) h
  rw [List.length_drop, bytesOf_length] at h3
  exact ⟨h1, h2, by omega⟩
/-- the pieces from a place on, so many places at the most -/
def spl (s : ByteArray) : Nat → Nat → List Pc
  | 0, _ => []
  | k + 1, i => if i < s.size then (match fr s i with | none => spl s k (i + 1) | some (n, m) => (i, n, m) :: spl s k (i + n)) else []
theorem spl_enough (s : ByteArray) : ∀ (k i : Nat), s.size - i ≤ k → spl s k i = spl s (s.size - i) i := by
  intro k
  induction k using Nat.strongRecOn with
  | ind k ih =>
    intro i hk
    by_cases hi : i < s.size
    · obtain ⟨j, hj⟩ : ∃ j, s.size - i = j + 1 := ⟨s.size - i - 1, by omega⟩
      obtain ⟨k', rfl⟩ : ∃ k', k = k' + 1 := ⟨k - 1, by omega⟩
      rw [hj]
      simp only [spl, if_pos hi]
      cases hf : fr s i with
      | none => simp only; rw [ih k' (by omega) (i + 1) (by omega), ← ih j (by omega) (i + 1) (by omega)]
      | some r =>
        obtain ⟨n, m⟩ := r
        obtain ⟨h1, _, _⟩ := fr_bounds hf
        simp only
        rw [ih k' (by omega) (i + n) (by omega), ← ih j (by omega) (i + n) (by omega)]
    · have h0 : s.size - i = 0 := by omega
      rw [h0]
      cases k with
      | zero => rfl
      | succ k => simp only [spl, if_neg hi]
/-- the pieces from a place on -/
def pcs (s : ByteArray) (i : Nat) : List Pc := spl s (s.size - i) i
theorem pcs_end {s : ByteArray} {i : Nat} (h : s.size ≤ i) : pcs s i = [] := by
  unfold pcs
  rw [show s.size - i = 0 by omega]
  rfl
theorem pcs_none {s : ByteArray} {i : Nat} (hi : i < s.size) (hf : fr s i = none) : pcs s i = pcs s (i + 1) := by
  unfold pcs
  obtain ⟨j, hj⟩ : ∃ j, s.size - i = j + 1 := ⟨s.size - i - 1, by omega⟩
  rw [hj]
  simp only [spl, if_pos hi, hf]
  exact spl_enough s j (i + 1) (by omega)
theorem pcs_some {s : ByteArray} {i n : Nat} {m : M} (hf : fr s i = some (n, m)) : pcs s i = (i, n, m) :: pcs s (i + n) := by
  obtain ⟨h1, _, h3⟩ := fr_bounds hf
  unfold pcs
  obtain ⟨j, hj⟩ : ∃ j, s.size - i = j + 1 := ⟨s.size - i - 1, by omega⟩
  rw [hj]
  simp only [spl, if_pos (show i < s.size by omega), hf]
  rw [spl_enough s j (i + n) (by omega)]
theorem pcs_len (s : ByteArray) : ∀ (k i : Nat), s.size - i ≤ k → 24 * (pcs s i).length ≤ s.size - i := by
  intro k
  induction k with
  | zero => intro i h; rw [pcs_end (by omega)]; exact Nat.zero_le _
  | succ k ih =>
    intro i h
    by_cases hi : i < s.size
    · cases hf : fr s i with
      | none => rw [pcs_none hi hf]; have := ih (i + 1) (by omega); omega
      | some r =>
        obtain ⟨n, m⟩ := r
        obtain ⟨h1, _, h3⟩ := fr_bounds hf
        rw [pcs_some hf, List.length_cons]
        have := ih (i + n) (by omega)
        omega
    · rw [pcs_end (by omega)]; exact Nat.zero_le _
theorem pcs_bytes (s : ByteArray) (i : Nat) : 24 * (pcs s i).length ≤ s.size := by
  have := pcs_len s (s.size - i) i (Nat.le_refl _)
  omega
theorem fr_byte {s : ByteArray} {i n : Nat} {m : M} (hi : i < s.size) (h : fr s i = some (n, m)) : (s[i]'hi).toNat = 71 := by
  obtain ⟨h1, _, h3, hp⟩ := frm_bounds (byt_at s i) h
  unfold pre3 at hp
  rw [Nat.min_eq_right (by omega)] at hp
  have hp := of_decide_eq_true hp
  have h0 : ((bytesOf s).drop i)[0]? = some 71 := by
    have : (((bytesOf s).drop i).take 3)[0]? = some 71 := by rw [hp]; rfl
    rwa [List.getElem?_take_of_lt (by decide)] at this
  rw [List.getElem?_drop, bytesOf, List.getElem?_map] at h0
  have e : s.data.toList[i + 0]? = some (s[i]'hi) := by
    rw [Nat.add_zero, List.getElem?_eq_getElem (by rw [data_length]; exact hi)]
    rfl
  rw [e] at h0
  simp only [Option.map_some, Option.some.injEq] at h0
  omega
theorem pcs_nxt (s : ByteArray) : ∀ (k a : Nat), s.size - a ≤ k → a ≤ s.size → pcs s (nxt s a) = pcs s a := by
  intro k
  induction k with
  | zero =>
    intro a h ha
    have := nxt_le s a ha
    rw [show nxt s a = a by omega]
  | succ k ih =>
    intro a h ha
    by_cases hi : a < s.size
    · have hd : s.data.toList.drop a = s[a]'hi :: s.data.toList.drop (a + 1) := by
        rw [List.drop_eq_getElem_cons (by rw [data_length]; exact hi)]
        rfl
      by_cases hb : (s[a]'hi == 71) = true
      · have : nxt s a = a := by unfold nxt; rw [hd]; simp only [skip, if_pos hb, Nat.add_zero]
        rw [this]
      · have hn : nxt s a = nxt s (a + 1) := by unfold nxt; rw [hd]; simp only [skip, if_neg hb]; omega
        rw [hn, ih (a + 1) (by omega) (by omega)]
        refine (pcs_none hi ?_).symm
        cases hf : fr s a with
        | none => rfl
        | some r =>
          obtain ⟨n, m⟩ := r
          have := fr_byte hi hf
          exact absurd (beq_iff_eq.2 (UInt8.toNat_inj.1 this)) hb
    · have := nxt_le s a ha
      rw [show nxt s a = a by omega]
theorem pcs_next (s : ByteArray) (a : Nat) (h : a ≤ s.size) : pcs s (nxt s a) = pcs s a := pcs_nxt s _ a (Nat.le_refl _) h
theorem drop_bytesOf (s : ByteArray) (i : Nat) (hi : i ≤ s.size) : bytesOf (s.extract i s.size) = (bytesOf s).drop i := by
  unfold bytesOf
  rw [extract_list, List.map_drop]
end Go.Proofs.YtnifgokjagahfaaDoor.SplitPure
