/- Joined texts of this claim: LawEnc, Dec2, DecAny, RefDec, RefDec2, EqM, LawDec, BurstPure -/
import Derived.Test.YtnifgokjagahfaaDoorJFBurst3
import Derived.Test.YtnifgokjagahfaaDoorJFBurst2
import Derived.Deep.DeepCutAuto
import Derived.Test.YtnifgokjagahfaaDoorJFBurst0
import Derived.Test.YtnifgokjagahfaaDoorWEqStruct
/- FrameEncodes: the program's Encode and the document's answer alike. -/
set_option linter.unusedVariables false
set_option linter.unusedSimpArgs false
namespace Go.Proofs.YtnifgokjagahfaaDoor.RefF
open Go.RowKit Go.Proofs.YtnifgokjagahfaaDoorW.PrintWords Go.Proofs.YtnifgokjagahfaaDoorW.PrintLast Go.Proofs.YtnifgokjagahfaaDoorW.PrintMore
open Go.Proofs.YtnifgokjagahfaaDoor.Base Go.Proofs.YtnifgokjagahfaaDoor.App Go.Proofs.YtnifgokjagahfaaDoor.Layouts Go.Proofs.YtnifgokjagahfaaDoor.Msg Go.Proofs.YtnifgokjagahfaaDoor.Put Go.Proofs.YtnifgokjagahfaaDoor.EncPure Go.Proofs.YtnifgokjagahfaaDoor.DecPure Go.Proofs.YtnifgokjagahfaaDoor.RefSum Go.Proofs.YtnifgokjagahfaaDoor.Mids Go.Proofs.YtnifgokjagahfaaDoor.Enc
set_option maxRecDepth 100000 in
set_option maxHeartbeats 4000000 in
theorem renc_kind (m : M) (w : World) (hk : ¬ (1 ≤ m.kind ∧ m.kind < 17)) : Calls Tryd.prog 14 #[.agg (mL m).toArray] w fun e w' => e = .returned (.tuple #[.string ByteArray.empty, .int .i64 53]) ∧ Below w.heap.size w w' := by
  have HB0 := Aside0.mk ((Below.refl w.heap.size w).alloc (Nat.le_refl _) (.cells (mL m).toArray 24))
  have HM0 : Aside0 (MBox (w.alloc (.cells (mL m).toArray 24)) w.heap.size m) := ⟨⟨Go.heap_alloc_new w _, by simp⟩⟩
  have hc0 : (w.alloc (.cells (mL m).toArray 24)).cell? ⟨w.heap.size, 0, none⟩ = some (.int .i64 m.kind) := HM0.out.c 0
  have hk' : m.kind < 1 ∨ (¬ m.kind < 1 ∧ m.kind > 16) := by omega
  clear hk
  rcases hk' with h | ⟨h1, h2⟩ <;>
    (go_enter Tryd.func14, Tryd.ntmps14
     go_wp2
     go_ret2
     exact ⟨rfl, HB0.out⟩)
set_option maxRecDepth 100000 in
set_option maxHeartbeats 4000000 in
theorem renc_field (m : M) (w : World) (hk : 1 ≤ m.kind ∧ m.kind < 17) (hv : vB m = false) (hR : RTab w) (hkey : m.key.size ≤ 9223372036854775807 ∧ m.value.size ≤ 9223372036854775807) : Calls Tryd.prog 14 #[.agg (mL m).toArray] w fun e w' => e = .returned (.tuple #[.string ByteArray.empty, .int .i64 50]) ∧ Below w.heap.size w w' := by
  have HB0 := Aside0.mk ((Below.refl w.heap.size w).alloc (Nat.le_refl _) (.cells (mL m).toArray 24))
  have HM0 : Aside0 (MBox (w.alloc (.cells (mL m).toArray 24)) w.heap.size m) := ⟨⟨Go.heap_alloc_new w _, by simp⟩⟩
  have hR0 := hR.below HB0.out
  generalize hwa : w.alloc (.cells (mL m).toArray 24) = wa at HB0 HM0 hR0
  have hc0 : wa.cell? ⟨w.heap.size, 0, none⟩ = some (.int .i64 m.kind) := HM0.out.c 0
  have hrg0 := blk_range HM0.out.row
  have hk1 := hk.1
  have hk2 : ¬ m.kind > 16 := by omega
  have hk3 : ¬ m.kind < 1 := by omega
  have KV := Lib.hid (rvalid_any m wa hk hR0 hkey)
  have HV := Aside0.mk hv
  clear hk hv hR hR0 hkey
  go_enter Tryd.func14, Tryd.ntmps14
  go_wp2_with ((with_reducible refine gate_load (ty := 24) (x := .tmp 1) rfl ?_); refine wpList_load_mid rfl 24 (.tmp 1) rfl w.heap.size 0 rfl (mL m) _ hrg0 Tryd.underlying24 rfl infoM ?_)
  refine KV.out.mono ?_
  rintro e w1 ⟨rfl, hb⟩
  rw [HV.out]
  have HB1 := Aside0.mk (HB0.out.trans (hb.mono HB0.out.size))
  clear hb hrg0 hc0 KV HM0 hwa
  go_wp2
  go_ret2
  exact ⟨rfl, HB1.out⟩
theorem renc_any (m : M) (w : World) (hR : RTab w) (hkey : m.key.size ≤ 9223372036854775807 ∧ m.value.size ≤ 9223372036854775807) : Calls Tryd.prog 14 #[.agg (mL m).toArray] w fun e w' => e = .returned (.tuple #[.string (encP m).1, .int .i64 (encP m).2]) ∧ Below w.heap.size w w' := by
  unfold encP kB
  by_cases hk : 1 ≤ m.kind ∧ m.kind < 17
  · rw [if_pos (decide_eq_true hk)]
    cases hv : vB m
    · rw [if_neg (by decide)]; exact renc_field m w hk hv hR hkey
    · rw [if_pos rfl]; exact renc_good m w hk hv hR
  · rw [if_neg (by simpa using hk)]; exact renc_kind m w hk
theorem num_any (x : Int) (w : World) : Calls Tryd.prog 15 #[.int .i64 x] w fun e w' => e = .returned (.int .i64 x) ∧ w = w' := by
  go_enter Tryd.func15, Tryd.ntmps15
  go_wp2
  go_ret
  exact ⟨rfl, rfl⟩
set_option maxRecDepth 100000 in
set_option maxHeartbeats 4000000 in
theorem law_encodes (m : M) (w : World) (hN : Crc.Nibs w) (hR : RTab w) (hkey : m.key.size ≤ 9223372036854775807 ∧ m.value.size ≤ 9223372036854775807) : Calls Tryd.prog 3 #[.agg (mL m).toArray] w fun e w' => e = .returned (.bool true) ∧ Below w.heap.size w w' := by
  have HB0 := Aside0.mk ((Below.refl w.heap.size w).alloc (Nat.le_refl _) (.cells (mL m).toArray 24))
  have HM0 : Aside0 (MBox (w.alloc (.cells (mL m).toArray 24)) w.heap.size m) := ⟨⟨Go.heap_alloc_new w _, by simp⟩⟩
  have hR0 := Aside0.mk (hR.below HB0.out)
  generalize hwa : w.alloc (.cells (mL m).toArray 24) = wa at HB0 HM0 hR0
  have hrg0 := blk_range HM0.out.row
  have K1 := Lib.hid (enc_any m wa (hN.below HB0.out))
  have K2 := fun (w : World) hR => Lib.hid (renc_any m w hR hkey)
  generalize encP m = r at K1 K2
  obtain ⟨s, x⟩ := r
  simp only at K1 K2
  clear hN hR hkey
  go_enter Tryd.func3, Tryd.ntmps3
  go_wp2_with ((with_reducible refine gate_load (ty := 24) (x := .tmp 1) rfl ?_); refine wpList_load_mid rfl 24 (.tmp 1) rfl w.heap.size 0 rfl (mL m) _ hrg0 Tryd.underlying24 rfl infoM ?_)
  refine K1.out.mono ?_
  rintro e w1 ⟨rfl, hb⟩
  have HM1 := Aside0.mk (HM0.out.below hb HM0.out.lt)
  have HB1 := Aside0.mk (HB0.out.trans (hb.mono HB0.out.size))
  have HR1 := Aside0.mk (hR0.out.below hb)
  have hrg1 := blk_range HM1.out.row
  clear hb hrg0 K1 hwa HM0 hR0
  go_wp2_with ((with_reducible refine gate_load (ty := 24) (x := .tmp 1) rfl ?_); refine wpList_load_mid rfl 24 (.tmp 1) rfl w.heap.size 0 rfl (mL m) _ hrg1 Tryd.underlying24 rfl infoM ?_)
  refine (K2 _ HR1.out).out.mono ?_
  rintro e w2 ⟨rfl, hb⟩
  have HB2 := Aside0.mk (HB1.out.trans (hb.mono HB1.out.size))
  clear hb hrg1 K2 HM1 HR1 HB1 HB0
  have hq : (s.toList == s.toList) = true := by simp
  go_wp2_with fail
  refine (num_any x _).mono ?_
  rintro e w3 ⟨rfl, rfl⟩
  go_wp2
  go_ret
  exact ⟨rfl, HB2.out⟩
end Go.Proofs.YtnifgokjagahfaaDoor.RefF

/- Decode of the frame package: behind the sum. -/
set_option linter.unusedVariables false
set_option linter.unusedSimpArgs false
namespace Go.Proofs.YtnifgokjagahfaaDoor.Dec
open Go.RowKit Go.Proofs.YtnifgokjagahfaaDoorW.PrintWords Go.Proofs.YtnifgokjagahfaaDoorW.PrintLast Go.Proofs.YtnifgokjagahfaaDoorW.PrintMore
open Go.Proofs.YtnifgokjagahfaaDoor.Base Go.Proofs.YtnifgokjagahfaaDoor.Layouts Go.Proofs.YtnifgokjagahfaaDoor.Msg Go.Proofs.YtnifgokjagahfaaDoor.Put Go.Proofs.YtnifgokjagahfaaDoor.EncPure Go.Proofs.YtnifgokjagahfaaDoor.DecPure Go.Proofs.YtnifgokjagahfaaDoor.Num Go.Proofs.YtnifgokjagahfaaDoor.Mids Go.Proofs.YtnifgokjagahfaaDoor.PFrameDecodes
theorem mbox_head {w : World} {g : Nat} {k : Int} (h : MBox w g (blankM k 0 0 0)) (n1 n2 n3 : Int) : MBox (((w.setCell ⟨g, 1, none⟩ (.int .i64 n1)).setCell ⟨g, 2, none⟩ (.int .i64 n2)).setCell ⟨g, 3, none⟩ (.int .i64 n3)) g (blankM k n1 n2 n3) :=
  ⟨(blk_set (blk_set (blk_set h.row 1 (.int .i64 n1)) 2 (.int .i64 n2)) 3 (.int .i64 n3)).trans (by simp [mL, blankM]), by simpa using h.lt⟩
theorem mbox_far {w : World} {g : Nat} {m : M} (h : MBox w g m) {p : Addr} (hp : g ≠ p.block) (v : Value) : MBox (w.setCell p v) g m := ⟨blk_far h.row hp v, by simpa using h.lt⟩
theorem parseC_snoc (f : Nat) : ∀ (fs : List Nat) (m : M) (c : Cur), parseC (fs ++ [f]) m c = readC (parseC fs m c).1 f (parseC fs m c).2
  | [], m, c => rfl
  | g :: fs, m, c => parseC_snoc f fs (readC m g c).1 (readC m g c).2
structure DInv (w wr : World) (gm gd q : Nat) (fs : List Nat) (m0 : M) (l2 : List Int) (j : Nat) : Prop where mk ::
  (ex : ∃ mj cj, parseC (fs.take j) m0 ⟨l2, false⟩ = (mj, cj) ∧ MBox wr gm mj ∧ CBox w wr gd cj ∧ Byt cj.rest)
  (res : MBox wr w.heap.size zeroM) (bel : Below w.heap.size w wr) (row : ∀ j n, fs[j]? = some n → wr.cell? ⟨q, j, none⟩ = some (.int .u8 (n : Nat))) (qlt : q < wr.heap.size)
def DecR (bad : Bool) (m : M) (w : World) (e : Ending) (w' : World) : Prop := e = .returned (.tuple #[.agg (mL (if bad = true then zeroM else m)).toArray, .int .i64 (if bad = true then 56 else 0)]) ∧ Below w.heap.size w w'
theorem empty_str (l : List Int) : (strOfNums l).toList.isEmpty = l.isEmpty := by
  rw [ByteArray.toList_eq, strOfNums_data]
  cases l <;> rfl
set_option maxRecDepth 100000 in
set_option maxHeartbeats 16000000 in
theorem dec_body (s : ByteArray) (w : World) (h : 24 ≤ s.size) (hmx : s.size ≤ 9223372036854775807) (hm : (bytesOf s).take 3 = [71, 82, 1]) (hk : 1 ≤ kindL (bytesOf s) ∧ kindL (bytesOf s) < 17) (hz : sizeL (bytesOf s) = s.size) (hN : Crc.Nibs w)
    (hs : sumL ((bytesOf s).take (s.size - 4)) = (bytesOf s).drop (s.size - 4)) : Calls Tryd.prog 16 #[.string s] w (DecR (badL (bytesOf s)) (pL (bytesOf s)).1 w) := by
  have h' : ¬ (s.size : Int) < 24 := by omega
  have hz0 := hz
  have g3 : (3 : Int) ≤ (s.size : Int) := by omega
  have h4 : (3 : Int) < (s.size : Int) := by omega
  have hN3 : 3 < s.size := by omega
  have hx := extract_head s 3 (by omega)
  have hq := str_eq ((bytesOf s).take 3) (byt_take (byt_bytesOf s) 3) [71, 82, 1]
  rw [decide_eq_true (by exact hm)] at hq
  obtain ⟨kk, hkk, hke, hk1, hk2⟩ := kind_yes s h hk
  have HB := Aside0.mk ((Below.refl w.heap.size w).alloc (Nat.le_refl _) (.cells (mL zeroM).toArray 24))
  have HM : Aside0 (MBox (w.alloc (.cells (mL zeroM).toArray 24)) w.heap.size zeroM) := ⟨⟨Go.heap_alloc_new w _, by simp⟩⟩
  have HN := Aside0.mk hN
  have KN := fun w => Lib.hid (known_yes (kk : Int) w ⟨hk1, hk2⟩)
  have KS := fun w => size_any s w (by omega) hmx
  rw [hz] at KS
  have KS' := fun w => Lib.hid (KS w)
  have hby := byt_bytesOf s
  have hq2 := str_eq2 (sumL ((bytesOf s).take (s.size - 4))) ((bytesOf s).drop (s.size - 4)) (byt_sumL _) (byt_drop hby _)
  rw [decide_eq_true (by exact hs)] at hq2
  have hS : sumS (strOfNums ((bytesOf s).take (s.size - 4))) = strOfNums (sumL ((bytesOf s).take (s.size - 4))) := by rw [sumS_eq, bytesOf_strOfNums _ (byt_take hby _)]
  have hsm : s.size ≤ 4407 := by
    have hz' := hz0
    unfold sizeL at hz'
    split at hz' <;> omega
  have KU := fun (w : World) (hN : Crc.Nibs w) => sum_any (strOfNums ((bytesOf s).take (s.size - 4))) w (by rw [strOfNums_size, List.length_take]; omega) hN
  rw [hS] at KU
  have hx1 := extract_head s (s.size - 4) (by omega)
  have hx2 := extract_tail s (s.size - 4) (by omega)
  have hx4 := extract_mid s 4 16 (by decide) (by omega)
  have hx5 := extract_mid s 20 (s.size - 4) (by omega) (by omega)
  have e5 : s.size - 4 - 20 = s.size - 24 := by omega
  rw [e5] at hx5
  generalize strOfNums ((bytesOf s).take (s.size - 4)) = S1 at KU hx1
  generalize strOfNums (sumL ((bytesOf s).take (s.size - 4))) = S2 at KU hq2
  generalize strOfNums ((bytesOf s).drop (s.size - 4)) = S3 at hx2 hq2
  have hw4 : (0 : Int) ≤ (s.size : Int) - 4 ∧ (s.size : Int) - 4 ≤ s.size ∧ ((s.size : Int) - 4).toNat = s.size - 4 ∧ (20 : Int) ≤ (s.size : Int) - 4 ∧ (16 : Int) ≤ s.size := by omega
  obtain ⟨hw1, hw2, hw3, hw5, hw6⟩ := hw4
  have hs1 := fun wx => run_slice_string_h (P := Tryd.prog) wx 9 s Tryd.underlying9 .i64 ((s.size : Int) - 4) hw1 hw2
  have hs2 := fun wx => run_slice_string_l (P := Tryd.prog) wx 9 s Tryd.underlying9 .i64 ((s.size : Int) - 4) hw1 hw2
  have hs3 := fun wx => run_slice_string (P := Tryd.prog) (w := wx) 9 s .i64 .i64 4 16 Tryd.underlying9 (by decide) (by decide) hw6
  have hs4 := fun wx => run_slice_string (P := Tryd.prog) (w := wx) 9 s .i64 .i64 20 ((s.size : Int) - 4) Tryd.underlying9 (by decide) hw5 hw2
  rw [hw3, hx1] at hs1
  rw [hw3, hx2] at hs2
  have q4 : (4 : Int).toNat = 4 := rfl
  have q16 : (16 : Int).toNat = 16 := rfl
  have q20 : (20 : Int).toNat = 20 := rfl
  rw [q4, q16, hx4] at hs3
  rw [q20, hw3, hx5] at hs4
  have KU' := fun w h => Lib.hid (KU w h)
  have hlen : (bytesOf s).length = s.size := bytesOf_length s
  have hb1 : Byt (⟨((bytesOf s).drop 4).take (16 - 4), false⟩ : Cur).rest := byt_take (byt_drop hby _) _
  have hb2 : Byt (⟨((bytesOf s).drop 20).take (s.size - 24), false⟩ : Cur).rest := byt_take (byt_drop hby _) _
  have hh1 : h1 (bytesOf s) = numC 2 65535 ⟨((bytesOf s).drop 4).take (16 - 4), false⟩ := rfl
  have hh2 : h2 (bytesOf s) = numC 2 65535 (h1 (bytesOf s)).2 := rfl
  have hh3 : h3 (bytesOf s) = numC 8 9007199254740992 (h2 (bytesOf s)).2 := rfl
  have hm0 : m0 (bytesOf s) = blankM (kindL (bytesOf s)) (h1 (bytesOf s)).1 (h2 (bytesOf s)).1 (h3 (bytesOf s)).1 := rfl
  have hpL : pL (bytesOf s) = parseC (fieldsOf (kindL (bytesOf s)).toNat) (m0 (bytesOf s)) ⟨((bytesOf s).drop 20).take (s.size - 24), false⟩ := by unfold pL; rw [hlen]
  have hbad : badL (bytesOf s) = ((h3 (bytesOf s)).2.short || ((pL (bytesOf s)).2.short || !(pL (bytesOf s)).2.rest.isEmpty)) := rfl
  rw [hke] at hm0
  rw [hm0, hke, Int.toNat_natCast] at hpL
  generalize badL (bytesOf s) = bad at hbad ⊢
  generalize pL (bytesOf s) = pr at hbad hpL ⊢
  have K1 := fun g wx hI hB => number_any g ⟨((bytesOf s).drop 4).take (16 - 4), false⟩ 2 65535 w wx hI hB hb1 (by decide) (by decide) (by decide)
  have y1 := numC_byt 2 65535 _ hb1
  rw [← hh1] at K1 y1
  have K2 := fun g wx hI hB => number_any g (h1 (bytesOf s)).2 2 65535 w wx hI hB y1 (by decide) (by decide) (by decide)
  have y2 := numC_byt 2 65535 _ y1
  rw [← hh2] at K2 y2
  have K3 := fun g wx hI hB => number_any g (h2 (bytesOf s)).2 8 9007199254740992 w wx hI hB y2 (by decide) (by decide) (by decide)
  rw [← hh3] at K3
  generalize h3 (bytesOf s) = r3 at K3 hpL hbad
  generalize h2 (bytesOf s) = r2 at K2 K3 hpL
  generalize h1 (bytesOf s) = r1 at K1 K2 hpL
  generalize ((bytesOf s).drop 4).take (16 - 4) = l1 at hs3 K1
  generalize ((bytesOf s).drop 20).take (s.size - 24) = l2 at hs4 hb2 hpL
  obtain ⟨n1, c1⟩ := r1
  obtain ⟨n2, c2⟩ := r2
  obtain ⟨n3, c3⟩ := r3
  simp only at K1 K2 K3 hpL hbad
  have KK1 := fun g wx h1 h2 => Lib.hid (K1 g wx h1 h2)
  have KK2 := fun g wx h1 h2 => Lib.hid (K2 g wx h1 h2)
  have KK3 := fun g wx h1 h2 => Lib.hid (K3 g wx h1 h2)
  have HPL := Lib.hid hpL
  have HBAD := Lib.hid hbad
  have HB2 := Aside0.mk hb2
  clear hm hk hke KS hN hS hby hs hz hz0 hsm KU hx1 hx2 hx4 hx5 hw3 q4 q16 q20 hh1 hh2 hh3 hm0 K1 K2 K3 y1 y2 hb1 hb2 hpL hbad hlen e5
  go_enter Tryd.func16, Tryd.ntmps16
  go_wp2_with fail
  refine (KN _).out.mono ?_
  rintro e w1 ⟨rfl, hb⟩
  have HM1 := Aside0.mk (HM.out.below hb (by simp))
  have HB1 := Aside0.mk (HB.out.trans (hb.mono HB.out.size))
  clear hb HM HB
  go_wp2_with fail
  refine (KS' _).out.mono ?_
  rintro e w2 ⟨rfl, hb⟩
  have HM2 := Aside0.mk (HM1.out.below hb HM1.out.lt)
  have HBW2 := Aside0.mk (HB1.out.trans (hb.mono HB1.out.size))
  have HN2 := Aside0.mk (HN.out.below HBW2.out)
  clear hb HM1 HB1
  go_upto_region 11 with fail
  go_cut [49] (fun v wx => v = .bool false ∧ Aside0 (MBox wx w.heap.size zeroM) ∧ Aside0 (Below w.heap.size w wx))
  case first =>
    go_region_with ((go_at_call 39; refine (KU' _ (by exact ⟨HN2.out.cell, HN2.out.lt⟩)).out.mono ?_; rintro e w3 ⟨rfl, hb⟩; have HB3 := Aside0.mk hb; clear hb))
    all_goals
      have hb3 : Below w2.heap.size w2 w3 := ⟨HB3.out.os, HB3.out.tape, HB3.out.output, HB3.out.size, HB3.out.block⟩
      have HM3 := HM2.out.below hb3 HM2.out.lt
      have HB4 := HBW2.out.trans (hb3.mono HBW2.out.size)
      go_wp2_with fail
      go_meet
      exact ⟨rfl, ⟨⟨HM3.row, HM3.lt⟩⟩, ⟨⟨HB4.os, HB4.tape, HB4.output, HB4.size, HB4.block⟩⟩⟩
  case rest =>
    obtain ⟨rfl, HM3, HB3⟩ := hcut
    have hwc := HM3.out.lt
    have hMR := (HM3.out.below ((Below.refl wc.heap.size wc).alloc (Nat.le_refl _) (.cells #[.string (strOfNums l1), .bool false] 95)) hwc)
    have hMR2 := hMR.below ((Below.refl (wc.heap.size + 1) (wc.alloc (.cells #[.string (strOfNums l1), .bool false] 95))).alloc (by simp) (.cells (mL (blankM (kk : Int) 0 0 0)).toArray 24)) (by omega)
    have hBx := (HB3.out.alloc (by omega) (.cells #[.string (strOfNums l1), .bool false] 95)).alloc (by simp; omega) (.cells (mL (blankM (kk : Int) 0 0 0)).toArray 24)
    have hCx : CBox w ((wc.alloc (.cells #[.string (strOfNums l1), .bool false] 95)).alloc (.cells (mL (blankM (kk : Int) 0 0 0)).toArray 24)) wc.heap.size ⟨l1, false⟩ := IsS95.alloc (IsS95.new w wc (strOfNums l1) false ⟨HB3.out.os, HB3.out.tape, HB3.out.output, HB3.out.size, HB3.out.block⟩) _
    have hMx : MBox ((wc.alloc (.cells #[.string (strOfNums l1), .bool false] 95)).alloc (.cells (mL (blankM (kk : Int) 0 0 0)).toArray 24)) (wc.heap.size + 1) (blankM (kk : Int) 0 0 0) := ⟨by have := Go.heap_alloc_new (wc.alloc (.cells #[.string (strOfNums l1), .bool false] 95)) (.cells (mL (blankM (kk : Int) 0 0 0)).toArray 24); simpa using this, by simp⟩
    have HMR := Aside0.mk hMR2
    have HBX := Aside0.mk hBx
    have HCX := Aside0.mk hCx
    have HMX := Aside0.mk hMx
    have HWC := Aside0.mk hwc
    clear hMR hMR2 hBx hCx hMx HM3 HB3 KN KS' KU' HM2 HBW2 HN2 hwc HN
    go_wp2_with fail
    have hshow : ((wc.alloc (.cells #[.string (strOfNums l1), .bool false] 95)).alloc (.cells (mL (blankM (kk : Int) 0 0 0)).toArray 24)) = ((wc.alloc (.cells #[.string (strOfNums l1), .bool false] 95)).alloc (.cells #[.int .i64 (kk : Int), .int .i64 0, .int .i64 0, .int .i64 0, .int .i64 0, .int .i64 0, .int .i64 0, .int .i64 0, .int .i64 0, .string { data := #[] }, .string { data := #[] }] 24)) := rfl
    rw [← hshow]
    clear hshow
    generalize ((wc.alloc (.cells #[.string (strOfNums l1), .bool false] 95)).alloc (.cells (mL (blankM (kk : Int) 0 0 0)).toArray 24)) = wd at HMR HBX HCX HMX ⊢
    generalize wc.heap.size = gc at HMR HBX HCX HMX HWC ⊢
    refine (KK1 gc _ HCX.out HBX.out).out.mono ?_
    rintro e w4 ⟨rfl, hI, hB, hK⟩
    have HM4 := Aside0.mk (mbox_kept HMX.out hK (by omega))
    have HR4 := Aside0.mk (mbox_kept HMR.out hK (by have := HWC.out; omega))
    have HI4 := Aside0.mk hI
    have HB4 := Aside0.mk hB
    clear hI hB hK HMR HBX HCX HMX KK1
    go_wp2_with fail
    refine (KK2 gc _ HI4.out HB4.out).out.mono ?_
    rintro e w5 ⟨rfl, hI, hB, hK⟩
    have HM5 := Aside0.mk (mbox_kept HM4.out hK (by omega))
    have HR5 := Aside0.mk (mbox_kept HR4.out hK (by have := HWC.out; omega))
    have HI5 := Aside0.mk hI
    have HB5 := Aside0.mk hB
    clear hI hB hK HM4 HR4 HI4 HB4 KK2
    go_wp2_with fail
    refine (KK3 gc _ HI5.out HB5.out).out.mono ?_
    rintro e w6 ⟨rfl, hI, hB, hK⟩
    have HM6 := Aside0.mk (mbox_kept HM5.out hK (by omega))
    have HR6 := Aside0.mk (mbox_kept HR5.out hK (by have := HWC.out; omega))
    have HI6 := Aside0.mk hI
    have HB6 := Aside0.mk hB
    clear hI hB hK HM5 HR5 HI5 HB5 KK3
    have k1 : w6.cell? ⟨gc + 1, 1, none⟩ = some (.int .i64 0) := HM6.out.c 1
    have k2 : w6.cell? ⟨gc + 1, 2, none⟩ = some (.int .i64 0) := HM6.out.c 2
    have k3 : w6.cell? ⟨gc + 1, 3, none⟩ = some (.int .i64 0) := HM6.out.c 3
    have f1 : w6.frozen? ⟨gc + 1, 1, none⟩ = false := blk_frozen HM6.out.row 1
    have f2 : w6.frozen? ⟨gc + 1, 2, none⟩ = false := blk_frozen HM6.out.row 2
    have f3 : w6.frozen? ⟨gc + 1, 3, none⟩ = false := blk_frozen HM6.out.row 3
    have kc : w6.cell? ⟨gc, 1, none⟩ = some (.bool c3.short) := cellS95_1 HI6.out.1
    go_upto_region 17 with fail
    have HMS := Aside0.mk (mbox_head HM6.out n1 n2 n3)
    have HRS := Aside0.mk (mbox_far (mbox_far (mbox_far HR6.out (p := ⟨gc + 1, 1, none⟩) (by have := HWC.out; simp; omega) (.int .i64 n1)) (p := ⟨gc + 1, 2, none⟩) (by have := HWC.out; simp; omega) (.int .i64 n2)) (p := ⟨gc + 1, 3, none⟩) (by have := HWC.out; simp; omega) (.int .i64 n3))
    have HBS := Aside0.mk (((HB6.out.setCell (p := ⟨gc + 1, 1, none⟩) (by have := HWC.out; simp; omega) (.int .i64 n1)).setCell (p := ⟨gc + 1, 2, none⟩) (by have := HWC.out; simp; omega) (.int .i64 n2)).setCell (p := ⟨gc + 1, 3, none⟩) (by have := HWC.out; simp; omega) (.int .i64 n3))
    clear HM6 HR6 HB6 HI6 k1 k2 k3 f1 f2 f3 kc
    generalize (((w6.setCell ⟨gc + 1, 1, none⟩ (.int .i64 n1)).setCell ⟨gc + 1, 2, none⟩ (.int .i64 n2)).setCell ⟨gc + 1, 3, none⟩ (.int .i64 n3)) = ws at HMS HRS HBS ⊢
    have hmlt := HMS.out.lt
    have HML := Aside0.mk hmlt
    have HIX : CBox w (ws.alloc (.cells #[.string (strOfNums l2), .bool false] 95)) ws.heap.size ⟨l2, false⟩ := IsS95.new w ws (strOfNums l2) false HBS.out
    have hMY := HMS.out.below ((Below.refl ws.heap.size ws).alloc (Nat.le_refl _) (.cells #[.string (strOfNums l2), .bool false] 95)) hmlt
    have hRY := HRS.out.below ((Below.refl ws.heap.size ws).alloc (Nat.le_refl _) (.cells #[.string (strOfNums l2), .bool false] 95)) HRS.out.lt
    have hBY := HBS.out.alloc (by have := HWC.out; omega) (.cells #[.string (strOfNums l2), .bool false] 95)
    have HIY := Aside0.mk HIX
    have HMY := Aside0.mk hMY
    have HRY := Aside0.mk hRY
    have HBY := Aside0.mk hBY
    clear HIX hMY hRY hBY hmlt HMS HRS HBS
    go_upto_region 18 with fail
    generalize (ws.alloc (.cells #[.string (strOfNums l2), .bool false] 95)) = wy at HIY HMY HRY HBY ⊢
    have hkl : kk < 17 := by omega
    have hk0 : kk ≠ 0 := by omega
    generalize ws.heap.size = gd at HIY HML ⊢
    go_cut [81, 82, 83] (fun v81 v82 v83 wx => ∃ q : Nat, v81 = .slice (some ⟨q, 0, none⟩) (fieldsOf kk).length (fieldsOf kk).length ∧ v82 = .int .i64 ((fieldsOf kk).length : Int) ∧ v83 = .int .i64 0 ∧ Aside0 (wy.heap.size ≤ q) ∧ Aside0 (∀ j n, (fieldsOf kk)[j]? = some n → wx.cell? ⟨q, j, none⟩ = some (.int .u8 (n : Nat))) ∧ Aside0 (q < wx.heap.size) ∧ Aside0 (Below wy.heap.size wy wx))
    case first =>
      have hc0 : wy.cell? ⟨gc + 1, 0, none⟩ = some (.int .i64 (kk : Int)) := HMY.out.c 0
      have hgl := HMY.out.lt
      have hidx : (kk : Int) < 17 := by omega
      have hidx0 : (0 : Int) ≤ (kk : Int) := by omega
      have HSL := Aside0.mk (show ∀ b, slOf b kk = .slice (some ⟨b + (kk - 1), 0, none⟩) (fieldsOf kk).length (fieldsOf kk).length from fun b => if_neg hk0)
      go_region_with ((go_at_call 37; refine (layouts_lay _).mono ?_; rintro e w7 ⟨rfl, hL, hb, hsz⟩; have hS3 := (hb.cell (p := ⟨gc + 1, 0, none⟩) hgl).trans hc0; have ho3 : w7.cell? ⟨wy.heap.size + 16, kk, none⟩ = some (.slice (some ⟨wy.heap.size + (kk - 1), 0, none⟩) (fieldsOf kk).length (fieldsOf kk).length) := (hL.out kk hkl).trans (congrArg some (HSL.out _)); have HL3 := Aside0.mk hL; have HB3 := Aside0.mk hb; have HZ3 := Aside0.mk hsz; clear hL hb hsz))
      all_goals
        go_wp2_with fail
        go_meet
        refine ⟨wy.heap.size + (kk - 1), rfl, rfl, rfl, ⟨by omega⟩, ⟨fun j n hj => HL3.out.inn kk j n hkl hj⟩, ⟨by have := HZ3.out; simp at this ⊢; omega⟩, ⟨⟨HB3.out.os, HB3.out.tape, HB3.out.output, HB3.out.size, HB3.out.block⟩⟩⟩
    case rest =>
      obtain ⟨q, rfl, rfl, rfl, HQ, HNN, HQL, HBZ⟩ := hcut
      have hdl := IsS95.lt HIY.out
      have hDI : DInv w wc (gc + 1) gd q (fieldsOf kk) (blankM (kk : Int) n1 n2 n3) l2 0 :=
        ⟨⟨_, _, rfl, HMY.out.below HBZ.out HMY.out.lt, IsS95.below HIY.out HBZ.out, HB2.out⟩, HRY.out.below HBZ.out HRY.out.lt, HBY.out.trans (HBZ.out.mono (HBY.out.size)), HNN.out, HQL.out⟩
      have HDI := Aside0.mk hDI
      have HNE : Aside0 (w.heap.size ≠ gc + 1 ∧ w.heap.size ≠ gd ∧ q ≠ gc + 1 ∧ q ≠ gd ∧ gc + 1 ≠ gd ∧ w.heap.size ≤ gc + 1 ∧ w.heap.size ≤ gd) := ⟨by have := HWC.out; have := HML.out; have := HQ.out; omega⟩
      have hfl := fields_len kk hkl
      have HFL := Aside0.mk (fields_lt kk hkl)
      generalize hfs : fieldsOf kk = fs at HNN HDI hfl HFL HPL ⊢
      clear hDI HMY HIY HRY HBY HNN HBZ HQ HQL hdl hfs hkl hk0 HWC HML HB2
      generalize hb3 : c3.short = b3 at HBAD
      go_wp2
      go_loopw [10, 83] (fun _ iv wr => ∃ j : Nat, j ≤ fs.length ∧ iv = .int .i64 (j : Int) ∧ Aside0 (DInv w wr (gc + 1) gd q fs (blankM (kk : Int) n1 n2 n3) l2 j)) (fun _ iv _ => 7 - (intOf iv).toNat)
      case atStart => exact ⟨0, Nat.zero_le _, rfl, HDI⟩
      case round =>
        clear HDI
        obtain ⟨j, hj, rfl, HDI⟩ := hrel
        obtain ⟨wo, rfl⟩ : ∃ wo : World, wo = wr := ⟨_, rfl⟩
        by_cases hlt : j < fs.length
        · obtain ⟨n, hn⟩ : ∃ n, fs[j]? = some n := ⟨_, List.getElem?_eq_getElem hlt⟩
          have hci := HDI.out.row j n hn
          obtain ⟨mj, cj, hp, hMj, hCj, hYj⟩ := HDI.out.ex
          have HP := Lib.hid hp
          have K := Lib.hid (read_any (gc + 1) gd mj cj n w wo (HFL.out j n hn) hMj HNE.out.2.2.2.2.2.1 hCj HDI.out.bel hYj HNE.out.2.2.2.2.1)
          have HY := Aside0.mk hYj
          have HNX : Aside0 (fs.take (j + 1) = fs.take j ++ [n]) := ⟨by rw [List.take_add_one, hn]; rfl⟩
          clear hn hp hMj hCj hYj
          go_wp2_with fail
          refine K.out.mono ?_
          rintro e w8 ⟨rfl, hM, hC, hB, hKp⟩
          have HD2 : Aside0 (DInv w w8 (gc + 1) gd q fs (blankM (kk : Int) n1 n2 n3) l2 (j + 1)) := ⟨⟨⟨_, _, by rw [HNX.out, parseC_snoc, HP.out], hM, hC, readC_byt _ _ _ HY.out⟩, ⟨(hKp.2 _ HDI.out.res.lt HNE.out.1 HNE.out.2.1).trans HDI.out.res.row, Nat.lt_of_lt_of_le HDI.out.res.lt hKp.1⟩, hB, fun j n hj => (World.cell?_of_block (hKp.2 _ HDI.out.qlt HNE.out.2.2.1 HNE.out.2.2.2.1)).trans (HDI.out.row j n hj), Nat.lt_of_lt_of_le HDI.out.qlt hKp.1⟩⟩
          clear hM hC hB hKp K HP
          go_wp2
          go_roundw
          case rel => exact ⟨j + 1, by omega, by go_num, HD2⟩
          case measure => simp [intOf]; omega
        · obtain rfl : j = fs.length := by omega
          obtain ⟨mj, cj, hp, hMj, hCj, hYj⟩ := HDI.out.ex
          rw [List.take_length] at hp
          rw [hp] at HPL
          obtain ⟨rest, sh⟩ := cj
          have hc1 : wo.cell? ⟨gd, 1, none⟩ = some (.bool sh) := cellS95_1 hCj.1
          have hc0 : wo.cell? ⟨gd, 0, none⟩ = some (.string (strOfNums rest)) := cellS95_0 hCj.1
          have he := empty_str rest
          have HMj := Aside0.mk hMj
          have HRS := Aside0.mk HDI.out.res
          have HBL := Aside0.mk HDI.out.bel
          obtain rfl := HPL.out
          simp only at HBAD
          clear hp hMj hCj hYj HDI HPL hfl HFL
          cases b3
          · cases sh
            · by_cases hr : rest.isEmpty = true
              · rw [hr] at he
                have HE := Aside0.mk hr
                clear hr
                have hrg := blk_range HMj.out.row
                have hth := blk_there HRS.out.row
                go_wp2_with (first | ((with_reducible refine gate_load (ty := 24) (x := .tmp 7) rfl ?_); refine wpList_load_mid rfl 24 (.tmp 7) rfl (gc + 1) 0 rfl (mL mj) _ hrg Tryd.underlying24 rfl infoM ?_) | ((with_reducible refine gate_store (ty := 24) (x := .tmp 2) (y := .tmp 106) rfl ?_); refine wpList_store_mid rfl 24 (.tmp 2) (.tmp 106) rfl w.heap.size 0 (mL mj).toArray rfl rfl hth infoM (mL_one mj) ?_))
                have hbt : ¬ bad = true := by rw [HBAD.out, HE.out]; simp
                unfold DecR; rw [if_neg hbt, if_neg hbt]
                exact err_ret (k := 0) (m := mj) rfl rfl ⟨setCells_whole HRS.out.row rfl, by rw [setCells_size]; exact HRS.out.lt⟩ (below_setCells HBL.out (Nat.le_refl _) _ _) rfl
              · have hr' : rest.isEmpty = false := by simpa using hr
                rw [hr'] at he
                have HE := Aside0.mk hr'
                clear hr hr'
                have hth := blk_there HRS.out.row
                go_wp2_with ((with_reducible refine gate_store (ty := 24) (x := .tmp 2) (y := .tmp 105) rfl ?_); refine wpList_store_mid rfl 24 (.tmp 2) (.tmp 105) rfl w.heap.size 0 (mL zeroM).toArray rfl rfl hth infoM (mL_one zeroM) ?_)
                have hbt : bad = true := by rw [HBAD.out]; rw [HE.out]; rfl
                unfold DecR; rw [if_pos hbt, if_pos hbt]
                exact err_ret (k := 56) (m := zeroM) rfl rfl ⟨setCells_whole HRS.out.row rfl, by rw [setCells_size]; exact HRS.out.lt⟩ (below_setCells HBL.out (Nat.le_refl _) _ _) rfl
            · have hth := blk_there HRS.out.row
              go_wp2_with ((with_reducible refine gate_store (ty := 24) (x := .tmp 2) (y := .tmp 105) rfl ?_); refine wpList_store_mid rfl 24 (.tmp 2) (.tmp 105) rfl w.heap.size 0 (mL zeroM).toArray rfl rfl hth infoM (mL_one zeroM) ?_)
              have hbt : bad = true := by rw [HBAD.out]; simp
              unfold DecR; rw [if_pos hbt, if_pos hbt]
              exact err_ret (k := 56) (m := zeroM) rfl rfl ⟨setCells_whole HRS.out.row rfl, by rw [setCells_size]; exact HRS.out.lt⟩ (below_setCells HBL.out (Nat.le_refl _) _ _) rfl
          · have hth := blk_there HRS.out.row
            go_wp2_with ((with_reducible refine gate_store (ty := 24) (x := .tmp 2) (y := .tmp 105) rfl ?_); refine wpList_store_mid rfl 24 (.tmp 2) (.tmp 105) rfl w.heap.size 0 (mL zeroM).toArray rfl rfl hth infoM (mL_one zeroM) ?_)
            have hbt : bad = true := by rw [HBAD.out]; simp
            unfold DecR; rw [if_pos hbt, if_pos hbt]
            exact err_ret (k := 56) (m := zeroM) rfl rfl ⟨setCells_whole HRS.out.row rfl, by rw [setCells_size]; exact HRS.out.lt⟩ (below_setCells HBL.out (Nat.le_refl _) _ _) rfl
end Go.Proofs.YtnifgokjagahfaaDoor.Dec

/- Decode answers as decP says. -/
set_option linter.unusedVariables false
set_option linter.unusedSimpArgs false
namespace Go.Proofs.YtnifgokjagahfaaDoor.Dec
open Go.RowKit Go.Proofs.YtnifgokjagahfaaDoorW.PrintWords Go.Proofs.YtnifgokjagahfaaDoorW.PrintLast Go.Proofs.YtnifgokjagahfaaDoorW.PrintMore
open Go.Proofs.YtnifgokjagahfaaDoor.Base Go.Proofs.YtnifgokjagahfaaDoor.Layouts Go.Proofs.YtnifgokjagahfaaDoor.Msg Go.Proofs.YtnifgokjagahfaaDoor.Put Go.Proofs.YtnifgokjagahfaaDoor.EncPure Go.Proofs.YtnifgokjagahfaaDoor.DecPure Go.Proofs.YtnifgokjagahfaaDoor.Num Go.Proofs.YtnifgokjagahfaaDoor.Mids
theorem bodyN_nonneg (s : ByteArray) : 0 ≤ bodyN (bytesOf s) := val_nonneg _ (byt_take (byt_drop (byt_bytesOf s) _) _)
theorem sizeL_eq (L : List Int) : sizeL L = if 4383 < bodyN L then -1 else 24 + bodyN L := rfl
theorem dec_any (s : ByteArray) (w : World) (hmx : s.size ≤ 9223372036854775807) (hN : Crc.Nibs w) : Calls Tryd.prog 16 #[.string s] w fun e w' => e = .returned (.tuple #[.agg (mL (decP (bytesOf s)).1).toArray, .int .i64 (decP (bytesOf s)).2]) ∧ Below w.heap.size w w' := by
  have hlen : (bytesOf s).length = s.size := bytesOf_length s
  have hb0 := bodyN_nonneg s
  by_cases c1 : s.size < 24
  · have e : decP (bytesOf s) = (zeroM, 51) := by unfold decP; rw [if_pos (by omega)]
    rw [e]; exact dec_short s w c1
  by_cases c2 : (bytesOf s).take 3 = [71, 82, 1]
  case neg =>
    have e : decP (bytesOf s) = (zeroM, 52) := by unfold decP; rw [if_neg (by omega), if_pos c2]
    rw [e]; exact dec_magic s w (by omega) c2
  by_cases c3 : 1 ≤ kindL (bytesOf s) ∧ kindL (bytesOf s) < 17
  case neg =>
    have e : decP (bytesOf s) = (zeroM, 53) := by unfold decP; rw [if_neg (by omega), if_neg (by simp [c2]), if_pos c3]
    rw [e]; exact dec_kind s w (by omega) c2 c3
  have c3' : ¬ ¬ (1 ≤ kindL (bytesOf s) ∧ kindL (bytesOf s) < 17) := fun h => h c3
  by_cases c4 : 4383 < bodyN (bytesOf s) ∨ 24 + bodyN (bytesOf s) ≠ (bytesOf s).length
  · have e : decP (bytesOf s) = (zeroM, 54) := by unfold decP; rw [if_neg (by omega), if_neg (by simp [c2]), if_neg c3', if_pos c4]
    rw [e]
    refine dec_length s w (by omega) hmx c2 c3 ?_
    rw [sizeL_eq]
    rcases c4 with c | c
    · rw [if_pos c]; exact .inl (by decide)
    · by_cases c5 : 4383 < bodyN (bytesOf s)
      · rw [if_pos c5]; exact .inl (by decide)
      · rw [if_neg c5]; exact .inr (by rw [← hlen]; exact c)
  have hz : sizeL (bytesOf s) = s.size := by
    simp only [not_or, Int.not_lt, ne_eq, Decidable.not_not] at c4
    rw [sizeL_eq, if_neg (by omega), c4.2, hlen]
  by_cases c5 : sumL ((bytesOf s).take (s.size - 4)) = (bytesOf s).drop (s.size - 4)
  case neg =>
    have e : decP (bytesOf s) = (zeroM, 55) := by unfold decP; rw [if_neg (by omega), if_neg (by simp [c2]), if_neg c3', if_neg c4, hlen, if_pos c5]
    rw [e]; exact dec_sum s w (by omega) hmx c2 c3 hz hN c5
  refine (dec_body s w (by omega) hmx c2 c3 hz hN c5).mono ?_
  intro e w' h
  unfold DecR at h
  have e1 : decP (bytesOf s) = ((if badL (bytesOf s) = true then zeroM else (pL (bytesOf s)).1), (if badL (bytesOf s) = true then 56 else 0)) := by
    unfold decP
    rw [if_neg (by omega), if_neg (by simp [c2]), if_neg c3', if_neg c4, hlen, if_neg (fun h => h c5)]
    split <;> rfl
  rw [e1]
  exact h
end Go.Proofs.YtnifgokjagahfaaDoor.Dec

/- The document's Decode, walked. -/
set_option linter.unusedVariables false
set_option linter.unusedSimpArgs false
namespace Go.Proofs.YtnifgokjagahfaaDoor.RefDec
open Go.RowKit Go.Proofs.YtnifgokjagahfaaDoorW.PrintWords Go.Proofs.YtnifgokjagahfaaDoorW.PrintLast Go.Proofs.YtnifgokjagahfaaDoorW.PrintMore
open Go.Proofs.YtnifgokjagahfaaDoor.Base Go.Proofs.YtnifgokjagahfaaDoor.Layouts Go.Proofs.YtnifgokjagahfaaDoor.Msg Go.Proofs.YtnifgokjagahfaaDoor.Put Go.Proofs.YtnifgokjagahfaaDoor.EncPure Go.Proofs.YtnifgokjagahfaaDoor.DecPure Go.Proofs.YtnifgokjagahfaaDoor.Enc Go.Proofs.YtnifgokjagahfaaDoor.Num Go.Proofs.YtnifgokjagahfaaDoor.PFrameDecodes Go.Proofs.YtnifgokjagahfaaDoor.RefF Go.Proofs.YtnifgokjagahfaaDoor.RefSum Go.Proofs.YtnifgokjagahfaaDoor.Mids
open Go.Proofs.YtnifgokjagahfaaDoor.Dec (mL_one str_eq str_eq2)
/-- what Decode answers -/
def Told (m : M) (k : Int) (w : World) (e : Ending) (w' : World) : Prop := e = .returned (.tuple #[.agg (mL m).toArray, .int .i64 k]) ∧ Below w.heap.size w w'
theorem told_ret {W : World} {w : World} {m : M} {tmps : Array Value} {k : Int} (hp : tmps.getD 2 undef = .pointer (some ⟨w.heap.size, 0, none⟩)) (hk : tmps.getD 3 undef = .int .i64 k) (h : MBox W w.heap.size m) (hB : Below w.heap.size w W) {d : List _} (hd : d = []) :
    bodyPost Tryd.prog Tryd.f17 (Told m k w) Exit.ret ⟨tmps, d⟩ W := by
  subst hd
  refine bodyPost_ret (v := .tuple #[.agg (mL m).toArray, .int .i64 k]) ?_ rfl ⟨rfl, hB⟩
  rw [← hk]
  exact results_ct_mid rfl tmps W w.heap.size 0 (mL m) _ hp (blk_range h.row) Tryd.underlying24 rfl infoM
/-- the two blocks that a call begins with -/
structure Two (w W : World) : Prop where mk :: (res : MBox W w.heap.size zeroM) (non : MBox W (w.heap.size + 1) zeroM) (bel : Below w.heap.size w W)
theorem Two.start (w : World) : Two w ((w.alloc (.cells (mL zeroM).toArray 24)).alloc (.cells (mL zeroM).toArray 24)) := by
  have h0 : MBox (w.alloc (.cells (mL zeroM).toArray 24)) w.heap.size zeroM := ⟨Go.heap_alloc_new w _, by simp⟩
  refine ⟨h0.below ((Below.refl (w.heap.size + 1) (w.alloc (.cells (mL zeroM).toArray 24))).alloc (by simp) _) (by omega), ⟨?_, by simp⟩, ?_⟩
  · have := Go.heap_alloc_new (w.alloc (.cells (mL zeroM).toArray 24)) (.cells (mL zeroM).toArray 24)
    simpa using this
  · exact ((Below.refl w.heap.size w).alloc (Nat.le_refl _) _).alloc (by simp) _
theorem Two.below {w W W1 : World} (h : Two w W) (hb : Below W.heap.size W W1) : Two w W1 := ⟨h.res.below hb h.res.lt, h.non.below hb h.non.lt, h.bel.trans (hb.mono h.bel.size)⟩
theorem Two.drewN {w W : World} (h : Two w W) (n : Nat) : Two w (W.drewN n) := ⟨⟨h.res.row, h.res.lt⟩, ⟨h.non.row, h.non.lt⟩, ⟨h.bel.os, h.bel.tape, h.bel.output, h.bel.size, h.bel.block⟩⟩
theorem byte_at (s : ByteArray) (i : Nat) (h : i < s.size) : (bytesOf s)[i]? = some (((s[i]'h).toNat : Nat) : Int) := by
  have hl : i < (bytesOf s).length := by rw [bytesOf_length]; exact h
  rw [List.getElem?_eq_getElem hl]
  simp [bytesOf]
  rfl
theorem take3 (s : ByteArray) (h : 24 ≤ s.size) : (bytesOf s).take 3 = [(((s[0]'(by omega)).toNat : Nat) : Int), (((s[1]'(by omega)).toNat : Nat) : Int), (((s[2]'(by omega)).toNat : Nat) : Int)] := by
  rw [List.take_add_one, List.take_add_one, List.take_add_one, byte_at s 0 (by omega), byte_at s 1 (by omega), byte_at s 2 (by omega)]
  rfl
theorem numR_body (s : ByteArray) : numR (bytesOf s) 16 4 = bodyN (bytesOf s) ∧ 0 ≤ bodyN (bytesOf s) ∧ bodyN (bytesOf s) < 4294967296 := by
  have hb := byt_take (byt_drop (byt_bytesOf s) 16) 4
  have h0 := val_nonneg _ hb
  have h1 := val_lt _ hb
  have hl : (((bytesOf s).drop 16).take 4).length ≤ 4 := by rw [List.length_take]; omega
  have hp : ∀ n, n ≤ 4 → (256 : Int) ^ n ≤ 4294967296 := by
    intro n hn
    have : ∀ n, n < 5 → (256 : Int) ^ n ≤ 4294967296 := by decide
    exact this n (by omega)
  have h2 := Int.lt_of_lt_of_le h1 (hp _ hl)
  unfold numR bodyN
  exact ⟨if_neg (by omega), h0, h2⟩
set_option maxRecDepth 100000 in
set_option maxHeartbeats 8000000 in
theorem rdec_short (s : ByteArray) (w : World) (h : s.size < 24) : Calls Tryd.prog 17 #[.string s] w (Told zeroM 51 w) := by
  have h' : (s.size : Int) < 24 := by omega
  clear h
  have hwz : (w.alloc (.cells #[.int .i64 0, .int .i64 0, .int .i64 0, .int .i64 0, .int .i64 0, .int .i64 0, .int .i64 0, .int .i64 0, .int .i64 0, .string { data := #[] }, .string { data := #[] }] 24)).alloc (.cells #[.int .i64 0, .int .i64 0, .int .i64 0, .int .i64 0, .int .i64 0, .int .i64 0, .int .i64 0, .int .i64 0, .int .i64 0, .string { data := #[] }, .string { data := #[] }] 24) = (w.alloc (.cells (mL zeroM).toArray 24)).alloc (.cells (mL zeroM).toArray 24) := rfl
  have HT := Aside0.mk (Two.start w)
  have HWZ := Lib.hid hwz
  clear hwz
  go_enter Tryd.func17, Tryd.ntmps17
  go_upto_region 2 with fail
  rw [HWZ.out]
  clear HWZ
  generalize (w.alloc (.cells (mL zeroM).toArray 24)).alloc (.cells (mL zeroM).toArray 24) = wz at HT ⊢
  have hrg := blk_range HT.out.non.row
  have hth := blk_there HT.out.res.row
  go_wp2_with (first | ((with_reducible refine gate_load (ty := 24) (x := .tmp 4) rfl ?_); refine wpList_load_mid rfl 24 (.tmp 4) rfl (w.heap.size + 1) 0 rfl (mL zeroM) _ hrg Tryd.underlying24 rfl infoM ?_) | ((with_reducible refine gate_store (ty := 24) (x := .tmp 2) (y := .tmp 13) rfl ?_); refine wpList_store_mid rfl 24 (.tmp 2) (.tmp 13) rfl w.heap.size 0 (mL zeroM).toArray rfl rfl hth infoM (mL_one zeroM) ?_))
  exact told_ret (k := 51) (m := zeroM) rfl rfl ⟨setCells_whole HT.out.res.row rfl, by rw [setCells_size]; exact HT.out.res.lt⟩ (below_setCells HT.out.bel (Nat.le_refl _) _ _) rfl
set_option maxRecDepth 100000 in
set_option maxHeartbeats 8000000 in
theorem rdec_magic (s : ByteArray) (w : World) (h : 24 ≤ s.size) (hm : (bytesOf s).take 3 ≠ [71, 82, 1]) : Calls Tryd.prog 17 #[.string s] w (Told zeroM 52 w) := by
  have h' : ¬ (s.size : Int) < 24 := by omega
  have s0 : (0 : Int) < (s.size : Int) := by omega
  have s1 : (1 : Int) < (s.size : Int) := by omega
  have s2 : (2 : Int) < (s.size : Int) := by omega
  have s3 : (3 : Int) < (s.size : Int) := by omega
  have N0 : 0 < s.size := by omega
  have N1 : 1 < s.size := by omega
  have N2 : 2 < s.size := by omega
  have N3 : 3 < s.size := by omega
  rw [take3 s h] at hm
  obtain ⟨b0, e0⟩ : ∃ b : Nat, (s[0]'N0).toNat = b := ⟨_, rfl⟩
  obtain ⟨b1, e1⟩ : ∃ b : Nat, (s[1]'N1).toNat = b := ⟨_, rfl⟩
  obtain ⟨b2, e2⟩ : ∃ b : Nat, (s[2]'N2).toNat = b := ⟨_, rfl⟩
  rw [e0, e1, e2] at hm
  have hc : ((b0 : Int) != 71) = true ∨ ((b0 : Int) = 71 ∧ ((b1 : Int) != 82) = true) ∨ ((b0 : Int) = 71 ∧ (b1 : Int) = 82 ∧ ((b2 : Int) != 1) = true) := by
    by_cases c0 : (b0 : Int) = 71
    · by_cases c1 : (b1 : Int) = 82
      · refine .inr (.inr ⟨c0, c1, bne_iff_ne.2 fun c2 => hm (by rw [c0, c1, c2])⟩)
      · exact .inr (.inl ⟨c0, bne_iff_ne.2 c1⟩)
    · exact .inl (bne_iff_ne.2 c0)
  clear hm
  have hwz : (w.alloc (.cells #[.int .i64 0, .int .i64 0, .int .i64 0, .int .i64 0, .int .i64 0, .int .i64 0, .int .i64 0, .int .i64 0, .int .i64 0, .string { data := #[] }, .string { data := #[] }] 24)).alloc (.cells #[.int .i64 0, .int .i64 0, .int .i64 0, .int .i64 0, .int .i64 0, .int .i64 0, .int .i64 0, .int .i64 0, .int .i64 0, .string { data := #[] }, .string { data := #[] }] 24) = (w.alloc (.cells (mL zeroM).toArray 24)).alloc (.cells (mL zeroM).toArray 24) := rfl
  have HT := Aside0.mk (Two.start w)
  have HWZ := Lib.hid hwz
  clear hwz
  rcases hc with c0 | ⟨c0, c1⟩ | ⟨c0, c1, c2⟩
  all_goals
    go_enter Tryd.func17, Tryd.ntmps17
    go_upto_region 2 with fail
    rw [HWZ.out]
    clear HWZ
    generalize (w.alloc (.cells (mL zeroM).toArray 24)).alloc (.cells (mL zeroM).toArray 24) = wz at HT ⊢
    have hrg := blk_range HT.out.non.row
    have hth := blk_there HT.out.res.row
    go_wp2_with (first | ((with_reducible refine gate_load (ty := 24) (x := .tmp 4) rfl ?_); refine wpList_load_mid rfl 24 (.tmp 4) rfl (w.heap.size + 1) 0 rfl (mL zeroM) _ hrg Tryd.underlying24 rfl infoM ?_) | ((with_reducible refine gate_store (ty := 24) (x := .tmp 2) (y := .tmp 27) rfl ?_); refine wpList_store_mid rfl 24 (.tmp 2) (.tmp 27) rfl w.heap.size 0 (mL zeroM).toArray rfl rfl hth infoM (mL_one zeroM) ?_))
    exact told_ret (k := 52) (m := zeroM) rfl rfl ⟨setCells_whole HT.out.res.row rfl, by rw [setCells_size]; exact HT.out.res.lt⟩ (below_setCells HT.out.bel (Nat.le_refl _) _ _) rfl
set_option maxRecDepth 100000 in
set_option maxHeartbeats 8000000 in
theorem rdec_kind (s : ByteArray) (w : World) (h : 24 ≤ s.size) (hm : (bytesOf s).take 3 = [71, 82, 1]) (hk : ¬ (1 ≤ kindL (bytesOf s) ∧ kindL (bytesOf s) < 17)) : Calls Tryd.prog 17 #[.string s] w (Told zeroM 53 w) := by
  have h' : ¬ (s.size : Int) < 24 := by omega
  have s0 : (0 : Int) < (s.size : Int) := by omega
  have s1 : (1 : Int) < (s.size : Int) := by omega
  have s2 : (2 : Int) < (s.size : Int) := by omega
  have s3 : (3 : Int) < (s.size : Int) := by omega
  have N0 : 0 < s.size := by omega
  have N1 : 1 < s.size := by omega
  have N2 : 2 < s.size := by omega
  have N3 : 3 < s.size := by omega
  have hq := take3 s h
  rw [hm] at hq
  simp only [List.cons.injEq, and_true] at hq
  obtain ⟨q0, q1, q2⟩ := hq
  have e0 : (s[0]'N0).toNat = 71 := by omega
  have e1 : (s[1]'N1).toNat = 82 := by omega
  have e2 : (s[2]'N2).toNat = 1 := by omega
  clear q0 q1 q2 hm
  rw [Dec.kindL_byte s N3] at hk
  obtain ⟨kk, e3⟩ : ∃ b : Nat, (s[3]'N3).toNat = b := ⟨_, rfl⟩
  rw [e3] at hk
  have hc : (kk : Int) < 1 ∨ (¬ (kk : Int) < 1 ∧ (kk : Int) > 16) := by omega
  clear hk
  have hwz : (w.alloc (.cells #[.int .i64 0, .int .i64 0, .int .i64 0, .int .i64 0, .int .i64 0, .int .i64 0, .int .i64 0, .int .i64 0, .int .i64 0, .string { data := #[] }, .string { data := #[] }] 24)).alloc (.cells #[.int .i64 0, .int .i64 0, .int .i64 0, .int .i64 0, .int .i64 0, .int .i64 0, .int .i64 0, .int .i64 0, .int .i64 0, .string { data := #[] }, .string { data := #[] }] 24) = (w.alloc (.cells (mL zeroM).toArray 24)).alloc (.cells (mL zeroM).toArray 24) := rfl
  have HT := Aside0.mk (Two.start w)
  have HWZ := Lib.hid hwz
  clear hwz
  rcases hc with c0 | ⟨c0, c1⟩
  all_goals
    go_enter Tryd.func17, Tryd.ntmps17
    go_upto_region 2 with fail
    rw [HWZ.out]
    clear HWZ
    generalize (w.alloc (.cells (mL zeroM).toArray 24)).alloc (.cells (mL zeroM).toArray 24) = wz at HT ⊢
    have hrg := blk_range HT.out.non.row
    have hth := blk_there HT.out.res.row
    go_wp2_with (first | ((with_reducible refine gate_load (ty := 24) (x := .tmp 4) rfl ?_); refine wpList_load_mid rfl 24 (.tmp 4) rfl (w.heap.size + 1) 0 rfl (mL zeroM) _ hrg Tryd.underlying24 rfl infoM ?_) | ((with_reducible refine gate_store (ty := 24) (x := .tmp 2) (y := .tmp 36) rfl ?_); refine wpList_store_mid rfl 24 (.tmp 2) (.tmp 36) rfl w.heap.size 0 (mL zeroM).toArray rfl rfl hth infoM (mL_one zeroM) ?_))
    exact told_ret (k := 53) (m := zeroM) rfl rfl ⟨setCells_whole HT.out.res.row rfl, by rw [setCells_size]; exact HT.out.res.lt⟩ (below_setCells HT.out.bel (Nat.le_refl _) _ _) rfl
set_option maxRecDepth 100000 in
set_option maxHeartbeats 8000000 in
theorem rdec_length (s : ByteArray) (w : World) (h : 24 ≤ s.size) (hsz : s.size ≤ 9223372036854775807) (hm : (bytesOf s).take 3 = [71, 82, 1]) (hk : 1 ≤ kindL (bytesOf s) ∧ kindL (bytesOf s) < 17) (hz : 4383 < bodyN (bytesOf s) ∨ 24 + bodyN (bytesOf s) ≠ (s.size : Int)) : Calls Tryd.prog 17 #[.string s] w (Told zeroM 54 w) := by
  have h' : ¬ (s.size : Int) < 24 := by omega
  have s0 : (0 : Int) < (s.size : Int) := by omega
  have s1 : (1 : Int) < (s.size : Int) := by omega
  have s2 : (2 : Int) < (s.size : Int) := by omega
  have s3 : (3 : Int) < (s.size : Int) := by omega
  have N0 : 0 < s.size := by omega
  have N1 : 1 < s.size := by omega
  have N2 : 2 < s.size := by omega
  have N3 : 3 < s.size := by omega
  have hq := take3 s h
  rw [hm] at hq
  simp only [List.cons.injEq, and_true] at hq
  obtain ⟨q0, q1, q2⟩ := hq
  have e0 : (s[0]'N0).toNat = 71 := by omega
  have e1 : (s[1]'N1).toNat = 82 := by omega
  have e2 : (s[2]'N2).toNat = 1 := by omega
  clear q0 q1 q2 hm
  obtain ⟨kk, e3, hke, hk1, hk2⟩ := Dec.kind_yes s h hk
  have k1 : ¬ (kk : Int) < 1 := by omega
  have k2 : ¬ (kk : Int) > 16 := by omega
  obtain ⟨nb0, nb1, nb2⟩ := numR_body s
  have KN := fun (w : World) => Lib.hid (show Calls Tryd.prog 47 #[.string s, .int .i64 16, .int .i64 4] w (fun e w' => e = .returned (.int .i64 (bodyN (bytesOf s))) ∧ Drawn0 w w') by rw [← nb0]; exact rnumber_any s 16 4 w (by decide) (by omega) hsz)
  clear hk hke nb0
  generalize bodyN (bytesOf s) = n at KN hz nb1 nb2
  have hc : n > 4383 ∨ (¬ n > 4383 ∧ ((s.size : Int) != 24 + n) = true) := by
    by_cases c : n > 4383
    · exact .inl c
    · exact .inr ⟨c, bne_iff_ne.2 (by omega)⟩
  clear hz
  have hwz : (w.alloc (.cells #[.int .i64 0, .int .i64 0, .int .i64 0, .int .i64 0, .int .i64 0, .int .i64 0, .int .i64 0, .int .i64 0, .int .i64 0, .string { data := #[] }, .string { data := #[] }] 24)).alloc (.cells #[.int .i64 0, .int .i64 0, .int .i64 0, .int .i64 0, .int .i64 0, .int .i64 0, .int .i64 0, .int .i64 0, .int .i64 0, .string { data := #[] }, .string { data := #[] }] 24) = (w.alloc (.cells (mL zeroM).toArray 24)).alloc (.cells (mL zeroM).toArray 24) := rfl
  have HT := Aside0.mk (Two.start w)
  have HWZ := Lib.hid hwz
  clear hwz
  rcases hc with c0 | ⟨c0, c1⟩
  all_goals
    go_enter Tryd.func17, Tryd.ntmps17
    go_upto_region 2 with fail
    rw [HWZ.out]
    clear HWZ
    generalize (w.alloc (.cells (mL zeroM).toArray 24)).alloc (.cells (mL zeroM).toArray 24) = wz at HT ⊢
    go_wp2_with fail
    refine (KN _).out.mono ?_
    rintro e w2 ⟨rfl, ⟨⟨n2, rfl⟩⟩⟩
    have HT2 := Aside0.mk (HT.out.drewN n2)
    have hrg := blk_range HT2.out.non.row
    have hth := blk_there HT2.out.res.row
    go_wp2_with (first | ((with_reducible refine gate_load (ty := 24) (x := .tmp 4) rfl ?_); refine wpList_load_mid rfl 24 (.tmp 4) rfl (w.heap.size + 1) 0 rfl (mL zeroM) _ hrg Tryd.underlying24 rfl infoM ?_) | ((with_reducible refine gate_store (ty := 24) (x := .tmp 2) (y := .tmp 48) rfl ?_); refine wpList_store_mid rfl 24 (.tmp 2) (.tmp 48) rfl w.heap.size 0 (mL zeroM).toArray rfl rfl hth infoM (mL_one zeroM) ?_))
    exact told_ret (k := 54) (m := zeroM) rfl rfl ⟨setCells_whole HT2.out.res.row rfl, by rw [setCells_size]; exact HT2.out.res.lt⟩ (below_setCells HT2.out.bel (Nat.le_refl _) _ _) rfl
set_option maxRecDepth 100000 in
set_option maxHeartbeats 8000000 in
theorem rdec_sum (s : ByteArray) (w : World) (h : 24 ≤ s.size) (hsz : s.size ≤ 9223372036854775807) (hm : (bytesOf s).take 3 = [71, 82, 1]) (hk : 1 ≤ kindL (bytesOf s) ∧ kindL (bytesOf s) < 17) (hz : bodyN (bytesOf s) ≤ 4383) (hz2 : 24 + bodyN (bytesOf s) = (s.size : Int))
    (hs : sumL ((bytesOf s).take (s.size - 4)) ≠ (bytesOf s).drop (s.size - 4)) : Calls Tryd.prog 17 #[.string s] w (Told zeroM 55 w) := by
  have h' : ¬ (s.size : Int) < 24 := by omega
  have s0 : (0 : Int) < (s.size : Int) := by omega
  have s1 : (1 : Int) < (s.size : Int) := by omega
  have s2 : (2 : Int) < (s.size : Int) := by omega
  have s3 : (3 : Int) < (s.size : Int) := by omega
  have N0 : 0 < s.size := by omega
  have N1 : 1 < s.size := by omega
  have N2 : 2 < s.size := by omega
  have N3 : 3 < s.size := by omega
  have hq := take3 s h
  rw [hm] at hq
  simp only [List.cons.injEq, and_true] at hq
  obtain ⟨q0, q1, q2⟩ := hq
  have e0 : (s[0]'N0).toNat = 71 := by omega
  have e1 : (s[1]'N1).toNat = 82 := by omega
  have e2 : (s[2]'N2).toNat = 1 := by omega
  clear q0 q1 q2 hm
  obtain ⟨kk, e3, hke, hk1, hk2⟩ := Dec.kind_yes s h hk
  have k1 : ¬ (kk : Int) < 1 := by omega
  have k2 : ¬ (kk : Int) > 16 := by omega
  obtain ⟨nb0, nb1, nb2⟩ := numR_body s
  have KN := fun (w : World) => Lib.hid (show Calls Tryd.prog 47 #[.string s, .int .i64 16, .int .i64 4] w (fun e w' => e = .returned (.int .i64 (bodyN (bytesOf s))) ∧ Drawn0 w w') by rw [← nb0]; exact rnumber_any s 16 4 w (by decide) (by omega) hsz)
  have hl : (s.size : Int) = 24 + bodyN (bytesOf s) := by omega
  have hby := byt_bytesOf s
  have hx1 := extract_head s (s.size - 4) (by omega)
  have hx2 := extract_tail s (s.size - 4) (by omega)
  have hS : bytesOf (strOfNums ((bytesOf s).take (s.size - 4))) = (bytesOf s).take (s.size - 4) := bytesOf_strOfNums _ (byt_take hby _)
  have KU := fun (w : World) => rsum_any (strOfNums ((bytesOf s).take (s.size - 4))) w (by rw [strOfNums_size, List.length_take]; omega)
  rw [hS] at KU
  have hq2 := str_eq2 (sumL ((bytesOf s).take (s.size - 4))) ((bytesOf s).drop (s.size - 4)) (byt_sumL _) (byt_drop hby _)
  rw [decide_eq_false (by exact hs)] at hq2
  have n1 : ((20 : Int) + bodyN (bytesOf s)).toNat = s.size - 4 := by omega
  have n2 : (0 : Int) ≤ 20 + bodyN (bytesOf s) := by omega
  have n3 : (20 : Int) + bodyN (bytesOf s) ≤ s.size := by omega
  have hs1 := fun wx => run_slice_string_h (P := Tryd.prog) wx 9 s Tryd.underlying9 .i64 ((20 : Int) + bodyN (bytesOf s)) n2 n3
  have hs2 := fun wx => run_slice_string_l (P := Tryd.prog) wx 9 s Tryd.underlying9 .i64 ((20 : Int) + bodyN (bytesOf s)) n2 n3
  rw [n1, hx1] at hs1
  rw [n1, hx2] at hs2
  generalize strOfNums ((bytesOf s).take (s.size - 4)) = S1 at KU hs1
  generalize strOfNums (sumL ((bytesOf s).take (s.size - 4))) = S2 at KU hq2
  generalize strOfNums ((bytesOf s).drop (s.size - 4)) = S3 at hs2 hq2
  generalize bodyN (bytesOf s) = n at KN nb1 nb2 hl n2 n3 hs1 hs2 hz hz2
  have hle : ¬ n > 4383 := by omega
  have hne : ((s.size : Int) != 24 + n) = false := by rw [hl]; simp
  have w1 : IntKind.i64.wrap (20 + n) = 20 + n := by rw [IntKind.wrap_i64]; omega
  have KU' := fun w => Lib.hid (KU w)
  clear hk hke nb0 hs hS hx1 hx2 KU hz hz2 n1
  have hwz : (w.alloc (.cells #[.int .i64 0, .int .i64 0, .int .i64 0, .int .i64 0, .int .i64 0, .int .i64 0, .int .i64 0, .int .i64 0, .int .i64 0, .string { data := #[] }, .string { data := #[] }] 24)).alloc (.cells #[.int .i64 0, .int .i64 0, .int .i64 0, .int .i64 0, .int .i64 0, .int .i64 0, .int .i64 0, .int .i64 0, .int .i64 0, .string { data := #[] }, .string { data := #[] }] 24) = (w.alloc (.cells (mL zeroM).toArray 24)).alloc (.cells (mL zeroM).toArray 24) := rfl
  have HT := Aside0.mk (Two.start w)
  have HWZ := Lib.hid hwz
  clear hwz
  go_enter Tryd.func17, Tryd.ntmps17
  go_upto_region 2 with fail
  rw [HWZ.out]
  clear HWZ
  generalize (w.alloc (.cells (mL zeroM).toArray 24)).alloc (.cells (mL zeroM).toArray 24) = wz at HT ⊢
  go_wp2_with fail
  refine (KN _).out.mono ?_
  rintro e w2 ⟨rfl, ⟨⟨n2, rfl⟩⟩⟩
  have HT2 := Aside0.mk (HT.out.drewN n2)
  clear KN HT
  go_wp2_with fail
  go_region_with ((go_at_call 43; refine (KU' _).out.mono ?_; rintro e w3 ⟨rfl, hb⟩; have HB3 := Aside0.mk hb; clear hb))
  all_goals
    have HT3 := Aside0.mk (HT2.out.below (W1 := w3) ⟨HB3.out.os, HB3.out.tape, HB3.out.output, HB3.out.size, HB3.out.block⟩)
    clear HB3 HT2 KU'
    have hrg := blk_range HT3.out.non.row
    have hth := blk_there HT3.out.res.row
    go_wp2_with (first | ((with_reducible refine gate_load (ty := 24) (x := .tmp 4) rfl ?_); refine wpList_load_mid rfl 24 (.tmp 4) rfl (w.heap.size + 1) 0 rfl (mL zeroM) _ hrg Tryd.underlying24 rfl infoM ?_) | ((with_reducible refine gate_store (ty := 24) (x := .tmp 2) (y := .tmp 59) rfl ?_); refine wpList_store_mid rfl 24 (.tmp 2) (.tmp 59) rfl w.heap.size 0 (mL zeroM).toArray rfl rfl hth infoM (mL_one zeroM) ?_))
    exact told_ret (k := 55) (m := zeroM) rfl rfl ⟨setCells_whole HT3.out.res.row rfl, by rw [setCells_size]; exact HT3.out.res.lt⟩ (below_setCells HT3.out.bel (Nat.le_refl _) _ _) rfl
end Go.Proofs.YtnifgokjagahfaaDoor.RefDec

/- The document's Decode, walked: behind the sum. -/
set_option linter.unusedVariables false
set_option linter.unusedSimpArgs false
namespace Go.Proofs.YtnifgokjagahfaaDoor.RefDec
open Go.RowKit Go.Proofs.YtnifgokjagahfaaDoorW.PrintWords Go.Proofs.YtnifgokjagahfaaDoorW.PrintLast Go.Proofs.YtnifgokjagahfaaDoorW.PrintMore
open Go.Proofs.YtnifgokjagahfaaDoor.Base Go.Proofs.YtnifgokjagahfaaDoor.Layouts Go.Proofs.YtnifgokjagahfaaDoor.Msg Go.Proofs.YtnifgokjagahfaaDoor.Put Go.Proofs.YtnifgokjagahfaaDoor.EncPure Go.Proofs.YtnifgokjagahfaaDoor.DecPure Go.Proofs.YtnifgokjagahfaaDoor.Enc Go.Proofs.YtnifgokjagahfaaDoor.Num Go.Proofs.YtnifgokjagahfaaDoor.PFrameDecodes Go.Proofs.YtnifgokjagahfaaDoor.RefF Go.Proofs.YtnifgokjagahfaaDoor.RefSum Go.Proofs.YtnifgokjagahfaaDoor.Mids
open Go.Proofs.YtnifgokjagahfaaDoor.Dec (mL_one str_eq str_eq2)
theorem Two.setCells {w W : World} (h : Two w W) {g : Nat} (hg : w.heap.size + 1 < g) (vs : List Value) : Two w (W.setCells g 0 vs) :=
  ⟨⟨(setCells_other g (by omega) _ _ _).trans h.res.row, by rw [setCells_size]; exact h.res.lt⟩, ⟨(setCells_other g (by omega) _ _ _).trans h.non.row, by rw [setCells_size]; exact h.non.lt⟩, below_setCells h.bel (by omega) _ _⟩
theorem rtab_setCells {W : World} (h : RTab W) {g : Nat} (hg : 1 ≠ g) (vs : List Value) : RTab (W.setCells g 0 vs) :=
  ⟨fun i hi => (World.cell?_of_block (setCells_other g hg _ _ _)).trans (h.cell i hi), by rw [setCells_size]; exact h.lt⟩
theorem str_same (a b : ByteArray) : (a.toList == b.toList) = decide (bytesOf a = bytesOf b) := by
  have h := str_eq2 (bytesOf a) (bytesOf b) (byt_bytesOf a) (byt_bytesOf b)
  rwa [strOfNums_bytesOf, strOfNums_bytesOf] at h
def SmallM (m : M) (N : Nat) : Prop := m.key.size ≤ N ∧ m.value.size ≤ N
theorem small_step (L : List Int) (st : M × Nat) (f : Nat) (h : SmallM st.1 L.length) : SmallM (stepR L st f).1 L.length := by
  have hp : ∀ a n, (strOfNums (pieceR L a n)).size ≤ L.length := by
    intro a n
    rw [strOfNums_size]
    unfold pieceR
    rw [List.length_take, List.length_drop]
    omega
  unfold stepR
  split
  · simp only
    unfold setNum SmallM
    split <;> exact h
  · split
    · exact h
    · simp only
      unfold setText SmallM
      split
      · exact ⟨hp _ _, h.2⟩
      · exact ⟨h.1, hp _ _⟩
theorem small_read (L : List Int) : SmallM (readR L) L.length := by
  have : ∀ (fs : List Nat) (st : M × Nat), SmallM st.1 L.length → SmallM (fs.foldl (stepR L) st).1 L.length := by
    intro fs
    induction fs with
    | nil => intro st h; exact h
    | cons f fs ih => intro st h; exact ih _ (small_step L st f h)
  exact this _ _ ⟨Nat.zero_le _, Nat.zero_le _⟩
def BodyR (L : List Int) (w : World) (e : Ending) (w' : World) : Prop := if (encP (readR L)).2 ≠ 0 ∨ bytesOf (encP (readR L)).1 ≠ L then Told zeroM 56 w e w' else Told (readR L) 0 w e w'
set_option maxRecDepth 100000 in
set_option maxHeartbeats 16000000 in
theorem rdec_body (s : ByteArray) (w : World) (h : 24 ≤ s.size) (hsz : s.size ≤ 9223372036854775807) (hm : (bytesOf s).take 3 = [71, 82, 1]) (hk : 1 ≤ kindL (bytesOf s) ∧ kindL (bytesOf s) < 17) (hz : bodyN (bytesOf s) ≤ 4383) (hz2 : 24 + bodyN (bytesOf s) = (s.size : Int))
    (hs : sumL ((bytesOf s).take (s.size - 4)) = (bytesOf s).drop (s.size - 4)) (hR : RTab w) : Calls Tryd.prog 17 #[.string s] w (BodyR (bytesOf s) w) := by
  have HRT := Aside0.mk hR
  have KR := fun (w : World) hR => Lib.hid (rread_any s w h hsz hk hR)
  have hsm := small_read (bytesOf s)
  have hle2 : (bytesOf s).length ≤ 9223372036854775807 := by rw [bytesOf_length]; exact hsz
  have hBT : (encP (readR (bytesOf s))).2 ≠ 0 ∨ bytesOf (encP (readR (bytesOf s))).1 ≠ bytesOf s → BodyR (bytesOf s) w = Told zeroM 56 w := fun hc => by
    funext e w'
    unfold BodyR
    rw [if_pos hc]
  have hBF : ¬ ((encP (readR (bytesOf s))).2 ≠ 0 ∨ bytesOf (encP (readR (bytesOf s))).1 ≠ bytesOf s) → BodyR (bytesOf s) w = Told (readR (bytesOf s)) 0 w := fun hc => by
    funext e w'
    unfold BodyR
    rw [if_neg hc]
  have KE := fun (w : World) hR => Lib.hid (renc_any (readR (bytesOf s)) w hR ⟨Nat.le_trans hsm.1 hle2, Nat.le_trans hsm.2 hle2⟩)
  have hqe := str_same (encP (readR (bytesOf s))).1 s
  generalize BodyR (bytesOf s) w = post at hBT hBF ⊢
  generalize readR (bytesOf s) = mr at KR KE hqe hBT hBF hsm
  generalize encP mr = er at KE hqe hBT hBF
  obtain ⟨E1, E2⟩ := er
  simp only at KE hqe hBT hBF
  have HQE := Lib.hid hqe
  have HBT := Aside0.mk hBT
  have HBF := Aside0.mk hBF
  clear hR hsm hle2 hBT hBF hqe
  have h' : ¬ (s.size : Int) < 24 := by omega
  have s0 : (0 : Int) < (s.size : Int) := by omega
  have s1 : (1 : Int) < (s.size : Int) := by omega
  have s2 : (2 : Int) < (s.size : Int) := by omega
  have s3 : (3 : Int) < (s.size : Int) := by omega
  have N0 : 0 < s.size := by omega
  have N1 : 1 < s.size := by omega
  have N2 : 2 < s.size := by omega
  have N3 : 3 < s.size := by omega
  have hq := take3 s h
  rw [hm] at hq
  simp only [List.cons.injEq, and_true] at hq
  obtain ⟨q0, q1, q2⟩ := hq
  have e0 : (s[0]'N0).toNat = 71 := by omega
  have e1 : (s[1]'N1).toNat = 82 := by omega
  have e2 : (s[2]'N2).toNat = 1 := by omega
  clear q0 q1 q2 hm
  obtain ⟨kk, e3, hke, hk1, hk2⟩ := Dec.kind_yes s h hk
  have k1 : ¬ (kk : Int) < 1 := by omega
  have k2 : ¬ (kk : Int) > 16 := by omega
  obtain ⟨nb0, nb1, nb2⟩ := numR_body s
  have KN := fun (w : World) => Lib.hid (show Calls Tryd.prog 47 #[.string s, .int .i64 16, .int .i64 4] w (fun e w' => e = .returned (.int .i64 (bodyN (bytesOf s))) ∧ Drawn0 w w') by rw [← nb0]; exact rnumber_any s 16 4 w (by decide) (by omega) hsz)
  have hl : (s.size : Int) = 24 + bodyN (bytesOf s) := by omega
  have hby := byt_bytesOf s
  have hx1 := extract_head s (s.size - 4) (by omega)
  have hx2 := extract_tail s (s.size - 4) (by omega)
  have hS : bytesOf (strOfNums ((bytesOf s).take (s.size - 4))) = (bytesOf s).take (s.size - 4) := bytesOf_strOfNums _ (byt_take hby _)
  have KU := fun (w : World) => rsum_any (strOfNums ((bytesOf s).take (s.size - 4))) w (by rw [strOfNums_size, List.length_take]; omega)
  rw [hS] at KU
  have hq2 := str_eq2 (sumL ((bytesOf s).take (s.size - 4))) ((bytesOf s).drop (s.size - 4)) (byt_sumL _) (byt_drop hby _)
  rw [decide_eq_true (by exact hs)] at hq2
  have n1 : ((20 : Int) + bodyN (bytesOf s)).toNat = s.size - 4 := by omega
  have n2 : (0 : Int) ≤ 20 + bodyN (bytesOf s) := by omega
  have n3 : (20 : Int) + bodyN (bytesOf s) ≤ s.size := by omega
  have hs1 := fun wx => run_slice_string_h (P := Tryd.prog) wx 9 s Tryd.underlying9 .i64 ((20 : Int) + bodyN (bytesOf s)) n2 n3
  have hs2 := fun wx => run_slice_string_l (P := Tryd.prog) wx 9 s Tryd.underlying9 .i64 ((20 : Int) + bodyN (bytesOf s)) n2 n3
  rw [n1, hx1] at hs1
  rw [n1, hx2] at hs2
  generalize strOfNums ((bytesOf s).take (s.size - 4)) = S1 at KU hs1
  generalize strOfNums (sumL ((bytesOf s).take (s.size - 4))) = S2 at KU hq2
  generalize strOfNums ((bytesOf s).drop (s.size - 4)) = S3 at hs2 hq2
  generalize bodyN (bytesOf s) = n at KN nb1 nb2 hl n2 n3 hs1 hs2 hz hz2
  have hle : ¬ n > 4383 := by omega
  have hne : ((s.size : Int) != 24 + n) = false := by rw [hl]; simp
  have w1 : IntKind.i64.wrap (20 + n) = 20 + n := by rw [IntKind.wrap_i64]; omega
  have KU' := fun w => Lib.hid (KU w)
  clear hke nb0 hs hS hx1 hx2 KU hz hz2 n1
  have hwz : (w.alloc (.cells #[.int .i64 0, .int .i64 0, .int .i64 0, .int .i64 0, .int .i64 0, .int .i64 0, .int .i64 0, .int .i64 0, .int .i64 0, .string { data := #[] }, .string { data := #[] }] 24)).alloc (.cells #[.int .i64 0, .int .i64 0, .int .i64 0, .int .i64 0, .int .i64 0, .int .i64 0, .int .i64 0, .int .i64 0, .int .i64 0, .string { data := #[] }, .string { data := #[] }] 24) = (w.alloc (.cells (mL zeroM).toArray 24)).alloc (.cells (mL zeroM).toArray 24) := rfl
  have HT := Aside0.mk (Two.start w)
  have HWZ := Lib.hid hwz
  clear hwz
  go_enter Tryd.func17, Tryd.ntmps17
  go_upto_region 2 with fail
  rw [HWZ.out]
  clear HWZ
  generalize (w.alloc (.cells (mL zeroM).toArray 24)).alloc (.cells (mL zeroM).toArray 24) = wz at HT ⊢
  go_wp2_with fail
  refine (KN _).out.mono ?_
  rintro e w2 ⟨rfl, ⟨⟨n2, rfl⟩⟩⟩
  have HT2 := Aside0.mk (HT.out.drewN n2)
  clear KN HT
  go_upto_region 11 with fail
  go_cut [58] (fun v wx => v = .bool false ∧ Aside0 (Two w wx))
  case first =>
    go_region_with ((go_at_call 43; refine (KU' _).out.mono ?_; rintro e w3 ⟨rfl, hb⟩; have HB3 := Aside0.mk hb; clear hb))
    all_goals
      have HT3 := HT2.out.below (W1 := w3) ⟨HB3.out.os, HB3.out.tape, HB3.out.output, HB3.out.size, HB3.out.block⟩
      go_wp2_with fail
      go_meet
      exact ⟨rfl, ⟨HT3.drewN 0⟩⟩
  case rest =>
    obtain ⟨rfl, HT3⟩ := hcut
    clear HT2 KU'
    have HR3 := Aside0.mk (HRT.out.below HT3.out.bel)
    go_wp2_with fail
    refine (KR _ HR3.out).out.mono ?_
    rintro e w4 ⟨rfl, hb⟩
    have HT4 := Aside0.mk (HT3.out.below hb)
    have HR4 := Aside0.mk (HR3.out.below hb)
    clear hb HT3 HR3 KR
    have hnew : (w4.alloc (.cells #[.int .i64 0, .int .i64 0, .int .i64 0, .int .i64 0, .int .i64 0, .int .i64 0, .int .i64 0, .int .i64 0, .int .i64 0, .string { data := #[] }, .string { data := #[] }] 24)).heap[w4.heap.size]? = some (.cells (mL zeroM).toArray 24 (0, 0)) := Go.heap_alloc_new w4 _
    have hth := blk_there hnew
    have HT5 := Aside0.mk (HT4.out.below ((Below.refl w4.heap.size w4).alloc (Nat.le_refl _) (.cells #[.int .i64 0, .int .i64 0, .int .i64 0, .int .i64 0, .int .i64 0, .int .i64 0, .int .i64 0, .int .i64 0, .int .i64 0, .string { data := #[] }, .string { data := #[] }] 24)))
    have HR5 := Aside0.mk (HR4.out.below ((Below.refl w4.heap.size w4).alloc (Nat.le_refl _) (.cells #[.int .i64 0, .int .i64 0, .int .i64 0, .int .i64 0, .int .i64 0, .int .i64 0, .int .i64 0, .int .i64 0, .int .i64 0, .string { data := #[] }, .string { data := #[] }] 24)))
    go_upto_region 14 with ((with_reducible refine gate_store (ty := 24) (x := .tmp 6) (y := .tmp 61) rfl ?_); refine wpList_store_mid rfl 24 (.tmp 6) (.tmp 61) rfl w4.heap.size 0 (mL mr).toArray rfl rfl hth infoM (mL_one mr) ?_)
    have HM5 : Aside0 (MBox ((w4.alloc (.cells #[.int .i64 0, .int .i64 0, .int .i64 0, .int .i64 0, .int .i64 0, .int .i64 0, .int .i64 0, .int .i64 0, .int .i64 0, .string { data := #[] }, .string { data := #[] }] 24)).setCells w4.heap.size 0 (mL mr)) w4.heap.size mr) := ⟨⟨setCells_whole hnew rfl, by rw [setCells_size]; simp⟩⟩
    have HT6 := Aside0.mk (HT5.out.setCells (g := w4.heap.size) HT4.out.non.lt (mL mr))
    have HR6 := Aside0.mk (rtab_setCells HR5.out (g := w4.heap.size) (by have := HR4.out.lt; omega) (mL mr))
    have HGL := Aside0.mk HT4.out.non.lt
    clear hnew hth HT5 HR5 HT4 HR4
    generalize hw5 : ((w4.alloc (.cells #[.int .i64 0, .int .i64 0, .int .i64 0, .int .i64 0, .int .i64 0, .int .i64 0, .int .i64 0, .int .i64 0, .int .i64 0, .string { data := #[] }, .string { data := #[] }] 24)).setCells w4.heap.size 0 (mL mr)) = w5 at HM5 HT6 HR6 ⊢
    generalize w4.heap.size = g6 at HM5 HGL hw5 ⊢
    clear hw5
    have hrg := blk_range HM5.out.row
    go_wp2_with ((with_reducible refine gate_load (ty := 24) (x := .tmp 6) rfl ?_); refine wpList_load_mid rfl 24 (.tmp 6) rfl g6 0 rfl (mL mr) _ hrg Tryd.underlying24 rfl infoM ?_)
    refine (KE _ HR6.out).out.mono ?_
    rintro e w7 ⟨rfl, hb⟩
    have HM7 := Aside0.mk (HM5.out.below hb HM5.out.lt)
    have HT7 := Aside0.mk (HT6.out.below hb)
    clear hb hrg KE HM5 HT6 HR6
    by_cases c1 : E2 = 0
    · subst c1
      by_cases c2 : bytesOf E1 = bytesOf s
      · have hq : (E1.toList == s.toList) = true := by rw [HQE.out]; exact decide_eq_true c2
        have HC : Aside0 (¬ ((0 : Int) ≠ 0 ∨ bytesOf E1 ≠ bytesOf s)) := ⟨by simp [c2]⟩
        clear c2
        have hrg := blk_range HM7.out.row
        have hth := blk_there HT7.out.res.row
        go_wp2_with (first | ((with_reducible refine gate_load (ty := 24) (x := .tmp 6) rfl ?_); refine wpList_load_mid rfl 24 (.tmp 6) rfl g6 0 rfl (mL mr) _ hrg Tryd.underlying24 rfl infoM ?_) | ((with_reducible refine gate_store (ty := 24) (x := .tmp 2) (y := .tmp 75) rfl ?_); refine wpList_store_mid rfl 24 (.tmp 2) (.tmp 75) rfl w.heap.size 0 (mL mr).toArray rfl rfl hth infoM (mL_one mr) ?_))
        rw [HBF.out HC.out]
        exact told_ret (k := 0) (m := mr) rfl rfl ⟨setCells_whole HT7.out.res.row rfl, by rw [setCells_size]; exact HT7.out.res.lt⟩ (below_setCells HT7.out.bel (Nat.le_refl _) _ _) rfl
      · have hq : (E1.toList == s.toList) = false := by rw [HQE.out]; exact decide_eq_false c2
        have HC : Aside0 ((0 : Int) ≠ 0 ∨ bytesOf E1 ≠ bytesOf s) := ⟨.inr c2⟩
        clear c2
        have hrg := blk_range HT7.out.non.row
        have hth := blk_there HT7.out.res.row
        go_wp2_with (first | ((with_reducible refine gate_load (ty := 24) (x := .tmp 4) rfl ?_); refine wpList_load_mid rfl 24 (.tmp 4) rfl (w.heap.size + 1) 0 rfl (mL zeroM) _ hrg Tryd.underlying24 rfl infoM ?_) | ((with_reducible refine gate_store (ty := 24) (x := .tmp 2) (y := .tmp 74) rfl ?_); refine wpList_store_mid rfl 24 (.tmp 2) (.tmp 74) rfl w.heap.size 0 (mL zeroM).toArray rfl rfl hth infoM (mL_one zeroM) ?_))
        rw [HBT.out HC.out]
        exact told_ret (k := 56) (m := zeroM) rfl rfl ⟨setCells_whole HT7.out.res.row rfl, by rw [setCells_size]; exact HT7.out.res.lt⟩ (below_setCells HT7.out.bel (Nat.le_refl _) _ _) rfl
    · have hq : (E2 != 0) = true := bne_iff_ne.2 c1
      have HC : Aside0 (E2 ≠ 0 ∨ bytesOf E1 ≠ bytesOf s) := ⟨.inl c1⟩
      clear c1
      have hrg := blk_range HT7.out.non.row
      have hth := blk_there HT7.out.res.row
      go_wp2_with (first | ((with_reducible refine gate_load (ty := 24) (x := .tmp 4) rfl ?_); refine wpList_load_mid rfl 24 (.tmp 4) rfl (w.heap.size + 1) 0 rfl (mL zeroM) _ hrg Tryd.underlying24 rfl infoM ?_) | ((with_reducible refine gate_store (ty := 24) (x := .tmp 2) (y := .tmp 74) rfl ?_); refine wpList_store_mid rfl 24 (.tmp 2) (.tmp 74) rfl w.heap.size 0 (mL zeroM).toArray rfl rfl hth infoM (mL_one zeroM) ?_))
      rw [HBT.out HC.out]
      exact told_ret (k := 56) (m := zeroM) rfl rfl ⟨setCells_whole HT7.out.res.row rfl, by rw [setCells_size]; exact HT7.out.res.lt⟩ (below_setCells HT7.out.bel (Nat.le_refl _) _ _) rfl
theorem rdec_any (s : ByteArray) (w : World) (hsz : s.size ≤ 9223372036854775807) (hR : RTab w) : Calls Tryd.prog 17 #[.string s] w fun e w' => e = .returned (.tuple #[.agg (mL (decP (bytesOf s)).1).toArray, .int .i64 (decP (bytesOf s)).2]) ∧ Below w.heap.size w w' := by
  have hlen : (bytesOf s).length = s.size := bytesOf_length s
  rw [← dec_same (bytesOf s) (byt_bytesOf s)]
  by_cases c1 : s.size < 24
  · have e : decR (bytesOf s) = (zeroM, 51) := by unfold decR; rw [if_pos (by omega)]
    rw [e]; exact rdec_short s w c1
  by_cases c2 : (bytesOf s).take 3 = [71, 82, 1]
  case neg =>
    have e : decR (bytesOf s) = (zeroM, 52) := by unfold decR; rw [if_neg (by omega), if_pos c2]
    rw [e]; exact rdec_magic s w (by omega) c2
  by_cases c3 : 1 ≤ kindL (bytesOf s) ∧ kindL (bytesOf s) < 17
  case neg =>
    have e : decR (bytesOf s) = (zeroM, 53) := by unfold decR; rw [if_neg (by omega), if_neg (by simp [c2]), if_pos c3]
    rw [e]; exact rdec_kind s w (by omega) c2 c3
  have c3' : ¬ ¬ (1 ≤ kindL (bytesOf s) ∧ kindL (bytesOf s) < 17) := fun h => h c3
  by_cases c4 : 4383 < bodyN (bytesOf s) ∨ 24 + bodyN (bytesOf s) ≠ (bytesOf s).length
  · have e : decR (bytesOf s) = (zeroM, 54) := by unfold decR; rw [if_neg (by omega), if_neg (by simp [c2]), if_neg c3', if_pos c4]
    rw [e]
    exact rdec_length s w (by omega) hsz c2 c3 (by rw [hlen] at c4; exact c4)
  have c4' := c4
  simp only [not_or, Int.not_lt, ne_eq, Decidable.not_not] at c4'
  by_cases c5 : sumL ((bytesOf s).take (s.size - 4)) = (bytesOf s).drop (s.size - 4)
  case neg =>
    have e : decR (bytesOf s) = (zeroM, 55) := by unfold decR; rw [if_neg (by omega), if_neg (by simp [c2]), if_neg c3', if_neg c4, hlen, if_pos c5]
    rw [e]; exact rdec_sum s w (by omega) hsz c2 c3 c4'.1 (by rw [← hlen]; exact c4'.2) c5
  refine (rdec_body s w (by omega) hsz c2 c3 c4'.1 (by rw [← hlen]; exact c4'.2) c5 hR).mono ?_
  intro e w' h
  unfold BodyR at h
  unfold decR
  rw [if_neg (by omega), if_neg (by simp [c2]), if_neg c3', if_neg c4, hlen, if_neg (fun h => h c5)]
  split at h
  · rename_i hc
    rw [if_pos hc]; exact h
  · rename_i hc
    rw [if_neg hc]; exact h
end Go.Proofs.YtnifgokjagahfaaDoor.RefDec

/- == of messages. -/
set_option linter.unusedVariables false
set_option linter.unusedSimpArgs false
namespace Go.Proofs.YtnifgokjagahfaaDoor.EqM
open Go.RowKit Go.Proofs.YtnifgokjagahfaaDoorW.PrintWords Go.Proofs.YtnifgokjagahfaaDoorW.PrintLast Go.Proofs.YtnifgokjagahfaaDoorW.PrintMore
open Go.Proofs.YtnifgokjagahfaaDoor.Base Go.Proofs.YtnifgokjagahfaaDoor.Layouts Go.Proofs.YtnifgokjagahfaaDoor.Msg
def bM (a b : M) : Bool := a.kind == b.kind && (a.from_ == b.from_ && (a.to_ == b.to_ && (a.id == b.id && (a.epoch == b.epoch && (a.seq == b.seq && (a.version == b.version && (a.prev == b.prev && (a.code == b.code && (a.key.toList == b.key.toList && ((a.value.toList == b.value.toList)))))))))))
theorem bM_iff (a b : M) : bM a b = true ↔ a = b := by
  have hs : ∀ x y : ByteArray, (x.toList == y.toList) = true ↔ x = y := by
    intro x y
    rw [beq_iff_eq, ByteArray.toList_eq, ByteArray.toList_eq]
    constructor
    · intro h
      apply ByteArray.ext
      exact Array.ext' h
    · rintro rfl; rfl
  unfold bM
  simp only [Bool.and_eq_true, beq_iff_eq]
  have hk := hs a.key b.key
  have hv := hs a.value b.value
  rw [beq_iff_eq] at hk hv
  rw [hk, hv]
  cases a; cases b
  simp
set_option maxHeartbeats 4000000 in
theorem eqA (d : Nat) (w : World) (a b : M) : (Op.equalIn (d + 2) 24 (.agg (mL a).toArray) (.agg (mL b).toArray)).run Tryd.prog w = .ok (bM a b) w := by
  unfold mL bM
  refine eqA_of Tryd.underlying24 (by kernel_rfl) ?_
  refine eqf_cons (by rfl) (by go_simp; rfl) (by go_simp; rfl) (by go_simp) ?_
  refine eqf_cons (by rfl) (by go_simp; rfl) (by go_simp; rfl) (by go_simp) ?_
  refine eqf_cons (by rfl) (by go_simp; rfl) (by go_simp; rfl) (by go_simp) ?_
  refine eqf_cons (by rfl) (by go_simp; rfl) (by go_simp; rfl) (by go_simp) ?_
  refine eqf_cons (by rfl) (by go_simp; rfl) (by go_simp; rfl) (by go_simp) ?_
  refine eqf_cons (by rfl) (by go_simp; rfl) (by go_simp; rfl) (by go_simp) ?_
  refine eqf_cons (by rfl) (by go_simp; rfl) (by go_simp; rfl) (by go_simp) ?_
  refine eqf_cons (by rfl) (by go_simp; rfl) (by go_simp; rfl) (by go_simp) ?_
  refine eqf_cons (by rfl) (by go_simp; rfl) (by go_simp; rfl) (by go_simp) ?_
  refine eqf_cons (by rfl) (by go_simp; rfl) (by go_simp; rfl) (by go_simp) ?_
  exact eqf_last (by rfl) (by go_simp; rfl) (by go_simp; rfl) (by go_simp)
theorem eqM (w : World) (a b : M) : (binOp .eql 24 (.agg (mL a).toArray) (.agg (mL b).toArray)).run Tryd.prog w = .ok (.bool (bM a b)) w := by
  rw [run_eql_struct, eqA 9998 w a b]
  rfl
theorem neM (w : World) (a b : M) : (binOp .neq 24 (.agg (mL a).toArray) (.agg (mL b).toArray)).run Tryd.prog w = .ok (.bool (!bM a b)) w := by
  rw [run_neq_struct, eqA 9998 w a b]
  rfl
theorem bM_same (a : M) : bM a a = true := (bM_iff a a).2 rfl
end Go.Proofs.YtnifgokjagahfaaDoor.EqM

/- FrameDecodes: the program's Decode and the document's answer alike. -/
set_option linter.unusedVariables false
set_option linter.unusedSimpArgs false
namespace Go.Proofs.YtnifgokjagahfaaDoor.LawDec
open Go.RowKit Go.Proofs.YtnifgokjagahfaaDoorW.PrintWords Go.Proofs.YtnifgokjagahfaaDoorW.PrintLast Go.Proofs.YtnifgokjagahfaaDoorW.PrintMore
open Go.Proofs.YtnifgokjagahfaaDoor.Base Go.Proofs.YtnifgokjagahfaaDoor.App Go.Proofs.YtnifgokjagahfaaDoor.Layouts Go.Proofs.YtnifgokjagahfaaDoor.Msg Go.Proofs.YtnifgokjagahfaaDoor.Put Go.Proofs.YtnifgokjagahfaaDoor.EncPure Go.Proofs.YtnifgokjagahfaaDoor.DecPure Go.Proofs.YtnifgokjagahfaaDoor.RefSum Go.Proofs.YtnifgokjagahfaaDoor.Mids Go.Proofs.YtnifgokjagahfaaDoor.Enc Go.Proofs.YtnifgokjagahfaaDoor.RefF Go.Proofs.YtnifgokjagahfaaDoor.RefDec Go.Proofs.YtnifgokjagahfaaDoor.EqM
open Go.Proofs.YtnifgokjagahfaaDoor.Dec (mL_one)
attribute [local go_sem high] eqA
def pingM : M := ⟨1, 64, 3, 1, 0, 0, 0, 0, 0, ByteArray.empty, ByteArray.empty⟩
theorem ping_valid : vB pingM = true := by decide
theorem ping_kind : 1 ≤ pingM.kind ∧ pingM.kind < 17 := by decide
theorem zeros_new (W : World) (m : M) : MBox ((W.alloc (.cells #[.int .i64 0, .int .i64 0, .int .i64 0, .int .i64 0, .int .i64 0, .int .i64 0, .int .i64 0, .int .i64 0, .int .i64 0, .string { data := #[] }, .string { data := #[] }] 24)).setCells W.heap.size 0 (mL m)) W.heap.size m :=
  ⟨setCells_whole (old := mL zeroM) (Go.heap_alloc_new W _) rfl, by rw [setCells_size]; simp⟩
theorem zeros_there (W : World) : (W.alloc (.cells #[.int .i64 0, .int .i64 0, .int .i64 0, .int .i64 0, .int .i64 0, .int .i64 0, .int .i64 0, .int .i64 0, .int .i64 0, .string { data := #[] }, .string { data := #[] }] 24)).there W.heap.size 0 11 :=
  blk_there (cs := mL zeroM) (Go.heap_alloc_new W _)
theorem zeros_below (W : World) (m : M) : Below W.heap.size W ((W.alloc (.cells #[.int .i64 0, .int .i64 0, .int .i64 0, .int .i64 0, .int .i64 0, .int .i64 0, .int .i64 0, .int .i64 0, .int .i64 0, .string { data := #[] }, .string { data := #[] }] 24)).setCells W.heap.size 0 (mL m)) :=
  below_setCells ((Below.refl _ _).alloc (Nat.le_refl _) _) (Nat.le_refl _) _ _
set_option maxRecDepth 100000 in
set_option maxHeartbeats 8000000 in
theorem law_decodes (s : ByteArray) (w : World) (hsz : s.size ≤ 9223372036854775807) (hN : Crc.Nibs w) (hR : RTab w) : Calls Tryd.prog 4 #[.string s] w fun e w' => e = .returned (.bool true) ∧ Below w.heap.size w w' := by
  have HN := Aside0.mk hN
  have HR := Aside0.mk hR
  have hk1 := renc_any pingM w hR ⟨by decide, by decide⟩
  rw [encP_of pingM ping_kind ping_valid] at hk1
  have K1 := Lib.hid (show Calls Tryd.prog 14 #[.agg #[.int .i64 1, .int .i64 64, .int .i64 3, .int .i64 1, .int .i64 0, .int .i64 0, .int .i64 0, .int .i64 0, .int .i64 0, .string { data := #[] }, .string { data := #[] }]] w _ from hk1)
  have K2 : ∀ (w : World), Crc.Nibs w → Hid (Calls Tryd.prog 16 #[.string (strOfNums (whole pingM))] w fun e w' => e = .returned (.tuple #[.agg #[.int .i64 1, .int .i64 64, .int .i64 3, .int .i64 1, .int .i64 0, .int .i64 0, .int .i64 0, .int .i64 0, .int .i64 0, .string { data := #[] }, .string { data := #[] }], .int .i64 0]) ∧ Below w.heap.size w w') := by
    intro w hN
    have h := Dec.dec_any (strOfNums (whole pingM)) w (by rw [strOfNums_size, whole_length]; decide) hN
    rw [bytesOf_strOfNums _ (byt_whole _ ping_kind), dec_whole pingM ping_valid ping_kind] at h
    exact Lib.hid h
  have K3 := fun (w : World) hN => Lib.hid (Dec.dec_any s w hsz hN)
  have K4 := fun (w : World) hR => Lib.hid (rdec_any s w hsz hR)
  generalize decP (bytesOf s) = r at K3 K4
  obtain ⟨ma, k⟩ := r
  simp only at K3 K4
  generalize strOfNums (whole pingM) = PS at K1 K2
  have HB0 := Aside0.mk (Below.refl w.heap.size w)
  clear hN hR hk1
  go_enter Tryd.func4, Tryd.ntmps4
  go_wp2_with fail
  refine K1.out.mono ?_
  rintro e w1 ⟨rfl, hb⟩
  have HB1 := Aside0.mk hb
  clear hb
  go_wp2_with fail
  refine (K2 w1 (HN.out.below HB1.out)).out.mono ?_
  rintro e w2 ⟨rfl, hb⟩
  have HB2 := Aside0.mk ((HB1.out.trans (hb.mono HB1.out.size)).alloc (by have := HB1.out.size; have := hb.size; omega) (.cells #[.int .i64 1, .int .i64 64, .int .i64 3, .int .i64 1, .int .i64 0, .int .i64 0, .int .i64 0, .int .i64 0, .int .i64 0, .string { data := #[] }, .string { data := #[] }] 24))
  clear hb K1 K2
  go_wp2_with (go_at_call 15; refine (num_any _ _).mono ?_; rintro e w' ⟨rfl, rfl⟩)
  refine (K3 _ (HN.out.below HB2.out)).out.mono ?_
  rintro e w3 ⟨rfl, hb⟩
  have HB3 := Aside0.mk (HB2.out.trans (hb.mono HB2.out.size))
  clear hb K3 HB2 HB1
  have hth := zeros_there w3
  have HM4 := Aside0.mk (zeros_new w3 ma)
  have HB4 := Aside0.mk (HB3.out.trans ((zeros_below w3 ma).mono HB3.out.size))
  go_upto_region 6 with ((with_reducible refine gate_store (ty := 24) (x := .tmp 7) (y := .tmp 47) rfl ?_); refine wpList_store_mid rfl 24 (.tmp 7) (.tmp 47) rfl w3.heap.size 0 (mL ma).toArray rfl rfl hth infoM (mL_one ma) ?_)
  clear hth HB3
  generalize hw4 : (w3.alloc (.cells #[.int .i64 0, .int .i64 0, .int .i64 0, .int .i64 0, .int .i64 0, .int .i64 0, .int .i64 0, .int .i64 0, .int .i64 0, .string { data := #[] }, .string { data := #[] }] 24)).setCells w3.heap.size 0 (mL ma) = w4 at HM4 HB4 ⊢
  generalize w3.heap.size = g4 at HM4 hw4 ⊢
  clear hw4
  go_wp2_with fail
  refine (K4 _ (HR.out.below HB4.out)).out.mono ?_
  rintro e w5 ⟨rfl, hb⟩
  have HM5 := Aside0.mk (HM4.out.below hb HM4.out.lt)
  have HB5 := Aside0.mk (HB4.out.trans (hb.mono HB4.out.size))
  clear hb K4 HB4 HM4
  have hth := zeros_there w5
  have HM6 := Aside0.mk (zeros_new w5 ma)
  have HM7 := Aside0.mk (HM5.out.below (zeros_below w5 ma) HM5.out.lt)
  have HB6 := Aside0.mk (HB5.out.trans ((zeros_below w5 ma).mono HB5.out.size))
  go_upto_region 7 with ((with_reducible refine gate_store (ty := 24) (x := .tmp 9) (y := .tmp 52) rfl ?_); refine wpList_store_mid rfl 24 (.tmp 9) (.tmp 52) rfl w5.heap.size 0 (mL ma).toArray rfl rfl hth infoM (mL_one ma) ?_)
  clear hth HB5 HM5
  generalize hw6 : (w5.alloc (.cells #[.int .i64 0, .int .i64 0, .int .i64 0, .int .i64 0, .int .i64 0, .int .i64 0, .int .i64 0, .int .i64 0, .int .i64 0, .string { data := #[] }, .string { data := #[] }] 24)).setCells w5.heap.size 0 (mL ma) = w6 at HM6 HM7 HB6 ⊢
  generalize w5.heap.size = g6 at HM6 hw6 ⊢
  clear hw6
  have hrg4 := blk_range HM7.out.row
  have hrg6 := blk_range HM6.out.row
  have heq := bM_same ma
  go_wp2_with (first | ((with_reducible refine gate_load (ty := 24) (x := .tmp 7) rfl ?_); refine wpList_load_mid rfl 24 (.tmp 7) rfl g4 0 rfl (mL ma) _ hrg4 Tryd.underlying24 rfl infoM ?_) | ((with_reducible refine gate_load (ty := 24) (x := .tmp 9) rfl ?_); refine wpList_load_mid rfl 24 (.tmp 9) rfl g6 0 rfl (mL ma) _ hrg6 Tryd.underlying24 rfl infoM ?_))
  refine (num_any _ _).mono ?_
  rintro e w' ⟨rfl, rfl⟩
  go_wp2
  go_ret
  exact ⟨rfl, HB6.out⟩
end Go.Proofs.YtnifgokjagahfaaDoor.LawDec

/- Plain arithmetic: bits changed within 32 neighbouring ones change the CRC. -/
namespace Go.Proofs.YtnifgokjagahfaaDoor.CrcPure
/-- a text as a number, the first byte lowest -/
def le : List UInt8 → Nat
  | [] => 0
  | c :: l => c.toNat + 256 * le l
theorem add_xor {n a b : Nat} (h : a < 2 ^ n) : a + 2 ^ n * b = a ^^^ 2 ^ n * b := by
  have e := split_low n (a + 2 ^ n * b)
  have e1 : (a + 2 ^ n * b) / 2 ^ n = b := by
    rw [Nat.add_mul_div_left _ _ (Nat.two_pow_pos n), Nat.div_eq_of_lt h, Nat.zero_add]
  have e2 : (a + 2 ^ n * b) % 2 ^ n = a := by
    rw [Nat.add_mul_mod_self_left, Nat.mod_eq_of_lt h]
  rw [e1, e2, Nat.xor_comm] at e
  exact e
theorem run_le (l : List UInt8) : ∀ w, run w l = steps (8 * l.length) (w ^^^ le l) := by
  induction l with
  | nil => intro w; simp [run, le, steps]
  | cons c l ih =>
    intro w
    show run (byteStep w c.toNat) l = _
    rw [ih]
    have hc : c.toNat < 2 ^ 8 := c.toNat_lt
    have e : le (c :: l) = c.toNat ^^^ 2 ^ 8 * le l := add_xor hc
    have e2 : w ^^^ (c.toNat ^^^ 2 ^ 8 * le l) = (w ^^^ c.toNat) ^^^ 2 ^ 8 * le l := by ac_rfl
    rw [e, e2, show 8 * (c :: l).length = 8 + 8 * l.length by simp; omega, steps_add, steps_xor 8, steps_shl]
    rfl
theorem le_lt (l : List UInt8) : le l < 2 ^ (8 * l.length) := by
  induction l with
  | nil => simp [le]
  | cons c l ih =>
    have hc : c.toNat < 256 := c.toNat_lt
    have : 2 ^ (8 * (c :: l).length) = 256 * 2 ^ (8 * l.length) := by
      rw [show 8 * (c :: l).length = 8 + 8 * l.length by simp; omega, Nat.pow_add]
    rw [this]; simp only [le]; omega
theorem le_inj : ∀ a b : List UInt8, a.length = b.length → le a = le b → a = b
  | [], [], _, _ => rfl
  | c :: a, d :: b, hl, h => by
    have hc : c.toNat < 256 := c.toNat_lt
    have hd : d.toNat < 256 := d.toNat_lt
    simp only [le] at h
    have e1 : c.toNat = d.toNat := by omega
    have e2 : le a = le b := by omega
    rw [le_inj a b (by simpa using hl) e2, UInt8.toNat_inj.1 e1]
theorem step_ne {w : Nat} (h : w < 2 ^ 32) (h0 : w ≠ 0) : step w ≠ 0 := by
  unfold step
  split
  · omega
  · intro e
    have : w / 2 = poly := by
      have e2 : (w / 2 ^^^ poly) ^^^ poly = poly := by rw [e, Nat.zero_xor]
      rwa [Nat.xor_assoc, Nat.xor_self, Nat.xor_zero] at e2
    unfold poly at this
    omega
theorem steps_ne (n : Nat) : ∀ {w : Nat}, w < 2 ^ 32 → w ≠ 0 → steps n w ≠ 0 := by
  induction n with
  | zero => intro w _ h; exact h
  | succ n ih => intro w h h0; exact ih (step_lt h) (step_ne h h0)
theorem xor_eq_zero {a b : Nat} (h : a ^^^ b = 0) : a = b := by
  have : (a ^^^ b) ^^^ b = b := by rw [h, Nat.zero_xor]
  rwa [Nat.xor_assoc, Nat.xor_self, Nat.xor_zero] at this
theorem burst {s t : List UInt8} {p m : Nat} (hl : t.length = s.length) (hp : p ≤ 8 * s.length) (hm : m < 2 ^ 32) (h : le t = le s ^^^ 2 ^ p * m) :
    (crc t = crc s ↔ t = s) := by
  constructor
  · intro e
    have e1 : run top t = run top s := by
      have : (run top t ^^^ top) ^^^ top = (run top s ^^^ top) ^^^ top := by unfold crc at e; rw [e]
      rwa [Nat.xor_assoc, Nat.xor_self, Nat.xor_zero, Nat.xor_assoc, Nat.xor_self, Nat.xor_zero] at this
    rw [run_le, run_le, hl, h] at e1
    have e2 : top ^^^ (le s ^^^ 2 ^ p * m) = (top ^^^ le s) ^^^ 2 ^ p * m := by ac_rfl
    rw [e2, steps_xor] at e1
    have e3 : steps (8 * s.length) (2 ^ p * m) = 0 := by
      have : steps (8 * s.length) (top ^^^ le s) ^^^ (steps (8 * s.length) (top ^^^ le s) ^^^ steps (8 * s.length) (2 ^ p * m)) = steps (8 * s.length) (top ^^^ le s) ^^^ steps (8 * s.length) (top ^^^ le s) := by rw [e1]
      rwa [← Nat.xor_assoc, Nat.xor_self, Nat.zero_xor] at this
    rw [show 8 * s.length = p + (8 * s.length - p) by omega, steps_add, steps_shl] at e3
    have : m = 0 := Classical.byContradiction fun hne => steps_ne _ hm hne e3
    subst this
    refine le_inj _ _ hl ?_
    rw [h]; simp
  · intro e; rw [e]
/-- bits p to p + 31 of s turned as m says, those that lie in s -/
def flipTo (s : Nat) (n p m : Nat) : Nat → Nat
  | 0 => s
  | i + 1 => if m / 2 ^ i % 2 = 1 ∧ p + i < n then flipTo s n p m i ^^^ 2 ^ (p + i) else flipTo s n p m i
theorem flipTo_eq (s n p m i : Nat) (hp : p ≤ n) : flipTo s n p m i = s ^^^ 2 ^ p * ((m % 2 ^ i) % 2 ^ (n - p)) := by
  induction i with
  | zero => simp [flipTo, Nat.mod_one]
  | succ i ih =>
    simp only [flipTo]
    rw [ih]
    have hb : m.testBit i = decide (m / 2 ^ i % 2 = 1) := Nat.testBit_eq_decide_div_mod_eq
    have key : (m % 2 ^ (i + 1)) % 2 ^ (n - p) = if m / 2 ^ i % 2 = 1 ∧ p + i < n then (m % 2 ^ i) % 2 ^ (n - p) ^^^ 2 ^ i else (m % 2 ^ i) % 2 ^ (n - p) := by
      apply Nat.eq_of_testBit_eq; intro k
      by_cases h1 : m / 2 ^ i % 2 = 1 ∧ p + i < n
      · rw [if_pos h1, Nat.testBit_xor]
        simp only [Nat.testBit_mod_two_pow, Nat.testBit_two_pow]
        by_cases hk : k = i
        · subst hk; simp [hb, h1.1, show k < n - p by omega]
        · have : ¬ i = k := fun h => hk h.symm
          have e2 : decide (k < i + 1) = decide (k < i) := by rw [decide_eq_decide]; omega
          simp [this, e2]
      · rw [if_neg h1]
        simp only [Nat.testBit_mod_two_pow]
        by_cases hk : k = i
        · subst hk
          by_cases h2 : k < n - p
          · have : ¬ m / 2 ^ k % 2 = 1 := fun h => h1 ⟨h, by omega⟩
            simp [hb, this]
          · simp [h2]
        · have e2 : decide (k < i + 1) = decide (k < i) := by rw [decide_eq_decide]; omega
          rw [e2]
    rw [key]
    split
    · have : 2 ^ p * ((m % 2 ^ i) % 2 ^ (n - p) ^^^ 2 ^ i) = 2 ^ p * ((m % 2 ^ i) % 2 ^ (n - p)) ^^^ 2 ^ (p + i) := by
        apply Nat.eq_of_testBit_eq; intro k
        rw [Nat.testBit_xor, Nat.testBit_two_pow_mul, Nat.testBit_two_pow_mul, Nat.testBit_xor, Nat.testBit_two_pow, Nat.testBit_two_pow]
        by_cases h : p ≤ k
        · have e : decide (i = k - p) = decide (p + i = k) := by rw [decide_eq_decide]; omega
          simp [h, e]
        · have : ¬ p + i = k := by omega
          simp [h, this]
      rw [this, Nat.xor_assoc]
    · rfl
end Go.Proofs.YtnifgokjagahfaaDoor.CrcPure
