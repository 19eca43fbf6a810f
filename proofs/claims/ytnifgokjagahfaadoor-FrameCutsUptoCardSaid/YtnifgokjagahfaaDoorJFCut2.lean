/- Joined texts of this claim: Beg, Frm, Next, SplitPure, Pcs, ReadPure, Zeros -/
import Derived.Test.YtnifgokjagahfaaDoorJFCut1
import Derived.StillTailTactics
import Derived.Lib.Bytealg
import Derived.Test.YtnifgokjagahfaaDoorJFCut0
import Derived.Great.BuildSlice
/- begins of the frame package. -/
set_option linter.unusedVariables false
set_option linter.unusedSimpArgs false
namespace Go.Proofs.YtnifgokjagahfaaDoor.Beg
open Go.RowKit Go.Proofs.YtnifgokjagahfaaDoorW.PrintWords Go.Proofs.YtnifgokjagahfaaDoorW.PrintLast Go.Proofs.YtnifgokjagahfaaDoorW.PrintMore
open Go.Proofs.YtnifgokjagahfaaDoor.Base Go.Proofs.YtnifgokjagahfaaDoor.Layouts Go.Proofs.YtnifgokjagahfaaDoor.Msg Go.Proofs.YtnifgokjagahfaaDoor.Put Go.Proofs.YtnifgokjagahfaaDoor.EncPure Go.Proofs.YtnifgokjagahfaaDoor.DecPure Go.Proofs.YtnifgokjagahfaaDoor.Num Go.Proofs.YtnifgokjagahfaaDoor.Mids
open Go.Proofs.YtnifgokjagahfaaDoor.Dec (infoM mL_one str_eq str_eq2 kindL_byte)
theorem known_any (k : Int) (w : World) : Calls Tryd.prog 34 #[.int .i64 k] w fun e w' => e = .returned (.bool (decide (1 ≤ k ∧ k < 17))) ∧ Below w.heap.size w w' := by
  by_cases h : 1 ≤ k ∧ k < 17
  · rw [decide_eq_true h]; exact known_yes k w h
  · rw [decide_eq_false h]; exact known_no k w h
/-- what a call answers -/
def TellW (q n : Int) (m : M) (w : World) (e : Ending) (w' : World) : Prop := e = .returned (.tuple #[.int .i64 q, .int .i64 n, .agg (mL m).toArray]) ∧ Below w.heap.size w w'
theorem results_ttc_mid {P : Program} {fn : Func} {p u1 u2 : Tmp} {ty : TypeId} (h : fn.results = #[.tmp u1, .tmp u2, .cell p ty]) (tmps : Array Value) (w : World) (g o : Nat) (cs : List Value) (d : TypeDesc)
    (hp : tmps.getD p undef = .pointer (some ⟨g, o, none⟩)) (hg : w.rangeAt g o cs) (hu : P.underlying ty = some d) (hd : d.isRow = true) (hi : (P.info? ty).map (·.size) = some cs.length) :
    (results fn tmps).run P w = .ok (.tuple #[tmps.getD u1 undef, tmps.getD u2 undef, .agg cs.toArray]) w := by
  have hp' : tmps[p]?.getD undef = .pointer (some ⟨g, o, none⟩) := by simpa using hp
  simp [results, h, hp', asAddr, run_loadVar_mid w g o ty cs d hg hu hd hi]
theorem tell_ret {W : World} {w : World} {m : M} {tmps : Array Value} {q n : Int} (hp : tmps.getD 4 undef = .pointer (some ⟨w.heap.size, 0, none⟩)) (hq : tmps.getD 2 undef = .int .i64 q) (hn : tmps.getD 3 undef = .int .i64 n) (h : MBox W w.heap.size m) (hB : Below w.heap.size w W) {d : List _} (hd : d = []) :
    bodyPost Tryd.prog Tryd.f63 (TellW q n m w) Exit.ret ⟨tmps, d⟩ W := by
  subst hd
  refine bodyPost_ret (v := .tuple #[.int .i64 q, .int .i64 n, .agg (mL m).toArray]) ?_ rfl ⟨rfl, hB⟩
  rw [← hq, ← hn]
  exact results_ttc_mid rfl tmps W w.heap.size 0 (mL m) _ hp (blk_range h.row) Tryd.underlying24 rfl infoM
/-- the three bytes with which a frame begins -/
def mag : ByteArray := { data := #[71, 82, 1] }
def pre3 (L : List Int) : Bool := decide (L.take (min L.length 3) = ([71, 82, 1] : List Int).take (min L.length 3))
theorem mag_take (k : Nat) (h : k ≤ 3) : (({ data := #[71, 82, 1] } : ByteArray).extract 0 k).toList = ([71, 82, 1] : List UInt8).take k := by
  have e : k = 0 ∨ k = 1 ∨ k = 2 ∨ k = 3 := by omega
  rcases e with rfl | rfl | rfl | rfl <;> decide +kernel
theorem pre_eq (s : ByteArray) (k : Nat) (hk : k = min s.size 3) : ((s.extract 0 k).toList == (({ data := #[71, 82, 1] } : ByteArray).extract 0 k).toList) = pre3 (bytesOf s) := by
  rw [extract_head s k (by omega), mag_take k (by omega), str_eq _ (byt_take (byt_bytesOf s) k)]
  unfold pre3
  rw [bytesOf_length, ← hk, List.map_take]
  rfl
/-- what stands behind the test of the head -/
structure Head (s : ByteArray) (k : Nat) (b : Bool) : Prop where mk ::
  (hmin : (if 3 < (s.size : Int) then 3 else (s.size : Int)) = (k : Int)) (h0 : (0 : Int) ≤ (k : Int)) (h1 : (k : Int) ≤ (s.size : Int)) (h3 : (k : Int) ≤ 3)
  (hq : ((s.extract 0 k).toList == (({ data := #[71, 82, 1] } : ByteArray).extract 0 k).toList) = b)
theorem head_of (s : ByteArray) : ∃ k, Head s k (pre3 (bytesOf s)) := ⟨min s.size 3, ⟨by split <;> omega, by omega, by omega, by omega, pre_eq s _ rfl⟩⟩
theorem three_le {k : Nat} (h : (k : Int) ≤ 3) : (k : Int) ≤ ((({ data := #[71, 82, 1] } : ByteArray).size : Nat) : Int) := by
  have e : ({ data := #[71, 82, 1] } : ByteArray).size = 3 := rfl
  rw [e]; omega
theorem lit_three : (3 : Int) ≤ ((({ data := #[71, 82, 1] } : ByteArray).size : Nat) : Int) := by
  have e : ({ data := #[71, 82, 1] } : ByteArray).size = 3 := rfl
  rw [e]; decide
def litS : ByteArray := { data := #[71, 82, 1] }
-- WALKS
set_option maxRecDepth 100000 in
set_option maxHeartbeats 4000000 in
theorem beg_magic (s : ByteArray) (w : World) (hp : pre3 (bytesOf s) = false) : Calls Tryd.prog 63 #[.string s] w (TellW 0 0 zeroM w) := by
  obtain ⟨k, ⟨hmin, h0, h1, h3, hq⟩⟩ := head_of s
  rw [hp] at hq
  have hs1 := fun wx => run_slice_string_h (P := Tryd.prog) wx 9 s Tryd.underlying9 .i64 (k : Int) h0 h1
  have hs2 := fun wx => run_slice_string_h (P := Tryd.prog) wx 9 { data := #[71, 82, 1] } Tryd.underlying9 .i64 (k : Int) h0 (three_le h3)
  rw [Int.toNat_natCast] at hs1 hs2
  generalize s.extract 0 k = S1 at hs1 hq
  generalize (({ data := #[71, 82, 1] } : ByteArray).extract 0 k) = S2 at hs2 hq
  have HB := Aside0.mk ((Below.refl w.heap.size w).alloc (Nat.le_refl _) (.cells (mL zeroM).toArray 24))
  have HM : Aside0 (MBox (w.alloc (.cells (mL zeroM).toArray 24)) w.heap.size zeroM) := ⟨⟨Go.heap_alloc_new w _, by simp⟩⟩
  generalize hwa : w.alloc (.cells (mL zeroM).toArray 24) = wa at HB HM
  have h3s := three_le h3
  go_enter Tryd.func63, Tryd.ntmps63
  go_upto_region 2 with fail
  rw [show w.alloc (.cells #[.int .i64 0, .int .i64 0, .int .i64 0, .int .i64 0, .int .i64 0, .int .i64 0, .int .i64 0, .int .i64 0, .int .i64 0, .string { data := #[] }, .string { data := #[] }] 24) = wa from hwa]
  refine wp_region_still_tail 7 (by kernel_rfl) (by kernel_rfl) ?_
  simp only [List.take_succ_cons, List.take_zero, List.drop_succ_cons, List.drop_zero]
  iterate 7 still_step
  with_reducible refine wpStill_nil ?_
  clear hs1 hs2 hq hp h3s
  have hth := blk_there (w := wa.drew) HM.out.row
  go_wp2_with ((with_reducible refine gate_store (ty := 24) (x := .tmp 4) (y := .tmp 29) rfl ?_); refine wpList_store_mid rfl 24 (.tmp 4) (.tmp 29) rfl w.heap.size 0 (mL zeroM).toArray rfl rfl hth infoM (mL_one zeroM) ?_)
  exact tell_ret rfl rfl rfl ⟨setCells_whole (w := wa.drew) HM.out.row rfl, by rw [setCells_size]; exact HM.out.lt⟩ (below_setCells (below_drew HB.out) (Nat.le_refl _) _ _) rfl
set_option maxRecDepth 100000 in
set_option maxHeartbeats 4000000 in
theorem beg_short (s : ByteArray) (w : World) (hp : pre3 (bytesOf s) = true) (h : s.size ≤ 3) : Calls Tryd.prog 63 #[.string s] w (TellW 1 0 zeroM w) := by
  obtain ⟨k, ⟨hmin, h0, h1, h3, hq⟩⟩ := head_of s
  rw [hp] at hq
  have H4 : Aside0 (¬ (3 : Int) < (s.size : Int)) := ⟨by omega⟩
  have H5 : Aside0 ((s.size : Int) < 20) := ⟨by omega⟩
  obtain rfl : k = s.size := by rw [if_neg (by omega)] at hmin; omega
  have hs1 := fun wx => run_slice_string_h (P := Tryd.prog) wx 9 s Tryd.underlying9 .i64 (s.size : Int) h0 h1
  have hs2 := fun wx => run_slice_string_h (P := Tryd.prog) wx 9 { data := #[71, 82, 1] } Tryd.underlying9 .i64 (s.size : Int) h0 (three_le h3)
  rw [Int.toNat_natCast] at hs1 hs2
  clear hmin
  generalize s.extract 0 s.size = S1 at hs1 hq
  generalize (({ data := #[71, 82, 1] } : ByteArray).extract 0 s.size) = S2 at hs2 hq
  have HB := Aside0.mk ((Below.refl w.heap.size w).alloc (Nat.le_refl _) (.cells (mL zeroM).toArray 24))
  have HM : Aside0 (MBox (w.alloc (.cells (mL zeroM).toArray 24)) w.heap.size zeroM) := ⟨⟨Go.heap_alloc_new w _, by simp⟩⟩
  generalize hwa : w.alloc (.cells (mL zeroM).toArray 24) = wa at HB HM
  have h3s := three_le h3
  go_enter Tryd.func63, Tryd.ntmps63
  go_upto_region 2 with fail
  rw [show w.alloc (.cells #[.int .i64 0, .int .i64 0, .int .i64 0, .int .i64 0, .int .i64 0, .int .i64 0, .int .i64 0, .int .i64 0, .int .i64 0, .string { data := #[] }, .string { data := #[] }] 24) = wa from hwa]
  refine wp_region_still_tail 7 (by kernel_rfl) (by kernel_rfl) ?_
  simp only [List.take_succ_cons, List.take_zero, List.drop_succ_cons, List.drop_zero]
  iterate 7 still_step
  with_reducible refine wpStill_nil ?_
  clear hs1 hs2 hq hp h3s
  have h4 := H4.out
  have h5 := H5.out
  have hth := blk_there (w := wa.drew) HM.out.row
  go_wp2_with ((with_reducible refine gate_store (ty := 24) (x := .tmp 4) (y := .tmp 33) rfl ?_); refine wpList_store_mid rfl 24 (.tmp 4) (.tmp 33) rfl w.heap.size 0 (mL zeroM).toArray rfl rfl hth infoM (mL_one zeroM) ?_)
  exact tell_ret rfl rfl rfl ⟨setCells_whole (w := wa.drew) HM.out.row rfl, by rw [setCells_size]; exact HM.out.lt⟩ (below_setCells (below_drew HB.out) (Nat.le_refl _) _ _) rfl
set_option maxRecDepth 100000 in
set_option maxHeartbeats 4000000 in
theorem beg_kind (s : ByteArray) (w : World) (hp : pre3 (bytesOf s) = true) (h : 3 < s.size) (hk : ¬ (1 ≤ kindL (bytesOf s) ∧ kindL (bytesOf s) < 17)) : Calls Tryd.prog 63 #[.string s] w (TellW 0 0 zeroM w) := by
  obtain ⟨k, ⟨hmin, h0, h1, h3, hq⟩⟩ := head_of s
  rw [hp] at hq
  obtain ⟨kk, hkk⟩ : ∃ kk : Nat, (s[3]'h).toNat = kk := ⟨_, rfl⟩
  have hk2 : kk ≤ 255 := by have := (s[3]'h).toNat_lt; omega
  rw [kindL_byte s h, hkk] at hk
  have H4 : Aside0 ((3 : Int) < (s.size : Int)) := ⟨by omega⟩
  have KN := fun w => Lib.hid (known_no (kk : Int) w hk)
  obtain rfl : k = 3 := by rw [if_pos (by omega)] at hmin; omega
  have h3 : (3 : Int) ≤ (s.size : Int) := by omega
  have hs1 := fun wx => run_slice_string_h (P := Tryd.prog) wx 9 s Tryd.underlying9 .i64 (3 : Int) (by decide) h3
  have hs2 := fun wx => run_slice_string_h (P := Tryd.prog) wx 9 { data := #[71, 82, 1] } Tryd.underlying9 .i64 (3 : Int) (by decide) lit_three
  have e3 : (3 : Int).toNat = 3 := rfl
  rw [e3] at hs1 hs2
  clear hmin h0 h1 e3
  generalize s.extract 0 3 = S1 at hs1 hq
  generalize (({ data := #[71, 82, 1] } : ByteArray).extract 0 3) = S2 at hs2 hq
  have HB := Aside0.mk ((Below.refl w.heap.size w).alloc (Nat.le_refl _) (.cells (mL zeroM).toArray 24))
  have HM : Aside0 (MBox (w.alloc (.cells (mL zeroM).toArray 24)) w.heap.size zeroM) := ⟨⟨Go.heap_alloc_new w _, by simp⟩⟩
  generalize hwa : w.alloc (.cells (mL zeroM).toArray 24) = wa at HB HM
  have h3s := lit_three
  go_enter Tryd.func63, Tryd.ntmps63
  go_upto_region 2 with fail
  rw [show w.alloc (.cells #[.int .i64 0, .int .i64 0, .int .i64 0, .int .i64 0, .int .i64 0, .int .i64 0, .int .i64 0, .int .i64 0, .int .i64 0, .string { data := #[] }, .string { data := #[] }] 24) = wa from hwa]
  refine wp_region_still_tail 7 (by kernel_rfl) (by kernel_rfl) ?_
  simp only [List.take_succ_cons, List.take_zero, List.drop_succ_cons, List.drop_zero]
  iterate 7 still_step
  with_reducible refine wpStill_nil ?_
  clear hs1 hs2 hq hp h3s
  have h4 := H4.out
  go_wp2_with fail
  refine (KN _).out.mono ?_
  rintro e w1 ⟨rfl, hb⟩
  have hb : Below wa.drew.heap.size wa.drew w1 := hb
  have HM1 := Aside0.mk ((⟨HM.out.row, HM.out.lt⟩ : MBox wa.drew w.heap.size zeroM).below hb HM.out.lt)
  have HB1 := Aside0.mk ((below_drew HB.out).trans (hb.mono (below_drew HB.out).size))
  clear hb HM HB KN hwa
  have hth := blk_there HM1.out.row
  go_wp2_with ((with_reducible refine gate_store (ty := 24) (x := .tmp 4) (y := .tmp 29) rfl ?_); refine wpList_store_mid rfl 24 (.tmp 4) (.tmp 29) rfl w.heap.size 0 (mL zeroM).toArray rfl rfl hth infoM (mL_one zeroM) ?_)
  exact tell_ret rfl rfl rfl ⟨setCells_whole HM1.out.row rfl, by rw [setCells_size]; exact HM1.out.lt⟩ (below_setCells HB1.out (Nat.le_refl _) _ _) rfl
set_option maxRecDepth 100000 in
set_option maxHeartbeats 4000000 in
theorem beg_head (s : ByteArray) (w : World) (hp : pre3 (bytesOf s) = true) (h : 3 < s.size) (hk : 1 ≤ kindL (bytesOf s) ∧ kindL (bytesOf s) < 17) (h20 : s.size < 20) : Calls Tryd.prog 63 #[.string s] w (TellW 1 0 zeroM w) := by
  obtain ⟨k, ⟨hmin, h0, h1, h3, hq⟩⟩ := head_of s
  rw [hp] at hq
  obtain ⟨kk, hkk⟩ : ∃ kk : Nat, (s[3]'h).toNat = kk := ⟨_, rfl⟩
  have hk2 : kk ≤ 255 := by have := (s[3]'h).toNat_lt; omega
  rw [kindL_byte s h, hkk] at hk
  have H4 : Aside0 ((3 : Int) < (s.size : Int)) := ⟨by omega⟩
  have KN := fun w => Lib.hid (known_yes (kk : Int) w hk)
  have H5 : Aside0 ((s.size : Int) < 20) := ⟨by omega⟩
  obtain rfl : k = 3 := by rw [if_pos (by omega)] at hmin; omega
  have h3 : (3 : Int) ≤ (s.size : Int) := by omega
  have hs1 := fun wx => run_slice_string_h (P := Tryd.prog) wx 9 s Tryd.underlying9 .i64 (3 : Int) (by decide) h3
  have hs2 := fun wx => run_slice_string_h (P := Tryd.prog) wx 9 { data := #[71, 82, 1] } Tryd.underlying9 .i64 (3 : Int) (by decide) lit_three
  have e3 : (3 : Int).toNat = 3 := rfl
  rw [e3] at hs1 hs2
  clear hmin h0 h1 e3
  generalize s.extract 0 3 = S1 at hs1 hq
  generalize (({ data := #[71, 82, 1] } : ByteArray).extract 0 3) = S2 at hs2 hq
  have HB := Aside0.mk ((Below.refl w.heap.size w).alloc (Nat.le_refl _) (.cells (mL zeroM).toArray 24))
  have HM : Aside0 (MBox (w.alloc (.cells (mL zeroM).toArray 24)) w.heap.size zeroM) := ⟨⟨Go.heap_alloc_new w _, by simp⟩⟩
  generalize hwa : w.alloc (.cells (mL zeroM).toArray 24) = wa at HB HM
  have h3s := lit_three
  go_enter Tryd.func63, Tryd.ntmps63
  go_upto_region 2 with fail
  rw [show w.alloc (.cells #[.int .i64 0, .int .i64 0, .int .i64 0, .int .i64 0, .int .i64 0, .int .i64 0, .int .i64 0, .int .i64 0, .int .i64 0, .string { data := #[] }, .string { data := #[] }] 24) = wa from hwa]
  refine wp_region_still_tail 7 (by kernel_rfl) (by kernel_rfl) ?_
  simp only [List.take_succ_cons, List.take_zero, List.drop_succ_cons, List.drop_zero]
  iterate 7 still_step
  with_reducible refine wpStill_nil ?_
  clear hs1 hs2 hq hp h3s
  have h4 := H4.out
  have h5 := H5.out
  go_wp2_with fail
  refine (KN _).out.mono ?_
  rintro e w1 ⟨rfl, hb⟩
  have hb : Below wa.drew.heap.size wa.drew w1 := hb
  have HM1 := Aside0.mk ((⟨HM.out.row, HM.out.lt⟩ : MBox wa.drew w.heap.size zeroM).below hb HM.out.lt)
  have HB1 := Aside0.mk ((below_drew HB.out).trans (hb.mono (below_drew HB.out).size))
  clear hb HM HB KN hwa
  have hth := blk_there HM1.out.row
  go_wp2_with ((with_reducible refine gate_store (ty := 24) (x := .tmp 4) (y := .tmp 33) rfl ?_); refine wpList_store_mid rfl 24 (.tmp 4) (.tmp 33) rfl w.heap.size 0 (mL zeroM).toArray rfl rfl hth infoM (mL_one zeroM) ?_)
  exact tell_ret rfl rfl rfl ⟨setCells_whole HM1.out.row rfl, by rw [setCells_size]; exact HM1.out.lt⟩ (below_setCells HB1.out (Nat.le_refl _) _ _) rfl
set_option maxRecDepth 100000 in
set_option maxHeartbeats 4000000 in
theorem beg_neg (s : ByteArray) (w : World) (hp : pre3 (bytesOf s) = true) (h : 3 < s.size) (hk : 1 ≤ kindL (bytesOf s) ∧ kindL (bytesOf s) < 17) (h20 : 20 ≤ s.size) (hmx : s.size ≤ 9223372036854775807) (hz : sizeL (bytesOf s) < 0) : Calls Tryd.prog 63 #[.string s] w (TellW 0 0 zeroM w) := by
  obtain ⟨k, ⟨hmin, h0, h1, h3, hq⟩⟩ := head_of s
  rw [hp] at hq
  obtain ⟨kk, hkk⟩ : ∃ kk : Nat, (s[3]'h).toNat = kk := ⟨_, rfl⟩
  have hk2 : kk ≤ 255 := by have := (s[3]'h).toNat_lt; omega
  rw [kindL_byte s h, hkk] at hk
  have H4 : Aside0 ((3 : Int) < (s.size : Int)) := ⟨by omega⟩
  have KN := fun w => Lib.hid (known_yes (kk : Int) w hk)
  have H5 : Aside0 (¬ (s.size : Int) < 20) := ⟨by omega⟩
  have KS := fun w => size_any s w h20 hmx
  generalize sizeL (bytesOf s) = n at KS hz
  have KS := fun w => Lib.hid (KS w)
  obtain rfl : k = 3 := by rw [if_pos (by omega)] at hmin; omega
  have h3 : (3 : Int) ≤ (s.size : Int) := by omega
  have hs1 := fun wx => run_slice_string_h (P := Tryd.prog) wx 9 s Tryd.underlying9 .i64 (3 : Int) (by decide) h3
  have hs2 := fun wx => run_slice_string_h (P := Tryd.prog) wx 9 { data := #[71, 82, 1] } Tryd.underlying9 .i64 (3 : Int) (by decide) lit_three
  have e3 : (3 : Int).toNat = 3 := rfl
  rw [e3] at hs1 hs2
  clear hmin h0 h1 e3
  generalize s.extract 0 3 = S1 at hs1 hq
  generalize (({ data := #[71, 82, 1] } : ByteArray).extract 0 3) = S2 at hs2 hq
  have HB := Aside0.mk ((Below.refl w.heap.size w).alloc (Nat.le_refl _) (.cells (mL zeroM).toArray 24))
  have HM : Aside0 (MBox (w.alloc (.cells (mL zeroM).toArray 24)) w.heap.size zeroM) := ⟨⟨Go.heap_alloc_new w _, by simp⟩⟩
  generalize hwa : w.alloc (.cells (mL zeroM).toArray 24) = wa at HB HM
  have h3s := lit_three
  go_enter Tryd.func63, Tryd.ntmps63
  go_upto_region 2 with fail
  rw [show w.alloc (.cells #[.int .i64 0, .int .i64 0, .int .i64 0, .int .i64 0, .int .i64 0, .int .i64 0, .int .i64 0, .int .i64 0, .int .i64 0, .string { data := #[] }, .string { data := #[] }] 24) = wa from hwa]
  refine wp_region_still_tail 7 (by kernel_rfl) (by kernel_rfl) ?_
  simp only [List.take_succ_cons, List.take_zero, List.drop_succ_cons, List.drop_zero]
  iterate 7 still_step
  with_reducible refine wpStill_nil ?_
  clear hs1 hs2 hq hp h3s
  have h4 := H4.out
  have h5 := H5.out
  go_wp2_with fail
  refine (KN _).out.mono ?_
  rintro e w1 ⟨rfl, hb⟩
  have hb : Below wa.drew.heap.size wa.drew w1 := hb
  have HM1 := Aside0.mk ((⟨HM.out.row, HM.out.lt⟩ : MBox wa.drew w.heap.size zeroM).below hb HM.out.lt)
  have HB1 := Aside0.mk ((below_drew HB.out).trans (hb.mono (below_drew HB.out).size))
  clear hb HM HB KN hwa
  go_wp2_with fail
  refine (KS _).out.mono ?_
  rintro e w2 ⟨rfl, hb⟩
  have HM2 := Aside0.mk (HM1.out.below hb HM1.out.lt)
  have HB2 := Aside0.mk (HB1.out.trans (hb.mono HB1.out.size))
  clear hb KS HM1 HB1
  have hth := blk_there HM2.out.row
  go_wp2_with ((with_reducible refine gate_store (ty := 24) (x := .tmp 4) (y := .tmp 38) rfl ?_); refine wpList_store_mid rfl 24 (.tmp 4) (.tmp 38) rfl w.heap.size 0 (mL zeroM).toArray rfl rfl hth infoM (mL_one zeroM) ?_)
  exact tell_ret rfl rfl rfl ⟨setCells_whole HM2.out.row rfl, by rw [setCells_size]; exact HM2.out.lt⟩ (below_setCells HB2.out (Nat.le_refl _) _ _) rfl
set_option maxRecDepth 100000 in
set_option maxHeartbeats 4000000 in
theorem beg_wait (s : ByteArray) (w : World) (hp : pre3 (bytesOf s) = true) (h : 3 < s.size) (hk : 1 ≤ kindL (bytesOf s) ∧ kindL (bytesOf s) < 17) (h20 : 20 ≤ s.size) (hmx : s.size ≤ 9223372036854775807) (hz : ¬ sizeL (bytesOf s) < 0 ∧ (s.size : Int) < sizeL (bytesOf s)) : Calls Tryd.prog 63 #[.string s] w (TellW 1 0 zeroM w) := by
  obtain ⟨k, ⟨hmin, h0, h1, h3, hq⟩⟩ := head_of s
  rw [hp] at hq
  obtain ⟨kk, hkk⟩ : ∃ kk : Nat, (s[3]'h).toNat = kk := ⟨_, rfl⟩
  have hk2 : kk ≤ 255 := by have := (s[3]'h).toNat_lt; omega
  rw [kindL_byte s h, hkk] at hk
  have H4 : Aside0 ((3 : Int) < (s.size : Int)) := ⟨by omega⟩
  have KN := fun w => Lib.hid (known_yes (kk : Int) w hk)
  have H5 : Aside0 (¬ (s.size : Int) < 20) := ⟨by omega⟩
  have KS := fun w => size_any s w h20 hmx
  generalize sizeL (bytesOf s) = n at KS hz
  have KS := fun w => Lib.hid (KS w)
  obtain ⟨hz1, hz2⟩ := hz
  obtain rfl : k = 3 := by rw [if_pos (by omega)] at hmin; omega
  have h3 : (3 : Int) ≤ (s.size : Int) := by omega
  have hs1 := fun wx => run_slice_string_h (P := Tryd.prog) wx 9 s Tryd.underlying9 .i64 (3 : Int) (by decide) h3
  have hs2 := fun wx => run_slice_string_h (P := Tryd.prog) wx 9 { data := #[71, 82, 1] } Tryd.underlying9 .i64 (3 : Int) (by decide) lit_three
  have e3 : (3 : Int).toNat = 3 := rfl
  rw [e3] at hs1 hs2
  clear hmin h0 h1 e3
  generalize s.extract 0 3 = S1 at hs1 hq
  generalize (({ data := #[71, 82, 1] } : ByteArray).extract 0 3) = S2 at hs2 hq
  have HB := Aside0.mk ((Below.refl w.heap.size w).alloc (Nat.le_refl _) (.cells (mL zeroM).toArray 24))
  have HM : Aside0 (MBox (w.alloc (.cells (mL zeroM).toArray 24)) w.heap.size zeroM) := ⟨⟨Go.heap_alloc_new w _, by simp⟩⟩
  generalize hwa : w.alloc (.cells (mL zeroM).toArray 24) = wa at HB HM
  have h3s := lit_three
  go_enter Tryd.func63, Tryd.ntmps63
  go_upto_region 2 with fail
  rw [show w.alloc (.cells #[.int .i64 0, .int .i64 0, .int .i64 0, .int .i64 0, .int .i64 0, .int .i64 0, .int .i64 0, .int .i64 0, .int .i64 0, .string { data := #[] }, .string { data := #[] }] 24) = wa from hwa]
  refine wp_region_still_tail 7 (by kernel_rfl) (by kernel_rfl) ?_
  simp only [List.take_succ_cons, List.take_zero, List.drop_succ_cons, List.drop_zero]
  iterate 7 still_step
  with_reducible refine wpStill_nil ?_
  clear hs1 hs2 hq hp h3s
  have h4 := H4.out
  have h5 := H5.out
  go_wp2_with fail
  refine (KN _).out.mono ?_
  rintro e w1 ⟨rfl, hb⟩
  have hb : Below wa.drew.heap.size wa.drew w1 := hb
  have HM1 := Aside0.mk ((⟨HM.out.row, HM.out.lt⟩ : MBox wa.drew w.heap.size zeroM).below hb HM.out.lt)
  have HB1 := Aside0.mk ((below_drew HB.out).trans (hb.mono (below_drew HB.out).size))
  clear hb HM HB KN hwa
  go_wp2_with fail
  refine (KS _).out.mono ?_
  rintro e w2 ⟨rfl, hb⟩
  have HM2 := Aside0.mk (HM1.out.below hb HM1.out.lt)
  have HB2 := Aside0.mk (HB1.out.trans (hb.mono HB1.out.size))
  clear hb KS HM1 HB1
  have hth := blk_there HM2.out.row
  go_wp2_with ((with_reducible refine gate_store (ty := 24) (x := .tmp 4) (y := .tmp 43) rfl ?_); refine wpList_store_mid rfl 24 (.tmp 4) (.tmp 43) rfl w.heap.size 0 (mL zeroM).toArray rfl rfl hth infoM (mL_one zeroM) ?_)
  exact tell_ret rfl rfl rfl ⟨setCells_whole HM2.out.row rfl, by rw [setCells_size]; exact HM2.out.lt⟩ (below_setCells HB2.out (Nat.le_refl _) _ _) rfl
set_option maxRecDepth 100000 in
set_option maxHeartbeats 4000000 in
theorem beg_bad (s : ByteArray) (w : World) (hp : pre3 (bytesOf s) = true) (h : 3 < s.size) (hk : 1 ≤ kindL (bytesOf s) ∧ kindL (bytesOf s) < 17) (h20 : 20 ≤ s.size) (hmx : s.size ≤ 9223372036854775807) (hNb : Crc.Nibs w) (hz : ¬ sizeL (bytesOf s) < 0 ∧ ¬ (s.size : Int) < sizeL (bytesOf s)) (m : M) (x : Int) (he : decP ((bytesOf s).take (sizeL (bytesOf s)).toNat) = (m, x)) (hx : x ≠ 0) : Calls Tryd.prog 63 #[.string s] w (TellW 0 0 zeroM w) := by
  obtain ⟨k, ⟨hmin, h0, h1, h3, hq⟩⟩ := head_of s
  rw [hp] at hq
  obtain ⟨kk, hkk⟩ : ∃ kk : Nat, (s[3]'h).toNat = kk := ⟨_, rfl⟩
  have hk2 : kk ≤ 255 := by have := (s[3]'h).toNat_lt; omega
  rw [kindL_byte s h, hkk] at hk
  have H4 : Aside0 ((3 : Int) < (s.size : Int)) := ⟨by omega⟩
  have KN := fun w => Lib.hid (known_yes (kk : Int) w hk)
  obtain ⟨N, hN1⟩ : ∃ N : Nat, sizeL (bytesOf s) = (N : Int) := ⟨(sizeL (bytesOf s)).toNat, by omega⟩
  rw [hN1, Int.toNat_natCast] at he
  have hz1 : ¬ (N : Int) < 0 := by omega
  have hz2 : ¬ (s.size : Int) < (N : Int) := by omega
  have hz3 : (0 : Int) ≤ (N : Int) := by omega
  have hz4 : (N : Int) ≤ (s.size : Int) := by omega
  have H5 : Aside0 (¬ (s.size : Int) < 20) := ⟨by omega⟩
  have KS := fun w => size_any s w h20 hmx
  rw [hN1] at KS
  have KS := fun w => Lib.hid (KS w)
  have hsN := fun wx => run_slice_string_h (P := Tryd.prog) wx 9 s Tryd.underlying9 .i64 (N : Int) hz3 hz4
  rw [Int.toNat_natCast, extract_head s N (by omega)] at hsN
  have KD := fun (w : World) hN => Dec.dec_any (strOfNums ((bytesOf s).take N)) w (by rw [strOfNums_size, List.length_take, bytesOf_length]; omega) hN
  rw [bytesOf_strOfNums _ (byt_take (byt_bytesOf s) N), he] at KD
  have KD := fun (w : World) hN => Lib.hid (KD w hN)
  generalize strOfNums ((bytesOf s).take N) = S3 at hsN KD
  have HNb := Aside0.mk hNb
  clear hNb
  have hxb : (x != 0) = true := bne_iff_ne.2 hx
  obtain rfl : k = 3 := by rw [if_pos (by omega)] at hmin; omega
  have h3 : (3 : Int) ≤ (s.size : Int) := by omega
  have hs1 := fun wx => run_slice_string_h (P := Tryd.prog) wx 9 s Tryd.underlying9 .i64 (3 : Int) (by decide) h3
  have hs2 := fun wx => run_slice_string_h (P := Tryd.prog) wx 9 { data := #[71, 82, 1] } Tryd.underlying9 .i64 (3 : Int) (by decide) lit_three
  have e3 : (3 : Int).toNat = 3 := rfl
  rw [e3] at hs1 hs2
  clear hmin h0 h1 e3
  generalize s.extract 0 3 = S1 at hs1 hq
  generalize (({ data := #[71, 82, 1] } : ByteArray).extract 0 3) = S2 at hs2 hq
  have HB := Aside0.mk ((Below.refl w.heap.size w).alloc (Nat.le_refl _) (.cells (mL zeroM).toArray 24))
  have HM : Aside0 (MBox (w.alloc (.cells (mL zeroM).toArray 24)) w.heap.size zeroM) := ⟨⟨Go.heap_alloc_new w _, by simp⟩⟩
  generalize hwa : w.alloc (.cells (mL zeroM).toArray 24) = wa at HB HM
  have h3s := lit_three
  go_enter Tryd.func63, Tryd.ntmps63
  go_upto_region 2 with fail
  rw [show w.alloc (.cells #[.int .i64 0, .int .i64 0, .int .i64 0, .int .i64 0, .int .i64 0, .int .i64 0, .int .i64 0, .int .i64 0, .int .i64 0, .string { data := #[] }, .string { data := #[] }] 24) = wa from hwa]
  refine wp_region_still_tail 7 (by kernel_rfl) (by kernel_rfl) ?_
  simp only [List.take_succ_cons, List.take_zero, List.drop_succ_cons, List.drop_zero]
  iterate 7 still_step
  with_reducible refine wpStill_nil ?_
  clear hs1 hs2 hq hp h3s
  have h4 := H4.out
  have h5 := H5.out
  go_wp2_with fail
  refine (KN _).out.mono ?_
  rintro e w1 ⟨rfl, hb⟩
  have hb : Below wa.drew.heap.size wa.drew w1 := hb
  have HM1 := Aside0.mk ((⟨HM.out.row, HM.out.lt⟩ : MBox wa.drew w.heap.size zeroM).below hb HM.out.lt)
  have HB1 := Aside0.mk ((below_drew HB.out).trans (hb.mono (below_drew HB.out).size))
  clear hb HM HB KN hwa
  go_wp2_with fail
  refine (KS _).out.mono ?_
  rintro e w2 ⟨rfl, hb⟩
  have HM2 := Aside0.mk (HM1.out.below hb HM1.out.lt)
  have HB2 := Aside0.mk (HB1.out.trans (hb.mono HB1.out.size))
  clear hb KS HM1 HB1
  go_wp2_with fail
  refine (KD _ (HNb.out.below HB2.out)).out.mono ?_
  rintro e w3 ⟨rfl, hb⟩
  have HM3 := Aside0.mk (HM2.out.below hb HM2.out.lt)
  have HB3 := Aside0.mk (HB2.out.trans (hb.mono HB2.out.size))
  clear hb KD HM2 HB2
  have hth := blk_there (w := w3.alloc (.cells (mL zeroM).toArray 24)) (Go.heap_alloc_new w3 _)
  have hnb := below_setCells ((Below.refl w3.heap.size w3).alloc (Nat.le_refl _) (.cells (mL zeroM).toArray 24)) (Nat.le_refl _) (mL m) 0
  have HM4 := Aside0.mk (HM3.out.below hnb HM3.out.lt)
  have HB4 := Aside0.mk (HB3.out.trans (hnb.mono HB3.out.size))
  have HR4 : Aside0 (MBox ((w3.alloc (.cells (mL zeroM).toArray 24)).setCells w3.heap.size 0 (mL m)) w3.heap.size m) := ⟨⟨setCells_whole (Go.heap_alloc_new w3 _) rfl, by rw [setCells_size]; simp⟩⟩
  clear hnb
  go_upto_region 12 with ((with_reducible refine gate_store (ty := 24) (x := .tmp 6) (y := .tmp 49) rfl ?_); refine wpList_store_mid rfl 24 (.tmp 6) (.tmp 49) rfl w3.heap.size 0 (mL m).toArray rfl rfl hth infoM (mL_one m) ?_)
  clear hth HM3 HB3
  generalize hw4 : (w3.alloc (.cells #[.int .i64 0, .int .i64 0, .int .i64 0, .int .i64 0, .int .i64 0, .int .i64 0, .int .i64 0, .int .i64 0, .int .i64 0, .string { data := #[] }, .string { data := #[] }] 24)).setCells w3.heap.size 0 (mL m) = w4
  rw [show (w3.alloc (.cells (mL zeroM).toArray 24)).setCells w3.heap.size 0 (mL m) = w4 from hw4] at HM4 HB4 HR4
  generalize w3.heap.size = g6 at HR4 hw4 ⊢
  clear hw4
  have hth := blk_there HM4.out.row
  go_wp2_with ((with_reducible refine gate_store (ty := 24) (x := .tmp 4) (y := .tmp 53) rfl ?_); refine wpList_store_mid rfl 24 (.tmp 4) (.tmp 53) rfl w.heap.size 0 (mL zeroM).toArray rfl rfl hth infoM (mL_one zeroM) ?_)
  exact tell_ret rfl rfl rfl ⟨setCells_whole HM4.out.row rfl, by rw [setCells_size]; exact HM4.out.lt⟩ (below_setCells HB4.out (Nat.le_refl _) _ _) rfl
set_option maxRecDepth 100000 in
set_option maxHeartbeats 4000000 in
theorem beg_full (s : ByteArray) (w : World) (hp : pre3 (bytesOf s) = true) (h : 3 < s.size) (hk : 1 ≤ kindL (bytesOf s) ∧ kindL (bytesOf s) < 17) (h20 : 20 ≤ s.size) (hmx : s.size ≤ 9223372036854775807) (hNb : Crc.Nibs w) (hz : ¬ sizeL (bytesOf s) < 0 ∧ ¬ (s.size : Int) < sizeL (bytesOf s)) (m : M) (he : decP ((bytesOf s).take (sizeL (bytesOf s)).toNat) = (m, 0)) : Calls Tryd.prog 63 #[.string s] w (TellW 2 (sizeL (bytesOf s)) m w) := by
  obtain ⟨k, ⟨hmin, h0, h1, h3, hq⟩⟩ := head_of s
  rw [hp] at hq
  obtain ⟨kk, hkk⟩ : ∃ kk : Nat, (s[3]'h).toNat = kk := ⟨_, rfl⟩
  have hk2 : kk ≤ 255 := by have := (s[3]'h).toNat_lt; omega
  rw [kindL_byte s h, hkk] at hk
  have H4 : Aside0 ((3 : Int) < (s.size : Int)) := ⟨by omega⟩
  have KN := fun w => Lib.hid (known_yes (kk : Int) w hk)
  obtain ⟨N, hN1⟩ : ∃ N : Nat, sizeL (bytesOf s) = (N : Int) := ⟨(sizeL (bytesOf s)).toNat, by omega⟩
  rw [hN1, Int.toNat_natCast] at he
  have hz1 : ¬ (N : Int) < 0 := by omega
  have hz2 : ¬ (s.size : Int) < (N : Int) := by omega
  have hz3 : (0 : Int) ≤ (N : Int) := by omega
  have hz4 : (N : Int) ≤ (s.size : Int) := by omega
  have H5 : Aside0 (¬ (s.size : Int) < 20) := ⟨by omega⟩
  have KS := fun w => size_any s w h20 hmx
  rw [hN1] at KS
  have KS := fun w => Lib.hid (KS w)
  have hsN := fun wx => run_slice_string_h (P := Tryd.prog) wx 9 s Tryd.underlying9 .i64 (N : Int) hz3 hz4
  rw [Int.toNat_natCast, extract_head s N (by omega)] at hsN
  have KD := fun (w : World) hN => Dec.dec_any (strOfNums ((bytesOf s).take N)) w (by rw [strOfNums_size, List.length_take, bytesOf_length]; omega) hN
  rw [bytesOf_strOfNums _ (byt_take (byt_bytesOf s) N), he] at KD
  have KD := fun (w : World) hN => Lib.hid (KD w hN)
  generalize strOfNums ((bytesOf s).take N) = S3 at hsN KD
  have HNb := Aside0.mk hNb
  clear hNb
  rw [hN1]
  obtain rfl : k = 3 := by rw [if_pos (by omega)] at hmin; omega
  have h3 : (3 : Int) ≤ (s.size : Int) := by omega
  have hs1 := fun wx => run_slice_string_h (P := Tryd.prog) wx 9 s Tryd.underlying9 .i64 (3 : Int) (by decide) h3
  have hs2 := fun wx => run_slice_string_h (P := Tryd.prog) wx 9 { data := #[71, 82, 1] } Tryd.underlying9 .i64 (3 : Int) (by decide) lit_three
  have e3 : (3 : Int).toNat = 3 := rfl
  rw [e3] at hs1 hs2
  clear hmin h0 h1 e3
  generalize s.extract 0 3 = S1 at hs1 hq
  generalize (({ data := #[71, 82, 1] } : ByteArray).extract 0 3) = S2 at hs2 hq
  have HB := Aside0.mk ((Below.refl w.heap.size w).alloc (Nat.le_refl _) (.cells (mL zeroM).toArray 24))
  have HM : Aside0 (MBox (w.alloc (.cells (mL zeroM).toArray 24)) w.heap.size zeroM) := ⟨⟨Go.heap_alloc_new w _, by simp⟩⟩
  generalize hwa : w.alloc (.cells (mL zeroM).toArray 24) = wa at HB HM
  have h3s := lit_three
  go_enter Tryd.func63, Tryd.ntmps63
  go_upto_region 2 with fail
  rw [show w.alloc (.cells #[.int .i64 0, .int .i64 0, .int .i64 0, .int .i64 0, .int .i64 0, .int .i64 0, .int .i64 0, .int .i64 0, .int .i64 0, .string { data := #[] }, .string { data := #[] }] 24) = wa from hwa]
  refine wp_region_still_tail 7 (by kernel_rfl) (by kernel_rfl) ?_
  simp only [List.take_succ_cons, List.take_zero, List.drop_succ_cons, List.drop_zero]
  iterate 7 still_step
  with_reducible refine wpStill_nil ?_
  clear hs1 hs2 hq hp h3s
  have h4 := H4.out
  have h5 := H5.out
  go_wp2_with fail
  refine (KN _).out.mono ?_
  rintro e w1 ⟨rfl, hb⟩
  have hb : Below wa.drew.heap.size wa.drew w1 := hb
  have HM1 := Aside0.mk ((⟨HM.out.row, HM.out.lt⟩ : MBox wa.drew w.heap.size zeroM).below hb HM.out.lt)
  have HB1 := Aside0.mk ((below_drew HB.out).trans (hb.mono (below_drew HB.out).size))
  clear hb HM HB KN hwa
  go_wp2_with fail
  refine (KS _).out.mono ?_
  rintro e w2 ⟨rfl, hb⟩
  have HM2 := Aside0.mk (HM1.out.below hb HM1.out.lt)
  have HB2 := Aside0.mk (HB1.out.trans (hb.mono HB1.out.size))
  clear hb KS HM1 HB1
  go_wp2_with fail
  refine (KD _ (HNb.out.below HB2.out)).out.mono ?_
  rintro e w3 ⟨rfl, hb⟩
  have HM3 := Aside0.mk (HM2.out.below hb HM2.out.lt)
  have HB3 := Aside0.mk (HB2.out.trans (hb.mono HB2.out.size))
  clear hb KD HM2 HB2
  have hth := blk_there (w := w3.alloc (.cells (mL zeroM).toArray 24)) (Go.heap_alloc_new w3 _)
  have hnb := below_setCells ((Below.refl w3.heap.size w3).alloc (Nat.le_refl _) (.cells (mL zeroM).toArray 24)) (Nat.le_refl _) (mL m) 0
  have HM4 := Aside0.mk (HM3.out.below hnb HM3.out.lt)
  have HB4 := Aside0.mk (HB3.out.trans (hnb.mono HB3.out.size))
  have HR4 : Aside0 (MBox ((w3.alloc (.cells (mL zeroM).toArray 24)).setCells w3.heap.size 0 (mL m)) w3.heap.size m) := ⟨⟨setCells_whole (Go.heap_alloc_new w3 _) rfl, by rw [setCells_size]; simp⟩⟩
  clear hnb
  go_upto_region 12 with ((with_reducible refine gate_store (ty := 24) (x := .tmp 6) (y := .tmp 49) rfl ?_); refine wpList_store_mid rfl 24 (.tmp 6) (.tmp 49) rfl w3.heap.size 0 (mL m).toArray rfl rfl hth infoM (mL_one m) ?_)
  clear hth HM3 HB3
  generalize hw4 : (w3.alloc (.cells #[.int .i64 0, .int .i64 0, .int .i64 0, .int .i64 0, .int .i64 0, .int .i64 0, .int .i64 0, .int .i64 0, .int .i64 0, .string { data := #[] }, .string { data := #[] }] 24)).setCells w3.heap.size 0 (mL m) = w4
  rw [show (w3.alloc (.cells (mL zeroM).toArray 24)).setCells w3.heap.size 0 (mL m) = w4 from hw4] at HM4 HB4 HR4
  generalize w3.heap.size = g6 at HR4 hw4 ⊢
  clear hw4
  have hl0 : w4.cell? ⟨g6, 0, none⟩ = some (.int .i64 m.kind) := HR4.out.c 0
  have hl1 : w4.cell? ⟨g6, 1, none⟩ = some (.int .i64 m.from_) := HR4.out.c 1
  have hl2 : w4.cell? ⟨g6, 2, none⟩ = some (.int .i64 m.to_) := HR4.out.c 2
  have hl3 : w4.cell? ⟨g6, 3, none⟩ = some (.int .i64 m.id) := HR4.out.c 3
  have hl4 : w4.cell? ⟨g6, 4, none⟩ = some (.int .i64 m.epoch) := HR4.out.c 4
  have hl5 : w4.cell? ⟨g6, 5, none⟩ = some (.int .i64 m.seq) := HR4.out.c 5
  have hl6 : w4.cell? ⟨g6, 6, none⟩ = some (.int .i64 m.version) := HR4.out.c 6
  have hl7 : w4.cell? ⟨g6, 7, none⟩ = some (.int .i64 m.prev) := HR4.out.c 7
  have hl8 : w4.cell? ⟨g6, 8, none⟩ = some (.int .i64 m.code) := HR4.out.c 8
  have hl9 : w4.cell? ⟨g6, 9, none⟩ = some (.string m.key) := HR4.out.c 9
  have hl10 : w4.cell? ⟨g6, 10, none⟩ = some (.string m.value) := HR4.out.c 10
  go_upto_region 14 with fail
  refine wp_region_still_tail 4 (by kernel_rfl) (by kernel_rfl) ?_
  simp only [List.take_succ_cons, List.take_zero, List.drop_succ_cons, List.drop_zero]
  iterate 3 still_step
  refine wpStill_step (fun K hK => ?_)
  go_simp
  refine hK _ (wpStill_nil ?_)
  have HM5 : Aside0 (MBox ({ w4 with drawn := w4.drawn + 1 } : World) w.heap.size zeroM) := ⟨⟨HM4.out.row, HM4.out.lt⟩⟩
  have HB5 : Aside0 (Below w.heap.size w ({ w4 with drawn := w4.drawn + 1 } : World)) := ⟨below_drew HB4.out⟩
  generalize ({ w4 with drawn := w4.drawn + 1 } : World) = w5 at HM5 HB5 ⊢
  have hth := blk_there HM5.out.row
  clear hK K hl0 hl1 hl2 hl3 hl4 hl5 hl6 hl7 hl8 hl9 hl10
  go_wp2_with ((with_reducible refine gate_store (ty := 24) (x := .tmp 4) (y := .tmp 55) rfl ?_); refine wpList_store_mid rfl 24 (.tmp 4) (.tmp 55) rfl w.heap.size 0 (mL m).toArray rfl rfl hth infoM (mL_one m) ?_)
  have h1 := (⟨setCells_whole HM5.out.row rfl, by rw [setCells_size]; exact HM5.out.lt⟩ : MBox (w5.setCells w.heap.size 0 (mL m)) w.heap.size m)
  have h2 := below_setCells HB5.out (Nat.le_refl _) (mL m) 0
  refine tell_ret rfl rfl rfl ?_ ?_ rfl
  · exact h1
  · exact h2
/-- what begins at the beginning -/
def begP (L : List Int) : Int × Int × M :=
  if pre3 L = false then (0, 0, zeroM)
  else if L.length ≤ 3 then (1, 0, zeroM)
  else if ¬ (1 ≤ kindL L ∧ kindL L < 17) then (0, 0, zeroM)
  else if L.length < 20 then (1, 0, zeroM)
  else if sizeL L < 0 then (0, 0, zeroM)
  else if (L.length : Int) < sizeL L then (1, 0, zeroM)
  else if (decP (L.take (sizeL L).toNat)).2 ≠ 0 then (0, 0, zeroM)
  else (2, sizeL L, (decP (L.take (sizeL L).toNat)).1)
theorem beg_any (s : ByteArray) (w : World) (hmx : s.size ≤ 9223372036854775807) (hN : Crc.Nibs w) : Calls Tryd.prog 63 #[.string s] w (TellW (begP (bytesOf s)).1 (begP (bytesOf s)).2.1 (begP (bytesOf s)).2.2 w) := by
  have hlen : (bytesOf s).length = s.size := bytesOf_length s
  unfold begP
  rw [hlen]
  cases c1 : pre3 (bytesOf s)
  · rw [if_pos rfl]; exact beg_magic s w c1
  rw [if_neg (by decide)]
  by_cases c2 : s.size ≤ 3
  · rw [if_pos c2]; exact beg_short s w c1 c2
  rw [if_neg c2]
  by_cases c3 : 1 ≤ kindL (bytesOf s) ∧ kindL (bytesOf s) < 17
  case neg => rw [if_pos c3]; exact beg_kind s w c1 (by omega) c3
  rw [if_neg (fun h => h c3)]
  by_cases c4 : s.size < 20
  · rw [if_pos c4]; exact beg_head s w c1 (by omega) c3 c4
  rw [if_neg c4]
  by_cases c5 : sizeL (bytesOf s) < 0
  · rw [if_pos c5]; exact beg_neg s w c1 (by omega) c3 (by omega) hmx c5
  rw [if_neg c5]
  by_cases c6 : (s.size : Int) < sizeL (bytesOf s)
  · rw [if_pos c6]; exact beg_wait s w c1 (by omega) c3 (by omega) hmx ⟨c5, c6⟩
  rw [if_neg c6]
  by_cases c7 : (decP ((bytesOf s).take (sizeL (bytesOf s)).toNat)).2 = 0
  case neg => rw [if_pos c7]; exact beg_bad s w c1 (by omega) c3 (by omega) hmx hN ⟨c5, c6⟩ _ _ rfl c7
  rw [if_neg (fun h => h c7)]
  exact beg_full s w c1 (by omega) c3 (by omega) hmx hN ⟨c5, c6⟩ _ (Prod.ext rfl c7)
end Go.Proofs.YtnifgokjagahfaaDoor.Beg

/- Where a frame begins: what the program's begins and the document's at have in common. -/
set_option linter.unusedVariables false
set_option linter.unusedSimpArgs false
namespace Go.Proofs.YtnifgokjagahfaaDoor.Frm
open Go.RowKit Go.Proofs.YtnifgokjagahfaaDoorW.PrintWords Go.Proofs.YtnifgokjagahfaaDoorW.PrintLast Go.Proofs.YtnifgokjagahfaaDoorW.PrintMore
open Go.Proofs.YtnifgokjagahfaaDoor.Base Go.Proofs.YtnifgokjagahfaaDoor.Layouts Go.Proofs.YtnifgokjagahfaaDoor.Msg Go.Proofs.YtnifgokjagahfaaDoor.Put Go.Proofs.YtnifgokjagahfaaDoor.EncPure Go.Proofs.YtnifgokjagahfaaDoor.DecPure Go.Proofs.YtnifgokjagahfaaDoor.Num Go.Proofs.YtnifgokjagahfaaDoor.Mids Go.Proofs.YtnifgokjagahfaaDoor.Beg
/-- a frame begins here: its size and its message -/
def frm (L : List Int) : Option (Nat × M) :=
  if 24 ≤ L.length ∧ bodyN L ≤ 4383 ∧ 24 + bodyN L ≤ L.length ∧ (decP (L.take (24 + bodyN L).toNat)).2 = 0 then some ((24 + bodyN L).toNat, (decP (L.take (24 + bodyN L).toNat)).1) else none
theorem bodyN_take (L : List Int) (n : Nat) (h : 20 ≤ n) : bodyN (L.take n) = bodyN L := by
  unfold bodyN
  rw [List.drop_take, List.take_take, Nat.min_eq_left (by omega)]
theorem head_of_ok (L : List Int) (n : Nat) (hn : 24 ≤ n) (hl : n ≤ L.length) (hb : Byt L) (h : (decP (L.take n)).2 = 0) : pre3 L = true ∧ (1 ≤ kindL L ∧ kindL L < 17) := by
  generalize hr : decP (L.take n) = r at h
  obtain ⟨m, k⟩ := r
  simp only at h
  subst h
  obtain ⟨hv, hk, hw⟩ := dec_ok (byt_take hb n) hr
  have e4 : (L.take n).take 4 = [71, 82, 1, m.kind] := by rw [hw, whole_parts]; rfl
  have e3 : L.take 4 = [71, 82, 1, m.kind] := by rw [← e4, List.take_take, Nat.min_eq_left (by omega)]
  obtain ⟨q1, q2⟩ := kindL_of e3
  refine ⟨?_, by rw [q1]; exact hk⟩
  unfold pre3
  rw [Nat.min_eq_right (by omega), q2]
  rfl
theorem begP_full (L : List Int) (hb : Byt L) (n : Nat) (m : M) (h : frm L = some (n, m)) : begP L = (2, (n : Int), m) := by
  unfold frm at h
  split at h
  · rename_i hc
    obtain ⟨c1, c2, c3, c4⟩ := hc
    simp only [Option.some.injEq, Prod.mk.injEq] at h
    obtain ⟨h1, h2⟩ := h
    have hn0 : 0 ≤ bodyN L := val_nonneg _ (byt_take (byt_drop hb _) _)
    have hz : sizeL L = 24 + bodyN L := by rw [Dec.sizeL_eq, if_neg (by omega)]
    obtain ⟨p1, p2⟩ := head_of_ok L (24 + bodyN L).toNat (by omega) (by omega) hb c4
    unfold begP
    rw [p1, if_neg (by decide), if_neg (by omega), if_neg (fun h => h p2), if_neg (by omega), hz, if_neg (by omega), if_neg (by omega), if_neg (fun h => h c4), h2, ← h1, Int.toNat_of_nonneg (by omega)]
  · cases h
theorem begP_none (L : List Int) (hb : Byt L) (h : frm L = none) : (begP L).1 ≠ 2 := by
  have hn0 : 0 ≤ bodyN L := val_nonneg _ (byt_take (byt_drop hb _) _)
  unfold begP
  split
  · decide
  split
  · decide
  split
  · decide
  split
  · decide
  split
  · decide
  split
  · decide
  split
  · decide
  rename_i a1 a2 a3 a4 a5 a6 a7
  exfalso
  have hz := Dec.sizeL_eq L
  by_cases c2 : 4383 < bodyN L
  · rw [if_pos c2] at hz; omega
  · rw [if_neg c2] at hz
    rw [hz] at a6 a7
    unfold frm at h
    rw [if_pos ⟨by omega, by omega, by omega, by simpa using a7⟩] at h
    cases h
end Go.Proofs.YtnifgokjagahfaaDoor.Frm

/- next of the frame package: the first place at which a frame can begin. -/
set_option linter.unusedVariables false
set_option linter.unusedSimpArgs false
namespace Go.Proofs.YtnifgokjagahfaaDoor.Next
open Go.RowKit Go.Proofs.YtnifgokjagahfaaDoorW.PrintWords Go.Proofs.YtnifgokjagahfaaDoorW.PrintLast Go.Proofs.YtnifgokjagahfaaDoorW.PrintMore
open Go.Proofs.YtnifgokjagahfaaDoor.Base Go.Proofs.YtnifgokjagahfaaDoor.Layouts Go.Proofs.YtnifgokjagahfaaDoor.Msg Go.Proofs.YtnifgokjagahfaaDoor.Put Go.Proofs.YtnifgokjagahfaaDoor.EncPure Go.Proofs.YtnifgokjagahfaaDoor.DecPure Go.Proofs.YtnifgokjagahfaaDoor.Num Go.Proofs.YtnifgokjagahfaaDoor.Mids Go.Proofs.YtnifgokjagahfaaDoor.Beg
set_option maxRecDepth 100000 in
theorem sindex_any (s : ByteArray) (c : Int) (w : World) : Calls Tryd.prog 86 #[.string s, .int .u8 c] w fun e w' => e = .returned (.int .i64 (Lib.indexByte s.data.toList c.toNat.toUInt8)) ∧ w' = w := by
  go_enter Tryd.func86, Tryd.ntmps86
  go_wp2
  rw [run_callFunc_extern Tryd.func87 (by kernel_rfl) (by kernel_rfl) (by kernel_rfl) (e := Extern.BytealgIndexByte.indexByte) (by kernel_rfl), Lib.run_indexByteString]
  simp only [Result.andThen]
  rw [Oper.upon_value]
  go_wp2
  go_ret
  exact ⟨rfl, rfl⟩
theorem index_any (s : ByteArray) (c : Int) (w : World) : Calls Tryd.prog 80 #[.string s, .int .u8 c] w fun e w' => e = .returned (.int .i64 (Lib.indexByte s.data.toList c.toNat.toUInt8)) ∧ w' = w := by
  go_enter Tryd.func80, Tryd.ntmps80
  go_wp2_with fail
  refine (sindex_any s c w).mono ?_
  rintro e w' ⟨rfl, rfl⟩
  go_wp2
  go_ret
  exact ⟨rfl, rfl⟩
/-- how many bytes stand ahead of the first 71, or of the end -/
def skip : List UInt8 → Nat
  | [] => 0
  | b :: l => if b == 71 then 0 else skip l + 1
theorem skip_le : ∀ l : List UInt8, skip l ≤ l.length
  | [] => Nat.le_refl _
  | b :: l => by
    have := skip_le l
    simp only [skip, List.length_cons]
    split <;> omega
theorem index_skip : ∀ l : List UInt8, Lib.indexByte l 71 = if skip l = l.length then -1 else (skip l : Int)
  | [] => rfl
  | b :: l => by
    have ih := index_skip l
    have hl := skip_le l
    simp only [Lib.indexByte, skip, List.length_cons]
    by_cases hb : (b == 71) = true
    · simp only [if_pos hb]
      rw [if_neg (by omega)]
      rfl
    · simp only [if_neg hb]
      rw [ih]
      by_cases h : skip l = l.length
      · rw [if_pos h, if_pos (by decide), if_pos (by omega)]
      · rw [if_neg h, if_neg (by rw [beq_iff_eq]; omega), if_neg (by omega)]
        omega
/-- the first place at or behind a where a frame can begin, or the end -/
def nxt (s : ByteArray) (a : Nat) : Nat := a + skip (s.data.toList.drop a)
theorem nxt_le (s : ByteArray) (a : Nat) (h : a ≤ s.size) : a ≤ nxt s a ∧ nxt s a ≤ s.size := by
  have := skip_le (s.data.toList.drop a)
  have e : s.data.toList.length = s.size := rfl
  rw [List.length_drop, e] at this
  unfold nxt
  omega
theorem extract_list (s : ByteArray) (a : Nat) : (s.extract a s.size).data.toList = s.data.toList.drop a := by
  rw [ByteArray.data_extract, Array.toList_extract, List.extract_eq_take_drop, List.take_of_length_le]
  rw [List.length_drop]
  exact Nat.le_refl _
theorem lit_at : (({ data := #[71, 82, 1] } : ByteArray)[0]'(by decide)).toNat = 71 := rfl
set_option maxRecDepth 100000 in
set_option maxHeartbeats 2000000 in
theorem next_any (s : ByteArray) (a : Nat) (w : World) (h : a ≤ s.size) (hmx : s.size ≤ 9223372036854775807) : Calls Tryd.prog 64 #[.string s, .int .i64 (a : Nat)] w fun e w' => e = .returned (.int .i64 (nxt s a : Nat)) ∧ Drawn0 w w' := by
  have h0 : (0 : Int) ≤ (a : Int) := by omega
  have h1 : (a : Int) ≤ (s.size : Int) := by omega
  have hs1 := fun wx => run_slice_string_l (P := Tryd.prog) wx 9 s Tryd.underlying9 .i64 (a : Int) h0 h1
  rw [Int.toNat_natCast] at hs1
  have hx := extract_list s a
  have hi := index_skip (s.data.toList.drop a)
  have hle := skip_le (s.data.toList.drop a)
  have hn : nxt s a = a + skip (s.data.toList.drop a) := rfl
  have hlen : (s.data.toList.drop a).length = s.size - a := by rw [List.length_drop]; rfl
  rw [hlen] at hi hle
  generalize skip (s.data.toList.drop a) = k at hi hle hn
  rw [← hx] at hi
  generalize s.extract a s.size = S1 at hs1 hx hi
  have K := fun w => Lib.hid (index_any S1 71 w)
  rw [show (71 : Int).toNat.toUInt8 = 71 from rfl, hi] at K
  clear hx hi hlen
  rw [hn]
  have hcase : k = s.size - a ∨ (k ≠ s.size - a ∧ k < s.size - a) := by omega
  go_enter Tryd.func64, Tryd.ntmps64
  go_upto_region 1 with fail
  refine wp_region_still_tail 4 (by kernel_rfl) (by kernel_rfl) ?_
  simp only [List.take_succ_cons, List.take_zero, List.drop_succ_cons, List.drop_zero]
  iterate 4 still_step
  with_reducible refine wpStill_nil ?_
  rcases hcase with hk | ⟨hk, hlt⟩
  · rw [if_pos hk] at K
    have HSUM := Lib.hid (show s.size = a + k by omega)
    clear hk hle hn
    go_wp2_with fail
    refine (K _).out.mono ?_
    rintro e w1 ⟨rfl, rfl⟩
    go_wp2
    go_ret
    exact ⟨by rw [HSUM.out]; rfl, ⟨1, rfl⟩⟩
  · rw [if_neg hk] at K
    have hneg : ¬ (k : Int) < 0 := by omega
    have hw : wrap64 ((a : Int) + (k : Int)) = ((a + k : Nat) : Int) := by rw [w64 _ (by omega) (by omega)]; omega
    go_wp2_with fail
    refine (K _).out.mono ?_
    rintro e w1 ⟨rfl, rfl⟩
    go_wp2
    go_ret
    exact ⟨by go_num, ⟨1, rfl⟩⟩
end Go.Proofs.YtnifgokjagahfaaDoor.Next

/- The frames of a stream, as a list; plain. -/
set_option linter.unusedVariables false
set_option linter.unusedSimpArgs false
namespace Go.Proofs.YtnifgokjagahfaaDoor.SplitPure
open Go.RowKit Go.Proofs.YtnifgokjagahfaaDoorW.PrintWords Go.Proofs.YtnifgokjagahfaaDoorW.PrintLast Go.Proofs.YtnifgokjagahfaaDoorW.PrintMore
open Go.Proofs.YtnifgokjagahfaaDoor.Base Go.Proofs.YtnifgokjagahfaaDoor.Layouts Go.Proofs.YtnifgokjagahfaaDoor.Msg Go.Proofs.YtnifgokjagahfaaDoor.Put Go.Proofs.YtnifgokjagahfaaDoor.EncPure Go.Proofs.YtnifgokjagahfaaDoor.DecPure Go.Proofs.YtnifgokjagahfaaDoor.Num Go.Proofs.YtnifgokjagahfaaDoor.Mids Go.Proofs.YtnifgokjagahfaaDoor.Beg Go.Proofs.YtnifgokjagahfaaDoor.Frm Go.Proofs.YtnifgokjagahfaaDoor.Next
/-- a piece: its place, its size, its message -/
abbrev Pc := Nat × Nat × M
/-- the frame that begins at a place of a text -/
def fr (s : ByteArray) (i : Nat) : Option (Nat × M) := frm ((bytesOf s).drop i)
theorem frm_bounds {L : List Int} (hb : Byt L) {n : Nat} {m : M} (h : frm L = some (n, m)) : 24 ≤ n ∧ n ≤ 4407 ∧ n ≤ L.length ∧ pre3 L = true := by
  unfold frm at h
  split at h
  · rename_i hc
    obtain ⟨c1, c2, c3, c4⟩ := hc
    simp only [Option.some.injEq, Prod.mk.injEq] at h
    have hn0 : 0 ≤ bodyN L := val_nonneg _ (byt_take (byt_drop hb _) _)
    obtain ⟨p1, _⟩ := head_of_ok L (24 + bodyN L).toNat (by omega) (by omega) hb c4
    exact ⟨by omega, by omega, by omega, p1⟩
  · cases h
theorem byt_at (s : ByteArray) (i : Nat) : Byt ((bytesOf s).drop i) := byt_drop (byt_bytesOf s) i
theorem fr_bounds {s : ByteArray} {i n : Nat} {m : M} (h : fr s i = some (n, m)) : 24 ≤ n ∧ n ≤ 4407 ∧ i + n ≤ s.size := by
  obtain ⟨h1, h2, h3, _⟩ := frm_bounds (byt_at s i) h
  rw [List.length_drop, bytesOf_length] at h3
  exact ⟨h1, h2, by omega⟩
/-- the pieces from a place on, so many places at the most -/
def spl (s : ByteArray) : Nat → Nat → List Pc
  | 0, _ => []
  | k + 1, i => if i < s.size then (match fr s i with | none => spl s k (i + 1) | some (n, m) => (i, n, m) :: spl s k (i + n)) else []
theorem spl_enough (s : ByteArray) : ∀ (k i : Nat), s.size - i ≤ k → spl s k i = spl s (s.size - i) i := by
  intro k
  induction k using Nat.strongRecOn with
  | ind k ih =>
    intro i hk
    by_cases hi : i < s.size
    · obtain ⟨j, hj⟩ : ∃ j, s.size - i = j + 1 := ⟨s.size - i - 1, by omega⟩
      obtain ⟨k', rfl⟩ : ∃ k', k = k' + 1 := ⟨k - 1, by omega⟩
      rw [hj]
      simp only [spl, if_pos hi]
      cases hf : fr s i with
      | none => simp only; rw [ih k' (by omega) (i + 1) (by omega), ← ih j (by omega) (i + 1) (by omega)]
      | some r =>
        obtain ⟨n, m⟩ := r
        obtain ⟨h1, _, _⟩ := fr_bounds hf
        simp only
        rw [ih k' (by omega) (i + n) (by omega), ← ih j (by omega) (i + n) (by omega)]
    · have h0 : s.size - i = 0 := by omega
      rw [h0]
      cases k with
      | zero => rfl
      | succ k => simp only [spl, if_neg hi]
/-- the pieces from a place on -/
def pcs (s : ByteArray) (i : Nat) : List Pc := spl s (s.size - i) i
theorem pcs_end {s : ByteArray} {i : Nat} (h : s.size ≤ i) : pcs s i = [] := by
  unfold pcs
  rw [show s.size - i = 0 by omega]
  rfl
theorem pcs_none {s : ByteArray} {i : Nat} (hi : i < s.size) (hf : fr s i = none) : pcs s i = pcs s (i + 1) := by
  unfold pcs
  obtain ⟨j, hj⟩ : ∃ j, s.size - i = j + 1 := ⟨s.size - i - 1, by omega⟩
  rw [hj]
  simp only [spl, if_pos hi, hf]
  exact spl_enough s j (i + 1) (by omega)
theorem pcs_some {s : ByteArray} {i n : Nat} {m : M} (hf : fr s i = some (n, m)) : pcs s i = (i, n, m) :: pcs s (i + n) := by
  obtain ⟨h1, _, h3⟩ := fr_bounds hf
  unfold pcs
  obtain ⟨j, hj⟩ : ∃ j, s.size - i = j + 1 := ⟨s.size - i - 1, by omega⟩
  rw [hj]
  simp only [spl, if_pos (show i < s.size by omega), hf]
  rw [spl_enough s j (i + n) (by omega)]
theorem pcs_len (s : ByteArray) : ∀ (k i : Nat), s.size - i ≤ k → 24 * (pcs s i).length ≤ s.size - i := by
  intro k
  induction k with
  | zero => intro i h; rw [pcs_end (by omega)]; exact Nat.zero_le _
  | succ k ih =>
    intro i h
    by_cases hi : i < s.size
    · cases hf : fr s i with
      | none => rw [pcs_none hi hf]; have := ih (i + 1) (by omega); omega
      | some r =>
        obtain ⟨n, m⟩ := r
        obtain ⟨h1, _, h3⟩ := fr_bounds hf
        rw [pcs_some hf, List.length_cons]
        have := ih (i + n) (by omega)
        omega
    · rw [pcs_end (by omega)]; exact Nat.zero_le _
theorem pcs_bytes (s : ByteArray) (i : Nat) : 24 * (pcs s i).length ≤ s.size := by
  have := pcs_len s (s.size - i) i (Nat.le_refl _)
  omega
theorem fr_byte {s : ByteArray} {i n : Nat} {m : M} (hi : i < s.size) (h : fr s i = some (n, m)) : (s[i]'hi).toNat = 71 := by
  obtain ⟨h1, _, h3, hp⟩ := frm_bounds (byt_at s i) h
  unfold pre3 at hp
  rw [Nat.min_eq_right (by omega)] at hp
  have hp := of_decide_eq_true hp
  have h0 : ((bytesOf s).drop i)[0]? = some 71 := by
    have : (((bytesOf s).drop i).take 3)[0]? = some 71 := by rw [hp]; rfl
    rwa [List.getElem?_take_of_lt (by decide)] at this
  rw [List.getElem?_drop, bytesOf, List.getElem?_map] at h0
  have e : s.data.toList[i + 0]? = some (s[i]'hi) := by
    rw [Nat.add_zero, List.getElem?_eq_getElem (by rw [data_length]; exact hi)]
    rfl
  rw [e] at h0
  simp only [Option.map_some, Option.some.injEq] at h0
  omega
theorem pcs_nxt (s : ByteArray) : ∀ (k a : Nat), s.size - a ≤ k → a ≤ s.size → pcs s (nxt s a) = pcs s a := by
  intro k
  induction k with
  | zero =>
    intro a h ha
    have := nxt_le s a ha
    rw [show nxt s a = a by omega]
  | succ k ih =>
    intro a h ha
    by_cases hi : a < s.size
    · have hd : s.data.toList.drop a = s[a]'hi :: s.data.toList.drop (a + 1) := by
        rw [List.drop_eq_getElem_cons (by rw [data_length]; exact hi)]
        rfl
      by_cases hb : (s[a]'hi == 71) = true
      · have : nxt s a = a := by unfold nxt; rw [hd]; simp only [skip, if_pos hb, Nat.add_zero]
        rw [this]
      · have hn : nxt s a = nxt s (a + 1) := by unfold nxt; rw [hd]; simp only [skip, if_neg hb]; omega
        rw [hn, ih (a + 1) (by omega) (by omega)]
        refine (pcs_none hi ?_).symm
        cases hf : fr s a with
        | none => rfl
        | some r =>
          obtain ⟨n, m⟩ := r
          have := fr_byte hi hf
          exact absurd (beq_iff_eq.2 (UInt8.toNat_inj.1 this)) hb
    · have := nxt_le s a ha
      rw [show nxt s a = a by omega]
theorem pcs_next (s : ByteArray) (a : Nat) (h : a ≤ s.size) : pcs s (nxt s a) = pcs s a := pcs_nxt s _ a (Nat.le_refl _) h
theorem drop_bytesOf (s : ByteArray) (i : Nat) (hi : i ≤ s.size) : bytesOf (s.extract i s.size) = (bytesOf s).drop i := by
  unfold bytesOf
  rw [extract_list, List.map_drop]
end Go.Proofs.YtnifgokjagahfaaDoor.SplitPure

/- Pieces in memory; appending to a list of them. -/
set_option linter.unusedVariables false
set_option linter.unusedSimpArgs false
namespace Go.Proofs.YtnifgokjagahfaaDoor.Pcs
open Go.RowKit Go.Proofs.YtnifgokjagahfaaDoorW.PrintWords Go.Proofs.YtnifgokjagahfaaDoorW.PrintLast Go.Proofs.YtnifgokjagahfaaDoorW.PrintMore
open Go.Proofs.YtnifgokjagahfaaDoor.Base Go.Proofs.YtnifgokjagahfaaDoor.App Go.Proofs.YtnifgokjagahfaaDoor.Layouts Go.Proofs.YtnifgokjagahfaaDoor.Msg Go.Proofs.YtnifgokjagahfaaDoor.Mids Go.Proofs.YtnifgokjagahfaaDoor.SplitPure
/-- a piece's cells -/
def pL (p : Pc) : List Value := .int .i64 (p.1 : Nat) :: .int .i64 (p.2.1 : Nat) :: mL p.2.2
def psL (l : List Pc) : List Value := l.flatMap pL
theorem pL_length (p : Pc) : (pL p).length = 13 := rfl
theorem psL_length (l : List Pc) : (psL l).length = l.length * 13 := by
  induction l with
  | nil => rfl
  | cons p l ih => unfold psL at ih ⊢; rw [List.flatMap_cons, List.length_append, ih, pL_length, List.length_cons]; omega
theorem psL_snoc (l : List Pc) (p : Pc) : psL (l ++ [p]) = psL l ++ pL p := by simp [psL]
theorem pL_one (p : Pc) : ∀ u ∈ pL p, u.oneCell' = true := by simp [pL, mL, Value.oneCell']
theorem pL_all (p : Pc) : (pL p).toArray.all (·.oneCell') = true := all_oneCell_toArray (pL_one p)
theorem infoP : (Tryd.prog.info? 44).map (fun i => (i.zero, i.size, i.bytes)) = some (some (.agg #[.int .i64 0, .int .i64 0, .int .i64 0, .int .i64 0, .int .i64 0, .int .i64 0, .int .i64 0, .int .i64 0, .int .i64 0, .int .i64 0, .int .i64 0, .string { data := #[] }, .string { data := #[] }]), 13, 120) := by kernel_rfl
section
variable {P : Program} {ops : Array Oper} {rest : List Oper} {o : Oper} {a : Act} {Q : Exit → Act → World → Prop} {K : Act → World → Prop}
/-- append onto a slice of the call's own, elements of any size -/
theorem append_wp {w0 W : World} (base : Nat) (s x : Operand) (t e : TypeId) (z : Value) (size bytes : Nat)
    (ho : o.op = .call { callee := .builtin .append, args := #[s, x], argTypes := #[t, t] })
    (ht : P.underlying t = some (.slice e)) (hinfo : (P.info? e).map (fun i => (i.zero, i.size, i.bytes)) = some (some z, size, bytes)) (hz : z.cells.size = size) (hs0 : 0 < size) (hb0 : 0 < bytes)
    (v : Value) (n : Nat) (xs : List Value) (b m c : Nat) (ys : List Value) (hs : a.eval s = v) (hx : a.eval x = .slice (some ⟨b, 0, none⟩) m c) (hm : ys.length = m * size) (h1 : ∀ u ∈ ys, u.oneCell' = true)
    (hc : ∀ j u, ys[j]? = some u → W.cell? ⟨b, j, none⟩ = some u)
    (HO : W.ownsRow base e size v n xs) (HB : Below base w0 W) (hbase : base ≤ W.heap.size) (hl : (n + m) * bytes ≤ 140737488355328)
    (h : ∀ v1 w1, w1.ownsRow base e size v1 (n + m) (xs ++ ys) → Below base w0 w1 → W.grownBy w1 v.ownBlock → K (a.put o.dst v1) w1) :
    Oper.wp P o a W K Q := by
  obtain ⟨i0, hi, hzz⟩ := Option.map_eq_some_iff.1 hinfo
  simp only [Prod.mk.injEq] at hzz
  obtain ⟨hz0, hz1, hz2⟩ := hzz
  have hlen : n + m ≤ 140737488355328 := Nat.le_trans (Nat.le_mul_of_pos_right _ hb0) hl
  obtain ⟨v1, w1, hr, hown, hg, _⟩ := run_append_own (P := P) W base t o.type e i0 z size bytes ht hi hz0 hz1 hz2 hz hs0 v n xs HO ⟨b, 0, none⟩ m c ys hm
    (by intro j u hj; have := hc j u hj; have e : (⟨b, 0, none⟩ : Addr).add j = ⟨b, j, none⟩ := by unfold Addr.add; split <;> simp_all
        rw [e]; exact this) h1 (by simp only [maxLen]; omega) hl hbase
  unfold Oper.wp execOp
  simp only [ho, resolve, invoke, builtin, Sem.run_bind, Sem.run_pure, Result.andThen_ok, List.map_toArray, List.map_cons, List.map_nil, hs, hx, hr]
  exact h v1 w1 hown (HB.grown hg hbase (fun k hk => (HO.lt k hk).1)) hg
theorem gate_call {fn : Callee} {args : Array Operand} {ts : Array TypeId} {w : World} (_ho : o.op = .call { callee := fn, args := args, argTypes := ts }) (h : wpList P ops Q (o :: rest) a w) : wpList P ops Q (o :: rest) a w := h
theorem list_append_wide {w0 W : World} (base : Nat) (hgd : o.guard = none) (s x : Operand) (t e : TypeId) (z : Value) (size bytes : Nat)
    (ho : o.op = .call { callee := .builtin .append, args := #[s, x], argTypes := #[t, t] })
    (ht : P.underlying t = some (.slice e)) (hinfo : (P.info? e).map (fun i => (i.zero, i.size, i.bytes)) = some (some z, size, bytes)) (hz : z.cells.size = size) (hs0 : 0 < size) (hb0 : 0 < bytes)
    (v : Value) (n : Nat) (xs : List Value) (b m c : Nat) (ys : List Value) (hs : a.eval s = v) (hx : a.eval x = .slice (some ⟨b, 0, none⟩) m c) (hm : ys.length = m * size) (h1 : ∀ u ∈ ys, u.oneCell' = true)
    (hc : ∀ j u, ys[j]? = some u → W.cell? ⟨b, j, none⟩ = some u)
    (HO : W.ownsRow base e size v n xs) (HB : Below base w0 W) (hbase : base ≤ W.heap.size) (hl : (n + m) * bytes ≤ 140737488355328)
    (h : ∀ v1 w1, w1.ownsRow base e size v1 (n + m) (xs ++ ys) → Below base w0 w1 → W.grownBy w1 v.ownBlock → wpList P ops Q rest (a.put o.dst v1) w1) :
    wpList P ops Q (o :: rest) a W :=
  wpList_plain hgd fun _ hK => append_wp base s x t e z size bytes ho ht hinfo hz hs0 hb0 v n xs b m c ys hs hx hm h1 hc HO HB hbase hl (fun v1 w1 a b c => hK _ _ (h v1 w1 a b c))
end
/-- a piece as a value -/
def pV (a b : Int) (m : M) : Array Value := (.int .i64 a :: .int .i64 b :: mL m).toArray
theorem built_piece (a b : Int) (m : M) : Tryd.prog.built 44 [(0, .int .i64 a), (1, .int .i64 b), (2, .agg (mL m).toArray)] = some (pV a b m) := by kernel_rfl
theorem run_buildP (w : World) (a b : Int) (m : M) : (Instr.build 44 #[(0, .int .i64 a), (1, .int .i64 b), (2, .agg (mL m).toArray)]).run Tryd.prog w = .ok (.agg (pV a b m)) w := run_build w _ _ _ (built_piece a b m)
theorem run_oneP (w : World) (a b : Int) (m : M) : (Instr.buildSlice 38 1 #[(0, .agg (pV a b m))]).run Tryd.prog w = .ok (.slice (some ⟨w.heap.size, 0, none⟩) 1 1) (w.alloc (.cells (pV a b m) 44)) := by
  obtain ⟨i0, hi, hzz⟩ := Option.map_eq_some_iff.1 infoP
  simp only [Prod.mk.injEq] at hzz
  obtain ⟨hz0, hz1, hz2⟩ := hzz
  refine run_buildSlice w _ _ 1 _ (pV a b m) i0 _ Tryd.underlying38 hi hz0 ?_ ?_ ?_
  · rw [hz1]; decide
  · rw [hz1]; decide
  · rw [hz1]; kernel_rfl
section
variable {ops : Array Oper} {rest : List Oper} {o : Oper} {act : Act} {Q : Exit → Act → World → Prop} {w : World}
theorem list_buildP (hg : o.guard = none) (x y z : Tmp) (ho : o.op = .build 44 #[(0, .tmp x), (1, .tmp y), (2, .tmp z)]) (a b : Int) (m : M)
    (hx : act.eval (.tmp x) = .int .i64 a) (hy : act.eval (.tmp y) = .int .i64 b) (hz : act.eval (.tmp z) = .agg (mL m).toArray)
    (h : wpList Tryd.prog ops Q rest (act.put o.dst (.agg (pV a b m))) w) : wpList Tryd.prog ops Q (o :: rest) act w := by
  refine wpList_plain hg fun K hK => ?_
  unfold Oper.wp execOp
  simp only [ho, List.map_toArray, List.map_cons, List.map_nil, hx, hy, hz, Sem.run_bind, run_buildP, Result.andThen_ok]
  exact hK _ _ h
theorem list_oneP (hg : o.guard = none) (x : Tmp) (ho : o.op = .buildSlice 38 1 #[(0, .tmp x)]) (a b : Int) (m : M) (hx : act.eval (.tmp x) = .agg (pV a b m))
    (h : wpList Tryd.prog ops Q rest (act.put o.dst (.slice (some ⟨w.heap.size, 0, none⟩) 1 1)) (w.alloc (.cells (pV a b m) 44))) : wpList Tryd.prog ops Q (o :: rest) act w := by
  refine wpList_plain hg fun K hK => ?_
  unfold Oper.wp execOp
  simp only [ho, List.map_toArray, List.map_cons, List.map_nil, hx, Sem.run_bind, run_oneP, Result.andThen_ok]
  exact hK _ _ h
theorem gate_build {t : TypeId} {parts : Array (Nat × Operand)} (_ho : o.op = .build t parts) (h : wpList Tryd.prog ops Q (o :: rest) act w) : wpList Tryd.prog ops Q (o :: rest) act w := h
theorem gate_buildSlice {t : TypeId} {n : Nat} {parts : Array (Nat × Operand)} (_ho : o.op = .buildSlice t n parts) (h : wpList Tryd.prog ops Q (o :: rest) act w) : wpList Tryd.prog ops Q (o :: rest) act w := h
end
theorem own_later {w w' : World} {base : Nat} {e : TypeId} {size : Nat} {v : Value} {n : Nat} {xs : List Value} (h : w.ownsRow base e size v n xs) (hb : Below w.heap.size w w') : w'.ownsRow base e size v n xs :=
  h.kept (row := none) ⟨hb.os, hb.tape, hb.output, hb.size, fun k hk _ => hb.block k hk⟩ (by cases v.ownBlock <;> simp)
theorem psL_at : ∀ (l : List Pc) (j : Nat) (p : Pc), l[j]? = some p → ∀ (i : Nat) (u : Value), (pL p)[i]? = some u → (psL l)[j * 13 + i]? = some u := by
  intro l
  induction l with
  | nil => intro j p h; simp at h
  | cons q l ih =>
    intro j p h i u hu
    have hi : i < 13 := by
      have := (List.getElem?_eq_some_iff.1 hu).1
      rwa [pL_length] at this
    have e : psL (q :: l) = pL q ++ psL l := by unfold psL; rw [List.flatMap_cons]
    rw [e]
    cases j with
    | zero =>
      simp only [List.getElem?_cons_zero, Option.some.injEq] at h
      subst h
      rw [List.getElem?_append_left (by rw [pL_length]; omega), Nat.zero_mul, Nat.zero_add]
      exact hu
    | succ j =>
      rw [List.getElem?_cons_succ] at h
      rw [List.getElem?_append_right (by rw [pL_length]; omega), pL_length]
      have := ih j p h i u hu
      rw [← this]
      congr 1
      omega
end Go.Proofs.YtnifgokjagahfaaDoor.Pcs

/- What a Reader tells of a stream that comes in parts; plain. -/
set_option linter.unusedVariables false
set_option linter.unusedSimpArgs false
namespace Go.Proofs.YtnifgokjagahfaaDoor.ReadPure
open Go.RowKit Go.Proofs.YtnifgokjagahfaaDoorW.PrintWords Go.Proofs.YtnifgokjagahfaaDoorW.PrintLast Go.Proofs.YtnifgokjagahfaaDoorW.PrintMore
open Go.Proofs.YtnifgokjagahfaaDoor.Base Go.Proofs.YtnifgokjagahfaaDoor.Layouts Go.Proofs.YtnifgokjagahfaaDoor.Msg Go.Proofs.YtnifgokjagahfaaDoor.Put Go.Proofs.YtnifgokjagahfaaDoor.EncPure Go.Proofs.YtnifgokjagahfaaDoor.DecPure Go.Proofs.YtnifgokjagahfaaDoor.Num Go.Proofs.YtnifgokjagahfaaDoor.Mids Go.Proofs.YtnifgokjagahfaaDoor.Beg Go.Proofs.YtnifgokjagahfaaDoor.Frm Go.Proofs.YtnifgokjagahfaaDoor.Next Go.Proofs.YtnifgokjagahfaaDoor.SplitPure
theorem bodyN_append (L X : List Int) (h : 20 ≤ L.length) : bodyN (L ++ X) = bodyN L := by
  unfold bodyN
  rw [List.drop_append_of_le_length (by omega), List.take_append_of_le_length (by rw [List.length_drop]; omega)]
theorem frm_append {L : List Int} (X : List Int) (hb : Byt L) {r : Nat × M} (h : frm L = some r) : frm (L ++ X) = some r := by
  unfold frm at h ⊢
  split at h
  · rename_i hc
    obtain ⟨c1, c2, c3, c4⟩ := hc
    have hn0 : 0 ≤ bodyN L := val_nonneg _ (byt_take (byt_drop hb _) _)
    have hB := bodyN_append L X (by omega)
    have hT : (L ++ X).take (24 + bodyN L).toNat = L.take (24 + bodyN L).toNat := List.take_append_of_le_length (by omega)
    rw [hB, hT, if_pos ⟨by rw [List.length_append]; omega, c2, by rw [List.length_append]; omega, c4⟩]
    exact h
  · cases h
theorem kindL_append (L X : List Int) (h : 3 < L.length) : kindL (L ++ X) = kindL L := by
  unfold kindL
  rw [List.getD_eq_getElem?_getD, List.getD_eq_getElem?_getD, List.getElem?_append_left h]
/-- what is refused is refused of whatever longer text -/
theorem refused {L : List Int} (X : List Int) (hb : Byt L) (hX : Byt X) (h : (begP L).1 = 0) : frm (L ++ X) = none := by
  cases hf : frm (L ++ X) with
  | none => rfl
  | some r =>
    exfalso
    obtain ⟨n, m⟩ := r
    have hbx : Byt (L ++ X) := byt_append.2 ⟨hb, hX⟩
    obtain ⟨b1, b2, b3, bp⟩ := frm_bounds hbx hf
    have hf0 := hf
    unfold frm at hf
    split at hf
    · rename_i hc
      obtain ⟨c1, c2, c3, c4⟩ := hc
      have hn0 : 0 ≤ bodyN (L ++ X) := val_nonneg _ (byt_take (byt_drop hbx _) _)
      obtain ⟨p1, p2⟩ := head_of_ok (L ++ X) (24 + bodyN (L ++ X)).toNat (by omega) (by omega) hbx c4
      have q1 : pre3 L = true := by
        unfold pre3 at p1 ⊢
        rw [Nat.min_eq_right (by omega)] at p1
        have p1 := of_decide_eq_true p1
        refine decide_eq_true ?_
        have e : L.take (min L.length 3) = ((L ++ X).take 3).take (min L.length 3) := by
          rw [List.take_take, Nat.min_eq_left (Nat.min_le_right _ _), List.take_append_of_le_length (Nat.min_le_left _ _)]
        rw [e, p1]
        congr 1
      unfold begP at h
      rw [q1, if_neg (by decide)] at h
      by_cases d1 : L.length ≤ 3
      · rw [if_pos d1] at h; exact absurd h (by decide)
      rw [if_neg d1] at h
      rw [kindL_append L X (by omega)] at p2
      rw [if_neg (fun hh => hh p2)] at h
      by_cases d2 : L.length < 20
      · rw [if_pos d2] at h; exact absurd h (by decide)
      rw [if_neg d2] at h
      have hB := bodyN_append L X (by omega)
      rw [hB] at c2 c3 c4 hn0
      have hz : sizeL L = 24 + bodyN L := by rw [Dec.sizeL_eq, if_neg (by omega)]
      rw [hz, if_neg (by omega)] at h
      by_cases d3 : (L.length : Int) < 24 + bodyN L
      · rw [if_pos d3] at h; exact absurd h (by decide)
      rw [if_neg d3] at h
      have hT : (L ++ X).take (24 + bodyN L).toNat = L.take (24 + bodyN L).toNat := List.take_append_of_le_length (by omega)
      rw [hT] at c4
      rw [if_neg (fun hh => hh c4)] at h
      simp at h
    · cases hf
/-- what begins says at a place: 0: none, 1: wait, 2: a frame -/
def bg (s : ByteArray) (i : Nat) : Int := (begP ((bytesOf s).drop i)).1
theorem bg_cases (L : List Int) : (begP L).1 = 0 ∨ (begP L).1 = 1 ∨ (begP L).1 = 2 := by
  unfold begP
  repeat' split
  all_goals simp
theorem bg_full {s : ByteArray} {i n : Nat} {m : M} (h : fr s i = some (n, m)) : bg s i = 2 := by
  unfold bg
  rw [begP_full _ (byt_at s i) n m h]
theorem bg_some {s : ByteArray} {i : Nat} (h : bg s i = 2) : ∃ n m, fr s i = some (n, m) := by
  cases hf : fr s i with
  | none => exact absurd h (begP_none _ (byt_at s i) hf)
  | some r => exact ⟨r.1, r.2, rfl⟩
/-- what a Feed tells of its text from a place on -/
def fd (s : ByteArray) : Nat → Nat → List Pc × Nat
  | 0, i => ([], i)
  | k + 1, i => if i < s.size then (match fr s i with
      | some (n, m) => ((i, n, m) :: (fd s k (i + n)).1, (fd s k (i + n)).2)
      | none => if bg s i = 1 then ([], i) else fd s k (nxt s (i + 1))) else ([], i)
theorem fd_enough (s : ByteArray) : ∀ (k i : Nat), s.size - i ≤ k → fd s k i = fd s (s.size - i) i := by
  intro k
  induction k using Nat.strongRecOn with
  | ind k ih =>
    intro i hk
    by_cases hi : i < s.size
    · obtain ⟨j, hj⟩ : ∃ j, s.size - i = j + 1 := ⟨s.size - i - 1, by omega⟩
      obtain ⟨k', rfl⟩ : ∃ k', k = k' + 1 := ⟨k - 1, by omega⟩
      rw [hj]
      simp only [fd, if_pos hi]
      cases hf : fr s i with
      | none =>
        have hx := nxt_le s (i + 1) (by omega)
        simp only
        rw [ih k' (by omega) (nxt s (i + 1)) (by omega), ← ih j (by omega) (nxt s (i + 1)) (by omega)]
      | some r =>
        obtain ⟨n, m⟩ := r
        obtain ⟨h1, _, _⟩ := fr_bounds hf
        simp only
        rw [ih k' (by omega) (i + n) (by omega), ← ih j (by omega) (i + n) (by omega)]
    · have h0 : s.size - i = 0 := by omega
      rw [h0]
      cases k with
      | zero => rfl
      | succ k => simp only [fd, if_neg hi]
def fdL (s : ByteArray) (i : Nat) : List Pc := (fd s (s.size - i) i).1
def fdE (s : ByteArray) (i : Nat) : Nat := (fd s (s.size - i) i).2
theorem fd_end {s : ByteArray} {i : Nat} (h : s.size ≤ i) : fdL s i = [] ∧ fdE s i = i := by
  unfold fdL fdE
  rw [show s.size - i = 0 by omega]
  exact ⟨rfl, rfl⟩
theorem fd_wait {s : ByteArray} {i : Nat} (h : bg s i = 1) : fdL s i = [] ∧ fdE s i = i := by
  unfold fdL fdE
  cases hk : s.size - i with
  | zero => exact ⟨rfl, rfl⟩
  | succ j =>
    have hf : fr s i = none := by
      cases hf : fr s i with
      | none => rfl
      | some r => have := bg_full (n := r.1) (m := r.2) hf; rw [h] at this; exact absurd this (by decide)
    simp only [fd, if_pos (show i < s.size by omega), hf, if_pos h]
    exact ⟨trivial, trivial⟩
theorem fd_some {s : ByteArray} {i n : Nat} {m : M} (hf : fr s i = some (n, m)) : fdL s i = (i, n, m) :: fdL s (i + n) ∧ fdE s i = fdE s (i + n) := by
  obtain ⟨h1, _, h3⟩ := fr_bounds hf
  unfold fdL fdE
  obtain ⟨j, hj⟩ : ∃ j, s.size - i = j + 1 := ⟨s.size - i - 1, by omega⟩
  rw [hj]
  simp only [fd, if_pos (show i < s.size by omega), hf]
  rw [fd_enough s j (i + n) (by omega)]
  exact ⟨rfl, rfl⟩
theorem fd_none {s : ByteArray} {i : Nat} (hi : i < s.size) (hf : bg s i = 0) : fdL s i = fdL s (nxt s (i + 1)) ∧ fdE s i = fdE s (nxt s (i + 1)) := by
  have hx := nxt_le s (i + 1) (by omega)
  have hn : fr s i = none := by
    cases h : fr s i with
    | none => rfl
    | some r => have := bg_full (n := r.1) (m := r.2) h; rw [hf] at this; exact absurd this (by decide)
  unfold fdL fdE
  obtain ⟨j, hj⟩ : ∃ j, s.size - i = j + 1 := ⟨s.size - i - 1, by omega⟩
  rw [hj]
  simp only [fd, if_pos hi, hn, if_neg (show ¬ bg s i = 1 by rw [hf]; decide)]
  rw [fd_enough s j (nxt s (i + 1)) (by omega)]
  exact ⟨rfl, rfl⟩
theorem fdE_le (s : ByteArray) : ∀ (k i : Nat), s.size - i ≤ k → i ≤ s.size → i ≤ fdE s i ∧ fdE s i ≤ s.size := by
  intro k
  induction k with
  | zero => intro i h hi; rw [(fd_end (show s.size ≤ i by omega)).2]; omega
  | succ k ih =>
    intro i h hi
    by_cases hl : i < s.size
    · rcases bg_cases ((bytesOf s).drop i) with hb | hb | hb
      · have hx := nxt_le s (i + 1) (by omega)
        have := ih (nxt s (i + 1)) (by omega) hx.2
        rw [(fd_none hl hb).2]; omega
      · rw [(fd_wait hb).2]; omega
      · obtain ⟨n, m, hf⟩ := bg_some (s := s) (i := i) hb
        obtain ⟨h1, _, h3⟩ := fr_bounds hf
        have := ih (i + n) (by omega) h3
        rw [(fd_some hf).2]; omega
    · rw [(fd_end (show s.size ≤ i by omega)).2]; omega
theorem fdE_bounds (s : ByteArray) (i : Nat) (h : i ≤ s.size) : i ≤ fdE s i ∧ fdE s i ≤ s.size := fdE_le s _ i (Nat.le_refl _) h
/-- the sizes of pieces, all together -/
def szs (l : List Pc) : Nat := (l.map (fun p => p.2.1)).sum
theorem szs_cons (p : Pc) (l : List Pc) : szs (p :: l) = p.2.1 + szs l := by simp [szs]
theorem szs_append (a b : List Pc) : szs (a ++ b) = szs a + szs b := by simp [szs]
theorem fd_szs (s : ByteArray) : ∀ (k i : Nat), s.size - i ≤ k → i ≤ s.size → i + szs (fdL s i) ≤ fdE s i := by
  intro k
  induction k with
  | zero => intro i h hi; rw [(fd_end (show s.size ≤ i by omega)).2, (fd_end (show s.size ≤ i by omega)).1]; simp [szs]
  | succ k ih =>
    intro i h hi
    by_cases hl : i < s.size
    · rcases bg_cases ((bytesOf s).drop i) with hb | hb | hb
      · have hx := nxt_le s (i + 1) (by omega)
        have := ih (nxt s (i + 1)) (by omega) hx.2
        rw [(fd_none hl hb).2, (fd_none hl hb).1]; omega
      · rw [(fd_wait hb).2, (fd_wait hb).1]; simp [szs]
      · obtain ⟨n, m, hf⟩ := bg_some (s := s) (i := i) hb
        obtain ⟨h1, _, h3⟩ := fr_bounds hf
        have := ih (i + n) (by omega) h3
        rw [(fd_some hf).2, (fd_some hf).1, szs_cons]; simp only; omega
    · rw [(fd_end (show s.size ≤ i by omega)).2, (fd_end (show s.size ≤ i by omega)).1]; simp [szs]
theorem fd_room (s : ByteArray) (i : Nat) (h : i ≤ s.size) : i + szs (fdL s i) ≤ fdE s i := fd_szs s _ i (Nat.le_refl _) h
theorem fd_lens (s : ByteArray) : ∀ (k i : Nat), s.size - i ≤ k → i ≤ s.size → i + 24 * (fdL s i).length ≤ fdE s i := by
  intro k
  induction k with
  | zero => intro i h hi; rw [(fd_end (show s.size ≤ i by omega)).2, (fd_end (show s.size ≤ i by omega)).1]; simp
  | succ k ih =>
    intro i h hi
    by_cases hl : i < s.size
    · rcases bg_cases ((bytesOf s).drop i) with hb | hb | hb
      · have hx := nxt_le s (i + 1) (by omega)
        have := ih (nxt s (i + 1)) (by omega) hx.2
        rw [(fd_none hl hb).2, (fd_none hl hb).1]; omega
      · rw [(fd_wait hb).2, (fd_wait hb).1]; simp
      · obtain ⟨n, m, hf⟩ := bg_some (s := s) (i := i) hb
        obtain ⟨h1, _, h3⟩ := fr_bounds hf
        have := ih (i + n) (by omega) h3
        rw [(fd_some hf).2, (fd_some hf).1, List.length_cons]; omega
    · rw [(fd_end (show s.size ≤ i by omega)).2, (fd_end (show s.size ≤ i by omega)).1]; simp
theorem fd_count (s : ByteArray) : 24 * (fdL s 0).length ≤ s.size := by
  have h1 := fd_lens s _ 0 (Nat.le_refl _) (Nat.zero_le _)
  have h2 := fdE_bounds s 0 (Nat.zero_le _)
  omega
end Go.Proofs.YtnifgokjagahfaaDoor.ReadPure

/- A fresh message box that is stored into; small sums. -/
set_option linter.unusedVariables false
set_option linter.unusedSimpArgs false
namespace Go.Proofs.YtnifgokjagahfaaDoor.Zeros
open Go.RowKit Go.Proofs.YtnifgokjagahfaaDoorW.PrintWords Go.Proofs.YtnifgokjagahfaaDoorW.PrintLast Go.Proofs.YtnifgokjagahfaaDoorW.PrintMore
open Go.Proofs.YtnifgokjagahfaaDoor.Base Go.Proofs.YtnifgokjagahfaaDoor.Layouts Go.Proofs.YtnifgokjagahfaaDoor.Msg Go.Proofs.YtnifgokjagahfaaDoor.Put Go.Proofs.YtnifgokjagahfaaDoor.EncPure Go.Proofs.YtnifgokjagahfaaDoor.DecPure Go.Proofs.YtnifgokjagahfaaDoor.Mids
open Go.Proofs.YtnifgokjagahfaaDoor.Dec (mL_one)
theorem wadd (a b : Nat) (h : a + b ≤ 9223372036854775807) : wrap64 ((a : Int) + (b : Int)) = ((a + b : Nat) : Int) := by rw [w64 _ (by omega) (by omega)]; omega
theorem wsub (a b : Nat) (h : b ≤ a) (h2 : a ≤ 9223372036854775807) : wrap64 ((a : Int) - (b : Int)) = ((a - b : Nat) : Int) := by rw [w64 _ (by omega) (by omega)]; omega
theorem zeros_new (W : World) (m : M) : MBox ((W.alloc (.cells #[.int .i64 0, .int .i64 0, .int .i64 0, .int .i64 0, .int .i64 0, .int .i64 0, .int .i64 0, .int .i64 0, .int .i64 0, .string { data := #[] }, .string { data := #[] }] 24)).setCells W.heap.size 0 (mL m)) W.heap.size m :=
  ⟨setCells_whole (old := mL zeroM) (Go.heap_alloc_new W _) rfl, by rw [setCells_size]; simp⟩
theorem zeros_there (W : World) : (W.alloc (.cells #[.int .i64 0, .int .i64 0, .int .i64 0, .int .i64 0, .int .i64 0, .int .i64 0, .int .i64 0, .int .i64 0, .int .i64 0, .string { data := #[] }, .string { data := #[] }] 24)).there W.heap.size 0 11 :=
  blk_there (cs := mL zeroM) (Go.heap_alloc_new W _)
theorem zeros_below (W : World) (m : M) : Below W.heap.size W ((W.alloc (.cells #[.int .i64 0, .int .i64 0, .int .i64 0, .int .i64 0, .int .i64 0, .int .i64 0, .int .i64 0, .int .i64 0, .int .i64 0, .string { data := #[] }, .string { data := #[] }] 24)).setCells W.heap.size 0 (mL m)) :=
  below_setCells ((Below.refl _ _).alloc (Nat.le_refl _) _) (Nat.le_refl _) _ _
theorem whole_size (m : M) (vm : vB m = true) (km : 1 ≤ m.kind ∧ m.kind < 17) : 24 ≤ (strOfNums (whole m)).size ∧ (strOfNums (whole m)).size ≤ 4407 := by
  have := body_length_le m vm km
  rw [strOfNums_size, whole_length]
  omega
end Go.Proofs.YtnifgokjagahfaaDoor.Zeros
