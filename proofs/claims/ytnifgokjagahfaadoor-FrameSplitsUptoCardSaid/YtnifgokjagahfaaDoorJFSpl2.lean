/- Joined texts of this claim: Beg, Frm, Next, PutAt, Enc, EncAny -/
import Derived.Test.YtnifgokjagahfaaDoorJFSpl1
import Derived.StillTailTactics
import Derived.Lib.Bytealg
import Derived.Test.YtnifgokjagahfaaDoorJFSpl0
import Derived.ArgAppend
import Derived.Lib.AppendStr
import Derived.Lib.SlBytesConst
import Derived.Deep.DeepCutAuto
/- begins of the frame package. -/
set_option linter.unusedVariables false
set_option linter.unusedSimpArgs false
namespace Go.Proofs.YtnifgokjagahfaaDoor.Beg
open Go.RowKit Go.Proofs.YtnifgokjagahfaaDoorW.PrintWords Go.Proofs.YtnifgokjagahfaaDoorW.PrintLast Go.Proofs.YtnifgokjagahfaaDoorW.PrintMore
open Go.Proofs.YtnifgokjagahfaaDoor.Base Go.Proofs.YtnifgokjagahfaaDoor.Layouts Go.Proofs.YtnifgokjagahfaaDoor.Msg Go.Proofs.YtnifgokjagahfaaDoor.Put Go.Proofs.YtnifgokjagahfaaDoor.EncPure Go.Proofs.YtnifgokjagahfaaDoor.DecPure Go.Proofs.YtnifgokjagahfaaDoor.Num Go.Proofs.YtnifgokjagahfaaDoor.Mids
open Go.Proofs.YtnifgokjagahfaaDoor.Dec (infoM mL_one str_eq str_eq2 kindL_byte)
theorem known_any (k : Int) (w : World) : Calls Tryd.prog 34 #[.int .i64 k] w fun e w' => e = .returned (.bool (decide (1 ≤ k ∧ k < 17))) ∧ Below w.heap.size w w' := by
  by_cases h : 1 ≤ k ∧ k < 17
  · rw [decide_eq_true h]; exact known_yes k w h
  · rw [decide_eq_false h]; exact known_no k w h
/-- what a call answers -/
def TellW (q n : Int) (m : M) (w : World) (e : Ending) (w' : World) : Prop := e = .returned (.tuple #[.int .i64 q, .int .i64 n, .agg (mL m).toArray]) ∧ Below w.heap.size w w'
theorem results_ttc_mid {P : Program} {fn : Func} {p u1 u2 : Tmp} {ty : TypeId} (h : fn.results = #[.tmp u1, .tmp u2, .cell p ty]) (tmps : Array Value) (w : World) (g o : Nat) (cs : List Value) (d : TypeDesc)
    (hp : tmps.getD p undef = .pointer (some ⟨g, o, none⟩)) (hg : w.rangeAt g o cs) (hu : P.underlying ty = some d) (hd : d.isRow = true) (hi : (P.info? ty).map (·.size) = some cs.length) :
    (results fn tmps).run P w = .ok (.tuple #[tmps.getD u1 undef, tmps.getD u2 undef, .agg cs.toArray]) w := by
  have hp' : tmps[p]?.getD undef = .pointer (some ⟨g, o, none⟩) := by simpa using hp
  simp [results, h, hp', asAddr, run_loadVar_mid w g o ty cs d hg hu hd hi]
theorem tell_ret {W : World} {w : World} {m : M} {tmps : Array Value} {q n : Int} (hp : tmps.getD 4 undef = .pointer (some ⟨w.heap.size, 0, none⟩)) (hq : tmps.getD 2 undef = .int .i64 q) (hn : tmps.getD 3 undef = .int .i64 n) (h : MBox W w.heap.size m) (hB : Below w.heap.size w W) {d : List _} (hd : d = []) :
    bodyPost Tryd.prog Tryd.f63 (TellW q n m w) Exit.ret ⟨tmps, d⟩ W := by
  subst hd
  refine bodyPost_ret (v := .tuple #[.int .i64 q, .int .i64 n, .agg (mL m).toArray]) ?_ rfl ⟨rfl, hB⟩
  rw [← hq, ← hn]
  exact results_ttc_mid rfl tmps W w.heap.size 0 (mL m) _ hp (blk_range h.row) Tryd.underlying24 rfl infoM
/-- the three bytes with which a frame begins -/
def mag : ByteArray := { data := #[71, 82, 1] }
def pre3 (L : List Int) : Bool := decide (L.take (min L.length 3) = ([71, 82, 1] : List Int).take (min L.length 3))
theorem mag_take (k : Nat) (h : k ≤ 3) : (({ data := #[71, 82, 1] } : ByteArray).extract 0 k).toList = ([71, 82, 1] : List UInt8).take k := by
  have e : k = 0 ∨ k = 1 ∨ k = 2 ∨ k = 3 := by omega
  rcases e with rfl | rfl | rfl | rfl <;> decide +kernel
theorem pre_eq (s : ByteArray) (k : Nat) (hk : k = min s.size 3) : ((s.extract 0 k).toList == (({ data := #[71, 82, 1] } : ByteArray).extract 0 k).toList) = pre3 (bytesOf s) := by
  rw [extract_head s k (by omega), mag_take k (by omega), str_eq _ (byt_take (byt_bytesOf s) k)]
  unfold pre3
  rw [bytesOf_length, ← hk, List.map_take]
  rfl
/-- what stands behind the test of the head -/
structure Head (s : ByteArray) (k : Nat) (b : Bool) : Prop where mk ::
  (hmin : (if 3 < (s.size : Int) then 3 else (s.size : Int)) = (k : Int)) (h0 : (0 : Int) ≤ (k : Int)) (h1 : (k : Int) ≤ (s.size : Int)) (h3 : (k : Int) ≤ 3)
  (hq : ((s.extract 0 k).toList == (({ data := #[71, 82, 1] } : ByteArray).extract 0 k).toList) = b)
theorem head_of (s : ByteArray) : ∃ k, Head s k (pre3 (bytesOf s)) := ⟨min s.size 3, ⟨by split <;> omega, by omega, by omega, by omega, pre_eq s _ rfl⟩⟩
theorem three_le {k : Nat} (h : (k : Int) ≤ 3) : (k : Int) ≤ ((({ data := #[71, 82, 1] } : ByteArray).size : Nat) : Int) := by
  have e : ({ data := #[71, 82, 1] } : ByteArray).size = 3 := rfl
  rw [e]; omega
theorem lit_three : (3 : Int) ≤ ((({ data := #[71, 82, 1] } : ByteArray).size : Nat) : Int) := by
  have e : ({ data := #[71, 82, 1] } : ByteArray).size = 3 := rfl
  rw [e]; decide
def litS : ByteArray := { data := #[71, 82, 1] }
-- WALKS
set_option maxRecDepth 100000 in
set_option maxHeartbeats 4000000 in
theorem beg_magic (s : ByteArray) (w : World) (hp : pre3 (bytesOf s) = false) : Calls Tryd.prog 63 #[.string s] w (TellW 0 0 zeroM w) := by
  obtain ⟨k, ⟨hmin, h0, h1, h3, hq⟩⟩ := head_of s
  rw [hp] at hq
  have hs1 := fun wx => run_slice_string_h (P := Tryd.prog) wx 9 s Tryd.underlying9 .i64 (k : Int) h0 h1
  have hs2 := fun wx => run_slice_string_h (P := Tryd.prog) wx 9 { data := #[71, 82, 1] } Tryd.underlying9 .i64 (k : Int) h0 (three_le h3)
  rw [Int.toNat_natCast] at hs1 hs2
  generalize s.extract 0 k = S1 at hs1 hq
  generalize (({ data := #[71, 82, 1] } : ByteArray).extract 0 k) = S2 at hs2 hq
  have HB := Aside0.mk ((Below.refl w.heap.size w).alloc (Nat.le_refl _) (.cells (mL zeroM).toArray 24))
  have HM : Aside0 (MBox (w.alloc (.cells (mL zeroM).toArray 24)) w.heap.size zeroM) := ⟨⟨Go.heap_alloc_new w _, by simp⟩⟩
  generalize hwa : w.alloc (.cells (mL zeroM).toArray 24) = wa at HB HM
  have h3s := three_le h3
  go_enter Tryd.func63, Tryd.ntmps63
  go_upto_region 2 with fail
  rw [show w.alloc (.cells #[.int .i64 0, .int .i64 0, .int .i64 0, .int .i64 0, .int .i64 0, .int .i64 0, .int .i64 0, .int .i64 0, .int .i64 0, .string { data := #[] }, .string { data := #[] }] 24) = wa from hwa]
  refine wp_region_still_tail 7 (by kernel_rfl) (by kernel_rfl) ?_
  simp only [List.take_succ_cons, List.take_zero, List.drop_succ_cons, List.drop_zero]
  iterate 7 still_step
  with_reducible refine wpStill_nil ?_
  clear hs1 hs2 hq hp h3s
  have hth := blk_there (w := wa.drew) HM.out.row
  go_wp2_with ((with_reducible refine gate_store (ty := 24) (x := .tmp 4) (y := .tmp 29) rfl ?_); refine wpList_store_mid rfl 24 (.tmp 4) (.tmp 29) rfl w.heap.size 0 (mL zeroM).toArray rfl rfl hth infoM (mL_one zeroM) ?_)
  exact tell_ret rfl rfl rfl ⟨setCells_whole (w := wa.drew) HM.out.row rfl, by rw [setCells_size]; exact HM.out.lt⟩ (below_setCells (below_drew HB.out) (Nat.le_refl _) _ _) rfl
set_option maxRecDepth 100000 in
set_option maxHeartbeats 4000000 in
theorem beg_short (s : ByteArray) (w : World) (hp : pre3 (bytesOf s) = true) (h : s.size ≤ 3) : Calls Tryd.prog 63 #[.string s] w (TellW 1 0 zeroM w) := by
  obtain ⟨k, ⟨hmin, h0, h1, h3, hq⟩⟩ := head_of s
  rw [hp] at hq
  have H4 : Aside0 (¬ (3 : Int) < (s.size : Int)) := ⟨by omega⟩
  have H5 : Aside0 ((s.size : Int) < 20) := ⟨by omega⟩
  obtain rfl : k = s.size := by rw [if_neg (by omega)] at hmin; omega
  have hs1 := fun wx => run_slice_string_h (P := Tryd.prog) wx 9 s Tryd.underlying9 .i64 (s.size : Int) h0 h1
  have hs2 := fun wx => run_slice_string_h (P := Tryd.prog) wx 9 { data := #[71, 82, 1] } Tryd.underlying9 .i64 (s.size : Int) h0 (three_le h3)
  rw [Int.toNat_natCast] at hs1 hs2
  clear hmin
  generalize s.extract 0 s.size = S1 at hs1 hq
  generalize (({ data := #[71, 82, 1] } : ByteArray).extract 0 s.size) = S2 at hs2 hq
  have HB := Aside0.mk ((Below.refl w.heap.size w).alloc (Nat.le_refl _) (.cells (mL zeroM).toArray 24))
  have HM : Aside0 (MBox (w.alloc (.cells (mL zeroM).toArray 24)) w.heap.size zeroM) := ⟨⟨Go.heap_alloc_new w _, by simp⟩⟩
  generalize hwa : w.alloc (.cells (mL zeroM).toArray 24) = wa at HB HM
  have h3s := three_le h3
  go_enter Tryd.func63, Tryd.ntmps63
  go_upto_region 2 with fail
  rw [show w.alloc (.cells #[.int .i64 0, .int .i64 0, .int .i64 0, .int .i64 0, .int .i64 0, .int .i64 0, .int .i64 0, .int .i64 0, .int .i64 0, .string { data := #[] }, .string { data := #[] }] 24) = wa from hwa]
  refine wp_region_still_tail 7 (by kernel_rfl) (by kernel_rfl) ?_
  simp only [List.take_succ_cons, List.take_zero, List.drop_succ_cons, List.drop_zero]
  iterate 7 still_step
  with_reducible refine wpStill_nil ?_
  clear hs1 hs2 hq hp h3s
  have h4 := H4.out
  have h5 := H5.out
  have hth := blk_there (w := wa.drew) HM.out.row
  go_wp2_with ((with_reducible refine gate_store (ty := 24) (x := .tmp 4) (y := .tmp 33) rfl ?_); refine wpList_store_mid rfl 24 (.tmp 4) (.tmp 33) rfl w.heap.size 0 (mL zeroM).toArray rfl rfl hth infoM (mL_one zeroM) ?_)
  exact tell_ret rfl rfl rfl ⟨setCells_whole (w := wa.drew) HM.out.row rfl, by rw [setCells_size]; exact HM.out.lt⟩ (below_setCells (below_drew HB.out) (Nat.le_refl _) _ _) rfl
set_option maxRecDepth 100000 in
set_option maxHeartbeats 4000000 in
theorem beg_kind (s : ByteArray) (w : World) (hp : pre3 (bytesOf s) = true) (h : 3 < s.size) (hk : ¬ (1 ≤ kindL (bytesOf s) ∧ kindL (bytesOf s) < 17)) : Calls Tryd.prog 63 #[.string s] w (TellW 0 0 zeroM w) := by
  obtain ⟨k, ⟨hmin, h0, h1, h3, hq⟩⟩ := head_of s
  rw [hp] at hq
  obtain ⟨kk, hkk⟩ : ∃ kk : Nat, (s[3]'h).toNat = kk := ⟨_, rfl⟩
  have hk2 : kk ≤ 255 := by have := (s[3]'h).toNat_lt; omega
  rw [kindL_byte s h, hkk] at hk
  have H4 : Aside0 ((3 : Int) < (s.size : Int)) := ⟨by omega⟩
  have KN := fun w => Lib.hid (known_no (kk : Int) w hk)
  obtain rfl : k = 3 := by rw [if_pos (by omega)] at hmin; omega
  have h3 : (3 : Int) ≤ (s.size : Int) := by omega
  have hs1 := fun wx => run_slice_string_h (P := Tryd.prog) wx 9 s Tryd.underlying9 .i64 (3 : Int) (by decide) h3
  have hs2 := fun wx => run_slice_string_h (P := Tryd.prog) wx 9 { data := #[71, 82, 1] } Tryd.underlying9 .i64 (3 : Int) (by decide) lit_three
  have e3 : (3 : Int).toNat = 3 := rfl
  rw [e3] at hs1 hs2
  clear hmin h0 h1 e3
  generalize s.extract 0 3 = S1 at hs1 hq
  generalize (({ data := #[71, 82, 1] } : ByteArray).extract 0 3) = S2 at hs2 hq
  have HB := Aside0.mk ((Below.refl w.heap.size w).alloc (Nat.le_refl _) (.cells (mL zeroM).toArray 24))
  have HM : Aside0 (MBox (w.alloc (.cells (mL zeroM).toArray 24)) w.heap.size zeroM) := ⟨⟨Go.heap_alloc_new w _, by simp⟩⟩
  generalize hwa : w.alloc (.cells (mL zeroM).toArray 24) = wa at HB HM
  have h3s := lit_three
  go_enter Tryd.func63, Tryd.ntmps63
  go_upto_region 2 with fail
  rw [show w.alloc (.cells #[.int .i64 0, .int .i64 0, .int .i64 0, .int .i64 0, .int .i64 0, .int .i64 0, .int .i64 0, .int .i64 0, .int .i64 0, .string { data := #[] }, .string { data := #[] }] 24) = wa from hwa]
  refine wp_region_still_tail 7 (by kernel_rfl) (by kernel_rfl) ?_
  simp only [List.take_succ_cons, List.take_zero, List.drop_succ_cons, List.drop_zero]
  iterate 7 still_step
  with_reducible refine wpStill_nil ?_
  clear hs1 hs2 hq hp h3s
  have h4 := H4.out
  go_wp2_with fail
  refine (KN _).out.mono ?_
  rintro e w1 ⟨rfl, hb⟩
  have hb : Below wa.drew.heap.size wa.drew w1 := hb
  have HM1 := Aside0.mk ((⟨HM.out.row, HM.out.lt⟩ : MBox wa.drew w.heap.size zeroM).below hb HM.out.lt)
  have HB1 := Aside0.mk ((below_drew HB.out).trans (hb.mono (below_drew HB.out).size))
  clear hb HM HB KN hwa
  have hth := blk_there HM1.out.row
  go_wp2_with ((with_reducible refine gate_store (ty := 24) (x := .tmp 4) (y := .tmp 29) rfl ?_); refine wpList_store_mid rfl 24 (.tmp 4) (.tmp 29) rfl w.heap.size 0 (mL zeroM).toArray rfl rfl hth infoM (mL_one zeroM) ?_)
  exact tell_ret rfl rfl rfl ⟨setCells_whole HM1.out.row rfl, by rw [setCells_size]; exact HM1.out.lt⟩ (below_setCells HB1.out (Nat.le_refl _) _ _) rfl
set_option maxRecDepth 100000 in
set_option maxHeartbeats 4000000 in
theorem beg_head (s : ByteArray) (w : World) (hp : pre3 (bytesOf s) = true) (h : 3 < s.size) (hk : 1 ≤ kindL (bytesOf s) ∧ kindL (bytesOf s) < 17) (h20 : s.size < 20) : Calls Tryd.prog 63 #[.string s] w (TellW 1 0 zeroM w) := by
  obtain ⟨k, ⟨hmin, h0, h1, h3, hq⟩⟩ := head_of s
  rw [hp] at hq
  obtain ⟨kk, hkk⟩ : ∃ kk : Nat, (s[3]'h).toNat = kk := ⟨_, rfl⟩
  have hk2 : kk ≤ 255 := by have := (s[3]'h).toNat_lt; omega
  rw [kindL_byte s h, hkk] at hk
  have H4 : Aside0 ((3 : Int) < (s.size : Int)) := ⟨by omega⟩
  have KN := fun w => Lib.hid (known_yes (kk : Int) w hk)
  have H5 : Aside0 ((s.size : Int) < 20) := ⟨by omega⟩
  obtain rfl : k = 3 := by rw [if_pos (by omega)] at hmin; omega
  have h3 : (3 : Int) ≤ (s.size : Int) := by omega
  have hs1 := fun wx => run_slice_string_h (P := Tryd.prog) wx 9 s Tryd.underlying9 .i64 (3 : Int) (by decide) h3
  have hs2 := fun wx => run_slice_string_h (P := Tryd.prog) wx 9 { data := #[71, 82, 1] } Tryd.underlying9 .i64 (3 : Int) (by decide) lit_three
  have e3 : (3 : Int).toNat = 3 := rfl
  rw [e3] at hs1 hs2
  clear hmin h0 h1 e3
  generalize s.extract 0 3 = S1 at hs1 hq
  generalize (({ data := #[71, 82, 1] } : ByteArray).extract 0 3) = S2 at hs2 hq
  have HB := Aside0.mk ((Below.refl w.heap.size w).alloc (Nat.le_refl _) (.cells (mL zeroM).toArray 24))
  have HM : Aside0 (MBox (w.alloc (.cells (mL zeroM).toArray 24)) w.heap.size zeroM) := ⟨⟨Go.heap_alloc_new w _, by simp⟩⟩
  generalize hwa : w.alloc (.cells (mL zeroM).toArray 24) = wa at HB HM
  have h3s := lit_three
  go_enter Tryd.func63, Tryd.ntmps63
  go_upto_region 2 with fail
  rw [show w.alloc (.cells #[.int .i64 0, .int .i64 0, .int .i64 0, .int .i64 0, .int .i64 0, .int .i64 0, .int .i64 0, .int .i64 0, .int .i64 0, .string { data := #[] }, .string { data := #[] }] 24) = wa from hwa]
  refine wp_region_still_tail 7 (by kernel_rfl) (by kernel_rfl) ?_
  simp only [List.take_succ_cons, List.take_zero, List.drop_succ_cons, List.drop_zero]
  iterate 7 still_step
  with_reducible refine wpStill_nil ?_
  clear hs1 hs2 hq hp h3s
  have h4 := H4.out
  have h5 := H5.out
  go_wp2_with fail
  refine (KN _).out.mono ?_
  rintro e w1 ⟨rfl, hb⟩
  have hb : Below wa.drew.heap.size wa.drew w1 := hb
  have HM1 := Aside0.mk ((⟨HM.out.row, HM.out.lt⟩ : MBox wa.drew w.heap.size zeroM).below hb HM.out.lt)
  have HB1 := Aside0.mk ((below_drew HB.out).trans (hb.mono (below_drew HB.out).size))
  clear hb HM HB KN hwa
  have hth := blk_there HM1.out.row
  go_wp2_with ((with_reducible refine gate_store (ty := 24) (x := .tmp 4) (y := .tmp 33) rfl ?_); refine wpList_store_mid rfl 24 (.tmp 4) (.tmp 33) rfl w.heap.size 0 (mL zeroM).toArray rfl rfl hth infoM (mL_one zeroM) ?_)
  exact tell_ret rfl rfl rfl ⟨setCells_whole HM1.out.row rfl, by rw [setCells_size]; exact HM1.out.lt⟩ (below_setCells HB1.out (Nat.le_refl _) _ _) rfl
set_option maxRecDepth 100000 in
set_option maxHeartbeats 4000000 in
theorem beg_neg (s : ByteArray) (w : World) (hp : pre3 (bytesOf s) = true) (h : 3 < s.size) (hk : 1 ≤ kindL (bytesOf s) ∧ kindL (bytesOf s) < 17) (h20 : 20 ≤ s.size) (hmx : s.size ≤ 9223372036854775807) (hz : sizeL (bytesOf s) < 0) : Calls Tryd.prog 63 #[.string s] w (TellW 0 0 zeroM w) := by
  obtain ⟨k, ⟨hmin, h0, h1, h3, hq⟩⟩ := head_of s
  rw [hp] at hq
  obtain ⟨kk, hkk⟩ : ∃ kk : Nat, (s[3]'h).toNat = kk := ⟨_, rfl⟩
  have hk2 : kk ≤ 255 := by have := (s[3]'h).toNat_lt; omega
  rw [kindL_byte s h, hkk] at hk
  have H4 : Aside0 ((3 : Int) < (s.size : Int)) := ⟨by omega⟩
  have KN := fun w => Lib.hid (known_yes (kk : Int) w hk)
  have H5 : Aside0 (¬ (s.size : Int) < 20) := ⟨by omega⟩
  have KS := fun w => size_any s w h20 hmx
  generalize sizeL (bytesOf s) = n at KS hz
  have KS := fun w => Lib.hid (KS w)
  obtain rfl : k = 3 := by rw [if_pos (by omega)] at hmin; omega
  have h3 : (3 : Int) ≤ (s.size : Int) := by omega
  have hs1 := fun wx => run_slice_string_h (P := Tryd.prog) wx 9 s Tryd.underlying9 .i64 (3 : Int) (by decide) h3
  have hs2 := fun wx => run_slice_string_h (P := Tryd.prog) wx 9 { data := #[71, 82, 1] } Tryd.underlying9 .i64 (3 : Int) (by decide) lit_three
  have e3 : (3 : Int).toNat = 3 := rfl
  rw [e3] at hs1 hs2
  clear hmin h0 h1 e3
  generalize s.extract 0 3 = S1 at hs1 hq
  generalize (({ data := #[71, 82, 1] } : ByteArray).extract 0 3) = S2 at hs2 hq
  have HB := Aside0.mk ((Below.refl w.heap.size w).alloc (Nat.le_refl _) (.cells (mL zeroM).toArray 24))
  have HM : Aside0 (MBox (w.alloc (.cells (mL zeroM).toArray 24)) w.heap.size zeroM) := ⟨⟨Go.heap_alloc_new w _, by simp⟩⟩
  generalize hwa : w.alloc (.cells (mL zeroM).toArray 24) = wa at HB HM
  have h3s := lit_three
  go_enter Tryd.func63, Tryd.ntmps63
  go_upto_region 2 with fail
  rw [show w.alloc (.cells #[.int .i64 0, .int .i64 0, .int .i64 0, .int .i64 0, .int .i64 0, .int .i64 0, .int .i64 0, .int .i64 0, .int .i64 0, .string { data := #[] }, .string { data := #[] }] 24) = wa from hwa]
  refine wp_region_still_tail 7 (by kernel_rfl) (by kernel_rfl) ?_
  simp only [List.take_succ_cons, List.take_zero, List.drop_succ_cons, List.drop_zero]
  iterate 7 still_step
  with_reducible refine wpStill_nil ?_
  clear hs1 hs2 hq hp h3s
  have h4 := H4.out
  have h5 := H5.out
  go_wp2_with fail
  refine (KN _).out.mono ?_
  rintro e w1 ⟨rfl, hb⟩
  have hb : Below wa.drew.heap.size wa.drew w1 := hb
  have HM1 := Aside0.mk ((⟨HM.out.row, HM.out.lt⟩ : MBox wa.drew w.heap.size zeroM).below hb HM.out.lt)
  have HB1 := Aside0.mk ((below_drew HB.out).trans (hb.mono (below_drew HB.out).size))
  clear hb HM HB KN hwa
  go_wp2_with fail
  refine (KS _).out.mono ?_
  rintro e w2 ⟨rfl, hb⟩
  have HM2 := Aside0.mk (HM1.out.below hb HM1.out.lt)
  have HB2 := Aside0.mk (HB1.out.trans (hb.mono HB1.out.size))
  clear hb KS HM1 HB1
  have hth := blk_there HM2.out.row
  go_wp2_with ((with_reducible refine gate_store (ty := 24) (x := .tmp 4) (y := .tmp 38) rfl ?_); refine wpList_store_mid rfl 24 (.tmp 4) (.tmp 38) rfl w.heap.size 0 (mL zeroM).toArray rfl rfl hth infoM (mL_one zeroM) ?_)
  exact tell_ret rfl rfl rfl ⟨setCells_whole HM2.out.row rfl, by rw [setCells_size]; exact HM2.out.lt⟩ (below_setCells HB2.out (Nat.le_refl _) _ _) rfl
set_option maxRecDepth 100000 in
set_option maxHeartbeats 4000000 in
theorem beg_wait (s : ByteArray) (w : World) (hp : pre3 (bytesOf s) = true) (h : 3 < s.size) (hk : 1 ≤ kindL (bytesOf s) ∧ kindL (bytesOf s) < 17) (h20 : 20 ≤ s.size) (hmx : s.size ≤ 9223372036854775807) (hz : ¬ sizeL (bytesOf s) < 0 ∧ (s.size : Int) < sizeL (bytesOf s)) : Calls Tryd.prog 63 #[.string s] w (TellW 1 0 zeroM w) := by
  obtain ⟨k, ⟨hmin, h0, h1, h3, hq⟩⟩ := head_of s
  rw [hp] at hq
  obtain ⟨kk, hkk⟩ : ∃ kk : Nat, (s[3]'h).toNat = kk := ⟨_, rfl⟩
  have hk2 : kk ≤ 255 := by have := (s[3]'h).toNat_lt; omega
  rw [kindL_byte s h, hkk] at hk
  have H4 : Aside0 ((3 : Int) < (s.size : Int)) := ⟨by omega⟩
  have KN := fun w => Lib.hid (known_yes (kk : Int) w hk)
  have H5 : Aside0 (¬ (s.size : Int) < 20) := ⟨by omega⟩
  have KS := fun w => size_any s w h20 hmx
  generalize sizeL (bytesOf s) = n at KS hz
  have KS := fun w => Lib.hid (KS w)
  obtain ⟨hz1, hz2⟩ := hz
  obtain rfl : k = 3 := by rw [if_pos (by omega)] at hmin; omega
  have h3 : (3 : Int) ≤ (s.size : Int) := by omega
  have hs1 := fun wx => run_slice_string_h (P := Tryd.prog) wx 9 s Tryd.underlying9 .i64 (3 : Int) (by decide) h3
  have hs2 := fun wx => run_slice_string_h (P := Tryd.prog) wx 9 { data := #[71, 82, 1] } Tryd.underlying9 .i64 (3 : Int) (by decide) lit_three
  have e3 : (3 : Int).toNat = 3 := rfl
  rw [e3] at hs1 hs2
  clear hmin h0 h1 e3
  generalize s.extract 0 3 = S1 at hs1 hq
  generalize (({ data := #[71, 82, 1] } : ByteArray).extract 0 3) = S2 at hs2 hq
  have HB := Aside0.mk ((Below.refl w.heap.size w).alloc (Nat.le_refl _) (.cells (mL zeroM).toArray 24))
  have HM : Aside0 (MBox (w.alloc (.cells (mL zeroM).toArray 24)) w.heap.size zeroM) := ⟨⟨Go.heap_alloc_new w _, by simp⟩⟩
  generalize hwa : w.alloc (.cells (mL zeroM).toArray 24) = wa at HB HM
  have h3s := lit_three
  go_enter Tryd.func63, Tryd.ntmps63
  go_upto_region 2 with fail
  rw [show w.alloc (.cells #[.int .i64 0, .int .i64 0, .int .i64 0, .int .i64 0, .int .i64 0, .int .i64 0, .int .i64 0, .int .i64 0, .int .i64 0, .string { data := #[] }, .string { data := #[] }] 24) = wa from hwa]
  refine wp_region_still_tail 7 (by kernel_rfl) (by kernel_rfl) ?_
  simp only [List.take_succ_cons, List.take_zero, List.drop_succ_cons, List.drop_zero]
  iterate 7 still_step
  with_reducible refine wpStill_nil ?_
  clear hs1 hs2 hq hp h3s
  have h4 := H4.out
  have h5 := H5.out
  go_wp2_with fail
  refine (KN _).out.mono ?_
  rintro e w1 ⟨rfl, hb⟩
  have hb : Below wa.drew.heap.size wa.drew w1 := hb
  have HM1 := Aside0.mk ((⟨HM.out.row, HM.out.lt⟩ : MBox wa.drew w.heap.size zeroM).below hb HM.out.lt)
  have HB1 := Aside0.mk ((below_drew HB.out).trans (hb.mono (below_drew HB.out).size))
  clear hb HM HB KN hwa
  go_wp2_with fail
  refine (KS _).out.mono ?_
  rintro e w2 ⟨rfl, hb⟩
  have HM2 := Aside0.mk (HM1.out.below hb HM1.out.lt)
  have HB2 := Aside0.mk (HB1.out.trans (hb.mono HB1.out.size))
  clear hb KS HM1 HB1
  have hth := blk_there HM2.out.row
  go_wp2_with ((with_reducible refine gate_store (ty := 24) (x := .tmp 4) (y := .tmp 43) rfl ?_); refine wpList_store_mid rfl 24 (.tmp 4) (.tmp 43) rfl w.heap.size 0 (mL zeroM).toArray rfl rfl hth infoM (mL_one zeroM) ?_)
  exact tell_ret rfl rfl rfl ⟨setCells_whole HM2.out.row rfl, by rw [setCells_size]; exact HM2.out.lt⟩ (below_setCells HB2.out (Nat.le_refl _) _ _) rfl
set_option maxRecDepth 100000 in
set_option maxHeartbeats 4000000 in
theorem beg_bad (s : ByteArray) (w : World) (hp : pre3 (bytesOf s) = true) (h : 3 < s.size) (hk : 1 ≤ kindL (bytesOf s) ∧ kindL (bytesOf s) < 17) (h20 : 20 ≤ s.size) (hmx : s.size ≤ 9223372036854775807) (hNb : Crc.Nibs w) (hz : ¬ sizeL (bytesOf s) < 0 ∧ ¬ (s.size : Int) < sizeL (bytesOf s)) (m : M) (x : Int) (he : decP ((bytesOf s).take (sizeL (bytesOf s)).toNat) = (m, x)) (hx : x ≠ 0) : Calls Tryd.prog 63 #[.string s] w (TellW 0 0 zeroM w) := by
  obtain ⟨k, ⟨hmin, h0, h1, h3, hq⟩⟩ := head_of s
  rw [hp] at hq
  obtain ⟨kk, hkk⟩ : ∃ kk : Nat, (s[3]'h).toNat = kk := ⟨_, rfl⟩
  have hk2 : kk ≤ 255 := by have := (s[3]'h).toNat_lt; omega
  rw [kindL_byte s h, hkk] at hk
  have H4 : Aside0 ((3 : Int) < (s.size : Int)) := ⟨by omega⟩
  have KN := fun w => Lib.hid (known_yes (kk : Int) w hk)
  obtain ⟨N, hN1⟩ : ∃ N : Nat, sizeL (bytesOf s) = (N : Int) := ⟨(sizeL (bytesOf s)).toNat, by omega⟩
  rw [hN1, Int.toNat_natCast] at he
  have hz1 : ¬ (N : Int) < 0 := by omega
  have hz2 : ¬ (s.size : Int) < (N : Int) := by omega
  have hz3 : (0 : Int) ≤ (N : Int) := by omega
  have hz4 : (N : Int) ≤ (s.size : Int) := by omega
  have H5 : Aside0 (¬ (s.size : Int) < 20) := ⟨by omega⟩
  have KS := fun w => size_any s w h20 hmx
  rw [hN1] at KS
  have KS := fun w => Lib.hid (KS w)
  have hsN := fun wx => run_slice_string_h (P := Tryd.prog) wx 9 s Tryd.underlying9 .i64 (N : Int) hz3 hz4
  rw [Int.toNat_natCast, extract_head s N (by omega)] at hsN
  have KD := fun (w : World) hN => Dec.dec_any (strOfNums ((bytesOf s).take N)) w (by rw [strOfNums_size, List.length_take, bytesOf_length]; omega) hN
  rw [bytesOf_strOfNums _ (byt_take (byt_bytesOf s) N), he] at KD
  have KD := fun (w : World) hN => Lib.hid (KD w hN)
  generalize strOfNums ((bytesOf s).take N) = S3 at hsN KD
  have HNb := Aside0.mk hNb
  clear hNb
  have hxb : (x != 0) = true := bne_iff_ne.2 hx
  obtain rfl : k = 3 := by rw [if_pos (by omega)] at hmin; omega
  have h3 : (3 : Int) ≤ (s.size : Int) := by omega
  have hs1 := fun wx => run_slice_string_h (P := Tryd.prog) wx 9 s Tryd.underlying9 .i64 (3 : Int) (by decide) h3
  have hs2 := fun wx => run_slice_string_h (P := Tryd.prog) wx 9 { data := #[71, 82, 1] } Tryd.underlying9 .i64 (3 : Int) (by decide) lit_three
  have e3 : (3 : Int).toNat = 3 := rfl
  rw [e3] at hs1 hs2
  clear hmin h0 h1 e3
  generalize s.extract 0 3 = S1 at hs1 hq
  generalize (({ data := #[71, 82, 1] } : ByteArray).extract 0 3) = S2 at hs2 hq
  have HB := Aside0.mk ((Below.refl w.heap.size w).alloc (Nat.le_refl _) (.cells (mL zeroM).toArray 24))
  have HM : Aside0 (MBox (w.alloc (.cells (mL zeroM).toArray 24)) w.heap.size zeroM) := ⟨⟨Go.heap_alloc_new w _, by simp⟩⟩
  generalize hwa : w.alloc (.cells (mL zeroM).toArray 24) = wa at HB HM
  have h3s := lit_three
  go_enter Tryd.func63, Tryd.ntmps63
  go_upto_region 2 with fail
  rw [show w.alloc (.cells #[.int .i64 0, .int .i64 0, .int .i64 0, .int .i64 0, .int .i64 0, .int .i64 0, .int .i64 0, .int .i64 0, .int .i64 0, .string { data := #[] }, .string { data := #[] }] 24) = wa from hwa]
  refine wp_region_still_tail 7 (by kernel_rfl) (by kernel_rfl) ?_
  simp only [List.take_succ_cons, List.take_zero, List.drop_succ_cons, List.drop_zero]
  iterate 7 still_step
  with_reducible refine wpStill_nil ?_
  clear hs1 hs2 hq hp h3s
  have h4 := H4.out
  have h5 := H5.out
  go_wp2_with fail
  refine (KN _).out.mono ?_
  rintro e w1 ⟨rfl, hb⟩
  have hb : Below wa.drew.heap.size wa.drew w1 := hb
  have HM1 := Aside0.mk ((⟨HM.out.row, HM.out.lt⟩ : MBox wa.drew w.heap.size zeroM).below hb HM.out.lt)
  have HB1 := Aside0.mk ((below_drew HB.out).trans (hb.mono (below_drew HB.out).size))
  clear hb HM HB KN hwa
  go_wp2_with fail
  refine (KS _).out.mono ?_
  rintro e w2 ⟨rfl, hb⟩
  have HM2 := Aside0.mk (HM1.out.below hb HM1.out.lt)
  have HB2 := Aside0.mk (HB1.out.trans (hb.mono HB1.out.size))
  clear hb KS HM1 HB1
  go_wp2_with fail
  refine (KD _ (HNb.out.below HB2.out)).out.mono ?_
  rintro e w3 ⟨rfl, hb⟩
  have HM3 := Aside0.mk (HM2.out.below hb HM2.out.lt)
  have HB3 := Aside0.mk (HB2.out.trans (hb.mono HB2.out.size))
  clear hb KD HM2 HB2
  have hth := blk_there (w := w3.alloc (.cells (mL zeroM).toArray 24)) (Go.heap_alloc_new w3 _)
  have hnb := below_setCells ((Below.refl w3.heap.size w3).alloc (Nat.le_refl _) (.cells (mL zeroM).toArray 24)) (Nat.le_refl _) (mL m) 0
  have HM4 := Aside0.mk (HM3.out.below hnb HM3.out.lt)
  have HB4 := Aside0.mk (HB3.out.trans (hnb.mono HB3.out.size))
  have HR4 : Aside0 (MBox ((w3.alloc (.cells (mL zeroM).toArray 24)).setCells w3.heap.size 0 (mL m)) w3.heap.size m) := ⟨⟨setCells_whole (Go.heap_alloc_new w3 _) rfl, by rw [setCells_size]; simp⟩⟩
  clear hnb
  go_upto_region 12 with ((with_reducible refine gate_store (ty := 24) (x := .tmp 6) (y := .tmp 49) rfl ?_); refine wpList_store_mid rfl 24 (.tmp 6) (.tmp 49) rfl w3.heap.size 0 (mL m).toArray rfl rfl hth infoM (mL_one m) ?_)
  clear hth HM3 HB3
  generalize hw4 : (w3.alloc (.cells #[.int .i64 0, .int .i64 0, .int .i64 0, .int .i64 0, .int .i64 0, .int .i64 0, .int .i64 0, .int .i64 0, .int .i64 0, .string { data := #[] }, .string { data := #[] }] 24)).setCells w3.heap.size 0 (mL m) = w4
  rw [show (w3.alloc (.cells (mL zeroM).toArray 24)).setCells w3.heap.size 0 (mL m) = w4 from hw4] at HM4 HB4 HR4
  generalize w3.heap.size = g6 at HR4 hw4 ⊢
  clear hw4
  have hth := blk_there HM4.out.row
  go_wp2_with ((with_reducible refine gate_store (ty := 24) (x := .tmp 4) (y := .tmp 53) rfl ?_); refine wpList_store_mid rfl 24 (.tmp 4) (.tmp 53) rfl w.heap.size 0 (mL zeroM).toArray rfl rfl hth infoM (mL_one zeroM) ?_)
  exact tell_ret rfl rfl rfl ⟨setCells_whole HM4.out.row rfl, by rw [setCells_size]; exact HM4.out.lt⟩ (below_setCells HB4.out (Nat.le_refl _) _ _) rfl
set_option maxRecDepth 100000 in
set_option maxHeartbeats 4000000 in
theorem beg_full (s : ByteArray) (w : World) (hp : pre3 (bytesOf s) = true) (h : 3 < s.size) (hk : 1 ≤ kindL (bytesOf s) ∧ kindL (bytesOf s) < 17) (h20 : 20 ≤ s.size) (hmx : s.size ≤ 9223372036854775807) (hNb : Crc.Nibs w) (hz : ¬ sizeL (bytesOf s) < 0 ∧ ¬ (s.size : Int) < sizeL (bytesOf s)) (m : M) (he : decP ((bytesOf s).take (sizeL (bytesOf s)).toNat) = (m, 0)) : Calls Tryd.prog 63 #[.string s] w (TellW 2 (sizeL (bytesOf s)) m w) := by
  obtain ⟨k, ⟨hmin, h0, h1, h3, hq⟩⟩ := head_of s
  rw [hp] at hq
  obtain ⟨kk, hkk⟩ : ∃ kk : Nat, (s[3]'h).toNat = kk := ⟨_, rfl⟩
  have hk2 : kk ≤ 255 := by have := (s[3]'h).toNat_lt; omega
  rw [kindL_byte s h, hkk] at hk
  have H4 : Aside0 ((3 : Int) < (s.size : Int)) := ⟨by omega⟩
  have KN := fun w => Lib.hid (known_yes (kk : Int) w hk)
  obtain ⟨N, hN1⟩ : ∃ N : Nat, sizeL (bytesOf s) = (N : Int) := ⟨(sizeL (bytesOf s)).toNat, by omega⟩
  rw [hN1, Int.toNat_natCast] at he
  have hz1 : ¬ (N : Int) < 0 := by omega
  have hz2 : ¬ (s.size : Int) < (N : Int) := by omega
  have hz3 : (0 : Int) ≤ (N : Int) := by omega
  have hz4 : (N : Int) ≤ (s.size : Int) := by omega
  have H5 : Aside0 (¬ (s.size : Int) < 20) := ⟨by omega⟩
  have KS := fun w => size_any s w h20 hmx
  rw [hN1] at KS
  have KS := fun w => Lib.hid (KS w)
  have hsN := fun wx => run_slice_string_h (P := Tryd.prog) wx 9 s Tryd.underlying9 .i64 (N : Int) hz3 hz4
  rw [Int.toNat_natCast, extract_head s N (by omega)] at hsN
  have KD := fun (w : World) hN => Dec.dec_any (strOfNums ((bytesOf s).take N)) w (by rw [strOfNums_size, List.length_take, bytesOf_length]; omega) hN
  rw [bytesOf_strOfNums _ (byt_take (byt_bytesOf s) N), he] at KD
  have KD := fun (w : World) hN => Lib.hid (KD w hN)
  generalize strOfNums ((bytesOf s).take N) = S3 at hsN KD
  have HNb := Aside0.mk hNb
  clear hNb
  rw [hN1]
  obtain rfl : k = 3 := by rw [if_pos (by omega)] at hmin; omega
  have h3 : (3 : Int) ≤ (s.size : Int) := by omega
  have hs1 := fun wx => run_slice_string_h (P := Tryd.prog) wx 9 s Tryd.underlying9 .i64 (3 : Int) (by decide) h3
  have hs2 := fun wx => run_slice_string_h (P := Tryd.prog) wx 9 { data := #[71, 82, 1] } Tryd.underlying9 .i64 (3 : Int) (by decide) lit_three
  have e3 : (3 : Int).toNat = 3 := rfl
  rw [e3] at hs1 hs2
  clear hmin h0 h1 e3
  generalize s.extract 0 3 = S1 at hs1 hq
  generalize (({ data := #[71, 82, 1] } : ByteArray).extract 0 3) = S2 at hs2 hq
  have HB := Aside0.mk ((Below.refl w.heap.size w).alloc (Nat.le_refl _) (.cells (mL zeroM).toArray 24))
  have HM : Aside0 (MBox (w.alloc (.cells (mL zeroM).toArray 24)) w.heap.size zeroM) := ⟨⟨Go.heap_alloc_new w _, by simp⟩⟩
  generalize hwa : w.alloc (.cells (mL zeroM).toArray 24) = wa at HB HM
  have h3s := lit_three
  go_enter Tryd.func63, Tryd.ntmps63
  go_upto_region 2 with fail
  rw [show w.alloc (.cells #[.int .i64 0, .int .i64 0, .int .i64 0, .int .i64 0, .int .i64 0, .int .i64 0, .int .i64 0, .int .i64 0, .int .i64 0, .string { data := #[] }, .string { data := #[] }] 24) = wa from hwa]
  refine wp_region_still_tail 7 (by kernel_rfl) (by kernel_rfl) ?_
  simp only [List.take_succ_cons, List.take_zero, List.drop_succ_cons, List.drop_zero]
  iterate 7 still_step
  with_reducible refine wpStill_nil ?_
  clear hs1 hs2 hq hp h3s
  have h4 := H4.out
  have h5 := H5.out
  go_wp2_with fail
  refine (KN _).out.mono ?_
  rintro e w1 ⟨rfl, hb⟩
  have hb : Below wa.drew.heap.size wa.drew w1 := hb
  have HM1 := Aside0.mk ((⟨HM.out.row, HM.out.lt⟩ : MBox wa.drew w.heap.size zeroM).below hb HM.out.lt)
  have HB1 := Aside0.mk ((below_drew HB.out).trans (hb.mono (below_drew HB.out).size))
  clear hb HM HB KN hwa
  go_wp2_with fail
  refine (KS _).out.mono ?_
  rintro e w2 ⟨rfl, hb⟩
  have HM2 := Aside0.mk (HM1.out.below hb HM1.out.lt)
  have HB2 := Aside0.mk (HB1.out.trans (hb.mono HB1.out.size))
  clear hb KS HM1 HB1
  go_wp2_with fail
  refine (KD _ (HNb.out.below HB2.out)).out.mono ?_
  rintro e w3 ⟨rfl, hb⟩
  have HM3 := Aside0.mk (HM2.out.below hb HM2.out.lt)
  have HB3 := Aside0.mk (HB2.out.trans (hb.mono HB2.out.size))
  clear hb KD HM2 HB2
  have hth := blk_there (w := w3.alloc (.cells (mL zeroM).toArray 24)) (Go.heap_alloc_new w3 _)
  have hnb := below_setCells ((Below.refl w3.heap.size w3).alloc (Nat.le_refl _) (.cells (mL zeroM).toArray 24)) (Nat.le_refl _) (mL m) 0
  have HM4 := Aside0.mk (HM3.out.below hnb HM3.out.lt)
  have HB4 := Aside0.mk (HB3.out.trans (hnb.mono HB3.out.size))
  have HR4 : Aside0 (MBox ((w3.alloc (.cells (mL zeroM).toArray 24)).setCells w3.heap.size 0 (mL m)) w3.heap.size m) := ⟨⟨setCells_whole (Go.heap_alloc_new w3 _) rfl, by rw [setCells_size]; simp⟩⟩
  clear hnb
  go_upto_region 12 with ((with_reducible refine gate_store (ty := 24) (x := .tmp 6) (y := .tmp 49) rfl ?_); refine wpList_store_mid rfl 24 (.tmp 6) (.tmp 49) rfl w3.heap.size 0 (mL m).toArray rfl rfl hth infoM (mL_one m) ?_)
  clear hth HM3 HB3
  generalize hw4 : (w3.alloc (.cells #[.int .i64 0, .int .i64 0, .int .i64 0, .int .i64 0, .int .i64 0, .int .i64 0, .int .i64 0, .int .i64 0, .int .i64 0, .string { data := #[] }, .string { data := #[] }] 24)).setCells w3.heap.size 0 (mL m) = w4
  rw [show (w3.alloc (.cells (mL zeroM).toArray 24)).setCells w3.heap.size 0 (mL m) = w4 from hw4] at HM4 HB4 HR4
  generalize w3.heap.size = g6 at HR4 hw4 ⊢
  clear hw4
  have hl0 : w4.cell? ⟨g6, 0, none⟩ = some (.int .i64 m.kind) := HR4.out.c 0
  have hl1 : w4.cell? ⟨g6, 1, none⟩ = some (.int .i64 m.from_) := HR4.out.c 1
  have hl2 : w4.cell? ⟨g6, 2, none⟩ = some (.int .i64 m.to_) := HR4.out.c 2
  have hl3 : w4.cell? ⟨g6, 3, none⟩ = some (.int .i64 m.id) := HR4.out.c 3
  have hl4 : w4.cell? ⟨g6, 4, none⟩ = some (.int .i64 m.epoch) := HR4.out.c 4
  have hl5 : w4.cell? ⟨g6, 5, none⟩ = some (.int .i64 m.seq) := HR4.out.c 5
  have hl6 : w4.cell? ⟨g6, 6, none⟩ = some (.int .i64 m.version) := HR4.out.c 6
  have hl7 : w4.cell? ⟨g6, 7, none⟩ = some (.int .i64 m.prev) := HR4.out.c 7
  have hl8 : w4.cell? ⟨g6, 8, none⟩ = some (.int .i64 m.code) := HR4.out.c 8
  have hl9 : w4.cell? ⟨g6, 9, none⟩ = some (.string m.key) := HR4.out.c 9
  have hl10 : w4.cell? ⟨g6, 10, none⟩ = some (.string m.value) := HR4.out.c 10
  go_upto_region 14 with fail
  refine wp_region_still_tail 4 (by kernel_rfl) (by kernel_rfl) ?_
  simp only [List.take_succ_cons, List.take_zero, List.drop_succ_cons, List.drop_zero]
  iterate 3 still_step
  refine wpStill_step (fun K hK => ?_)
  go_simp
  refine hK _ (wpStill_nil ?_)
  have HM5 : Aside0 (MBox ({ w4 with drawn := w4.drawn + 1 } : World) w.heap.size zeroM) := ⟨⟨HM4.out.row, HM4.out.lt⟩⟩
  have HB5 : Aside0 (Below w.heap.size w ({ w4 with drawn := w4.drawn + 1 } : World)) := ⟨below_drew HB4.out⟩
  generalize ({ w4 with drawn := w4.drawn + 1 } : World) = w5 at HM5 HB5 ⊢
  have hth := blk_there HM5.out.row
  clear hK K hl0 hl1 hl2 hl3 hl4 hl5 hl6 hl7 hl8 hl9 hl10
  go_wp2_with ((with_reducible refine gate_store (ty := 24) (x := .tmp 4) (y := .tmp 55) rfl ?_); refine wpList_store_mid rfl 24 (.tmp 4) (.tmp 55) rfl w.heap.size 0 (mL m).toArray rfl rfl hth infoM (mL_one m) ?_)
  have h1 := (⟨setCells_whole HM5.out.row rfl, by rw [setCells_size]; exact HM5.out.lt⟩ : MBox (w5.setCells w.heap.size 0 (mL m)) w.heap.size m)
  have h2 := below_setCells HB5.out (Nat.le_refl _) (mL m) 0
  refine tell_ret rfl rfl rfl ?_ ?_ rfl
  · exact h1
  · exact h2
/-- what begins at the beginning -/
def begP (L : List Int) : Int × Int × M :=
  if pre3 L = false then (0, 0, zeroM)
  else if L.length ≤ 3 then (1, 0, zeroM)
  else if ¬ (1 ≤ kindL L ∧ kindL L < 17) then (0, 0, zeroM)
  else if L.length < 20 then (1, 0, zeroM)
  else if sizeL L < 0 then (0, 0, zeroM)
  else if (L.length : Int) < sizeL L then (1, 0, zeroM)
  else if (decP (L.take (sizeL L).toNat)).2 ≠ 0 then (0, 0, zeroM)
  else (2, sizeL L, (decP (L.take (sizeL L).toNat)).1)
theorem beg_any (s : ByteArray) (w : World) (hmx : s.size ≤ 9223372036854775807) (hN : Crc.Nibs w) : Calls Tryd.prog 63 #[.string s] w (TellW (begP (bytesOf s)).1 (begP (bytesOf s)).2.1 (begP (bytesOf s)).2.2 w) := by
  have hlen : (bytesOf s).length = s.size := bytesOf_length s
  unfold begP
  rw [hlen]
  cases c1 : pre3 (bytesOf s)
  · rw [if_pos rfl]; exact beg_magic s w c1
  rw [if_neg (by decide)]
  by_cases c2 : s.size ≤ 3
  · rw [if_pos c2]; exact beg_short s w c1 c2
  rw [if_neg c2]
  by_cases c3 : 1 ≤ kindL (bytesOf s) ∧ kindL (bytesOf s) < 17
  case neg => rw [if_pos c3]; exact beg_kind s w c1 (by omega) c3
  rw [if_neg (fun h => h c3)]
  by_cases c4 : s.size < 20
  · rw [if_pos c4]; exact beg_head s w c1 (by omega) c3 c4
  rw [if_neg c4]
  by_cases c5 : sizeL (bytesOf s) < 0
  · rw [if_pos c5]; exact beg_neg s w c1 (by omega) c3 (by omega) hmx c5
  rw [if_neg c5]
  by_cases c6 : (s.size : Int) < sizeL (bytesOf s)
  · rw [if_pos c6]; exact beg_wait s w c1 (by omega) c3 (by omega) hmx ⟨c5, c6⟩
  rw [if_neg c6]
  by_cases c7 : (decP ((bytesOf s).take (sizeL (bytesOf s)).toNat)).2 = 0
  case neg => rw [if_pos c7]; exact beg_bad s w c1 (by omega) c3 (by omega) hmx hN ⟨c5, c6⟩ _ _ rfl c7
  rw [if_neg (fun h => h c7)]
  exact beg_full s w c1 (by omega) c3 (by omega) hmx hN ⟨c5, c6⟩ _ (Prod.ext rfl c7)
end Go.Proofs.YtnifgokjagahfaaDoor.Beg

/- Where a frame begins: what the program's begins and the document's at have in common. -/
set_option linter.unusedVariables false
set_option linter.unusedSimpArgs false
namespace Go.Proofs.YtnifgokjagahfaaDoor.Frm
open Go.RowKit Go.Proofs.YtnifgokjagahfaaDoorW.PrintWords Go.Proofs.YtnifgokjagahfaaDoorW.PrintLast Go.Proofs.YtnifgokjagahfaaDoorW.PrintMore
open Go.Proofs.YtnifgokjagahfaaDoor.Base Go.Proofs.YtnifgokjagahfaaDoor.Layouts Go.Proofs.YtnifgokjagahfaaDoor.Msg Go.Proofs.YtnifgokjagahfaaDoor.Put Go.Proofs.YtnifgokjagahfaaDoor.EncPure Go.Proofs.YtnifgokjagahfaaDoor.DecPure Go.Proofs.YtnifgokjagahfaaDoor.Num Go.Proofs.YtnifgokjagahfaaDoor.Mids Go.Proofs.YtnifgokjagahfaaDoor.Beg
/-- a frame begins here: its size and its message -/
def frm (L : List Int) : Option (Nat × M) :=
  if 24 ≤ L.length ∧ bodyN L ≤ 4383 ∧ 24 + bodyN L ≤ L.length ∧ (decP (L.take (24 + bodyN L).toNat)).2 = 0 then some ((24 + bodyN L).toNat, (decP (L.take (24 + bodyN L).toNat)).1) else none
theorem bodyN_take (L : List Int) (n : Nat) (h : 20 ≤ n) : bodyN (L.take n) = bodyN L := by
  unfold bodyN
  rw [List.drop_take, List.take_take, Nat.min_eq_left (by omega)]
theorem head_of_ok (L : List Int) (n : Nat) (hn : 24 ≤ n) (hl : n ≤ L.length) (hb : Byt L) (h : (decP (L.take n)).2 = 0) : pre3 L = true ∧ (1 ≤ kindL L ∧ kindL L < 17) := by
  generalize hr : decP (L.take n) = r at h
  obtain ⟨m, k⟩ := r
  simp only at h
  subst h
  obtain ⟨hv, hk, hw⟩ := dec_ok (byt_take hb n) hr
  have e4 : (L.take n).take 4 = [71, 82, 1, m.kind] := by rw [hw, whole_parts]; rfl
  have e3 : L.take 4 = [71, 82, 1, m.kind] := by rw [← e4, List.take_take, Nat.min_eq_left (by omega)]
  obtain ⟨q1, q2⟩ := kindL_of e3
  refine ⟨?_, by rw [q1]; exact hk⟩
  unfold pre3
  rw [Nat.min_eq_right (by omega), q2]
  rfl
theorem begP_full (L : List Int) (hb : Byt L) (n : Nat) (m : M) (h : frm L = some (n, m)) : begP L = (2, (n : Int), m) := by
  unfold frm at h
  split at h
  · rename_i hc
    obtain ⟨c1, c2, c3, c4⟩ := hc
    simp only [Option.some.injEq, Prod.mk.injEq] at h
    obtain ⟨h1, h2⟩ := h
    have hn0 : 0 ≤ bodyN L := val_nonneg _ (byt_take (byt_drop hb _) _)
    have hz : sizeL L = 24 + bodyN L := by rw [Dec.sizeL_eq, if_neg (by omega)]
    obtain ⟨p1, p2⟩ := head_of_ok L (24 + bodyN L).toNat (by omega) (by omega) hb c4
    unfold begP
    rw [p1, if_neg (by decide), if_neg (by omega), if_neg (fun h => h p2), if_neg (by omega), hz, if_neg (by omega), if_neg (by omega), if_neg (fun h => h c4), h2, ← h1, Int.toNat_of_nonneg (by omega)]
  · cases h
theorem begP_none (L : List Int) (hb : Byt L) (h : frm L = none) : (begP L).1 ≠ 2 := by
  have hn0 : 0 ≤ bodyN L := val_nonneg _ (byt_take (byt_drop hb _) _)
  unfold begP
  split
  · decide
  split
  · decide
  split
  · decide
  split
  · decide
  split
  · decide
  split
  · decide
  split
  · decide
  rename_i a1 a2 a3 a4 a5 a6 a7
  exfalso
  have hz := Dec.sizeL_eq L
  by_cases c2 : 4383 < bodyN L
  · rw [if_pos c2] at hz; omega
  · rw [if_neg c2] at hz
    rw [hz] at a6 a7
    unfold frm at h
    rw [if_pos ⟨by omega, by omega, by omega, by simpa using a7⟩] at h
    cases h
end Go.Proofs.YtnifgokjagahfaaDoor.Frm

/- next of the frame package: the first place at which a frame can begin. -/
set_option linter.unusedVariables false
set_option linter.unusedSimpArgs false
namespace Go.Proofs.YtnifgokjagahfaaDoor.Next
open Go.RowKit Go.Proofs.YtnifgokjagahfaaDoorW.PrintWords Go.Proofs.YtnifgokjagahfaaDoorW.PrintLast Go.Proofs.YtnifgokjagahfaaDoorW.PrintMore
open Go.Proofs.YtnifgokjagahfaaDoor.Base Go.Proofs.YtnifgokjagahfaaDoor.Layouts Go.Proofs.YtnifgokjagahfaaDoor.Msg Go.Proofs.YtnifgokjagahfaaDoor.Put Go.Proofs.YtnifgokjagahfaaDoor.EncPure Go.Proofs.YtnifgokjagahfaaDoor.DecPure Go.Proofs.YtnifgokjagahfaaDoor.Num Go.Proofs.YtnifgokjagahfaaDoor.Mids Go.Proofs.YtnifgokjagahfaaDoor.Beg
set_option maxRecDepth 100000 in
theorem sindex_any (s : ByteArray) (c : Int) (w : World) : Calls Tryd.prog 86 #[.string s, .int .u8 c] w fun e w' => e = .returned (.int .i64 (Lib.indexByte s.data.toList c.toNat.toUInt8)) ∧ w' = w := by
  go_enter Tryd.func86, Tryd.ntmps86
  go_wp2
  rw [run_callFunc_extern Tryd.func87 (by kernel_rfl) (by kernel_rfl) (by kernel_rfl) (e := Extern.BytealgIndexByte.indexByte) (by kernel_rfl), Lib.run_indexByteString]
  simp only [Result.andThen]
  rw [Oper.upon_value]
  go_wp2
  go_ret
  exact ⟨rfl, rfl⟩
theorem index_any (s : ByteArray) (c : Int) (w : World) : Calls Tryd.prog 80 #[.string s, .int .u8 c] w fun e w' => e = .returned (.int .i64 (Lib.indexByte s.data.toList c.toNat.toUInt8)) ∧ w' = w := by
  go_enter Tryd.func80, Tryd.ntmps80
  go_wp2_with fail
  refine (sindex_any s c w).mono ?_
  rintro e w' ⟨rfl, rfl⟩
  go_wp2
  go_ret
  exact ⟨rfl, rfl⟩
/-- how many bytes stand ahead of the first 71, or of the end -/
def skip : List UInt8 → Nat
  | [] => 0
  | b :: l => if b == 71 then 0 else skip l + 1
theorem skip_le : ∀ l : List UInt8, skip l ≤ l.length
  | [] => Nat.le_refl _
  | b :: l => by
    have := skip_le l
    simp only [skip, List.length_cons]
    split <;> omega
theorem index_skip : ∀ l : List UInt8, Lib.indexByte l 71 = if skip l = l.length then -1 else (skip l : Int)
  | [] => rfl
  | b :: l => by
    have ih := index_skip l
    have hl := skip_le l
    simp only [Lib.indexByte, skip, List.length_cons]
    by_cases hb : (b == 71) = true
    · simp only [if_pos hb]
      rw [if_neg (by omega)]
      rfl
    · simp only [if_neg hb]
      rw [ih]
      by_cases h : skip l = l.length
      · rw [if_pos h, if_pos (by decide), if_pos (by omega)]
      · rw [if_neg h, if_neg (by rw [beq_iff_eq]; omega), if_neg (by omega)]
        omega
/-- the first place at or behind a where a frame can begin, or the end -/
def nxt (s : ByteArray) (a : Nat) : Nat := a + skip (s.data.toList.drop a)
theorem nxt_le (s : ByteArray) (a : Nat) (h : a ≤ s.size) : a ≤ nxt s a ∧ nxt s a ≤ s.size := by
  have := skip_le (s.data.toList.drop a)
  have e : s.data.toList.length = s.size := rfl
  rw [List.length_drop, e] at this
  unfold nxt
  omega
theorem extract_list (s : ByteArray) (a : Nat) : (s.extract a s.size).data.toList = s.data.toList.drop a := by
  rw [ByteArray.data_extract, Array.toList_extract, List.extract_eq_take_drop, List.take_of_length_le]
  rw [List.length_drop]
  exact Nat.le_refl _
theorem lit_at : (({ data := #[71, 82, 1] } : ByteArray)[0]'(by decide)).toNat = 71 := rfl
set_option maxRecDepth 100000 in
set_option maxHeartbeats 2000000 in
theorem next_any (s : ByteArray) (a : Nat) (w : World) (h : a ≤ s.size) (hmx : s.size ≤ 9223372036854775807) : Calls Tryd.prog 64 #[.string s, .int .i64 (a : Nat)] w fun e w' => e = .returned (.int .i64 (nxt s a : Nat)) ∧ Drawn0 w w' := by
  have h0 : (0 : Int) ≤ (a : Int) := by omega
  have h1 : (a : Int) ≤ (s.size : Int) := by omega
  have hs1 := fun wx => run_slice_string_l (P := Tryd.prog) wx 9 s Tryd.underlying9 .i64 (a : Int) h0 h1
  rw [Int.toNat_natCast] at hs1
  have hx := extract_list s a
  have hi := index_skip (s.data.toList.drop a)
  have hle := skip_le (s.data.toList.drop a)
  have hn : nxt s a = a + skip (s.data.toList.drop a) := rfl
  have hlen : (s.data.toList.drop a).length = s.size - a := by rw [List.length_drop]; rfl
  rw [hlen] at hi hle
  generalize skip (s.data.toList.drop a) = k at hi hle hn
  rw [← hx] at hi
  generalize s.extract a s.size = S1 at hs1 hx hi
  have K := fun w => Lib.hid (index_any S1 71 w)
  rw [show (71 : Int).toNat.toUInt8 = 71 from rfl, hi] at K
  clear hx hi hlen
  rw [hn]
  have hcase : k = s.size - a ∨ (k ≠ s.size - a ∧ k < s.size - a) := by omega
  go_enter Tryd.func64, Tryd.ntmps64
  go_upto_region 1 with fail
  refine wp_region_still_tail 4 (by kernel_rfl) (by kernel_rfl) ?_
  simp only [List.take_succ_cons, List.take_zero, List.drop_succ_cons, List.drop_zero]
  iterate 4 still_step
  with_reducible refine wpStill_nil ?_
  rcases hcase with hk | ⟨hk, hlt⟩
  · rw [if_pos hk] at K
    have HSUM := Lib.hid (show s.size = a + k by omega)
    clear hk hle hn
    go_wp2_with fail
    refine (K _).out.mono ?_
    rintro e w1 ⟨rfl, rfl⟩
    go_wp2
    go_ret
    exact ⟨by rw [HSUM.out]; rfl, ⟨1, rfl⟩⟩
  · rw [if_neg hk] at K
    have hneg : ¬ (k : Int) < 0 := by omega
    have hw : wrap64 ((a : Int) + (k : Int)) = ((a + k : Nat) : Int) := by rw [w64 _ (by omega) (by omega)]; omega
    go_wp2_with fail
    refine (K _).out.mono ?_
    rintro e w1 ⟨rfl, rfl⟩
    go_wp2
    go_ret
    exact ⟨by go_num, ⟨1, rfl⟩⟩
end Go.Proofs.YtnifgokjagahfaaDoor.Next

/- put of the frame package, where there is room: written in place. -/
set_option linter.unusedVariables false
set_option linter.unusedSimpArgs false
namespace Go.Proofs.YtnifgokjagahfaaDoor.Put
open Go.RowKit Go.Proofs.YtnifgokjagahfaaDoorW.PrintWords Go.Proofs.YtnifgokjagahfaaDoorW.PrintLast Go.Proofs.YtnifgokjagahfaaDoorW.PrintMore
open Go.Proofs.YtnifgokjagahfaaDoor.Base Go.Proofs.YtnifgokjagahfaaDoor.App
/-- xs with ys written from k on -/
def setTo (xs : List Value) (k : Nat) (ys : List Value) : List Value := xs.take k ++ ys ++ xs.drop (k + ys.length)
theorem setTo_nil (xs : List Value) (k : Nat) : setTo xs k [] = xs := by simp [setTo]
theorem setTo_next (xs ys : List Value) (k : Nat) (y : Value) (h : k + ys.length < xs.length) : (setTo xs k ys).set (k + ys.length) y = setTo xs k (ys ++ [y]) := by
  unfold setTo
  have hl : (xs.take k ++ ys).length = k + ys.length := by simp; omega
  rw [List.set_append_right _ _ (by omega), hl, Nat.sub_self, List.length_append]
  have hd : xs.drop (k + ys.length) = xs[k + ys.length] :: xs.drop (k + ys.length + 1) := (List.drop_eq_getElem_cons h)
  rw [hd, List.set_cons_zero]
  simp [Nat.add_assoc]
theorem own_set {w : World} {base g n cap : Nat} {e : TypeId} {xs : List Value} (h : w.ownsRow base e 1 (.slice (some ⟨g, 0, none⟩) n cap) n xs) (i : Nat) (hi : i < n) (v : Value) : (w.setCell ⟨g, i, none⟩ v).ownsRow base e 1 (.slice (some ⟨g, 0, none⟩) n cap) n (xs.set i v) := by
  rcases h with ⟨hl, h | ⟨g', cap', cs, hv, hb, hg, hn, hm, hs, ht⟩⟩
  · cases h.1
  · cases hv
    refine ⟨by simpa using hl, .inr ⟨g, cap, _, rfl, hb, heap_setCell_same _ _ _ _ _ _ hg, hn, hm, by simpa using hs, ?_⟩⟩
    rw [← ht, Array.toList_setIfInBounds, List.take_set]
theorem own_cell {w : World} {base g n cap : Nat} {e : TypeId} {xs : List Value} (h : w.ownsRow base e 1 (.slice (some ⟨g, 0, none⟩) n cap) n xs) (i : Nat) (hi : i < n) : (w.cell? ⟨g, i, none⟩).isSome = true ∧ w.frozen? ⟨g, i, none⟩ = false ∧ base ≤ g := by
  rcases h with ⟨hl, h | ⟨g', cap', cs, hv, hb, hg, hn, hm, hs, ht⟩⟩
  · cases h.1
  · cases hv
    refine ⟨?_, frozen_of_row _ _ i _ _ hg, hb⟩
    rw [cell_of_row _ _ _ _ _ _ hg]
    simp; omega
section
variable {P : Program} {ops : Array Oper} {rest : List Oper} {o : Oper} {a : Act} {Q : Exit → Act → World → Prop}
/-- append of one cell, where there is room -/
theorem wp_append_room {W : World} (hgd : o.guard = none) (s x : Operand) (t e : TypeId) (ho : o.op = .call { callee := .builtin .append, args := #[s, x], argTypes := #[t, t] })
    (ht : P.underlying t = some (.slice e)) (i : TypeInfo) (hi : P.info? e = some i) (hi1 : i.size = 1) (g n cap b c : Nat) (y : Value) (hs : a.eval s = .slice (some ⟨g, 0, none⟩) n cap) (hx : a.eval x = .slice (some ⟨b, 0, none⟩) 1 c)
    (hy : W.cell? ⟨b, 0, none⟩ = some y) (h1 : y.oneCell' = true) (hroom : n + 1 ≤ cap) (hcell : (W.cell? ⟨g, n, none⟩).isSome = true) (hfr : W.frozen? ⟨g, n, none⟩ = false)
    (h : wpList P ops Q rest (a.put o.dst (.slice (some ⟨g, 0, none⟩) (n + 1) cap)) (W.setCell ⟨g, n, none⟩ y)) : wpList P ops Q (o :: rest) a W := by
  have c1 : ∀ j u, [y][j]? = some u → W.cell? ((⟨b, 0, none⟩ : Addr).add j) = some u := by
    intro j u hj
    cases j with
    | zero => simpa [Addr.add] using hy.trans (by simpa using hj)
    | succ j => simp at hj
  have c2 : ∀ u ∈ [y], u.oneCell' = true := by
    intro u hu
    simp at hu
    subst hu
    exact h1
  have c3 : ∀ j, j < [y].length → (W.cell? ⟨g, 0 + n * i.size + j, none⟩).isSome = true := by
    intro j hj
    have hj0 : j = 0 := by simpa using hj
    subst hj0
    simpa [hi1] using hcell
  have c4 : ∀ j, j < [y].length → W.frozen? ⟨g, 0 + n * i.size + j, none⟩ = false := by
    intro j hj
    have hj0 : j = 0 := by simpa using hj
    subst hj0
    simpa [hi1] using hfr
  have hr := run_append_room_cells (P := P) W t o.type e i ht hi g 0 n cap ⟨b, 0, none⟩ 1 c [y] (by rw [hi1]; rfl) c1 c2 hroom c3 c4
  have e1 : W.setCells g (0 + n * i.size) [y] = W.setCell ⟨g, n, none⟩ y := by rw [hi1]; simp [World.setCells]
  rw [e1] at hr
  refine wpList_plain hgd fun K hK => ?_
  unfold Oper.wp execOp
  simp only [ho, resolve, invoke, builtin, Sem.run_bind, Sem.run_pure, Result.andThen_ok, List.map_toArray, List.map_cons, List.map_nil, hs, hx, hr]
  exact hK _ _ h
end
set_option maxRecDepth 100000 in
set_option maxHeartbeats 4000000 in
theorem put_at (base g n cap k0 : Nat) (xs : List Value) (N : Int) (wd : Nat) (w : World) (hO : w.ownsRow base 5 1 (.slice (some ⟨g, 0, none⟩) n cap) n xs) (hb : base ≤ w.heap.size) (hN0 : 0 ≤ N) (hN : N ≤ 9223372036854775807) (hw0 : 1 ≤ wd) (hw1 : wd ≤ 8) (hk0 : k0 + wd ≤ n) (hnc : n ≤ cap) (hn : n ≤ 1000000) :
    Calls Tryd.prog 36 #[.slice (some ⟨g, 0, none⟩) k0 cap, .int .i64 N, .int .i64 (wd : Int)] w fun e w' => ∃ v', e = .returned v' ∧ w'.ownsRow base 5 1 (.slice (some ⟨g, 0, none⟩) n cap) n (setTo xs k0 (nums .u8 (be N wd))) ∧ Below base w w' := by
  have HO := Aside0.mk hO
  have HB := Aside0.mk (Below.refl base w)
  have hxl : xs.length = n := by have := hO.1; simpa using this
  have HXL := Aside0.mk hxl
  clear hO hxl
  obtain ⟨i0, hi0, hzz⟩ := Option.map_eq_some_iff.1 info8
  have hi1 : i0.size = 1 := by simp only [Prod.mk.injEq] at hzz; exact hzz.2.1
  clear hzz
  go_enter Tryd.func36, Tryd.ntmps36
  go_wp2
  go_loopw [0, 7] (fun sv iv wr => ∃ k : Nat, k ≤ wd ∧ iv = .int .i64 ((wd : Int) - 1 - (k : Int)) ∧ sv = .slice (some ⟨g, 0, none⟩) (k0 + k) cap ∧ Aside0 (wr.ownsRow base 5 1 (.slice (some ⟨g, 0, none⟩) n cap) n (setTo xs k0 (nums .u8 (beTo N wd k)))) ∧ Aside0 (Below base w wr)) (fun _ iv _ => (intOf iv + 1).toNat)
  case atStart => exact ⟨0, Nat.zero_le _, by simp, rfl, ⟨by simpa [beTo, nums, setTo_nil] using HO.out⟩, HB⟩
  case round =>
    clear HO HB
    obtain ⟨k, hk, rfl, rfl, HO, HB⟩ := hrel
    obtain ⟨wo, rfl⟩ : ∃ wo : World, wo = wr := ⟨_, rfl⟩
    by_cases hlt : k < wd
    · have hsz := HB.out.size
      have HZ : Aside0 (base ≤ wo.heap.size) := ⟨by omega⟩
      have HN := Lib.hid (beTo_next N wd k)
      obtain ⟨i, hi⟩ : ∃ i : Nat, (wd : Int) - 1 - (k : Int) = (i : Int) ∧ i = wd - 1 - k := ⟨wd - 1 - k, by omega, rfl⟩
      rw [← hi.2] at HN
      have hi7 : i ≤ 7 := by omega
      have hie := hi.1
      have HI := Aside0.mk hi
      clear hsz hi
      rw [hie]
      clear hie
      have hnew := news wo [.int .u8 (N / 2 ^ (8 * i) % 256)] 5 0 _ rfl
      have HOA := Aside0.mk (HO.out.alloc (.cells [Value.int .u8 (N / 2 ^ (8 * i) % 256)].toArray 5))
      obtain ⟨hcell, hfr, _⟩ := own_cell HOA.out (k0 + k) (by omega)
      go_wp2_with (at_builtin; go_loud (refine wp_append_room (P := Tryd.prog) rfl (.tmp 14) (.tmp 20) 82 5 rfl Tryd.underlying82 i0 hi0 hi1 g (k0 + k) cap wo.heap.size 1 (.int .u8 (N / 2 ^ (8 * i) % 256)) rfl rfl hnew rfl (by omega) hcell hfr ?_))
      go_roundw
      case rel =>
        have hnl : (nums .u8 (beTo N wd k)).length = k := by rw [nums, List.length_map, beTo_length]
        have h2 := own_set HOA.out (k0 + k) (by omega) (.int .u8 (N / 2 ^ (8 * i) % 256))
        have h3 := setTo_next xs (nums .u8 (beTo N wd k)) k0 (.int .u8 (N / 2 ^ (8 * i) % 256)) (by rw [hnl, HXL.out]; omega)
        rw [hnl] at h3
        rw [h3] at h2
        refine ⟨k + 1, by omega, ?_, rfl, ⟨?_⟩, ⟨(HB.out.alloc HZ.out _).setCell (own_cell HOA.out (k0 + k) (by omega)).2.2 _⟩⟩
        · have := HI.out.1
          congr 1; omega
        · rw [HN.out, nums_append]
          exact h2
      case measure => have := HI.out; simp [intOf]
    · obtain rfl : k = wd := by omega
      have hneg : (k : Int) - 1 - (k : Int) = -1 := by omega
      rw [hneg]
      go_wp2
      go_ret
      exact ⟨_, rfl, HO.out, HB.out⟩
end Go.Proofs.YtnifgokjagahfaaDoor.Put

/- Encode of the frame package. -/
set_option linter.unusedVariables false
set_option linter.unusedSimpArgs false
namespace Go.Proofs.YtnifgokjagahfaaDoor.Enc
open Go.RowKit Go.Proofs.YtnifgokjagahfaaDoorW.PrintWords Go.Proofs.YtnifgokjagahfaaDoorW.PrintLast Go.Proofs.YtnifgokjagahfaaDoorW.PrintMore
open Go.Proofs.YtnifgokjagahfaaDoor.Base Go.Proofs.YtnifgokjagahfaaDoor.App Go.Proofs.YtnifgokjagahfaaDoor.Layouts Go.Proofs.YtnifgokjagahfaaDoor.Msg Go.Proofs.YtnifgokjagahfaaDoor.Put Go.Proofs.YtnifgokjagahfaaDoor.EncPure Go.Proofs.YtnifgokjagahfaaDoor.DecPure
section
variable {P : Program} {ops : Array Oper} {rest : List Oper} {o : Oper} {a : Act} {Q : Exit → Act → World → Prop}
/-- append to a full row that is only read: it grows -/
theorem list_append_full {w0 W : World} (base : Nat) (hgd : o.guard = none) (s x : Operand) (t e : TypeId) (z : Value) (bytes : Nat)
    (ho : o.op = .call { callee := .builtin .append, args := #[s, x], argTypes := #[t, t] })
    (ht : P.underlying t = some (.slice e)) (hinfo : (P.info? e).map (fun i => (i.zero, i.size, i.bytes)) = some (some z, 1, bytes)) (hz : z.cells.size = 1) (hb0 : 0 < bytes)
    (b0 n : Nat) (xs : List Value) (b m c : Nat) (ys : List Value) (hs : a.eval s = .slice (some ⟨b0, 0, none⟩) n n) (hxl : xs.length = n) (hcx : ∀ j u, xs[j]? = some u → W.cell? ⟨b0, j, none⟩ = some u)
    (hx : a.eval x = .slice (some ⟨b, 0, none⟩) m c) (hm : ys.length = m) (hm0 : 0 < m)
    (hc : ∀ j u, ys[j]? = some u → W.cell? ⟨b, j, none⟩ = some u)
    (HB : Below base w0 W) (hbase : base ≤ W.heap.size) (hl : (n + m) * bytes ≤ 140737488355328)
    (h : ∀ v1 w1, w1.ownsRow base e 1 v1 (n + m) (xs ++ ys) → Below base w0 w1 → w1.heap.size = W.heap.size + 1 → wpList P ops Q rest (a.put o.dst v1) w1) :
    wpList P ops Q (o :: rest) a W := by
  obtain ⟨i0, hi, hzz⟩ := Option.map_eq_some_iff.1 hinfo
  simp only [Prod.mk.injEq] at hzz
  obtain ⟨hz0, hz1, hz2⟩ := hzz
  have hlen : n + m ≤ 140737488355328 := Nat.le_trans (Nat.le_mul_of_pos_right _ hb0) hl
  have add : ∀ b j : Nat, (⟨b, 0, none⟩ : Addr).add j = ⟨b, j, none⟩ := by
    intro b j; unfold Addr.add; split <;> simp_all
  have hr := run_append_grow (P := P) W t o.type e i0 z ht hi hz0 ⟨b0, 0, none⟩ n n xs (by rw [hz1, Nat.mul_one]; exact hxl) (by intro j v hj; rw [add]; exact hcx j v hj) ⟨b, 0, none⟩ m c ys (by rw [hz1, Nat.mul_one]; exact hm) (by intro j v hj; rw [add]; exact hc j v hj) (by omega) (by omega) (growslice_fits (by omega) (by rw [hz2]; exact hl))
  have hge := grownCap_ge W (n + m) n e
  have hcm : grownCap W (n + m) n e ≤ maxLen := grownCap_le_maxLen W (n + m) n e (by simp only [maxLen]; omega)
  have hxy : (xs ++ ys).length = (n + m) * 1 := by rw [List.length_append, hxl, hm, Nat.mul_one]
  refine wpList_plain hgd fun K hK => ?_
  unfold Oper.wp execOp
  simp only [ho, resolve, invoke, builtin, Sem.run_bind, Sem.run_pure, Result.andThen_ok, List.map_toArray, List.map_cons, List.map_nil, hs, hx, hr]
  refine hK _ _ (h _ _ ⟨hxy, .inr ⟨W.heap.size, _, _, rfl, hbase, heap_alloc_new W.drew _, hge, hcm, ?_, ?_⟩⟩ ((HB.trans (Below.drew (Below.refl _ W) |>.mono hbase)).alloc hbase _) (by simp))
  · simp only [Array.size_append, List.size_toArray, size_zeroCells, hz, hxl, hm]; omega
  · simp only [Array.toList_append, List.append_assoc]
    rw [← List.append_assoc, ← hxy]
    exact List.take_left
end
/-- layouts, its rows told as blocks -/
theorem layouts_rows (w : World) : Calls Tryd.prog 37 #[] w fun e w' => e = .returned (.slice (some ⟨w.heap.size + 16, 0, none⟩) 17 17) ∧ Lay w' w.heap.size ∧ Below w.heap.size w w' ∧ w.heap.size + 17 ≤ w'.heap.size ∧ ∀ k, k < 16 → w'.heap[w.heap.size + k]? = some (rowOf (fieldsOf (k + 1))) := by
  refine (layouts_any w).mono ?_
  rintro e w' ⟨rfl, rfl⟩
  exact ⟨rfl, lay_of w, allocs_below _ _, by rw [allocs_size, objs_length]; exact Nat.le_refl _, fun k hk => by rw [allocs_new _ _ _ (by rw [objs_length]; omega), objs_row _ _ hk]⟩
/-- the state of Encode's loop -/
structure EInv (w w2 wr : World) (m : M) (q : Nat) (fs : List Nat) (bv : Value) (j : Nat) : Prop where mk ::
  (own : wr.ownsRow w2.heap.size 5 1 bv (20 + (bodyB m (fs.take j)).length) (nums .u8 (headB m ++ be 0 4 ++ bodyB m (fs.take j))))
  (msg : MBox wr w.heap.size m) (row : wr.heap[q]? = some (rowOf fs)) (bel : Below w2.heap.size w2 wr)
theorem rowOf_cell {w : World} {q : Nat} {fs : List Nat} (h : w.heap[q]? = some (rowOf fs)) (j n : Nat) (hj : fs[j]? = some n) : w.cell? ⟨q, j, none⟩ = some (.int .u8 (n : Nat)) := by
  rw [blk_cell h j, List.getElem?_toArray, List.getElem?_map, hj]; rfl
theorem keep_row {w w1 : World} {q : Nat} {fs : List Nat} (h : w.heap[q]? = some (rowOf fs)) (hk : KeepTy 5 w w1) : w1.heap[q]? = some (rowOf fs) := hk.2 _ _ _ _ (by decide) h
theorem keep_msg {w w1 : World} {g : Nat} {m : M} (h : MBox w g m) (hk : KeepTy 5 w w1) : MBox w1 g m := ⟨hk.2 _ _ _ _ (by decide) h.row, Nat.lt_of_lt_of_le h.lt hk.1⟩
theorem body_snoc (m : M) (fs : List Nat) (j n : Nat) (h : fs[j]? = some n) : bodyB m (fs.take (j + 1)) = bodyB m (fs.take j) ++ fieldB m n := by
  rw [List.take_add_one, h]; simp [bodyB]
theorem strCells_nums (s : ByteArray) : Lib.strCells s = nums .u8 (bytesOf s) := by
  unfold Lib.strCells nums bytesOf
  rw [List.map_map]; rfl
theorem body_take_le (m : M) (fs : List Nat) (j : Nat) : (bodyB m (fs.take j)).length ≤ (bodyB m fs).length := by
  have e : bodyB m fs = bodyB m (fs.take j) ++ bodyB m (fs.drop j) := by
    unfold bodyB
    rw [← List.flatMap_append, List.take_append_drop]
  rw [e, List.length_append]
  omega
theorem EInv.next {w w2 wr w1 : World} {m : M} {q : Nat} {fs : List Nat} {bv v1 : Value} {j n : Nat} (h : EInv w w2 wr m q fs bv j) (hs : bodyB m (fs.take (j + 1)) = bodyB m (fs.take j) ++ fieldB m n)
    (hO : w1.ownsRow w2.heap.size 5 1 v1 (20 + (bodyB m (fs.take j)).length + (fieldB m n).length) (nums .u8 (headB m ++ be 0 4 ++ bodyB m (fs.take j) ++ fieldB m n)))
    (hm : MBox w1 w.heap.size m) (hr : w1.heap[q]? = some (rowOf fs)) (hb : Below w2.heap.size w2 w1) : EInv w w2 w1 m q fs v1 (j + 1) := by
  refine ⟨?_, hm, hr, hb⟩
  rw [hs, List.length_append, ← Nat.add_assoc, ← List.append_assoc]
  exact hO
theorem setTo_head (H a b : List Int) (k : Nat) (hH : H.length = k) (c : List Int) (hc : c.length = a.length) : setTo (nums .u8 (H ++ a ++ b)) k (nums .u8 c) = nums .u8 (H ++ c ++ b) := by
  unfold setTo
  have h1 : (nums .u8 (H ++ a ++ b)).take k = nums .u8 H := by
    rw [nums_append, nums_append, List.append_assoc]
    exact List.take_left' (by rw [nums_length]; exact hH)
  have h2 : (nums .u8 (H ++ a ++ b)).drop (k + (nums .u8 c).length) = nums .u8 b := by
    rw [nums_append]
    exact List.drop_left' (by rw [nums_length, nums_length, List.length_append]; omega)
  rw [h1, h2, nums_append, nums_append]
/-- what a field lays behind the row -/
theorem field_step {w1 : World} {b0 : Nat} {m : M} {n L : Nat} {v1 : Value} {X : List Int} (ht : textOf m n = [])
    (h : w1.ownsRow b0 5 1 v1 (L + wN n) (nums .u8 X ++ nums .u8 (be (numOf m n) (wN n)))) : w1.ownsRow b0 5 1 v1 (L + (fieldB m n).length) (nums .u8 (X ++ fieldB m n)) := by
  have e : fieldB m n = be (numOf m n) (wN n) := by unfold fieldB; rw [ht, List.append_nil]
  rw [e, be_length, nums_append]
  exact h
theorem field_step_text {w1 : World} {b0 : Nat} {m : M} {n L : Nat} {v1 : Value} {X : List Int} {t : ByteArray} (ht : textOf m n = bytesOf t)
    (h : w1.ownsRow b0 5 1 v1 (L + wN n + t.size) (nums .u8 X ++ nums .u8 (be (numOf m n) (wN n)) ++ Lib.strCells t)) : w1.ownsRow b0 5 1 v1 (L + (fieldB m n).length) (nums .u8 (X ++ fieldB m n)) := by
  have e : fieldB m n = be (numOf m n) (wN n) ++ bytesOf t := by unfold fieldB; rw [ht]
  rw [e, List.length_append, be_length, bytesOf_length, nums_append, nums_append, ← strCells_nums, ← Nat.add_assoc, ← List.append_assoc]
  exact h
set_option maxRecDepth 100000 in
set_option maxHeartbeats 8000000 in
theorem enc_good (m : M) (w : World) (hk : 1 ≤ m.kind ∧ m.kind < 17) (hv : vB m = true) (hN : Crc.Nibs w) :
    Calls Tryd.prog 13 #[.agg (mL m).toArray] w fun e w' => e = .returned (.tuple #[.string (strOfNums (frameB m) ++ sumS (strOfNums (frameB m))), .int .i64 0]) ∧ Below w.heap.size w w' := by
  have HB0 := Aside0.mk ((Below.refl w.heap.size w).alloc (Nat.le_refl _) (.cells (mL m).toArray 24))
  have HM0 : Aside0 (MBox (w.alloc (.cells (mL m).toArray 24)) w.heap.size m) := ⟨⟨Go.heap_alloc_new w _, by simp⟩⟩
  have HV := Aside0.mk hv
  have HK := Aside0.mk hk
  have HN := Aside0.mk hN
  have hc0 : (w.alloc (.cells (mL m).toArray 24)).cell? ⟨w.heap.size, 0, none⟩ = some (.int .i64 m.kind) := HM0.out.c 0
  clear hv hN
  go_enter Tryd.func13, Tryd.ntmps13
  go_wp2_with fail
  refine (known_yes m.kind _ hk).mono ?_
  rintro e w1 ⟨rfl, hb⟩
  have HM1 := Aside0.mk (HM0.out.below hb (by simp))
  have HB1 := Aside0.mk (HB0.out.trans (hb.mono HB0.out.size))
  clear hb hc0 HM0 HB0
  go_wp2_with fail
  refine (valid_any w.heap.size m w1 HM1.out hk).mono ?_
  rintro e w2 ⟨rfl, hb⟩
  have HM2 := Aside0.mk (HM1.out.below hb HM1.out.lt)
  have HB2 := Aside0.mk (HB1.out.trans (hb.mono HB1.out.size))
  clear hb HM1 HB1
  rw [HV.out]
  have hc0 : w2.cell? ⟨w.heap.size, 0, none⟩ = some (.int .i64 m.kind) := HM2.out.c 0
  have HZ2 := Aside0.mk HM2.out.lt
  have hcvt := Lib.run_convert_bytes_const (P := Tryd.prog) w2 82 5 [Value.int .u8 71, .int .u8 82, .int .u8 1].toArray 3 3 Tryd.underlying82 Tryd.underlying5
  have hs1 : (w2.alloc (.cells [Value.int .u8 71, .int .u8 82, .int .u8 1].toArray 5 (3, 4))).heap.size = w2.heap.size + 1 := by simp
  have hg71 : ∀ j u, [Value.int .u8 71, .int .u8 82, .int .u8 1][j]? = some u → (w2.alloc (.cells [Value.int .u8 71, .int .u8 82, .int .u8 1].toArray 5 (3, 4))).cell? ⟨w2.heap.size, j, none⟩ = some u := by
    intro j u hj
    rw [World.cell?_alloc_mark]; simpa using hj
  generalize hwa : (w2.alloc (.cells [Value.int .u8 71, .int .u8 82, .int .u8 1].toArray 5 (3, 4))) = wa at hcvt hs1 hg71
  have hnew := news wa [.int .u8 m.kind] 5
  have hold : ∀ j u, [Value.int .u8 71, .int .u8 82, .int .u8 1][j]? = some u → (wa.alloc (.cells [Value.int .u8 m.kind].toArray 5)).cell? ⟨w2.heap.size, j, none⟩ = some u := fun j u hj => (Lib.cell?_alloc_marked _ (hg71 j u hj))
  have HHS := Aside0.mk hs1
  have HWA : Aside0 (Below w2.heap.size w2 wa) := ⟨by rw [← hwa]; exact (Below.refl _ w2).alloc (Nat.le_refl _) _⟩
  have hcell1 : wa.cell? ⟨w.heap.size, 0, none⟩ = some (.int .i64 m.kind) := (World.cell?_of_block (HWA.out.block _ HM2.out.lt)).trans hc0
  have HNEW := Aside0.mk hnew
  have HOLD := Aside0.mk hold
  have hk2 := hk.2
  have hk1 := hk.1
  clear hs1 hg71 hwa hnew hold
  go_wp2_with (at_builtin; go_loud (refine list_append_full (P := Tryd.prog) (w0 := w2) w2.heap.size rfl (.tmp 19) (.tmp 23) 82 5 (.int .u8 0) 1 rfl Tryd.underlying82 info8 rfl (by decide) w2.heap.size 3 [.int .u8 71, .int .u8 82, .int .u8 1] wa.heap.size 1 1 [.int .u8 m.kind] rfl rfl HOLD.out rfl rfl (by decide) HNEW.out (HWA.out.alloc HWA.out.size _) ?hs ?hl ?_); (case hs => have := HHS.out; simp; omega); (case hl => decide); intro v1 w3 HO1 HB3 _; have HM3 := Aside0.mk (HM2.out.below HB3 HM2.out.lt); have hc1 : w3.cell? ⟨w.heap.size, 1, none⟩ = some (.int .i64 m.from_) := HM3.out.c 1; have HO3 := Aside0.mk HO1; have HBB3 := Aside0.mk HB3; clear HO1 HB3)
  clear hcvt hcell1 HNEW HOLD HWA hc0 HHS hk1 hk2 hk HM2
  have HF := Aside0.mk (vB_facts m HV.out)
  refine (put_own w2.heap.size v1 4 _ m.from_ 2 w3 HO3.out HBB3.out.size HF.out.1.1 (by have := HF.out.1.2; omega) (by decide) (by decide) (by decide)).mono ?_
  rintro e w4 ⟨v4, rfl, hO, hb, hk⟩
  have HO4 := Aside0.mk hO
  have HB4 := Aside0.mk (HBB3.out.trans hb)
  have HM4 := Aside0.mk (keep_msg HM3.out hk)
  have hc2 : w4.cell? ⟨w.heap.size, 2, none⟩ = some (.int .i64 m.to_) := HM4.out.c 2
  clear hO hb hk HO3 HBB3 HM3 hc1
  go_wp2_with fail
  refine (put_own w2.heap.size v4 _ _ m.to_ 2 w4 HO4.out HB4.out.size HF.out.2.1.1 (by have := HF.out.2.1.2; omega) (by decide) (by decide) (by decide)).mono ?_
  rintro e w5 ⟨v5, rfl, hO, hb, hk⟩
  have HO5 := Aside0.mk hO
  have HB5 := Aside0.mk (HB4.out.trans hb)
  have HM5 := Aside0.mk (keep_msg HM4.out hk)
  have hc3 : w5.cell? ⟨w.heap.size, 3, none⟩ = some (.int .i64 m.id) := HM5.out.c 3
  clear hO hb hk HO4 HB4 HM4 hc2
  go_wp2_with fail
  refine (put_own w2.heap.size v5 _ _ m.id 8 w5 HO5.out HB5.out.size HF.out.2.2.1.1 (by have := HF.out.2.2.1.2; omega) (by decide) (by decide) (by decide)).mono ?_
  rintro e w6 ⟨v6, rfl, hO, hb, hk⟩
  obtain ⟨g6, cap6, rfl⟩ := own_slice hO (by decide)
  have HO6 := Aside0.mk hO
  have HB6 := Aside0.mk (HB5.out.trans hb)
  have HM6 := Aside0.mk (keep_msg HM5.out hk)
  clear hO hb hk HO5 HB5 HM5 hc3
  go_wp2_with fail
  refine (put_own w2.heap.size _ _ _ 0 4 w6 HO6.out HB6.out.size (by decide) (by decide) (by decide) (by decide) (by decide)).mono ?_
  rintro e w7 ⟨v7, rfl, hO, hb, hk⟩
  have HO7 : Aside0 (w7.ownsRow w2.heap.size 5 1 v7 20 (nums .u8 (headB m ++ be 0 4))) := ⟨by
    unfold headB
    simp only [nums_append]
    exact hO⟩
  have HB7 := Aside0.mk (HB6.out.trans hb)
  have HM7 := Aside0.mk (keep_msg HM6.out hk)
  clear hO hb hk HO6 HB6 HM6
  obtain ⟨kk, hkk⟩ : ∃ kk : Nat, m.kind = (kk : Int) := ⟨m.kind.toNat, by have := HK.out; omega⟩
  have hk1 : 1 ≤ (kk : Int) := by have := HK.out.1; omega
  have hk2 : (kk : Int) < 17 := by have := HK.out.2; omega
  have hkl : kk < 17 := by omega
  have hk0 : kk ≠ 0 := by omega
  have HKK := Lib.hid hkk
  have hc0 : w7.cell? ⟨w.heap.size, 0, none⟩ = some (.int .i64 (kk : Int)) := by rw [← hkk]; exact HM7.out.c 0
  clear hkk
  go_upto_region 11 with fail
  go_cut [45, 46, 47] (fun v45 v46 v47 wx => ∃ q : Nat, v45 = .slice (some ⟨q, 0, none⟩) (fieldsOf kk).length (fieldsOf kk).length ∧ v46 = .int .i64 ((fieldsOf kk).length : Int) ∧ v47 = .int .i64 0 ∧ Aside0 (wx.heap[q]? = some (rowOf (fieldsOf kk))) ∧ Aside0 (Below w7.heap.size w7 wx))
  case first =>
    have hgl := HM7.out.lt
    have hidx0 : (0 : Int) ≤ (kk : Int) := by omega
    have HSL := Aside0.mk (show ∀ b, slOf b kk = .slice (some ⟨b + (kk - 1), 0, none⟩) (fieldsOf kk).length (fieldsOf kk).length from fun b => if_neg hk0)
    go_region_with ((go_at_call 37; refine (layouts_rows _).mono ?_; rintro e w8 ⟨rfl, hL, hb, hsz, hrw⟩; have hS3 := (hb.cell (p := ⟨w.heap.size, 0, none⟩) hgl).trans hc0; have ho3 : w8.cell? ⟨w7.heap.size + 16, kk, none⟩ = some (.slice (some ⟨w7.heap.size + (kk - 1), 0, none⟩) (fieldsOf kk).length (fieldsOf kk).length) := (hL.out kk hkl).trans (congrArg some (HSL.out _)); have HL3 := Aside0.mk hrw; have HB3 := Aside0.mk hb; clear hL hb hsz hrw))
    all_goals
      go_wp2_with fail
      go_meet
      refine ⟨w7.heap.size + (kk - 1), rfl, rfl, rfl, ⟨?_⟩, ⟨⟨HB3.out.os, HB3.out.tape, HB3.out.output, HB3.out.size, HB3.out.block⟩⟩⟩
      have := HL3.out (kk - 1) (by omega)
      rw [Nat.sub_add_cancel (by omega)] at this
      exact this
  case rest =>
    obtain ⟨q, rfl, rfl, rfl, HR, HBC⟩ := hcut
    have hEI : EInv w w2 wc m q (fieldsOf kk) v7 0 := by
      have hO8 := pw_own_below HO7.out HBC.out
      refine ⟨?_, HM7.out.below HBC.out HM7.out.lt, HR.out, HB7.out.trans (HBC.out.mono HB7.out.size)⟩
      have e0 : bodyB m ((fieldsOf kk).take 0) = [] := rfl
      rw [e0, List.append_nil]
      exact hO8
    have HEI := Aside0.mk hEI
    have hfl := fields_len kk hkl
    have HFL := Aside0.mk (fields_lt kk hkl)
    have HFS : Aside0 (fieldsOf kk = fieldsOf m.kind.toNat) := ⟨by rw [HKK.out, Int.toNat_natCast]⟩
    generalize hfs : fieldsOf kk = fs at HEI hfl HFL HFS ⊢
    clear hEI HR HBC HO7 HM7 HB7 hfs hc0
    obtain ⟨i0, hi0, hzz⟩ := Option.map_eq_some_iff.1 info8
    simp only [Prod.mk.injEq] at hzz
    have HZ := Aside0.mk hzz
    clear hzz
    go_wp2
    go_loopw [4, 7, 8, 9, 10, 47] (fun bv _ _ _ _ iv wr => ∃ j : Nat, j ≤ fs.length ∧ iv = .int .i64 (j : Int) ∧ Aside0 (EInv w w2 wr m q fs bv j)) (fun _ _ _ _ _ iv _ => 7 - (intOf iv).toNat)
    case atStart => exact ⟨0, Nat.zero_le _, rfl, HEI⟩
    case round =>
      clear HEI
      obtain ⟨j, hj, rfl, HEI⟩ := hrel
      obtain ⟨wo, rfl⟩ : ∃ wo : World, wo = wr := ⟨_, rfl⟩
      by_cases hlt : j < fs.length
      · obtain ⟨n, hn⟩ : ∃ n, fs[j]? = some n := ⟨_, List.getElem?_eq_getElem hlt⟩
        have hn7 := HFL.out j n hn
        have hci := rowOf_cell HEI.out.row j n hn
        have HSN := Lib.hid (body_snoc m fs j n hn)
        have hnm := HF.out.2.2.2 n hn7
        have hwd := wN_range n hn7
        have KW := whole_any w.heap.size m n wo hn7 HEI.out.msg
        rw [wN_eq n hn7] at KW
        have hbl : 20 + (bodyB m (fs.take j)).length + 8 ≤ 5000 := by
          have h1 := body_take_le m fs j
          have h2 := body_length_le m HV.out HK.out
          rw [← HFS.out] at h2
          omega
        have hmx : mostOf n ≤ 9007199254740992 := by
          have : ∀ n, n < 7 → mostOf n ≤ 9007199254740992 := by decide
          exact this n hn7
        have KP := fun (h : (1 : Nat) ≤ 1) => Lib.hid (put_own w2.heap.size _ _ _ (numOf m n) (wN n) wo HEI.out.own HEI.out.bel.size hnm.1 (by omega) hwd.1 hwd.2 (by omega))
        replace KP := KP (Nat.le_refl _)
        have KW' := Lib.hid KW
        have htx : textOf m n = if n = 5 then bytesOf m.key else if n = 6 then bytesOf m.value else [] := rfl
        have hsz5 : n = 5 → (m.key.size : Int) ≤ 255 := by rintro rfl; have := hnm.2; exact this
        have hsz6 : n = 6 → (m.value.size : Int) ≤ 4096 := by rintro rfl; have := hnm.2; exact this
        have HTX := Lib.hid htx
        have HS5 := Aside0.mk hsz5
        have HS6 := Aside0.mk hsz6
        have HNM := Aside0.mk hnm
        have HWD := Aside0.mk hwd
        have HBL := Aside0.mk hbl
        clear hn hnm hwd KW htx hsz5 hsz6 hbl hmx
        go_wp2_with fail
        refine KW'.out.mono ?_
        rintro e w' ⟨rfl, rfl⟩
        go_wp2_with fail
        refine KP.out.mono ?_
        rintro e w9 ⟨v9, rfl, hO, hb, hk⟩
        have HO9 := Aside0.mk hO
        have HM9 := Aside0.mk (keep_msg HEI.out.msg hk)
        have HR9 := Aside0.mk (keep_row HEI.out.row hk)
        have HB9 := Aside0.mk (HEI.out.bel.trans hb)
        clear hO hb hk KP KW'
        by_cases h5 : n = 5
        · subst h5
          have hc9 : w9.cell? ⟨w.heap.size, 9, none⟩ = some (.string m.key) := HM9.out.c 9
          have hle := HS5.out rfl
          go_wp2_with (at_builtin; go_loud (refine Lib.wpList_append_own_string _ rfl (.tmp 64) (.tmp 66) 82 9 rfl w2.heap.size 5 i0 Tryd.underlying82 Tryd.underlying9 hi0 HZ.out.1 HZ.out.2.1 HZ.out.2.2 v9 _ _ rfl HO9.out m.key rfl ?h1 ?h2 HB9.out.size ?_); (case h1 => have := HBL.out; have := HWD.out; unfold maxLen; omega); (case h2 => have := HBL.out; have := HWD.out; omega); intro v1 w1 hO1 hg1 _; have HO1 := Aside0.mk (field_step_text (m := m) (n := 5) (by rw [HTX.out]; rfl) hO1); have HT1 := Aside0.mk ((KeepTy.refl 5 w9).grown HO9.out hg1); have HB1 := Aside0.mk (HB9.out.grown hg1 HB9.out.size (own_base HO9.out)); clear hO1 hg1)
          go_roundw
          case rel => exact ⟨j + 1, by omega, by go_num, ⟨HEI.out.next HSN.out HO1.out (keep_msg HM9.out HT1.out) (keep_row HR9.out HT1.out) HB1.out⟩⟩
          case measure => simp [intOf]; omega
        · by_cases h6 : n = 6
          · subst h6
            have hc9 : w9.cell? ⟨w.heap.size, 10, none⟩ = some (.string m.value) := HM9.out.c 10
            have hle := HS6.out rfl
            go_wp2_with (at_builtin; go_loud (refine Lib.wpList_append_own_string _ rfl (.tmp 70) (.tmp 72) 82 9 rfl w2.heap.size 5 i0 Tryd.underlying82 Tryd.underlying9 hi0 HZ.out.1 HZ.out.2.1 HZ.out.2.2 v9 _ _ rfl HO9.out m.value rfl ?h1 ?h2 HB9.out.size ?_); (case h1 => have := HBL.out; have := HWD.out; unfold maxLen; omega); (case h2 => have := HBL.out; have := HWD.out; omega); intro v1 w1 hO1 hg1 _; have HO1 := Aside0.mk (field_step_text (m := m) (n := 6) (by rw [HTX.out]; rfl) hO1); have HT1 := Aside0.mk ((KeepTy.refl 5 w9).grown HO9.out hg1); have HB1 := Aside0.mk (HB9.out.grown hg1 HB9.out.size (own_base HO9.out)); clear hO1 hg1)
            go_roundw
            case rel => exact ⟨j + 1, by omega, by go_num, ⟨HEI.out.next HSN.out HO1.out (keep_msg HM9.out HT1.out) (keep_row HR9.out HT1.out) HB1.out⟩⟩
            case measure => simp [intOf]; omega
          · have q5 : ((n : Int) == 5) = false := beq_eq_false_iff_ne.2 (by omega)
            have q6 : ((n : Int) == 6) = false := beq_eq_false_iff_ne.2 (by omega)
            have r5 : ¬ (n : Int) = 5 := by omega
            have r6 : ¬ (n : Int) = 6 := by omega
            have HO1 := Aside0.mk (field_step (m := m) (n := n) (by rw [HTX.out, if_neg h5, if_neg h6]) HO9.out)
            clear h5 h6
            go_wp2
            go_roundw
            case rel => exact ⟨j + 1, by omega, by go_num, ⟨HEI.out.next HSN.out HO1.out HM9.out HR9.out HB9.out⟩⟩
            case measure => simp [intOf]; omega
      · obtain rfl : j = fs.length := by omega
        have hO := HEI.out.own
        rw [List.take_length] at hO
        have hbl : (bodyB m fs).length ≤ 4383 := by
          have h2 := body_length_le m HV.out HK.out
          rw [← HFS.out] at h2
          exact h2
        obtain ⟨g, cap, rfl⟩ := own_slice hO (by omega)
        have HBW := Aside0.mk HEI.out.bel
        have hcap := own_le hO
        have hfr : frameB m = headB m ++ be (bodyB m fs).length 4 ++ bodyB m fs := by unfold frameB; rw [HFS.out]
        have HFR := Lib.hid hfr
        obtain ⟨n, hn⟩ : ∃ n, n = 20 + (bodyB m fs).length := ⟨_, rfl⟩
        rw [← hn] at hO hcap ⊢
        have hN : ((n : Int) - 20) = ((bodyB m fs).length : Int) := by omega
        have KP := put_at w2.heap.size g n cap 16 _ ((n : Int) - 20) 4 wo hO HBW.out.size (by omega) (by omega) (by decide) (by decide) (by omega) hcap (by omega)
        rw [hN, setTo_head (headB m) (be 0 4) (bodyB m fs) 16 (headB_length m) (be (bodyB m fs).length 4) (by rw [be_length, be_length]), ← hfr, ← hN] at KP
        have KP' := Lib.hid KP
        have hfl2 : (frameB m).length = n := by rw [frame_length, hn, HFS.out]
        have KSM := fun (w : World) (hN : Crc.Nibs w) => sum_any (strOfNums (frameB m)) w (by rw [strOfNums_size, hfl2]; omega) hN
        have KSM' := fun w h => Lib.hid (KSM w h)
        have n1 : (20 : Int) ≤ (n : Int) := by omega
        have n2 : (n : Int) ≤ 5000 := by omega
        have n3 : (16 : Int) ≤ (cap : Int) := by omega
        have n4 : (cap : Int) ≤ 9223372036854775807 := by
          have h := hO.2
          rcases h with h | ⟨g', c', cs, hv, _, _, _, hm, _⟩
          · cases h.1
          · cases hv; unfold maxLen at hm; omega
        have z1 : (strOfNums (frameB m)).size ≤ 5000 := by rw [strOfNums_size, hfl2]; omega
        have z2 : (sumS (strOfNums (frameB m))).size ≤ 4 := by rw [sumS_eq, strOfNums_size]; exact Nat.le_refl _
        clear hO hn KP hfr hN hbl hfl2 KSM HEI hcap
        go_wp2_with fail
        refine KP'.out.mono ?_
        rintro e w10 ⟨v10, rfl, hO10, hb10⟩
        have hcv := own_string (P := Tryd.prog) (e := 5) Tryd.underlying82 Tryd.underlying5 Tryd.underlying9 hO10
        have HB10 := Aside0.mk (HBW.out.trans hb10)
        have HBE := Aside0.mk (HB2.out.trans (HB10.out.mono HB2.out.size))
        have HN10 := Aside0.mk (HN.out.below HBE.out)
        clear hO10 hb10 KP'
        go_wp2_with fail
        refine (KSM' _ HN10.out).out.mono ?_
        rintro e w11 ⟨rfl, hb⟩
        have HB11 := Aside0.mk (HBE.out.trans (hb.mono HBE.out.size))
        clear hb
        go_wp2
        go_ret2
        exact ⟨rfl, HB11.out⟩
end Go.Proofs.YtnifgokjagahfaaDoor.Enc

/- Encode answers as encP says. -/
set_option linter.unusedVariables false
set_option linter.unusedSimpArgs false
namespace Go.Proofs.YtnifgokjagahfaaDoor.Enc
open Go.RowKit Go.Proofs.YtnifgokjagahfaaDoorW.PrintWords Go.Proofs.YtnifgokjagahfaaDoorW.PrintLast Go.Proofs.YtnifgokjagahfaaDoorW.PrintMore
open Go.Proofs.YtnifgokjagahfaaDoor.Base Go.Proofs.YtnifgokjagahfaaDoor.App Go.Proofs.YtnifgokjagahfaaDoor.Layouts Go.Proofs.YtnifgokjagahfaaDoor.Msg Go.Proofs.YtnifgokjagahfaaDoor.Put Go.Proofs.YtnifgokjagahfaaDoor.EncPure Go.Proofs.YtnifgokjagahfaaDoor.DecPure
def kB (m : M) : Bool := decide (1 ≤ m.kind ∧ m.kind < 17)
def encP (m : M) : ByteArray × Int := if kB m = true then (if vB m = true then (strOfNums (whole m), 0) else (ByteArray.empty, 50)) else (ByteArray.empty, 53)
theorem strOfNums_append (a b : List Int) : strOfNums (a ++ b) = strOfNums a ++ strOfNums b := by
  apply ByteArray.ext
  unfold strOfNums
  rw [List.map_append]
  simp [ByteArray.data_append]
set_option maxRecDepth 100000 in
set_option maxHeartbeats 4000000 in
theorem enc_kind (m : M) (w : World) (hk : ¬ (1 ≤ m.kind ∧ m.kind < 17)) : Calls Tryd.prog 13 #[.agg (mL m).toArray] w fun e w' => e = .returned (.tuple #[.string ByteArray.empty, .int .i64 53]) ∧ Below w.heap.size w w' := by
  have HB0 := Aside0.mk ((Below.refl w.heap.size w).alloc (Nat.le_refl _) (.cells (mL m).toArray 24))
  have HM0 : Aside0 (MBox (w.alloc (.cells (mL m).toArray 24)) w.heap.size m) := ⟨⟨Go.heap_alloc_new w _, by simp⟩⟩
  have hc0 : (w.alloc (.cells (mL m).toArray 24)).cell? ⟨w.heap.size, 0, none⟩ = some (.int .i64 m.kind) := HM0.out.c 0
  have K := fun w => Lib.hid (known_no m.kind w hk)
  clear hk
  go_enter Tryd.func13, Tryd.ntmps13
  go_wp2_with fail
  refine (K _).out.mono ?_
  rintro e w1 ⟨rfl, hb⟩
  have HB1 := Aside0.mk (HB0.out.trans (hb.mono HB0.out.size))
  clear hb hc0 HB0 K
  go_wp2
  go_ret2
  exact ⟨rfl, HB1.out⟩
set_option maxRecDepth 100000 in
set_option maxHeartbeats 4000000 in
theorem enc_field (m : M) (w : World) (hk : 1 ≤ m.kind ∧ m.kind < 17) (hv : vB m = false) : Calls Tryd.prog 13 #[.agg (mL m).toArray] w fun e w' => e = .returned (.tuple #[.string ByteArray.empty, .int .i64 50]) ∧ Below w.heap.size w w' := by
  have HB0 := Aside0.mk ((Below.refl w.heap.size w).alloc (Nat.le_refl _) (.cells (mL m).toArray 24))
  have HM0 : Aside0 (MBox (w.alloc (.cells (mL m).toArray 24)) w.heap.size m) := ⟨⟨Go.heap_alloc_new w _, by simp⟩⟩
  have hc0 : (w.alloc (.cells (mL m).toArray 24)).cell? ⟨w.heap.size, 0, none⟩ = some (.int .i64 m.kind) := HM0.out.c 0
  have K := fun w => Lib.hid (known_yes m.kind w hk)
  have HK := Aside0.mk hk
  have HV := Aside0.mk hv
  clear hk hv
  go_enter Tryd.func13, Tryd.ntmps13
  go_wp2_with fail
  refine (K _).out.mono ?_
  rintro e w1 ⟨rfl, hb⟩
  have HM1 := Aside0.mk (HM0.out.below hb (by simp))
  have HB1 := Aside0.mk (HB0.out.trans (hb.mono HB0.out.size))
  clear hb hc0 HB0 K
  go_wp2_with fail
  refine (valid_any w.heap.size m w1 HM1.out HK.out).mono ?_
  rintro e w2 ⟨rfl, hb⟩
  have HB2 := Aside0.mk (HB1.out.trans (hb.mono HB1.out.size))
  clear hb HM1 HB1
  rw [HV.out]
  go_wp2
  go_ret2
  exact ⟨rfl, HB2.out⟩
theorem enc_any (m : M) (w : World) (hN : Crc.Nibs w) : Calls Tryd.prog 13 #[.agg (mL m).toArray] w fun e w' => e = .returned (.tuple #[.string (encP m).1, .int .i64 (encP m).2]) ∧ Below w.heap.size w w' := by
  unfold encP kB
  by_cases hk : 1 ≤ m.kind ∧ m.kind < 17
  · rw [if_pos (decide_eq_true hk)]
    cases hv : vB m
    · rw [if_neg (by decide)]; exact enc_field m w hk hv
    · rw [if_pos rfl]
      have e : strOfNums (whole m) = strOfNums (frameB m) ++ sumS (strOfNums (frameB m)) := by
        unfold whole
        rw [strOfNums_append, sumS_eq, bytesOf_strOfNums _ (byt_frame m hk)]
      simp only [e]
      exact enc_good m w hk hv hN
  · rw [if_neg (by simpa using hk)]; exact enc_kind m w hk
end Go.Proofs.YtnifgokjagahfaaDoor.Enc
