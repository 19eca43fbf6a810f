/- Joined texts of this claim: RefDec2, RefAt, SplitPure, Pcs, EqM, LawDec -/
import Derived.Test.YtnifgokjagahfaaDoorJFSpl3
import Derived.Test.YtnifgokjagahfaaDoorJFSpl4
import Derived.Test.YtnifgokjagahfaaDoorJFSpl2
import Derived.StillTailTactics
import Derived.Test.YtnifgokjagahfaaDoorJFSpl0
import Derived.Great.BuildSlice
import Derived.Test.YtnifgokjagahfaaDoorWEqStruct
import Derived.Test.YtnifgokjagahfaaDoorJFSpl1
/- The document's Decode, walked: behind the sum. -/
set_option linter.unusedVariables false
set_option linter.unusedSimpArgs false
namespace Go.Proofs.YtnifgokjagahfaaDoor.RefDec
open Go.RowKit Go.Proofs.YtnifgokjagahfaaDoorW.PrintWords Go.Proofs.YtnifgokjagahfaaDoorW.PrintLast Go.Proofs.YtnifgokjagahfaaDoorW.PrintMore
open Go.Proofs.YtnifgokjagahfaaDoor.Base Go.Proofs.YtnifgokjagahfaaDoor.Layouts Go.Proofs.YtnifgokjagahfaaDoor.Msg Go.Proofs.YtnifgokjagahfaaDoor.Put Go.Proofs.YtnifgokjagahfaaDoor.EncPure Go.Proofs.YtnifgokjagahfaaDoor.DecPure Go.Proofs.YtnifgokjagahfaaDoor.Enc Go.Proofs.YtnifgokjagahfaaDoor.Num Go.Proofs.YtnifgokjagahfaaDoor.PFrameDecodes Go.Proofs.YtnifgokjagahfaaDoor.RefF Go.Proofs.YtnifgokjagahfaaDoor.RefSum Go.Proofs.YtnifgokjagahfaaDoor.Mids
open Go.Proofs.YtnifgokjagahfaaDoor.Dec (mL_one str_eq str_eq2)
theorem Two.setCells {w W : World} (h : Two w W) {g : Nat} (hg : w.heap.size + 1 < g) (vs : List Value) : Two w (W.setCells g 0 vs) :=
  ⟨⟨(setCells_other g (by omega) _ _ _).trans h.res.row, by rw [setCells_size]; exact h.res.lt⟩, ⟨(setCells_other g (by omega) _ _ _).trans h.non.row, by rw [setCells_size]; exact h.non.lt⟩, below_setCells h.bel (by omega) _ _⟩
theorem rtab_setCells {W : World} (h : RTab W) {g : Nat} (hg : 1 ≠ g) (vs : List Value) : RTab (W.setCells g 0 vs) :=
  ⟨fun i hi => (World.cell?_of_block (setCells_other g hg _ _ _)).trans (h.cell i hi), by rw [setCells_size]; exact h.lt⟩
theorem str_same (a b : ByteArray) : (a.toList == b.toList) = decide (bytesOf a = bytesOf b) := by
  have h := str_eq2 (bytesOf a) (bytesOf b) (byt_bytesOf a) (byt_bytesOf b)
  rwa [strOfNums_bytesOf, strOfNums_bytesOf] at h
def SmallM (m : M) (N : Nat) : Prop := m.key.size ≤ N ∧ m.value.size ≤ N
theorem small_step (L : List Int) (st : M × Nat) (f : Nat) (h : SmallM st.1 L.length) : SmallM (stepR L st f).1 L.length := by
  have hp : ∀ a n, (strOfNums (pieceR L a n)).size ≤ L.length := by
    intro a n
    rw [strOfNums_size]
    unfold pieceR
    rw [List.length_take, List.length_drop]
    omega
  unfold stepR
  split
  · simp only
    unfold setNum SmallM
    split <;> exact h
  · split
    · exact h
    · simp only
      unfold setText SmallM
      split
      · exact ⟨hp _ _, h.2⟩
      · exact ⟨h.1, hp _ _⟩
theorem small_read (L : List Int) : SmallM (readR L) L.length := by
  have : ∀ (fs : List Nat) (st : M × Nat), SmallM st.1 L.length → SmallM (fs.foldl (stepR L) st).1 L.length := by
    intro fs
    induction fs with
    | nil => intro st h; exact h
    | cons f fs ih => intro st h; exact ih _ (small_step L st f h)
  exact this _ _ ⟨Nat.zero_le _, Nat.zero_le _⟩
def BodyR (L : List Int) (w : World) (e : Ending) (w' : World) : Prop := if (encP (readR L)).2 ≠ 0 ∨ bytesOf (encP (readR L)).1 ≠ L then Told zeroM 56 w e w' else Told (readR L) 0 w e w'
set_option maxRecDepth 100000 in
set_option maxHeartbeats 16000000 in
theorem rdec_body (s : ByteArray) (w : World) (h : 24 ≤ s.size) (hsz : s.size ≤ 9223372036854775807) (hm : (bytesOf s).take 3 = [71, 82, 1]) (hk : 1 ≤ kindL (bytesOf s) ∧ kindL (bytesOf s) < 17) (hz : bodyN (bytesOf s) ≤ 4383) (hz2 : 24 + bodyN (bytesOf s) = (s.size : Int))
    (hs : sumL ((bytesOf s).take (s.size - 4)) = (bytesOf s).drop (s.size - 4)) (hR : RTab w) : Calls Tryd.prog 17 #[.string s] w (BodyR (bytesOf s) w) := by
  have HRT := Aside0.mk hR
  have KR := fun (w : World) hR => Lib.hid (rread_any s w h hsz hk hR)
  have hsm := small_read (bytesOf s)
  have hle2 : (bytesOf s).length ≤ 9223372036854775807 := by rw [bytesOf_length]; exact hsz
  have hBT : (encP (readR (bytesOf s))).2 ≠ 0 ∨ bytesOf (encP (readR (bytesOf s))).1 ≠ bytesOf s → BodyR (bytesOf s) w = Told zeroM 56 w := fun hc => by
    funext e w'
    unfold BodyR
    rw [if_pos hc]
  have hBF : ¬ ((encP (readR (bytesOf s))).2 ≠ 0 ∨ bytesOf (encP (readR (bytesOf s))).1 ≠ bytesOf s) → BodyR (bytesOf s) w = Told (readR (bytesOf s)) 0 w := fun hc => by
    funext e w'
    unfold BodyR
    rw [if_neg hc]
  have KE := fun (w : World) hR => Lib.hid (renc_any (readR (bytesOf s)) w hR ⟨Nat.le_trans hsm.1 hle2, Nat.le_trans hsm.2 hle2⟩)
  have hqe := str_same (encP (readR (bytesOf s))).1 s
  generalize BodyR (bytesOf s) w = post at hBT hBF ⊢
  generalize readR (bytesOf s) = mr at KR KE hqe hBT hBF hsm
  generalize encP mr = er at KE hqe hBT hBF
  obtain ⟨E1, E2⟩ := er
  simp only at KE hqe hBT hBF
  have HQE := Lib.hid hqe
  have HBT := Aside0.mk hBT
  have HBF := Aside0.mk hBF
  clear hR hsm hle2 hBT hBF hqe
  have h' : ¬ (s.size : Int) < 24 := by omega
  have s0 : (0 : Int) < (s.size : Int) := by omega
  have s1 : (1 : Int) < (s.size : Int) := by omega
  have s2 : (2 : Int) < (s.size : Int) := by omega
  have s3 : (3 : Int) < (s.size : Int) := by omega
  have N0 : 0 < s.size := by omega
  have N1 : 1 < s.size := by omega
  have N2 : 2 < s.size := by omega
  have N3 : 3 < s.size := by omega
  have hq := take3 s h
  rw [hm] at hq
  simp only [List.cons.injEq, and_true] at hq
  obtain ⟨q0, q1, q2⟩ := hq
  have e0 : (s[0]'N0).toNat = 71 := by omega
  have e1 : (s[1]'N1).toNat = 82 := by omega
  have e2 : (s[2]'N2).toNat = 1 := by omega
  clear q0 q1 q2 hm
  obtain ⟨kk, e3, hke, hk1, hk2⟩ := Dec.kind_yes s h hk
  have k1 : ¬ (kk : Int) < 1 := by omega
  have k2 : ¬ (kk : Int) > 16 := by omega
  obtain ⟨nb0, nb1, nb2⟩ := numR_body s
  have KN := fun (w : World) => Lib.hid (show Calls Tryd.prog 47 #[.string s, .int .i64 16, .int .i64 4] w (fun e w' => e = .returned (.int .i64 (bodyN (bytesOf s))) ∧ Drawn0 w w') by rw [← nb0]; exact rnumber_any s 16 4 w (by decide) (by omega) hsz)
  have hl : (s.size : Int) = 24 + bodyN (bytesOf s) := by omega
  have hby := byt_bytesOf s
  have hx1 := extract_head s (s.size - 4) (by omega)
  have hx2 := extract_tail s (s.size - 4) (by omega)
  have hS : bytesOf (strOfNums ((bytesOf s).take (s.size - 4))) = (bytesOf s).take (s.size - 4) := bytesOf_strOfNums _ (byt_take hby _)
  have KU := fun (w : World) => rsum_any (strOfNums ((bytesOf s).take (s.size - 4))) w (by rw [strOfNums_size, List.length_take]; omega)
  rw [hS] at KU
  have hq2 := str_eq2 (sumL ((bytesOf s).take (s.size - 4))) ((bytesOf s).drop (s.size - 4)) (byt_sumL _) (byt_drop hby _)
  rw [decide_eq_true (by exact hs)] at hq2
  have n1 : ((20 : Int) + bodyN (bytesOf s)).toNat = s.size - 4 := by omega
  have n2 : (0 : Int) ≤ 20 + bodyN (bytesOf s) := by omega
  have n3 : (20 : Int) + bodyN (bytesOf s) ≤ s.size := by omega
  have hs1 := fun wx => run_slice_string_h (P := Tryd.prog) wx 9 s Tryd.underlying9 .i64 ((20 : Int) + bodyN (bytesOf s)) n2 n3
  have hs2 := fun wx => run_slice_string_l (P := Tryd.prog) wx 9 s Tryd.underlying9 .i64 ((20 : Int) + bodyN (bytesOf s)) n2 n3
  rw [n1, hx1] at hs1
  rw [n1, hx2] at hs2
  generalize strOfNums ((bytesOf s).take (s.size - 4)) = S1 at KU hs1
  generalize strOfNums (sumL ((bytesOf s).take (s.size - 4))) = S2 at KU hq2
  generalize strOfNums ((bytesOf s).drop (s.size - 4)) = S3 at hs2 hq2
  generalize bodyN (bytesOf s) = n at KN nb1 nb2 hl n2 n3 hs1 hs2 hz hz2
  have hle : ¬ n > 4383 := by omega
  have hne : ((s.size : Int) != 24 + n) = false := by rw [hl]; simp
  have w1 : IntKind.i64.wrap (20 + n) = 20 + n := by rw [IntKind.wrap_i64]; omega
  have KU' := fun w => Lib.hid (KU w)
  clear hke nb0 hs hS hx1 hx2 KU hz hz2 n1
  have hwz : (w.alloc (.cells #[.int .i64 0, .int .i64 0, .int .i64 0, .int .i64 0, .int .i64 0, .int .i64 0, .int .i64 0, .int .i64 0, .int .i64 0, .string { data := #[] }, .string { data := #[] }] 24)).alloc (.cells #[.int .i64 0, .int .i64 0, .int .i64 0, .int .i64 0, .int .i64 0, .int .i64 0, .int .i64 0, .int .i64 0, .int .i64 0, .string { data := #[] }, .string { data := #[] }] 24) = (w.alloc (.cells (mL zeroM).toArray 24)).alloc (.cells (mL zeroM).toArray 24) := rfl
  have HT := Aside0.mk (Two.start w)
  have HWZ := Lib.hid hwz
  clear hwz
  go_enter Tryd.func17, Tryd.ntmps17
  go_upto_region 2 with fail
  rw [HWZ.out]
  clear HWZ
  generalize (w.alloc (.cells (mL zeroM).toArray 24)).alloc (.cells (mL zeroM).toArray 24) = wz at HT ⊢
  go_wp2_with fail
  refine (KN _).out.mono ?_
  rintro e w2 ⟨rfl, ⟨⟨n2, rfl⟩⟩⟩
  have HT2 := Aside0.mk (HT.out.drewN n2)
  clear KN HT
  go_upto_region 11 with fail
  go_cut [58] (fun v wx => v = .bool false ∧ Aside0 (Two w wx))
  case first =>
    go_region_with ((go_at_call 43; refine (KU' _).out.mono ?_; rintro e w3 ⟨rfl, hb⟩; have HB3 := Aside0.mk hb; clear hb))
    all_goals
      have HT3 := HT2.out.below (W1 := w3) ⟨HB3.out.os, HB3.out.tape, HB3.out.output, HB3.out.size, HB3.out.block⟩
      go_wp2_with fail
      go_meet
      exact ⟨rfl, ⟨HT3.drewN 0⟩⟩
  case rest =>
    obtain ⟨rfl, HT3⟩ := hcut
    clear HT2 KU'
    have HR3 := Aside0.mk (HRT.out.below HT3.out.bel)
    go_wp2_with fail
    refine (KR _ HR3.out).out.mono ?_
    rintro e w4 ⟨rfl, hb⟩
    have HT4 := Aside0.mk (HT3.out.below hb)
    have HR4 := Aside0.mk (HR3.out.below hb)
    clear hb HT3 HR3 KR
    have hnew : (w4.alloc (.cells #[.int .i64 0, .int .i64 0, .int .i64 0, .int .i64 0, .int .i64 0, .int .i64 0, .int .i64 0, .int .i64 0, .int .i64 0, .string { data := #[] }, .string { data := #[] }] 24)).heap[w4.heap.size]? = some (.cells (mL zeroM).toArray 24 (0, 0)) := Go.heap_alloc_new w4 _
    have hth := blk_there hnew
    have HT5 := Aside0.mk (HT4.out.below ((Below.refl w4.heap.size w4).alloc (Nat.le_refl _) (.cells #[.int .i64 0, .int .i64 0, .int .i64 0, .int .i64 0, .int .i64 0, .int .i64 0, .int .i64 0, .int .i64 0, .int .i64 0, .string { data := #[] }, .string { data := #[] }] 24)))
    have HR5 := Aside0.mk (HR4.out.below ((Below.refl w4.heap.size w4).alloc (Nat.le_refl _) (.cells #[.int .i64 0, .int .i64 0, .int .i64 0, .int .i64 0, .int .i64 0, .int .i64 0, .int .i64 0, .int .i64 0, .int .i64 0, .string { data := #[] }, .string { data := #[] }] 24)))
    go_upto_region 14 with ((with_reducible refine gate_store (ty := 24) (x := .tmp 6) (y := .tmp 61) rfl ?_); refine wpList_store_mid rfl 24 (.tmp 6) (.tmp 61) rfl w4.heap.size 0 (mL mr).toArray rfl rfl hth infoM (mL_one mr) ?_)
    have HM5 : Aside0 (MBox ((w4.alloc (.cells #[.int .i64 0, .int .i64 0, .int .i64 0, .int .i64 0, .int .i64 0, .int .i64 0, .int .i64 0, .int .i64 0, .int .i64 0, .string { data := #[] }, .string { data := #[] }] 24)).setCells w4.heap.size 0 (mL mr)) w4.heap.size mr) := ⟨⟨setCells_whole hnew rfl, by rw [setCells_size]; simp⟩⟩
    have HT6 := Aside0.mk (HT5.out.setCells (g := w4.heap.size) HT4.out.non.lt (mL mr))
    have HR6 := Aside0.mk (rtab_setCells HR5.out (g := w4.heap.size) (by have := HR4.out.lt; omega) (mL mr))
    have HGL := Aside0.mk HT4.out.non.lt
    clear hnew hth HT5 HR5 HT4 HR4
    generalize hw5 : ((w4.alloc (.cells #[.int .i64 0, .int .i64 0, .int .i64 0, .int .i64 0, .int .i64 0, .int .i64 0, .int .i64 0, .int .i64 0, .int .i64 0, .string { data := #[] }, .string { data := #[] }] 24)).setCells w4.heap.size 0 (mL mr)) = w5 at HM5 HT6 HR6 ⊢
    generalize w4.heap.size = g6 at HM5 HGL hw5 ⊢
    clear hw5
    have hrg := blk_range HM5.out.row
    go_wp2_with ((with_reducible refine gate_load (ty := 24) (x := .tmp 6) rfl ?_); refine wpList_load_mid rfl 24 (.tmp 6) rfl g6 0 rfl (mL mr) _ hrg Tryd.underlying24 rfl infoM ?_)
    refine (KE _ HR6.out).out.mono ?_
    rintro e w7 ⟨rfl, hb⟩
    have HM7 := Aside0.mk (HM5.out.below hb HM5.out.lt)
    have HT7 := Aside0.mk (HT6.out.below hb)
    clear hb hrg KE HM5 HT6 HR6
    by_cases c1 : E2 = 0
    · subst c1
      by_cases c2 : bytesOf E1 = bytesOf s
      · have hq : (E1.toList == s.toList) = true := by rw [HQE.out]; exact decide_eq_true c2
        have HC : Aside0 (¬ ((0 : Int) ≠ 0 ∨ bytesOf E1 ≠ bytesOf s)) := ⟨by simp [c2]⟩
        clear c2
        have hrg := blk_range HM7.out.row
        have hth := blk_there HT7.out.res.row
        go_wp2_with (first | ((with_reducible refine gate_load (ty := 24) (x := .tmp 6) rfl ?_); refine wpList_load_mid rfl 24 (.tmp 6) rfl g6 0 rfl (mL mr) _ hrg Tryd.underlying24 rfl infoM ?_) | ((with_reducible refine gate_store (ty := 24) (x := .tmp 2) (y := .tmp 75) rfl ?_); refine wpList_store_mid rfl 24 (.tmp 2) (.tmp 75) rfl w.heap.size 0 (mL mr).toArray rfl rfl hth infoM (mL_one mr) ?_))
        rw [HBF.out HC.out]
        exact told_ret (k := 0) (m := mr) rfl rfl ⟨setCells_whole HT7.out.res.row rfl, by rw [setCells_size]; exact HT7.out.res.lt⟩ (below_setCells HT7.out.bel (Nat.le_refl _) _ _) rfl
      · have hq : (E1.toList == s.toList) = false := by rw [HQE.out]; exact decide_eq_false c2
        have HC : Aside0 ((0 : Int) ≠ 0 ∨ bytesOf E1 ≠ bytesOf s) := ⟨.inr c2⟩
        clear c2
        have hrg := blk_range HT7.out.non.row
        have hth := blk_there HT7.out.res.row
        go_wp2_with (first | ((with_reducible refine gate_load (ty := 24) (x := .tmp 4) rfl ?_); refine wpList_load_mid rfl 24 (.tmp 4) rfl (w.heap.size + 1) 0 rfl (mL zeroM) _ hrg Tryd.underlying24 rfl infoM ?_) | ((with_reducible refine gate_store (ty := 24) (x := .tmp 2) (y := .tmp 74) rfl ?_); refine wpList_store_mid rfl 24 (.tmp 2) (.tmp 74) rfl w.heap.size 0 (mL zeroM).toArray rfl rfl hth infoM (mL_one zeroM) ?_))
        rw [HBT.out HC.out]
        exact told_ret (k := 56) (m := zeroM) rfl rfl ⟨setCells_whole HT7.out.res.row rfl, by rw [setCells_size]; exact HT7.out.res.lt⟩ (below_setCells HT7.out.bel (Nat.le_refl _) _ _) rfl
    · have hq : (E2 != 0) = true := bne_iff_ne.2 c1
      have HC : Aside0 (E2 ≠ 0 ∨ bytesOf E1 ≠ bytesOf s) := ⟨.inl c1⟩
      clear c1
      have hrg := blk_range HT7.out.non.row
      have hth := blk_there HT7.out.res.row
      go_wp2_with (first | ((with_reducible refine gate_load (ty := 24) (x := .tmp 4) rfl ?_); refine wpList_load_mid rfl 24 (.tmp 4) rfl (w.heap.size + 1) 0 rfl (mL zeroM) _ hrg Tryd.underlying24 rfl infoM ?_) | ((with_reducible refine gate_store (ty := 24) (x := .tmp 2) (y := .tmp 74) rfl ?_); refine wpList_store_mid rfl 24 (.tmp 2) (.tmp 74) rfl w.heap.size 0 (mL zeroM).toArray rfl rfl hth infoM (mL_one zeroM) ?_))
      rw [HBT.out HC.out]
      exact told_ret (k := 56) (m := zeroM) rfl rfl ⟨setCells_whole HT7.out.res.row rfl, by rw [setCells_size]; exact HT7.out.res.lt⟩ (below_setCells HT7.out.bel (Nat.le_refl _) _ _) rfl
theorem rdec_any (s : ByteArray) (w : World) (hsz : s.size ≤ 9223372036854775807) (hR : RTab w) : Calls Tryd.prog 17 #[.string s] w fun e w' => e = .returned (.tuple #[.agg (mL (decP (bytesOf s)).1).toArray, .int .i64 (decP (bytesOf s)).2]) ∧ Below w.heap.size w w' := by
  have hlen : (bytesOf s).length = s.size := bytesOf_length s
  rw [← dec_same (bytesOf s) (byt_bytesOf s)]
  by_cases c1 : s.size < 24
  · have e : decR (bytesOf s) = (zeroM, 51) := by unfold decR; rw [if_pos (by omega)]
    rw [e]; exact rdec_short s w c1
  by_cases c2 : (bytesOf s).take 3 = [71, 82, 1]
  case neg =>
    have e : decR (bytesOf s) = (zeroM, 52) := by unfold decR; rw [if_neg (by omega), if_pos c2]
    rw [e]; exact rdec_magic s w (by omega) c2
  by_cases c3 : 1 ≤ kindL (bytesOf s) ∧ kindL (bytesOf s) < 17
  case neg =>
    have e : decR (bytesOf s) = (zeroM, 53) := by unfold decR; rw [if_neg (by omega), if_neg (by simp [c2]), if_pos c3]
    rw [e]; exact rdec_kind s w (by omega) c2 c3
  have c3' : ¬ ¬ (1 ≤ kindL (bytesOf s) ∧ kindL (bytesOf s) < 17) := fun h => h c3
  by_cases c4 : 4383 < bodyN (bytesOf s) ∨ 24 + bodyN (bytesOf s) ≠ (bytesOf s).length
  · have e : decR (bytesOf s) = (zeroM, 54) := by unfold decR; rw [if_neg (by omega), if_neg (by simp [c2]), if_neg c3', if_pos c4]
    rw [e]
    exact rdec_length s w (by omega) hsz c2 c3 (by rw [hlen] at c4; exact c4)
  have c4' := c4
  simp only [not_or, Int.not_lt, ne_eq, Decidable.not_not] at c4'
  by_cases c5 : sumL ((bytesOf s).take (s.size - 4)) = (bytesOf s).drop (s.size - 4)
  case neg =>
    have e : decR (bytesOf s) = (zeroM, 55) := by unfold decR; rw [if_neg (by omega), if_neg (by simp [c2]), if_neg c3', if_neg c4, hlen, if_pos c5]
    rw [e]; exact rdec_sum s w (by omega) hsz c2 c3 c4'.1 (by rw [← hlen]; exact c4'.2) c5
  refine (rdec_body s w (by omega) hsz c2 c3 c4'.1 (by rw [← hlen]; exact c4'.2) c5 hR).mono ?_
  intro e w' h
  unfold BodyR at h
  unfold decR
  rw [if_neg (by omega), if_neg (by simp [c2]), if_neg c3', if_neg c4, hlen, if_neg (fun h => h c5)]
  split at h
  · rename_i hc
    rw [if_pos hc]; exact h
  · rename_i hc
    rw [if_neg hc]; exact h
end Go.Proofs.YtnifgokjagahfaaDoor.RefDec

/- The document's at: the frame that begins at a place. -/
set_option linter.unusedVariables false
set_option linter.unusedSimpArgs false
namespace Go.Proofs.YtnifgokjagahfaaDoor.RefAt
open Go.RowKit Go.Proofs.YtnifgokjagahfaaDoorW.PrintWords Go.Proofs.YtnifgokjagahfaaDoorW.PrintLast Go.Proofs.YtnifgokjagahfaaDoorW.PrintMore
open Go.Proofs.YtnifgokjagahfaaDoor.Base Go.Proofs.YtnifgokjagahfaaDoor.Layouts Go.Proofs.YtnifgokjagahfaaDoor.Msg Go.Proofs.YtnifgokjagahfaaDoor.Put Go.Proofs.YtnifgokjagahfaaDoor.EncPure Go.Proofs.YtnifgokjagahfaaDoor.DecPure Go.Proofs.YtnifgokjagahfaaDoor.Mids Go.Proofs.YtnifgokjagahfaaDoor.Frm
open Go.Proofs.YtnifgokjagahfaaDoor.Dec (infoM mL_one)
open Go.Proofs.YtnifgokjagahfaaDoor.RefDec (numR)
open Go.Proofs.YtnifgokjagahfaaDoor.Num (extract_mid)
theorem wadd (a b : Nat) (h : a + b ≤ 9223372036854775807) : wrap64 ((a : Int) + (b : Int)) = ((a + b : Nat) : Int) := by rw [w64 _ (by omega) (by omega)]; omega
theorem wsub (a b : Nat) (h : b ≤ a) (h2 : a ≤ 9223372036854775807) : wrap64 ((a : Int) - (b : Int)) = ((a - b : Nat) : Int) := by rw [w64 _ (by omega) (by omega)]; omega
def TellA (n : Int) (m : M) (w : World) (e : Ending) (w' : World) : Prop := e = .returned (.tuple #[.int .i64 n, .agg (mL m).toArray]) ∧ Below w.heap.size w w'
theorem results_tc_mid {P : Program} {fn : Func} {p u : Tmp} {ty : TypeId} (h : fn.results = #[.tmp u, .cell p ty]) (tmps : Array Value) (w : World) (g o : Nat) (cs : List Value) (d : TypeDesc)
    (hp : tmps.getD p undef = .pointer (some ⟨g, o, none⟩)) (hg : w.rangeAt g o cs) (hu : P.underlying ty = some d) (hd : d.isRow = true) (hi : (P.info? ty).map (·.size) = some cs.length) :
    (results fn tmps).run P w = .ok (.tuple #[tmps.getD u undef, .agg cs.toArray]) w := by
  have hp' : tmps[p]?.getD undef = .pointer (some ⟨g, o, none⟩) := by simpa using hp
  simp [results, h, hp', asAddr, run_loadVar_mid w g o ty cs d hg hu hd hi]
theorem at_ret {W : World} {w : World} {m : M} {tmps : Array Value} {n : Int} (hp : tmps.getD 5 undef = .pointer (some ⟨w.heap.size, 0, none⟩)) (hn : tmps.getD 4 undef = .int .i64 n) (h : MBox W w.heap.size m) (hB : Below w.heap.size w W) {d : List _} (hd : d = []) :
    bodyPost Tryd.prog Tryd.f50 (TellA n m w) Exit.ret ⟨tmps, d⟩ W := by
  subst hd
  refine bodyPost_ret (v := .tuple #[.int .i64 n, .agg (mL m).toArray]) ?_ rfl ⟨rfl, hB⟩
  rw [← hn]
  exact results_tc_mid rfl tmps W w.heap.size 0 (mL m) _ hp (blk_range h.row) Tryd.underlying24 rfl infoM
set_option maxRecDepth 100000 in
set_option maxHeartbeats 4000000 in
theorem at_short (s : ByteArray) (i : Nat) (w : World) (hi : i < s.size) (hmx : s.size ≤ 9223372036854775807) (h : s.size - i < 24) : Calls Tryd.prog 50 #[.string s, .int .i64 (i : Nat)] w (TellA 0 zeroM w) := by
  have hw : wrap64 ((s.size : Int) - (i : Int)) = ((s.size - i : Nat) : Int) := by rw [w64 _ (by omega) (by omega)]; omega
  have h5 : ((s.size - i : Nat) : Int) < 24 := by omega
  have hb0 : Below w.heap.size w (w.alloc (.cells (mL zeroM).toArray 24)) := (Below.refl w.heap.size w).alloc (Nat.le_refl _) _
  have hm0 : MBox (w.alloc (.cells (mL zeroM).toArray 24)) w.heap.size zeroM := ⟨Go.heap_alloc_new w _, by simp⟩
  have hsz0 : (w.alloc (.cells (mL zeroM).toArray 24)).heap.size = w.heap.size + 1 := by simp
  generalize hwa : w.alloc (.cells (mL zeroM).toArray 24) = wa at hb0 hm0 hsz0
  have hth := blk_there (w := wa.alloc (.cells (mL zeroM).toArray 24)) (Go.heap_alloc_new wa _)
  have hnb := below_setCells ((Below.refl wa.heap.size wa).alloc (Nat.le_refl _) (.cells (mL zeroM).toArray 24)) (Nat.le_refl _) (mL zeroM) 0
  have HM1 := Aside0.mk (hm0.below hnb hm0.lt)
  have HB1 := Aside0.mk (hb0.trans (hnb.mono hb0.size))
  have HZ1 : Aside0 (MBox ((wa.alloc (.cells (mL zeroM).toArray 24)).setCells wa.heap.size 0 (mL zeroM)) wa.heap.size zeroM) := ⟨⟨setCells_whole (Go.heap_alloc_new wa _) rfl, by rw [setCells_size]; simp⟩⟩
  have hne : wa.heap.size ≠ w.heap.size := by omega
  have HNE := Aside0.mk hne
  clear hnb hb0 hm0 hsz0 hne
  go_enter Tryd.func50, Tryd.ntmps50
  go_upto_region 1 with fail
  rw [show w.alloc (.cells #[.int .i64 0, .int .i64 0, .int .i64 0, .int .i64 0, .int .i64 0, .int .i64 0, .int .i64 0, .int .i64 0, .int .i64 0, .string { data := #[] }, .string { data := #[] }] 24) = wa from hwa]
  go_upto_region 2 with ((with_reducible refine gate_store (ty := 24) (x := .tmp 6) (y := .tmp 10) rfl ?_); refine wpList_store_mid rfl 24 (.tmp 6) (.tmp 10) rfl wa.heap.size 0 (mL zeroM).toArray rfl rfl hth infoM (mL_one zeroM) ?_)
  clear hth hwa
  generalize hw1 : (wa.alloc (.cells #[.int .i64 0, .int .i64 0, .int .i64 0, .int .i64 0, .int .i64 0, .int .i64 0, .int .i64 0, .int .i64 0, .int .i64 0, .string { data := #[] }, .string { data := #[] }] 24)).setCells wa.heap.size 0 (mL zeroM) = w1
  rw [show (wa.alloc (.cells (mL zeroM).toArray 24)).setCells wa.heap.size 0 (mL zeroM) = w1 from hw1] at HM1 HB1 HZ1
  generalize wa.heap.size = g6 at HZ1 HNE hw1 ⊢
  clear hw1
  have hl0 : w1.cell? ⟨g6, 0, none⟩ = some (.int .i64 zeroM.kind) := HZ1.out.c 0
  have hl1 : w1.cell? ⟨g6, 1, none⟩ = some (.int .i64 zeroM.from_) := HZ1.out.c 1
  have hl2 : w1.cell? ⟨g6, 2, none⟩ = some (.int .i64 zeroM.to_) := HZ1.out.c 2
  have hl3 : w1.cell? ⟨g6, 3, none⟩ = some (.int .i64 zeroM.id) := HZ1.out.c 3
  have hl4 : w1.cell? ⟨g6, 4, none⟩ = some (.int .i64 zeroM.epoch) := HZ1.out.c 4
  have hl5 : w1.cell? ⟨g6, 5, none⟩ = some (.int .i64 zeroM.seq) := HZ1.out.c 5
  have hl6 : w1.cell? ⟨g6, 6, none⟩ = some (.int .i64 zeroM.version) := HZ1.out.c 6
  have hl7 : w1.cell? ⟨g6, 7, none⟩ = some (.int .i64 zeroM.prev) := HZ1.out.c 7
  have hl8 : w1.cell? ⟨g6, 8, none⟩ = some (.int .i64 zeroM.code) := HZ1.out.c 8
  have hl9 : w1.cell? ⟨g6, 9, none⟩ = some (.string zeroM.key) := HZ1.out.c 9
  have hl10 : w1.cell? ⟨g6, 10, none⟩ = some (.string zeroM.value) := HZ1.out.c 10
  go_upto_region 3 with fail
  refine wp_region_still_tail 2 (by kernel_rfl) (by kernel_rfl) ?_
  simp only [List.take_succ_cons, List.take_zero, List.drop_succ_cons, List.drop_zero]
  iterate 1 still_step
  refine wpStill_step (fun K hK => ?_)
  go_simp
  refine hK _ (wpStill_nil ?_)
  have HM5 : Aside0 (MBox ({ w1 with drawn := w1.drawn + 1 } : World) w.heap.size zeroM) := ⟨⟨HM1.out.row, HM1.out.lt⟩⟩
  have HB5 : Aside0 (Below w.heap.size w ({ w1 with drawn := w1.drawn + 1 } : World)) := ⟨below_drew HB1.out⟩
  generalize ({ w1 with drawn := w1.drawn + 1 } : World) = w5 at HM5 HB5 ⊢
  have hth := blk_there HM5.out.row
  clear hK K hl0 hl1 hl2 hl3 hl4 hl5 hl6 hl7 hl8 hl9 hl10
  go_wp2_with ((with_reducible refine gate_store (ty := 24) (x := .tmp 5) (y := .tmp 22) rfl ?_); refine wpList_store_mid rfl 24 (.tmp 5) (.tmp 22) rfl w.heap.size 0 (mL zeroM).toArray rfl rfl hth infoM (mL_one zeroM) ?_)
  have h1 := (⟨setCells_whole HM5.out.row rfl, by rw [setCells_size]; exact HM5.out.lt⟩ : MBox (w5.setCells w.heap.size 0 (mL zeroM)) w.heap.size zeroM)
  have h2 := below_setCells HB5.out (Nat.le_refl _) (mL zeroM) 0
  refine at_ret rfl ?_ ?_ ?_ rfl
  · exact rfl
  · exact h1
  · exact h2
set_option maxRecDepth 100000 in
set_option maxHeartbeats 4000000 in
theorem at_byte (s : ByteArray) (i : Nat) (w : World) (hi : i < s.size) (hmx : s.size ≤ 9223372036854775807) (h : 24 ≤ s.size - i) (hb : (s[i]'hi).toNat ≠ 71) : Calls Tryd.prog 50 #[.string s, .int .i64 (i : Nat)] w (TellA 0 zeroM w) := by
  have h5 : ¬ ((s.size - i : Nat) : Int) < 24 := by omega
  have q16 : i + 16 ≤ 9223372036854775807 := by omega
  have q20 : i + 16 + 4 ≤ s.size := by omega
  have hiI : (i : Int) < (s.size : Int) := by omega
  have hi0 : (0 : Int) ≤ (i : Int) := by omega
  obtain ⟨kk, hkk⟩ : ∃ kk : Nat, (s[i]'hi).toNat = kk := ⟨_, rfl⟩
  rw [hkk] at hb
  have hbb : ((kk : Int) != 71) = true := bne_iff_ne.2 (by omega)
  have hw : wrap64 ((s.size : Int) - (i : Int)) = ((s.size - i : Nat) : Int) := wsub s.size i (Nat.le_of_lt hi) hmx
  have hb0 : Below w.heap.size w (w.alloc (.cells (mL zeroM).toArray 24)) := (Below.refl w.heap.size w).alloc (Nat.le_refl _) _
  have hm0 : MBox (w.alloc (.cells (mL zeroM).toArray 24)) w.heap.size zeroM := ⟨Go.heap_alloc_new w _, by simp⟩
  have hsz0 : (w.alloc (.cells (mL zeroM).toArray 24)).heap.size = w.heap.size + 1 := by simp
  generalize hwa : w.alloc (.cells (mL zeroM).toArray 24) = wa at hb0 hm0 hsz0
  have hth := blk_there (w := wa.alloc (.cells (mL zeroM).toArray 24)) (Go.heap_alloc_new wa _)
  have hnb := below_setCells ((Below.refl wa.heap.size wa).alloc (Nat.le_refl _) (.cells (mL zeroM).toArray 24)) (Nat.le_refl _) (mL zeroM) 0
  have HM1 := Aside0.mk (hm0.below hnb hm0.lt)
  have HB1 := Aside0.mk (hb0.trans (hnb.mono hb0.size))
  have HZ1 : Aside0 (MBox ((wa.alloc (.cells (mL zeroM).toArray 24)).setCells wa.heap.size 0 (mL zeroM)) wa.heap.size zeroM) := ⟨⟨setCells_whole (Go.heap_alloc_new wa _) rfl, by rw [setCells_size]; simp⟩⟩
  have hne : wa.heap.size ≠ w.heap.size := by omega
  have HNE := Aside0.mk hne
  clear hnb hb0 hm0 hsz0 hne
  go_enter Tryd.func50, Tryd.ntmps50
  go_upto_region 1 with fail
  rw [show w.alloc (.cells #[.int .i64 0, .int .i64 0, .int .i64 0, .int .i64 0, .int .i64 0, .int .i64 0, .int .i64 0, .int .i64 0, .int .i64 0, .string { data := #[] }, .string { data := #[] }] 24) = wa from hwa]
  go_upto_region 2 with ((with_reducible refine gate_store (ty := 24) (x := .tmp 6) (y := .tmp 10) rfl ?_); refine wpList_store_mid rfl 24 (.tmp 6) (.tmp 10) rfl wa.heap.size 0 (mL zeroM).toArray rfl rfl hth infoM (mL_one zeroM) ?_)
  clear hth hwa
  generalize hw1 : (wa.alloc (.cells #[.int .i64 0, .int .i64 0, .int .i64 0, .int .i64 0, .int .i64 0, .int .i64 0, .int .i64 0, .int .i64 0, .int .i64 0, .string { data := #[] }, .string { data := #[] }] 24)).setCells wa.heap.size 0 (mL zeroM) = w1
  rw [show (wa.alloc (.cells (mL zeroM).toArray 24)).setCells wa.heap.size 0 (mL zeroM) = w1 from hw1] at HM1 HB1 HZ1
  generalize wa.heap.size = g6 at HZ1 HNE hw1 ⊢
  clear hw1
  have hl0 : w1.cell? ⟨g6, 0, none⟩ = some (.int .i64 zeroM.kind) := HZ1.out.c 0
  have hl1 : w1.cell? ⟨g6, 1, none⟩ = some (.int .i64 zeroM.from_) := HZ1.out.c 1
  have hl2 : w1.cell? ⟨g6, 2, none⟩ = some (.int .i64 zeroM.to_) := HZ1.out.c 2
  have hl3 : w1.cell? ⟨g6, 3, none⟩ = some (.int .i64 zeroM.id) := HZ1.out.c 3
  have hl4 : w1.cell? ⟨g6, 4, none⟩ = some (.int .i64 zeroM.epoch) := HZ1.out.c 4
  have hl5 : w1.cell? ⟨g6, 5, none⟩ = some (.int .i64 zeroM.seq) := HZ1.out.c 5
  have hl6 : w1.cell? ⟨g6, 6, none⟩ = some (.int .i64 zeroM.version) := HZ1.out.c 6
  have hl7 : w1.cell? ⟨g6, 7, none⟩ = some (.int .i64 zeroM.prev) := HZ1.out.c 7
  have hl8 : w1.cell? ⟨g6, 8, none⟩ = some (.int .i64 zeroM.code) := HZ1.out.c 8
  have hl9 : w1.cell? ⟨g6, 9, none⟩ = some (.string zeroM.key) := HZ1.out.c 9
  have hl10 : w1.cell? ⟨g6, 10, none⟩ = some (.string zeroM.value) := HZ1.out.c 10
  go_upto_region 3 with fail
  refine wp_region_still_tail 2 (by kernel_rfl) (by kernel_rfl) ?_
  simp only [List.take_succ_cons, List.take_zero, List.drop_succ_cons, List.drop_zero]
  iterate 1 still_step
  refine wpStill_step (fun K hK => ?_)
  go_simp
  refine hK _ (wpStill_nil ?_)
  have HM5 : Aside0 (MBox ({ w1 with drawn := w1.drawn + 1 } : World) w.heap.size zeroM) := ⟨⟨HM1.out.row, HM1.out.lt⟩⟩
  have HB5 : Aside0 (Below w.heap.size w ({ w1 with drawn := w1.drawn + 1 } : World)) := ⟨below_drew HB1.out⟩
  generalize ({ w1 with drawn := w1.drawn + 1 } : World) = w5 at HM5 HB5 ⊢
  have hth := blk_there HM5.out.row
  clear hK K hl0 hl1 hl2 hl3 hl4 hl5 hl6 hl7 hl8 hl9 hl10
  go_wp2_with ((with_reducible refine gate_store (ty := 24) (x := .tmp 5) (y := .tmp 22) rfl ?_); refine wpList_store_mid rfl 24 (.tmp 5) (.tmp 22) rfl w.heap.size 0 (mL zeroM).toArray rfl rfl hth infoM (mL_one zeroM) ?_)
  have h1 := (⟨setCells_whole HM5.out.row rfl, by rw [setCells_size]; exact HM5.out.lt⟩ : MBox (w5.setCells w.heap.size 0 (mL zeroM)) w.heap.size zeroM)
  have h2 := below_setCells HB5.out (Nat.le_refl _) (mL zeroM) 0
  refine at_ret rfl ?_ ?_ ?_ rfl
  · exact rfl
  · exact h1
  · exact h2
set_option maxRecDepth 100000 in
set_option maxHeartbeats 4000000 in
theorem at_long (s : ByteArray) (i : Nat) (w : World) (hi : i < s.size) (hmx : s.size ≤ 9223372036854775807) (h : 24 ≤ s.size - i) (hb : (s[i]'hi).toNat = 71) (N : Nat) (hN : numR (bytesOf s) (i + 16) 4 = (N : Int)) (hl : 4383 < N) : Calls Tryd.prog 50 #[.string s, .int .i64 (i : Nat)] w (TellA 0 zeroM w) := by
  have h5 : ¬ ((s.size - i : Nat) : Int) < 24 := by omega
  have q16 : i + 16 ≤ 9223372036854775807 := by omega
  have q20 : i + 16 + 4 ≤ s.size := by omega
  have hiI : (i : Int) < (s.size : Int) := by omega
  have hi0 : (0 : Int) ≤ (i : Int) := by omega
  obtain ⟨kk, hkk⟩ : ∃ kk : Nat, (s[i]'hi).toNat = kk := ⟨_, rfl⟩
  rw [hkk] at hb
  have hbb : ((kk : Int) != 71) = false := by subst hb; rfl
  have KN := fun w => RefDec.rnumber_any s (i + 16) 4 w (by decide) q20 hmx
  rw [hN] at KN
  have KN := fun w => Lib.hid (KN w)
  have hlI : (4383 : Int) < (N : Int) := by omega
  have hw : wrap64 ((s.size : Int) - (i : Int)) = ((s.size - i : Nat) : Int) := wsub s.size i (Nat.le_of_lt hi) hmx
  have hw16 : wrap64 ((i : Int) + 16) = ((i + 16 : Nat) : Int) := wadd i 16 q16
  have hb0 : Below w.heap.size w (w.alloc (.cells (mL zeroM).toArray 24)) := (Below.refl w.heap.size w).alloc (Nat.le_refl _) _
  have hm0 : MBox (w.alloc (.cells (mL zeroM).toArray 24)) w.heap.size zeroM := ⟨Go.heap_alloc_new w _, by simp⟩
  have hsz0 : (w.alloc (.cells (mL zeroM).toArray 24)).heap.size = w.heap.size + 1 := by simp
  generalize hwa : w.alloc (.cells (mL zeroM).toArray 24) = wa at hb0 hm0 hsz0
  have hth := blk_there (w := wa.alloc (.cells (mL zeroM).toArray 24)) (Go.heap_alloc_new wa _)
  have hnb := below_setCells ((Below.refl wa.heap.size wa).alloc (Nat.le_refl _) (.cells (mL zeroM).toArray 24)) (Nat.le_refl _) (mL zeroM) 0
  have HM1 := Aside0.mk (hm0.below hnb hm0.lt)
  have HB1 := Aside0.mk (hb0.trans (hnb.mono hb0.size))
  have HZ1 : Aside0 (MBox ((wa.alloc (.cells (mL zeroM).toArray 24)).setCells wa.heap.size 0 (mL zeroM)) wa.heap.size zeroM) := ⟨⟨setCells_whole (Go.heap_alloc_new wa _) rfl, by rw [setCells_size]; simp⟩⟩
  have hne : wa.heap.size ≠ w.heap.size := by omega
  have HNE := Aside0.mk hne
  clear hnb hb0 hm0 hsz0 hne
  go_enter Tryd.func50, Tryd.ntmps50
  go_upto_region 1 with fail
  rw [show w.alloc (.cells #[.int .i64 0, .int .i64 0, .int .i64 0, .int .i64 0, .int .i64 0, .int .i64 0, .int .i64 0, .int .i64 0, .int .i64 0, .string { data := #[] }, .string { data := #[] }] 24) = wa from hwa]
  go_upto_region 2 with ((with_reducible refine gate_store (ty := 24) (x := .tmp 6) (y := .tmp 10) rfl ?_); refine wpList_store_mid rfl 24 (.tmp 6) (.tmp 10) rfl wa.heap.size 0 (mL zeroM).toArray rfl rfl hth infoM (mL_one zeroM) ?_)
  clear hth hwa
  generalize hw1 : (wa.alloc (.cells #[.int .i64 0, .int .i64 0, .int .i64 0, .int .i64 0, .int .i64 0, .int .i64 0, .int .i64 0, .int .i64 0, .int .i64 0, .string { data := #[] }, .string { data := #[] }] 24)).setCells wa.heap.size 0 (mL zeroM) = w1
  rw [show (wa.alloc (.cells (mL zeroM).toArray 24)).setCells wa.heap.size 0 (mL zeroM) = w1 from hw1] at HM1 HB1 HZ1
  generalize wa.heap.size = g6 at HZ1 HNE hw1 ⊢
  clear hw1
  go_wp2_with fail
  refine (KN _).out.mono ?_
  rintro e w2 ⟨rfl, ⟨⟨n2, rfl⟩⟩⟩
  have HM2 : Aside0 (MBox (w1.drewN n2) w.heap.size zeroM) := ⟨⟨HM1.out.row, HM1.out.lt⟩⟩
  have HZ2 : Aside0 (MBox (w1.drewN n2) g6 zeroM) := ⟨⟨HZ1.out.row, HZ1.out.lt⟩⟩
  have HB2 : Aside0 (Below w.heap.size w (w1.drewN n2)) := ⟨pw_below_drewN HB1.out n2⟩
  clear HM1 HZ1 HB1 KN hw16
  generalize w1.drewN n2 = w2 at HM2 HZ2 HB2 ⊢
  have hl0 : w2.cell? ⟨g6, 0, none⟩ = some (.int .i64 zeroM.kind) := HZ2.out.c 0
  have hl1 : w2.cell? ⟨g6, 1, none⟩ = some (.int .i64 zeroM.from_) := HZ2.out.c 1
  have hl2 : w2.cell? ⟨g6, 2, none⟩ = some (.int .i64 zeroM.to_) := HZ2.out.c 2
  have hl3 : w2.cell? ⟨g6, 3, none⟩ = some (.int .i64 zeroM.id) := HZ2.out.c 3
  have hl4 : w2.cell? ⟨g6, 4, none⟩ = some (.int .i64 zeroM.epoch) := HZ2.out.c 4
  have hl5 : w2.cell? ⟨g6, 5, none⟩ = some (.int .i64 zeroM.seq) := HZ2.out.c 5
  have hl6 : w2.cell? ⟨g6, 6, none⟩ = some (.int .i64 zeroM.version) := HZ2.out.c 6
  have hl7 : w2.cell? ⟨g6, 7, none⟩ = some (.int .i64 zeroM.prev) := HZ2.out.c 7
  have hl8 : w2.cell? ⟨g6, 8, none⟩ = some (.int .i64 zeroM.code) := HZ2.out.c 8
  have hl9 : w2.cell? ⟨g6, 9, none⟩ = some (.string zeroM.key) := HZ2.out.c 9
  have hl10 : w2.cell? ⟨g6, 10, none⟩ = some (.string zeroM.value) := HZ2.out.c 10
  go_upto_region 6 with fail
  refine wp_region_still_tail 2 (by kernel_rfl) (by kernel_rfl) ?_
  simp only [List.take_succ_cons, List.take_zero, List.drop_succ_cons, List.drop_zero]
  iterate 1 still_step
  refine wpStill_step (fun K hK => ?_)
  go_simp
  refine hK _ (wpStill_nil ?_)
  have HM5 : Aside0 (MBox ({ w2 with drawn := w2.drawn + 1 } : World) w.heap.size zeroM) := ⟨⟨HM2.out.row, HM2.out.lt⟩⟩
  have HB5 : Aside0 (Below w.heap.size w ({ w2 with drawn := w2.drawn + 1 } : World)) := ⟨below_drew HB2.out⟩
  generalize ({ w2 with drawn := w2.drawn + 1 } : World) = w5 at HM5 HB5 ⊢
  have hth := blk_there HM5.out.row
  clear hK K hl0 hl1 hl2 hl3 hl4 hl5 hl6 hl7 hl8 hl9 hl10
  go_wp2_with ((with_reducible refine gate_store (ty := 24) (x := .tmp 5) (y := .tmp 38) rfl ?_); refine wpList_store_mid rfl 24 (.tmp 5) (.tmp 38) rfl w.heap.size 0 (mL zeroM).toArray rfl rfl hth infoM (mL_one zeroM) ?_)
  have h1 := (⟨setCells_whole HM5.out.row rfl, by rw [setCells_size]; exact HM5.out.lt⟩ : MBox (w5.setCells w.heap.size 0 (mL zeroM)) w.heap.size zeroM)
  have h2 := below_setCells HB5.out (Nat.le_refl _) (mL zeroM) 0
  refine at_ret rfl ?_ ?_ ?_ rfl
  · exact rfl
  · exact h1
  · exact h2
set_option maxRecDepth 100000 in
set_option maxHeartbeats 4000000 in
theorem at_over (s : ByteArray) (i : Nat) (w : World) (hi : i < s.size) (hmx : s.size ≤ 9223372036854775807) (h : 24 ≤ s.size - i) (hb : (s[i]'hi).toNat = 71) (N : Nat) (hN : numR (bytesOf s) (i + 16) 4 = (N : Int)) (hl : N ≤ 4383) (ho : s.size - i < 24 + N) : Calls Tryd.prog 50 #[.string s, .int .i64 (i : Nat)] w (TellA 0 zeroM w) := by
  have h5 : ¬ ((s.size - i : Nat) : Int) < 24 := by omega
  have q16 : i + 16 ≤ 9223372036854775807 := by omega
  have q20 : i + 16 + 4 ≤ s.size := by omega
  have hiI : (i : Int) < (s.size : Int) := by omega
  have hi0 : (0 : Int) ≤ (i : Int) := by omega
  obtain ⟨kk, hkk⟩ : ∃ kk : Nat, (s[i]'hi).toNat = kk := ⟨_, rfl⟩
  rw [hkk] at hb
  have hbb : ((kk : Int) != 71) = false := by subst hb; rfl
  have KN := fun w => RefDec.rnumber_any s (i + 16) 4 w (by decide) q20 hmx
  rw [hN] at KN
  have KN := fun w => Lib.hid (KN w)
  have hlI : ¬ (4383 : Int) < (N : Int) := by omega
  have q24 : 24 + N ≤ 9223372036854775807 := by omega
  have hov : ((s.size - i : Nat) : Int) < ((24 + N : Nat) : Int) := by omega
  have hw : wrap64 ((s.size : Int) - (i : Int)) = ((s.size - i : Nat) : Int) := wsub s.size i (Nat.le_of_lt hi) hmx
  have hw16 : wrap64 ((i : Int) + 16) = ((i + 16 : Nat) : Int) := wadd i 16 q16
  have HW24 := Lib.hid (show wrap64 (24 + (N : Int)) = ((24 + N : Nat) : Int) from wadd 24 N q24)
  have hb0 : Below w.heap.size w (w.alloc (.cells (mL zeroM).toArray 24)) := (Below.refl w.heap.size w).alloc (Nat.le_refl _) _
  have hm0 : MBox (w.alloc (.cells (mL zeroM).toArray 24)) w.heap.size zeroM := ⟨Go.heap_alloc_new w _, by simp⟩
  have hsz0 : (w.alloc (.cells (mL zeroM).toArray 24)).heap.size = w.heap.size + 1 := by simp
  generalize hwa : w.alloc (.cells (mL zeroM).toArray 24) = wa at hb0 hm0 hsz0
  have hth := blk_there (w := wa.alloc (.cells (mL zeroM).toArray 24)) (Go.heap_alloc_new wa _)
  have hnb := below_setCells ((Below.refl wa.heap.size wa).alloc (Nat.le_refl _) (.cells (mL zeroM).toArray 24)) (Nat.le_refl _) (mL zeroM) 0
  have HM1 := Aside0.mk (hm0.below hnb hm0.lt)
  have HB1 := Aside0.mk (hb0.trans (hnb.mono hb0.size))
  have HZ1 : Aside0 (MBox ((wa.alloc (.cells (mL zeroM).toArray 24)).setCells wa.heap.size 0 (mL zeroM)) wa.heap.size zeroM) := ⟨⟨setCells_whole (Go.heap_alloc_new wa _) rfl, by rw [setCells_size]; simp⟩⟩
  have hne : wa.heap.size ≠ w.heap.size := by omega
  have HNE := Aside0.mk hne
  clear hnb hb0 hm0 hsz0 hne
  go_enter Tryd.func50, Tryd.ntmps50
  go_upto_region 1 with fail
  rw [show w.alloc (.cells #[.int .i64 0, .int .i64 0, .int .i64 0, .int .i64 0, .int .i64 0, .int .i64 0, .int .i64 0, .int .i64 0, .int .i64 0, .string { data := #[] }, .string { data := #[] }] 24) = wa from hwa]
  go_upto_region 2 with ((with_reducible refine gate_store (ty := 24) (x := .tmp 6) (y := .tmp 10) rfl ?_); refine wpList_store_mid rfl 24 (.tmp 6) (.tmp 10) rfl wa.heap.size 0 (mL zeroM).toArray rfl rfl hth infoM (mL_one zeroM) ?_)
  clear hth hwa
  generalize hw1 : (wa.alloc (.cells #[.int .i64 0, .int .i64 0, .int .i64 0, .int .i64 0, .int .i64 0, .int .i64 0, .int .i64 0, .int .i64 0, .int .i64 0, .string { data := #[] }, .string { data := #[] }] 24)).setCells wa.heap.size 0 (mL zeroM) = w1
  rw [show (wa.alloc (.cells (mL zeroM).toArray 24)).setCells wa.heap.size 0 (mL zeroM) = w1 from hw1] at HM1 HB1 HZ1
  generalize wa.heap.size = g6 at HZ1 HNE hw1 ⊢
  clear hw1
  go_wp2_with fail
  refine (KN _).out.mono ?_
  rintro e w2 ⟨rfl, ⟨⟨n2, rfl⟩⟩⟩
  have HM2 : Aside0 (MBox (w1.drewN n2) w.heap.size zeroM) := ⟨⟨HM1.out.row, HM1.out.lt⟩⟩
  have HZ2 : Aside0 (MBox (w1.drewN n2) g6 zeroM) := ⟨⟨HZ1.out.row, HZ1.out.lt⟩⟩
  have HB2 : Aside0 (Below w.heap.size w (w1.drewN n2)) := ⟨pw_below_drewN HB1.out n2⟩
  clear HM1 HZ1 HB1 KN hw16
  generalize w1.drewN n2 = w2 at HM2 HZ2 HB2 ⊢
  have hw24 := HW24.out
  have hl0 : w2.cell? ⟨g6, 0, none⟩ = some (.int .i64 zeroM.kind) := HZ2.out.c 0
  have hl1 : w2.cell? ⟨g6, 1, none⟩ = some (.int .i64 zeroM.from_) := HZ2.out.c 1
  have hl2 : w2.cell? ⟨g6, 2, none⟩ = some (.int .i64 zeroM.to_) := HZ2.out.c 2
  have hl3 : w2.cell? ⟨g6, 3, none⟩ = some (.int .i64 zeroM.id) := HZ2.out.c 3
  have hl4 : w2.cell? ⟨g6, 4, none⟩ = some (.int .i64 zeroM.epoch) := HZ2.out.c 4
  have hl5 : w2.cell? ⟨g6, 5, none⟩ = some (.int .i64 zeroM.seq) := HZ2.out.c 5
  have hl6 : w2.cell? ⟨g6, 6, none⟩ = some (.int .i64 zeroM.version) := HZ2.out.c 6
  have hl7 : w2.cell? ⟨g6, 7, none⟩ = some (.int .i64 zeroM.prev) := HZ2.out.c 7
  have hl8 : w2.cell? ⟨g6, 8, none⟩ = some (.int .i64 zeroM.code) := HZ2.out.c 8
  have hl9 : w2.cell? ⟨g6, 9, none⟩ = some (.string zeroM.key) := HZ2.out.c 9
  have hl10 : w2.cell? ⟨g6, 10, none⟩ = some (.string zeroM.value) := HZ2.out.c 10
  go_upto_region 6 with fail
  refine wp_region_still_tail 2 (by kernel_rfl) (by kernel_rfl) ?_
  simp only [List.take_succ_cons, List.take_zero, List.drop_succ_cons, List.drop_zero]
  iterate 1 still_step
  refine wpStill_step (fun K hK => ?_)
  go_simp
  refine hK _ (wpStill_nil ?_)
  have HM5 : Aside0 (MBox ({ w2 with drawn := w2.drawn + 1 } : World) w.heap.size zeroM) := ⟨⟨HM2.out.row, HM2.out.lt⟩⟩
  have HB5 : Aside0 (Below w.heap.size w ({ w2 with drawn := w2.drawn + 1 } : World)) := ⟨below_drew HB2.out⟩
  generalize ({ w2 with drawn := w2.drawn + 1 } : World) = w5 at HM5 HB5 ⊢
  have hth := blk_there HM5.out.row
  clear hK K hl0 hl1 hl2 hl3 hl4 hl5 hl6 hl7 hl8 hl9 hl10
  go_wp2_with ((with_reducible refine gate_store (ty := 24) (x := .tmp 5) (y := .tmp 38) rfl ?_); refine wpList_store_mid rfl 24 (.tmp 5) (.tmp 38) rfl w.heap.size 0 (mL zeroM).toArray rfl rfl hth infoM (mL_one zeroM) ?_)
  have h1 := (⟨setCells_whole HM5.out.row rfl, by rw [setCells_size]; exact HM5.out.lt⟩ : MBox (w5.setCells w.heap.size 0 (mL zeroM)) w.heap.size zeroM)
  have h2 := below_setCells HB5.out (Nat.le_refl _) (mL zeroM) 0
  refine at_ret rfl ?_ ?_ ?_ rfl
  · exact rfl
  · exact h1
  · exact h2
set_option maxRecDepth 100000 in
set_option maxHeartbeats 4000000 in
theorem at_bad (s : ByteArray) (i : Nat) (w : World) (hi : i < s.size) (hmx : s.size ≤ 9223372036854775807) (h : 24 ≤ s.size - i) (hb : (s[i]'hi).toNat = 71) (N : Nat) (hN : numR (bytesOf s) (i + 16) 4 = (N : Int)) (hl : N ≤ 4383) (ho : 24 + N ≤ s.size - i) (hR : RefF.RTab w) (m : M) (x : Int) (he : decP (((bytesOf s).drop i).take (24 + N)) = (m, x)) (hx0 : x ≠ 0) : Calls Tryd.prog 50 #[.string s, .int .i64 (i : Nat)] w (TellA 0 zeroM w) := by
  have q1 : i + 24 + N ≤ s.size := by omega
  have q2 : i + 24 ≤ 9223372036854775807 := by omega
  have q3 : i + 24 + N ≤ 9223372036854775807 := by omega
  have q4 : (0 : Int) ≤ (i : Int) := by omega
  have q5 : (i : Int) ≤ ((i + 24 + N : Nat) : Int) := by omega
  have q6 : ((i + 24 + N : Nat) : Int) ≤ (s.size : Int) := by omega
  have q7 : i + 24 + N - i = 24 + N := by omega
  have q8 : i ≤ i + 24 + N := by omega
  have q9 : (strOfNums (((bytesOf s).drop i).take (24 + N))).size ≤ 9223372036854775807 := by rw [strOfNums_size, List.length_take, List.length_drop, bytesOf_length]; omega
  have hov : ¬ ((s.size - i : Nat) : Int) < ((24 + N : Nat) : Int) := by omega
  have h5 : ¬ ((s.size - i : Nat) : Int) < 24 := by omega
  have q16 : i + 16 ≤ 9223372036854775807 := by omega
  have q20 : i + 16 + 4 ≤ s.size := by omega
  have hiI : (i : Int) < (s.size : Int) := by omega
  have hi0 : (0 : Int) ≤ (i : Int) := by omega
  obtain ⟨kk, hkk⟩ : ∃ kk : Nat, (s[i]'hi).toNat = kk := ⟨_, rfl⟩
  rw [hkk] at hb
  have hbb : ((kk : Int) != 71) = false := by subst hb; rfl
  have KN := fun w => RefDec.rnumber_any s (i + 16) 4 w (by decide) q20 hmx
  rw [hN] at KN
  have KN := fun w => Lib.hid (KN w)
  have hlI : ¬ (4383 : Int) < (N : Int) := by omega
  have q24 : 24 + N ≤ 9223372036854775807 := by omega
  have ha1 : wrap64 ((i : Int) + 24) = ((i + 24 : Nat) : Int) := wadd i 24 q2
  have HA1 := Lib.hid ha1
  have ha2 := wadd (i + 24) N q3
  have HA2 := Lib.hid ha2
  clear ha1 ha2
  have hx := extract_mid s i (i + 24 + N) q8 q1
  rw [q7] at hx
  have KD := fun (w : World) hR => RefDec.rdec_any (strOfNums (((bytesOf s).drop i).take (24 + N))) w q9 hR
  rw [bytesOf_strOfNums _ (byt_take (byt_drop (byt_bytesOf s) i) (24 + N)), he] at KD
  have KD := fun (w : World) hR => Lib.hid (KD w hR)
  generalize strOfNums (((bytesOf s).drop i).take (24 + N)) = S3 at hx KD q9
  have HR := Aside0.mk hR
  clear hR q1 q2 q3 q4 q5 q6 q7 q8 q9 ho he
  have hxb : (x != 0) = true := bne_iff_ne.2 hx0
  have hw : wrap64 ((s.size : Int) - (i : Int)) = ((s.size - i : Nat) : Int) := wsub s.size i (Nat.le_of_lt hi) hmx
  have hw16 : wrap64 ((i : Int) + 16) = ((i + 16 : Nat) : Int) := wadd i 16 q16
  have HW24 := Lib.hid (show wrap64 (24 + (N : Int)) = ((24 + N : Nat) : Int) from wadd 24 N q24)
  have hb0 : Below w.heap.size w (w.alloc (.cells (mL zeroM).toArray 24)) := (Below.refl w.heap.size w).alloc (Nat.le_refl _) _
  have hm0 : MBox (w.alloc (.cells (mL zeroM).toArray 24)) w.heap.size zeroM := ⟨Go.heap_alloc_new w _, by simp⟩
  have hsz0 : (w.alloc (.cells (mL zeroM).toArray 24)).heap.size = w.heap.size + 1 := by simp
  generalize hwa : w.alloc (.cells (mL zeroM).toArray 24) = wa at hb0 hm0 hsz0
  have hth := blk_there (w := wa.alloc (.cells (mL zeroM).toArray 24)) (Go.heap_alloc_new wa _)
  have hnb := below_setCells ((Below.refl wa.heap.size wa).alloc (Nat.le_refl _) (.cells (mL zeroM).toArray 24)) (Nat.le_refl _) (mL zeroM) 0
  have HM1 := Aside0.mk (hm0.below hnb hm0.lt)
  have HB1 := Aside0.mk (hb0.trans (hnb.mono hb0.size))
  have HZ1 : Aside0 (MBox ((wa.alloc (.cells (mL zeroM).toArray 24)).setCells wa.heap.size 0 (mL zeroM)) wa.heap.size zeroM) := ⟨⟨setCells_whole (Go.heap_alloc_new wa _) rfl, by rw [setCells_size]; simp⟩⟩
  have hne : wa.heap.size ≠ w.heap.size := by omega
  have HNE := Aside0.mk hne
  clear hnb hb0 hm0 hsz0 hne
  go_enter Tryd.func50, Tryd.ntmps50
  go_upto_region 1 with fail
  rw [show w.alloc (.cells #[.int .i64 0, .int .i64 0, .int .i64 0, .int .i64 0, .int .i64 0, .int .i64 0, .int .i64 0, .int .i64 0, .int .i64 0, .string { data := #[] }, .string { data := #[] }] 24) = wa from hwa]
  go_upto_region 2 with ((with_reducible refine gate_store (ty := 24) (x := .tmp 6) (y := .tmp 10) rfl ?_); refine wpList_store_mid rfl 24 (.tmp 6) (.tmp 10) rfl wa.heap.size 0 (mL zeroM).toArray rfl rfl hth infoM (mL_one zeroM) ?_)
  clear hth hwa
  generalize hw1 : (wa.alloc (.cells #[.int .i64 0, .int .i64 0, .int .i64 0, .int .i64 0, .int .i64 0, .int .i64 0, .int .i64 0, .int .i64 0, .int .i64 0, .string { data := #[] }, .string { data := #[] }] 24)).setCells wa.heap.size 0 (mL zeroM) = w1
  rw [show (wa.alloc (.cells (mL zeroM).toArray 24)).setCells wa.heap.size 0 (mL zeroM) = w1 from hw1] at HM1 HB1 HZ1
  generalize wa.heap.size = g6 at HZ1 HNE hw1 ⊢
  clear hw1
  go_wp2_with fail
  refine (KN _).out.mono ?_
  rintro e w2 ⟨rfl, ⟨⟨n2, rfl⟩⟩⟩
  have HM2 : Aside0 (MBox (w1.drewN n2) w.heap.size zeroM) := ⟨⟨HM1.out.row, HM1.out.lt⟩⟩
  have HZ2 : Aside0 (MBox (w1.drewN n2) g6 zeroM) := ⟨⟨HZ1.out.row, HZ1.out.lt⟩⟩
  have HB2 : Aside0 (Below w.heap.size w (w1.drewN n2)) := ⟨pw_below_drewN HB1.out n2⟩
  clear HM1 HZ1 HB1 KN hw16
  generalize w1.drewN n2 = w2 at HM2 HZ2 HB2 ⊢
  have hw24 := HW24.out
  go_upto_region 7 with fail
  clear hw hw24
  have ha1 := HA1.out
  have ha2 := HA2.out
  go_wp2_with fail
  try rw [hx]
  refine (KD _ (HR.out.below HB2.out)).out.mono ?_
  rintro e w3 ⟨rfl, hb⟩
  have HM3 := Aside0.mk (HM2.out.below hb HM2.out.lt)
  have HZ3 := Aside0.mk (HZ2.out.below hb HZ2.out.lt)
  have HB3 := Aside0.mk (HB2.out.trans (hb.mono HB2.out.size))
  clear hb KD HM2 HB2 HZ2 ha1 ha2 hx
  have hth := blk_there (w := w3.alloc (.cells (mL zeroM).toArray 24)) (Go.heap_alloc_new w3 _)
  have hnb := below_setCells ((Below.refl w3.heap.size w3).alloc (Nat.le_refl _) (.cells (mL zeroM).toArray 24)) (Nat.le_refl _) (mL m) 0
  have HM4 := Aside0.mk (HM3.out.below hnb HM3.out.lt)
  have HZ4 := Aside0.mk (HZ3.out.below hnb HZ3.out.lt)
  have HB4 := Aside0.mk (HB3.out.trans (hnb.mono HB3.out.size))
  have HR4 : Aside0 (MBox ((w3.alloc (.cells (mL zeroM).toArray 24)).setCells w3.heap.size 0 (mL m)) w3.heap.size m) := ⟨⟨setCells_whole (Go.heap_alloc_new w3 _) rfl, by rw [setCells_size]; simp⟩⟩
  clear hnb
  go_upto_region 8 with ((with_reducible refine gate_store (ty := 24) (x := .tmp 8) (y := .tmp 48) rfl ?_); refine wpList_store_mid rfl 24 (.tmp 8) (.tmp 48) rfl w3.heap.size 0 (mL m).toArray rfl rfl hth infoM (mL_one m) ?_)
  clear hth HM3 HB3 HZ3
  generalize hw4 : (w3.alloc (.cells #[.int .i64 0, .int .i64 0, .int .i64 0, .int .i64 0, .int .i64 0, .int .i64 0, .int .i64 0, .int .i64 0, .int .i64 0, .string { data := #[] }, .string { data := #[] }] 24)).setCells w3.heap.size 0 (mL m) = w4
  rw [show (w3.alloc (.cells (mL zeroM).toArray 24)).setCells w3.heap.size 0 (mL m) = w4 from hw4] at HM4 HB4 HR4 HZ4
  generalize w3.heap.size = g8 at HR4 hw4 ⊢
  clear hw4
  have hl0 : w4.cell? ⟨g6, 0, none⟩ = some (.int .i64 zeroM.kind) := HZ4.out.c 0
  have hl1 : w4.cell? ⟨g6, 1, none⟩ = some (.int .i64 zeroM.from_) := HZ4.out.c 1
  have hl2 : w4.cell? ⟨g6, 2, none⟩ = some (.int .i64 zeroM.to_) := HZ4.out.c 2
  have hl3 : w4.cell? ⟨g6, 3, none⟩ = some (.int .i64 zeroM.id) := HZ4.out.c 3
  have hl4 : w4.cell? ⟨g6, 4, none⟩ = some (.int .i64 zeroM.epoch) := HZ4.out.c 4
  have hl5 : w4.cell? ⟨g6, 5, none⟩ = some (.int .i64 zeroM.seq) := HZ4.out.c 5
  have hl6 : w4.cell? ⟨g6, 6, none⟩ = some (.int .i64 zeroM.version) := HZ4.out.c 6
  have hl7 : w4.cell? ⟨g6, 7, none⟩ = some (.int .i64 zeroM.prev) := HZ4.out.c 7
  have hl8 : w4.cell? ⟨g6, 8, none⟩ = some (.int .i64 zeroM.code) := HZ4.out.c 8
  have hl9 : w4.cell? ⟨g6, 9, none⟩ = some (.string zeroM.key) := HZ4.out.c 9
  have hl10 : w4.cell? ⟨g6, 10, none⟩ = some (.string zeroM.value) := HZ4.out.c 10
  go_upto_region 9 with fail
  refine wp_region_still_tail 2 (by kernel_rfl) (by kernel_rfl) ?_
  simp only [List.take_succ_cons, List.take_zero, List.drop_succ_cons, List.drop_zero]
  iterate 1 still_step
  refine wpStill_step (fun K hK => ?_)
  go_simp
  refine hK _ (wpStill_nil ?_)
  have HM5 : Aside0 (MBox ({ w4 with drawn := w4.drawn + 1 } : World) w.heap.size zeroM) := ⟨⟨HM4.out.row, HM4.out.lt⟩⟩
  have HB5 : Aside0 (Below w.heap.size w ({ w4 with drawn := w4.drawn + 1 } : World)) := ⟨below_drew HB4.out⟩
  generalize ({ w4 with drawn := w4.drawn + 1 } : World) = w5 at HM5 HB5 ⊢
  have hth := blk_there HM5.out.row
  clear hK K hl0 hl1 hl2 hl3 hl4 hl5 hl6 hl7 hl8 hl9 hl10
  go_wp2_with ((with_reducible refine gate_store (ty := 24) (x := .tmp 5) (y := .tmp 52) rfl ?_); refine wpList_store_mid rfl 24 (.tmp 5) (.tmp 52) rfl w.heap.size 0 (mL zeroM).toArray rfl rfl hth infoM (mL_one zeroM) ?_)
  have h1 := (⟨setCells_whole HM5.out.row rfl, by rw [setCells_size]; exact HM5.out.lt⟩ : MBox (w5.setCells w.heap.size 0 (mL zeroM)) w.heap.size zeroM)
  have h2 := below_setCells HB5.out (Nat.le_refl _) (mL zeroM) 0
  refine at_ret rfl ?_ ?_ ?_ rfl
  · exact rfl
  · exact h1
  · exact h2
set_option maxRecDepth 100000 in
set_option maxHeartbeats 4000000 in
theorem at_ok (s : ByteArray) (i : Nat) (w : World) (hi : i < s.size) (hmx : s.size ≤ 9223372036854775807) (h : 24 ≤ s.size - i) (hb : (s[i]'hi).toNat = 71) (N : Nat) (hN : numR (bytesOf s) (i + 16) 4 = (N : Int)) (hl : N ≤ 4383) (ho : 24 + N ≤ s.size - i) (hR : RefF.RTab w) (m : M) (he : decP (((bytesOf s).drop i).take (24 + N)) = (m, 0)) : Calls Tryd.prog 50 #[.string s, .int .i64 (i : Nat)] w (TellA ((24 + N : Nat) : Int) m w) := by
  have q1 : i + 24 + N ≤ s.size := by omega
  have q2 : i + 24 ≤ 9223372036854775807 := by omega
  have q3 : i + 24 + N ≤ 9223372036854775807 := by omega
  have q4 : (0 : Int) ≤ (i : Int) := by omega
  have q5 : (i : Int) ≤ ((i + 24 + N : Nat) : Int) := by omega
  have q6 : ((i + 24 + N : Nat) : Int) ≤ (s.size : Int) := by omega
  have q7 : i + 24 + N - i = 24 + N := by omega
  have q8 : i ≤ i + 24 + N := by omega
  have q9 : (strOfNums (((bytesOf s).drop i).take (24 + N))).size ≤ 9223372036854775807 := by rw [strOfNums_size, List.length_take, List.length_drop, bytesOf_length]; omega
  have hov : ¬ ((s.size - i : Nat) : Int) < ((24 + N : Nat) : Int) := by omega
  have h5 : ¬ ((s.size - i : Nat) : Int) < 24 := by omega
  have q16 : i + 16 ≤ 9223372036854775807 := by omega
  have q20 : i + 16 + 4 ≤ s.size := by omega
  have hiI : (i : Int) < (s.size : Int) := by omega
  have hi0 : (0 : Int) ≤ (i : Int) := by omega
  obtain ⟨kk, hkk⟩ : ∃ kk : Nat, (s[i]'hi).toNat = kk := ⟨_, rfl⟩
  rw [hkk] at hb
  have hbb : ((kk : Int) != 71) = false := by subst hb; rfl
  have KN := fun w => RefDec.rnumber_any s (i + 16) 4 w (by decide) q20 hmx
  rw [hN] at KN
  have KN := fun w => Lib.hid (KN w)
  have hlI : ¬ (4383 : Int) < (N : Int) := by omega
  have q24 : 24 + N ≤ 9223372036854775807 := by omega
  have ha1 : wrap64 ((i : Int) + 24) = ((i + 24 : Nat) : Int) := wadd i 24 q2
  have HA1 := Lib.hid ha1
  have ha2 := wadd (i + 24) N q3
  have HA2 := Lib.hid ha2
  clear ha1 ha2
  have hx := extract_mid s i (i + 24 + N) q8 q1
  rw [q7] at hx
  have KD := fun (w : World) hR => RefDec.rdec_any (strOfNums (((bytesOf s).drop i).take (24 + N))) w q9 hR
  rw [bytesOf_strOfNums _ (byt_take (byt_drop (byt_bytesOf s) i) (24 + N)), he] at KD
  have KD := fun (w : World) hR => Lib.hid (KD w hR)
  generalize strOfNums (((bytesOf s).drop i).take (24 + N)) = S3 at hx KD q9
  have HR := Aside0.mk hR
  clear hR q1 q2 q3 q4 q5 q6 q7 q8 q9 ho he
  have hw : wrap64 ((s.size : Int) - (i : Int)) = ((s.size - i : Nat) : Int) := wsub s.size i (Nat.le_of_lt hi) hmx
  have hw16 : wrap64 ((i : Int) + 16) = ((i + 16 : Nat) : Int) := wadd i 16 q16
  have HW24 := Lib.hid (show wrap64 (24 + (N : Int)) = ((24 + N : Nat) : Int) from wadd 24 N q24)
  have hb0 : Below w.heap.size w (w.alloc (.cells (mL zeroM).toArray 24)) := (Below.refl w.heap.size w).alloc (Nat.le_refl _) _
  have hm0 : MBox (w.alloc (.cells (mL zeroM).toArray 24)) w.heap.size zeroM := ⟨Go.heap_alloc_new w _, by simp⟩
  have hsz0 : (w.alloc (.cells (mL zeroM).toArray 24)).heap.size = w.heap.size + 1 := by simp
  generalize hwa : w.alloc (.cells (mL zeroM).toArray 24) = wa at hb0 hm0 hsz0
  have hth := blk_there (w := wa.alloc (.cells (mL zeroM).toArray 24)) (Go.heap_alloc_new wa _)
  have hnb := below_setCells ((Below.refl wa.heap.size wa).alloc (Nat.le_refl _) (.cells (mL zeroM).toArray 24)) (Nat.le_refl _) (mL zeroM) 0
  have HM1 := Aside0.mk (hm0.below hnb hm0.lt)
  have HB1 := Aside0.mk (hb0.trans (hnb.mono hb0.size))
  have HZ1 : Aside0 (MBox ((wa.alloc (.cells (mL zeroM).toArray 24)).setCells wa.heap.size 0 (mL zeroM)) wa.heap.size zeroM) := ⟨⟨setCells_whole (Go.heap_alloc_new wa _) rfl, by rw [setCells_size]; simp⟩⟩
  have hne : wa.heap.size ≠ w.heap.size := by omega
  have HNE := Aside0.mk hne
  clear hnb hb0 hm0 hsz0 hne
  go_enter Tryd.func50, Tryd.ntmps50
  go_upto_region 1 with fail
  rw [show w.alloc (.cells #[.int .i64 0, .int .i64 0, .int .i64 0, .int .i64 0, .int .i64 0, .int .i64 0, .int .i64 0, .int .i64 0, .int .i64 0, .string { data := #[] }, .string { data := #[] }] 24) = wa from hwa]
  go_upto_region 2 with ((with_reducible refine gate_store (ty := 24) (x := .tmp 6) (y := .tmp 10) rfl ?_); refine wpList_store_mid rfl 24 (.tmp 6) (.tmp 10) rfl wa.heap.size 0 (mL zeroM).toArray rfl rfl hth infoM (mL_one zeroM) ?_)
  clear hth hwa
  generalize hw1 : (wa.alloc (.cells #[.int .i64 0, .int .i64 0, .int .i64 0, .int .i64 0, .int .i64 0, .int .i64 0, .int .i64 0, .int .i64 0, .int .i64 0, .string { data := #[] }, .string { data := #[] }] 24)).setCells wa.heap.size 0 (mL zeroM) = w1
  rw [show (wa.alloc (.cells (mL zeroM).toArray 24)).setCells wa.heap.size 0 (mL zeroM) = w1 from hw1] at HM1 HB1 HZ1
  generalize wa.heap.size = g6 at HZ1 HNE hw1 ⊢
  clear hw1
  go_wp2_with fail
  refine (KN _).out.mono ?_
  rintro e w2 ⟨rfl, ⟨⟨n2, rfl⟩⟩⟩
  have HM2 : Aside0 (MBox (w1.drewN n2) w.heap.size zeroM) := ⟨⟨HM1.out.row, HM1.out.lt⟩⟩
  have HZ2 : Aside0 (MBox (w1.drewN n2) g6 zeroM) := ⟨⟨HZ1.out.row, HZ1.out.lt⟩⟩
  have HB2 : Aside0 (Below w.heap.size w (w1.drewN n2)) := ⟨pw_below_drewN HB1.out n2⟩
  clear HM1 HZ1 HB1 KN hw16
  generalize w1.drewN n2 = w2 at HM2 HZ2 HB2 ⊢
  have hw24 := HW24.out
  go_upto_region 7 with fail
  clear hw hw24
  have ha1 := HA1.out
  have ha2 := HA2.out
  go_wp2_with fail
  try rw [hx]
  refine (KD _ (HR.out.below HB2.out)).out.mono ?_
  rintro e w3 ⟨rfl, hb⟩
  have HM3 := Aside0.mk (HM2.out.below hb HM2.out.lt)
  have HZ3 := Aside0.mk (HZ2.out.below hb HZ2.out.lt)
  have HB3 := Aside0.mk (HB2.out.trans (hb.mono HB2.out.size))
  clear hb KD HM2 HB2 HZ2 ha1 ha2 hx
  have hth := blk_there (w := w3.alloc (.cells (mL zeroM).toArray 24)) (Go.heap_alloc_new w3 _)
  have hnb := below_setCells ((Below.refl w3.heap.size w3).alloc (Nat.le_refl _) (.cells (mL zeroM).toArray 24)) (Nat.le_refl _) (mL m) 0
  have HM4 := Aside0.mk (HM3.out.below hnb HM3.out.lt)
  have HZ4 := Aside0.mk (HZ3.out.below hnb HZ3.out.lt)
  have HB4 := Aside0.mk (HB3.out.trans (hnb.mono HB3.out.size))
  have HR4 : Aside0 (MBox ((w3.alloc (.cells (mL zeroM).toArray 24)).setCells w3.heap.size 0 (mL m)) w3.heap.size m) := ⟨⟨setCells_whole (Go.heap_alloc_new w3 _) rfl, by rw [setCells_size]; simp⟩⟩
  clear hnb
  go_upto_region 8 with ((with_reducible refine gate_store (ty := 24) (x := .tmp 8) (y := .tmp 48) rfl ?_); refine wpList_store_mid rfl 24 (.tmp 8) (.tmp 48) rfl w3.heap.size 0 (mL m).toArray rfl rfl hth infoM (mL_one m) ?_)
  clear hth HM3 HB3 HZ3
  generalize hw4 : (w3.alloc (.cells #[.int .i64 0, .int .i64 0, .int .i64 0, .int .i64 0, .int .i64 0, .int .i64 0, .int .i64 0, .int .i64 0, .int .i64 0, .string { data := #[] }, .string { data := #[] }] 24)).setCells w3.heap.size 0 (mL m) = w4
  rw [show (w3.alloc (.cells (mL zeroM).toArray 24)).setCells w3.heap.size 0 (mL m) = w4 from hw4] at HM4 HB4 HR4 HZ4
  generalize w3.heap.size = g8 at HR4 hw4 ⊢
  clear hw4
  have hw24 := HW24.out
  have hl0 : w4.cell? ⟨g8, 0, none⟩ = some (.int .i64 m.kind) := HR4.out.c 0
  have hl1 : w4.cell? ⟨g8, 1, none⟩ = some (.int .i64 m.from_) := HR4.out.c 1
  have hl2 : w4.cell? ⟨g8, 2, none⟩ = some (.int .i64 m.to_) := HR4.out.c 2
  have hl3 : w4.cell? ⟨g8, 3, none⟩ = some (.int .i64 m.id) := HR4.out.c 3
  have hl4 : w4.cell? ⟨g8, 4, none⟩ = some (.int .i64 m.epoch) := HR4.out.c 4
  have hl5 : w4.cell? ⟨g8, 5, none⟩ = some (.int .i64 m.seq) := HR4.out.c 5
  have hl6 : w4.cell? ⟨g8, 6, none⟩ = some (.int .i64 m.version) := HR4.out.c 6
  have hl7 : w4.cell? ⟨g8, 7, none⟩ = some (.int .i64 m.prev) := HR4.out.c 7
  have hl8 : w4.cell? ⟨g8, 8, none⟩ = some (.int .i64 m.code) := HR4.out.c 8
  have hl9 : w4.cell? ⟨g8, 9, none⟩ = some (.string m.key) := HR4.out.c 9
  have hl10 : w4.cell? ⟨g8, 10, none⟩ = some (.string m.value) := HR4.out.c 10
  go_upto_region 10 with fail
  refine wp_region_still_tail 4 (by kernel_rfl) (by kernel_rfl) ?_
  simp only [List.take_succ_cons, List.take_zero, List.drop_succ_cons, List.drop_zero]
  iterate 3 still_step
  refine wpStill_step (fun K hK => ?_)
  go_simp
  refine hK _ (wpStill_nil ?_)
  have HM5 : Aside0 (MBox ({ w4 with drawn := w4.drawn + 1 } : World) w.heap.size zeroM) := ⟨⟨HM4.out.row, HM4.out.lt⟩⟩
  have HB5 : Aside0 (Below w.heap.size w ({ w4 with drawn := w4.drawn + 1 } : World)) := ⟨below_drew HB4.out⟩
  generalize ({ w4 with drawn := w4.drawn + 1 } : World) = w5 at HM5 HB5 ⊢
  have hth := blk_there HM5.out.row
  clear hK K hl0 hl1 hl2 hl3 hl4 hl5 hl6 hl7 hl8 hl9 hl10
  go_wp2_with ((with_reducible refine gate_store (ty := 24) (x := .tmp 5) (y := .tmp 55) rfl ?_); refine wpList_store_mid rfl 24 (.tmp 5) (.tmp 55) rfl w.heap.size 0 (mL m).toArray rfl rfl hth infoM (mL_one m) ?_)
  have h1 := (⟨setCells_whole HM5.out.row rfl, by rw [setCells_size]; exact HM5.out.lt⟩ : MBox (w5.setCells w.heap.size 0 (mL m)) w.heap.size m)
  have h2 := below_setCells HB5.out (Nat.le_refl _) (mL m) 0
  refine at_ret rfl ?_ ?_ ?_ rfl
  · exact congrArg (Value.int .i64) ((Go.Proofs.YtnifgokjagahfaaDoorW.PrintLast.i64_w _).trans hw24)
  · exact h1
  · exact h2
end Go.Proofs.YtnifgokjagahfaaDoor.RefAt

/- The frames of a stream, as a list; plain. -/
set_option linter.unusedVariables false
set_option linter.unusedSimpArgs false
namespace Go.Proofs.YtnifgokjagahfaaDoor.SplitPure
open Go.RowKit Go.Proofs.YtnifgokjagahfaaDoorW.PrintWords Go.Proofs.YtnifgokjagahfaaDoorW.PrintLast Go.Proofs.YtnifgokjagahfaaDoorW.PrintMore
open Go.Proofs.YtnifgokjagahfaaDoor.Base Go.Proofs.YtnifgokjagahfaaDoor.Layouts Go.Proofs.YtnifgokjagahfaaDoor.Msg Go.Proofs.YtnifgokjagahfaaDoor.Put Go.Proofs.YtnifgokjagahfaaDoor.EncPure Go.Proofs.YtnifgokjagahfaaDoor.DecPure Go.Proofs.YtnifgokjagahfaaDoor.Num Go.Proofs.YtnifgokjagahfaaDoor.Mids Go.Proofs.YtnifgokjagahfaaDoor.Beg Go.Proofs.YtnifgokjagahfaaDoor.Frm Go.Proofs.YtnifgokjagahfaaDoor.Next
/-- a piece: its place, its size, its message -/
abbrev Pc := Nat × Nat × M
/-- the frame that begins at a place of a text -/
def fr (s : ByteArray) (i : Nat) : Option (Nat × M) := frm ((bytesOf s).drop i)
theorem frm_bounds {L : List Int} (hb : Byt L) {n : Nat} {m : M} (h : frm L = some (n, m)) : 24 ≤ n ∧ n ≤ 4407 ∧ n ≤ L.length ∧ pre3 L = true := by
  unfold frm at h
  split at h
  · rename_i hc
    obtain ⟨c1, c2, c3, c4⟩ := hc
    simp only [Option.some.injEq, Prod.mk.injEq] at h
    have hn0 : 0 ≤ bodyN L := val_nonneg _ (byt_take (byt_drop hb _) _)
    obtain ⟨p1, _⟩ := head_of_ok L (24 + bodyN L).toNat (by omega) (by omega) hb c4
    exact ⟨by omega, by omega, by omega, p1⟩
  · cases h
theorem byt_at (s : ByteArray) (i : Nat) : Byt ((bytesOf s).drop i) := byt_drop (byt_bytesOf s) i
theorem fr_bounds {s : ByteArray} {i n : Nat} {m : M} (h : fr s i = some (n, m)) : 24 ≤ n ∧ n ≤ 4407 ∧ i + n ≤ s.size := by
  obtain ⟨h1, h2, h3, _⟩ := frm_bounds (byt_at s i) h
  rw [List.length_drop, bytesOf_length] at h3
  exact ⟨h1, h2, by omega⟩
/-- the pieces from a place on, so many places at the most -/
def spl (s : ByteArray) : Nat → Nat → List Pc
  | 0, _ => []
  | k + 1, i => if i < s.size then (match fr s i with | none => spl s k (i + 1) | some (n, m) => (i, n, m) :: spl s k (i + n)) else []
theorem spl_enough (s : ByteArray) : ∀ (k i : Nat), s.size - i ≤ k → spl s k i = spl s (s.size - i) i := by
  intro k
  induction k using Nat.strongRecOn with
  | ind k ih =>
    intro i hk
    by_cases hi : i < s.size
    · obtain ⟨j, hj⟩ : ∃ j, s.size - i = j + 1 := ⟨s.size - i - 1, by omega⟩
      obtain ⟨k', rfl⟩ : ∃ k', k = k' + 1 := ⟨k - 1, by omega⟩
      rw [hj]
      simp only [spl, if_pos hi]
      cases hf : fr s i with
      | none => simp only; rw [ih k' (by omega) (i + 1) (by omega), ← ih j (by omega) (i + 1) (by omega)]
      | some r =>
        obtain ⟨n, m⟩ := r
        obtain ⟨h1, _, _⟩ := fr_bounds hf
        simp only
        rw [ih k' (by omega) (i + n) (by omega), ← ih j (by omega) (i + n) (by omega)]
    · have h0 : s.size - i = 0 := by omega
      rw [h0]
      cases k with
      | zero => rfl
      | succ k => simp only [spl, if_neg hi]
/-- the pieces from a place on -/
def pcs (s : ByteArray) (i : Nat) : List Pc := spl s (s.size - i) i
theorem pcs_end {s : ByteArray} {i : Nat} (h : s.size ≤ i) : pcs s i = [] := by
  unfold pcs
  rw [show s.size - i = 0 by omega]
  rfl
theorem pcs_none {s : ByteArray} {i : Nat} (hi : i < s.size) (hf : fr s i = none) : pcs s i = pcs s (i + 1) := by
  unfold pcs
  obtain ⟨j, hj⟩ : ∃ j, s.size - i = j + 1 := ⟨s.size - i - 1, by omega⟩
  rw [hj]
  simp only [spl, if_pos hi, hf]
  exact spl_enough s j (i + 1) (by omega)
theorem pcs_some {s : ByteArray} {i n : Nat} {m : M} (hf : fr s i = some (n, m)) : pcs s i = (i, n, m) :: pcs s (i + n) := by
  obtain ⟨h1, _, h3⟩ := fr_bounds hf
  unfold pcs
  obtain ⟨j, hj⟩ : ∃ j, s.size - i = j + 1 := ⟨s.size - i - 1, by omega⟩
  rw [hj]
  simp only [spl, if_pos (show i < s.size by omega), hf]
  rw [spl_enough s j (i + n) (by omega)]
theorem pcs_len (s : ByteArray) : ∀ (k i : Nat), s.size - i ≤ k → 24 * (pcs s i).length ≤ s.size - i := by
  intro k
  induction k with
  | zero => intro i h; rw [pcs_end (by omega)]; exact Nat.zero_le _
  | succ k ih =>
    intro i h
    by_cases hi : i < s.size
    · cases hf : fr s i with
      | none => rw [pcs_none hi hf]; have := ih (i + 1) (by omega); omega
      | some r =>
        obtain ⟨n, m⟩ := r
        obtain ⟨h1, _, h3⟩ := fr_bounds hf
        rw [pcs_some hf, List.length_cons]
        have := ih (i + n) (by omega)
        omega
    · rw [pcs_end (by omega)]; exact Nat.zero_le _
theorem pcs_bytes (s : ByteArray) (i : Nat) : 24 * (pcs s i).length ≤ s.size := by
  have := pcs_len s (s.size - i) i (Nat.le_refl _)
  omega
theorem fr_byte {s : ByteArray} {i n : Nat} {m : M} (hi : i < s.size) (h : fr s i = some (n, m)) : (s[i]'hi).toNat = 71 := by
  obtain ⟨h1, _, h3, hp⟩ := frm_bounds (byt_at s i) h
  unfold pre3 at hp
  rw [Nat.min_eq_right (by omega)] at hp
  have hp := of_decide_eq_true hp
  have h0 : ((bytesOf s).drop i)[0]? = some 71 := by
    have : (((bytesOf s).drop i).take 3)[0]? = some 71 := by rw [hp]; rfl
    rwa [List.getElem?_take_of_lt (by decide)] at this
  rw [List.getElem?_drop, bytesOf, List.getElem?_map] at h0
  have e : s.data.toList[i + 0]? = some (s[i]'hi) := by
    rw [Nat.add_zero, List.getElem?_eq_getElem (by rw [data_length]; exact hi)]
    rfl
  rw [e] at h0
  simp only [Option.map_some, Option.some.injEq] at h0
  omega
theorem pcs_nxt (s : ByteArray) : ∀ (k a : Nat), s.size - a ≤ k → a ≤ s.size → pcs s (nxt s a) = pcs s a := by
  intro k
  induction k with
  | zero =>
    intro a h ha
    have := nxt_le s a ha
    rw [show nxt s a = a by omega]
  | succ k ih =>
    intro a h ha
    by_cases hi : a < s.size
    · have hd : s.data.toList.drop a = s[a]'hi :: s.data.toList.drop (a + 1) := by
        rw [List.drop_eq_getElem_cons (by rw [data_length]; exact hi)]
        rfl
      by_cases hb : (s[a]'hi == 71) = true
      · have : nxt s a = a := by unfold nxt; rw [hd]; simp only [skip, if_pos hb, Nat.add_zero]
        rw [this]
      · have hn : nxt s a = nxt s (a + 1) := by unfold nxt; rw [hd]; simp only [skip, if_neg hb]; omega
        rw [hn, ih (a + 1) (by omega) (by omega)]
        refine (pcs_none hi ?_).symm
        cases hf : fr s a with
        | none => rfl
        | some r =>
          obtain ⟨n, m⟩ := r
          have := fr_byte hi hf
          exact absurd (beq_iff_eq.2 (UInt8.toNat_inj.1 this)) hb
    · have := nxt_le s a ha
      rw [show nxt s a = a by omega]
theorem pcs_next (s : ByteArray) (a : Nat) (h : a ≤ s.size) : pcs s (nxt s a) = pcs s a := pcs_nxt s _ a (Nat.le_refl _) h
/-- the message and the size that at tells -/
def atP (s : ByteArray) (i : Nat) : Nat × M := match fr s i with | none => (0, zeroM) | some r => r
theorem drop_bytesOf (s : ByteArray) (i : Nat) (hi : i ≤ s.size) : bytesOf (s.extract i s.size) = (bytesOf s).drop i := by
  unfold bytesOf
  rw [extract_list, List.map_drop]
theorem numR_at (s : ByteArray) (i : Nat) : RefDec.numR (bytesOf s) (i + 16) 4 = bodyN ((bytesOf s).drop i) ∧ 0 ≤ bodyN ((bytesOf s).drop i) := by
  have hb := byt_take (byt_drop (byt_at s i) 16) 4
  have h0 := val_nonneg _ hb
  have h1 := val_lt _ hb
  have h2 : ((((bytesOf s).drop i).drop 16).take 4).length ≤ 4 := by rw [List.length_take]; omega
  have h4 : ∀ n : Nat, n ≤ 4 → (256 : Int) ^ n ≤ 4294967296 := by
    intro n hn
    have : n = 0 ∨ n = 1 ∨ n = 2 ∨ n = 3 ∨ n = 4 := by omega
    rcases this with e | e | e | e | e <;> subst e <;> decide
  have h3 := h4 _ h2
  have e : bodyN ((bytesOf s).drop i) = val ((((bytesOf s).drop i).drop 16).take 4) := rfl
  refine ⟨?_, by rw [e]; exact h0⟩
  unfold RefDec.numR
  rw [e]
  rw [List.drop_drop] at h1 h3 ⊢
  rw [if_neg (by omega)]
theorem at_any (s : ByteArray) (i : Nat) (w : World) (hi : i < s.size) (hmx : s.size ≤ 9223372036854775807) (hR : RefF.RTab w) : Calls Tryd.prog 50 #[.string s, .int .i64 (i : Nat)] w (RefAt.TellA ((atP s i).1 : Nat) (atP s i).2 w) := by
  have hlen : ((bytesOf s).drop i).length = s.size - i := by rw [List.length_drop, bytesOf_length]
  obtain ⟨hN, hN0⟩ := numR_at s i
  by_cases c1 : s.size - i < 24
  · have e : atP s i = (0, zeroM) := by
      unfold atP fr frm
      rw [if_neg (by omega)]
    rw [e]
    exact RefAt.at_short s i w hi hmx c1
  by_cases c2 : (s[i]'hi).toNat = 71
  case neg =>
    have e : atP s i = (0, zeroM) := by
      unfold atP
      cases hf : fr s i with
      | none => rfl
      | some r => obtain ⟨n, m⟩ := r; exact absurd (fr_byte hi hf) c2
    rw [e]
    exact RefAt.at_byte s i w hi hmx (by omega) c2
  obtain ⟨N, hNN⟩ : ∃ N : Nat, bodyN ((bytesOf s).drop i) = (N : Int) := ⟨(bodyN ((bytesOf s).drop i)).toNat, by omega⟩
  rw [hNN] at hN
  by_cases c3 : 4383 < N
  · have e : atP s i = (0, zeroM) := by
      unfold atP fr frm
      rw [if_neg (by omega)]
    rw [e]
    exact RefAt.at_long s i w hi hmx (by omega) c2 N hN c3
  by_cases c4 : s.size - i < 24 + N
  · have e : atP s i = (0, zeroM) := by
      unfold atP fr frm
      rw [if_neg (by omega)]
    rw [e]
    exact RefAt.at_over s i w hi hmx (by omega) c2 N hN (by omega) c4
  have hto : (24 + bodyN ((bytesOf s).drop i)).toNat = 24 + N := by omega
  generalize hr : decP (((bytesOf s).drop i).take (24 + N)) = r
  obtain ⟨m, x⟩ := r
  by_cases c5 : x = 0
  · subst c5
    have e : atP s i = (24 + N, m) := by
      unfold atP fr frm
      rw [hto, hr, if_pos ⟨by omega, by omega, by omega, rfl⟩]
    rw [e]
    exact RefAt.at_ok s i w hi hmx (by omega) c2 N hN (by omega) (by omega) hR m hr
  · have e : atP s i = (0, zeroM) := by
      unfold atP fr frm
      rw [hto, hr, if_neg (fun h => c5 h.2.2.2)]
    rw [e]
    exact RefAt.at_bad s i w hi hmx (by omega) c2 N hN (by omega) (by omega) hR m x hr c5
end Go.Proofs.YtnifgokjagahfaaDoor.SplitPure

/- Pieces in memory; appending to a list of them. -/
set_option linter.unusedVariables false
set_option linter.unusedSimpArgs false
namespace Go.Proofs.YtnifgokjagahfaaDoor.Pcs
open Go.RowKit Go.Proofs.YtnifgokjagahfaaDoorW.PrintWords Go.Proofs.YtnifgokjagahfaaDoorW.PrintLast Go.Proofs.YtnifgokjagahfaaDoorW.PrintMore
open Go.Proofs.YtnifgokjagahfaaDoor.Base Go.Proofs.YtnifgokjagahfaaDoor.App Go.Proofs.YtnifgokjagahfaaDoor.Layouts Go.Proofs.YtnifgokjagahfaaDoor.Msg Go.Proofs.YtnifgokjagahfaaDoor.Mids Go.Proofs.YtnifgokjagahfaaDoor.SplitPure
/-- a piece's cells -/
def pL (p : Pc) : List Value := .int .i64 (p.1 : Nat) :: .int .i64 (p.2.1 : Nat) :: mL p.2.2
def psL (l : List Pc) : List Value := l.flatMap pL
theorem pL_length (p : Pc) : (pL p).length = 13 := rfl
theorem psL_length (l : List Pc) : (psL l).length = l.length * 13 := by
  induction l with
  | nil => rfl
  | cons p l ih => unfold psL at ih ⊢; rw [List.flatMap_cons, List.length_append, ih, pL_length, List.length_cons]; omega
theorem psL_snoc (l : List Pc) (p : Pc) : psL (l ++ [p]) = psL l ++ pL p := by simp [psL]
theorem pL_one (p : Pc) : ∀ u ∈ pL p, u.oneCell' = true := by simp [pL, mL, Value.oneCell']
theorem pL_all (p : Pc) : (pL p).toArray.all (·.oneCell') = true := all_oneCell_toArray (pL_one p)
theorem infoP : (Tryd.prog.info? 44).map (fun i => (i.zero, i.size, i.bytes)) = some (some (.agg #[.int .i64 0, .int .i64 0, .int .i64 0, .int .i64 0, .int .i64 0, .int .i64 0, .int .i64 0, .int .i64 0, .int .i64 0, .int .i64 0, .int .i64 0, .string { data := #[] }, .string { data := #[] }]), 13, 120) := by kernel_rfl
section
variable {P : Program} {ops : Array Oper} {rest : List Oper} {o : Oper} {a : Act} {Q : Exit → Act → World → Prop} {K : Act → World → Prop}
/-- append onto a slice of the call's own, elements of any size -/
theorem append_wp {w0 W : World} (base : Nat) (s x : Operand) (t e : TypeId) (z : Value) (size bytes : Nat)
    (ho : o.op = .call { callee := .builtin .append, args := #[s, x], argTypes := #[t, t] })
    (ht : P.underlying t = some (.slice e)) (hinfo : (P.info? e).map (fun i => (i.zero, i.size, i.bytes)) = some (some z, size, bytes)) (hz : z.cells.size = size) (hs0 : 0 < size) (hb0 : 0 < bytes)
    (v : Value) (n : Nat) (xs : List Value) (b m c : Nat) (ys : List Value) (hs : a.eval s = v) (hx : a.eval x = .slice (some ⟨b, 0, none⟩) m c) (hm : ys.length = m * size) (h1 : ∀ u ∈ ys, u.oneCell' = true)
    (hc : ∀ j u, ys[j]? = some u → W.cell? ⟨b, j, none⟩ = some u)
    (HO : W.ownsRow base e size v n xs) (HB : Below base w0 W) (hbase : base ≤ W.heap.size) (hl : (n + m) * bytes ≤ 140737488355328)
    (h : ∀ v1 w1, w1.ownsRow base e size v1 (n + m) (xs ++ ys) → Below base w0 w1 → W.grownBy w1 v.ownBlock → K (a.put o.dst v1) w1) :
    Oper.wp P o a W K Q := by
  obtain ⟨i0, hi, hzz⟩ := Option.map_eq_some_iff.1 hinfo
  simp only [Prod.mk.injEq] at hzz
  obtain ⟨hz0, hz1, hz2⟩ := hzz
  have hlen : n + m ≤ 140737488355328 := Nat.le_trans (Nat.le_mul_of_pos_right _ hb0) hl
  obtain ⟨v1, w1, hr, hown, hg, _⟩ := run_append_own (P := P) W base t o.type e i0 z size bytes ht hi hz0 hz1 hz2 hz hs0 v n xs HO ⟨b, 0, none⟩ m c ys hm
    (by intro j u hj; have := hc j u hj; have e : (⟨b, 0, none⟩ : Addr).add j = ⟨b, j, none⟩ := by unfold Addr.add; split <;> simp_all
        rw [e]; exact this) h1 (by simp only [maxLen]; omega) hl hbase
  unfold Oper.wp execOp
  simp only [ho, resolve, invoke, builtin, Sem.run_bind, Sem.run_pure, Result.andThen_ok, List.map_toArray, List.map_cons, List.map_nil, hs, hx, hr]
  exact h v1 w1 hown (HB.grown hg hbase (fun k hk => (HO.lt k hk).1)) hg
theorem gate_call {fn : Callee} {args : Array Operand} {ts : Array TypeId} {w : World} (_ho : o.op = .call { callee := fn, args := args, argTypes := ts }) (h : wpList P ops Q (o :: rest) a w) : wpList P ops Q (o :: rest) a w := h
theorem list_append_wide {w0 W : World} (base : Nat) (hgd : o.guard = none) (s x : Operand) (t e : TypeId) (z : Value) (size bytes : Nat)
    (ho : o.op = .call { callee := .builtin .append, args := #[s, x], argTypes := #[t, t] })
    (ht : P.underlying t = some (.slice e)) (hinfo : (P.info? e).map (fun i => (i.zero, i.size, i.bytes)) = some (some z, size, bytes)) (hz : z.cells.size = size) (hs0 : 0 < size) (hb0 : 0 < bytes)
    (v : Value) (n : Nat) (xs : List Value) (b m c : Nat) (ys : List Value) (hs : a.eval s = v) (hx : a.eval x = .slice (some ⟨b, 0, none⟩) m c) (hm : ys.length = m * size) (h1 : ∀ u ∈ ys, u.oneCell' = true)
    (hc : ∀ j u, ys[j]? = some u → W.cell? ⟨b, j, none⟩ = some u)
    (HO : W.ownsRow base e size v n xs) (HB : Below base w0 W) (hbase : base ≤ W.heap.size) (hl : (n + m) * bytes ≤ 140737488355328)
    (h : ∀ v1 w1, w1.ownsRow base e size v1 (n + m) (xs ++ ys) → Below base w0 w1 → W.grownBy w1 v.ownBlock → wpList P ops Q rest (a.put o.dst v1) w1) :
    wpList P ops Q (o :: rest) a W :=
  wpList_plain hgd fun _ hK => append_wp base s x t e z size bytes ho ht hinfo hz hs0 hb0 v n xs b m c ys hs hx hm h1 hc HO HB hbase hl (fun v1 w1 a b c => hK _ _ (h v1 w1 a b c))
end
/-- a piece as a value -/
def pV (a b : Int) (m : M) : Array Value := (.int .i64 a :: .int .i64 b :: mL m).toArray
theorem built_piece (a b : Int) (m : M) : Tryd.prog.built 44 [(0, .int .i64 a), (1, .int .i64 b), (2, .agg (mL m).toArray)] = some (pV a b m) := by kernel_rfl
theorem run_buildP (w : World) (a b : Int) (m : M) : (Instr.build 44 #[(0, .int .i64 a), (1, .int .i64 b), (2, .agg (mL m).toArray)]).run Tryd.prog w = .ok (.agg (pV a b m)) w := run_build w _ _ _ (built_piece a b m)
theorem run_oneP (w : World) (a b : Int) (m : M) : (Instr.buildSlice 38 1 #[(0, .agg (pV a b m))]).run Tryd.prog w = .ok (.slice (some ⟨w.heap.size, 0, none⟩) 1 1) (w.alloc (.cells (pV a b m) 44)) := by
  obtain ⟨i0, hi, hzz⟩ := Option.map_eq_some_iff.1 infoP
  simp only [Prod.mk.injEq] at hzz
  obtain ⟨hz0, hz1, hz2⟩ := hzz
  refine run_buildSlice w _ _ 1 _ (pV a b m) i0 _ Tryd.underlying38 hi hz0 ?_ ?_ ?_
  · rw [hz1]; decide
  · rw [hz1]; decide
  · rw [hz1]; kernel_rfl
section
variable {ops : Array Oper} {rest : List Oper} {o : Oper} {act : Act} {Q : Exit → Act → World → Prop} {w : World}
theorem list_buildP (hg : o.guard = none) (x y z : Tmp) (ho : o.op = .build 44 #[(0, .tmp x), (1, .tmp y), (2, .tmp z)]) (a b : Int) (m : M)
    (hx : act.eval (.tmp x) = .int .i64 a) (hy : act.eval (.tmp y) = .int .i64 b) (hz : act.eval (.tmp z) = .agg (mL m).toArray)
    (h : wpList Tryd.prog ops Q rest (act.put o.dst (.agg (pV a b m))) w) : wpList Tryd.prog ops Q (o :: rest) act w := by
  refine wpList_plain hg fun K hK => ?_
  unfold Oper.wp execOp
  simp only [ho, List.map_toArray, List.map_cons, List.map_nil, hx, hy, hz, Sem.run_bind, run_buildP, Result.andThen_ok]
  exact hK _ _ h
theorem list_oneP (hg : o.guard = none) (x : Tmp) (ho : o.op = .buildSlice 38 1 #[(0, .tmp x)]) (a b : Int) (m : M) (hx : act.eval (.tmp x) = .agg (pV a b m))
    (h : wpList Tryd.prog ops Q rest (act.put o.dst (.slice (some ⟨w.heap.size, 0, none⟩) 1 1)) (w.alloc (.cells (pV a b m) 44))) : wpList Tryd.prog ops Q (o :: rest) act w := by
  refine wpList_plain hg fun K hK => ?_
  unfold Oper.wp execOp
  simp only [ho, List.map_toArray, List.map_cons, List.map_nil, hx, Sem.run_bind, run_oneP, Result.andThen_ok]
  exact hK _ _ h
theorem gate_build {t : TypeId} {parts : Array (Nat × Operand)} (_ho : o.op = .build t parts) (h : wpList Tryd.prog ops Q (o :: rest) act w) : wpList Tryd.prog ops Q (o :: rest) act w := h
theorem gate_buildSlice {t : TypeId} {n : Nat} {parts : Array (Nat × Operand)} (_ho : o.op = .buildSlice t n parts) (h : wpList Tryd.prog ops Q (o :: rest) act w) : wpList Tryd.prog ops Q (o :: rest) act w := h
end
theorem own_later {w w' : World} {base : Nat} {e : TypeId} {size : Nat} {v : Value} {n : Nat} {xs : List Value} (h : w.ownsRow base e size v n xs) (hb : Below w.heap.size w w') : w'.ownsRow base e size v n xs :=
  h.kept (row := none) ⟨hb.os, hb.tape, hb.output, hb.size, fun k hk _ => hb.block k hk⟩ (by cases v.ownBlock <;> simp)
end Go.Proofs.YtnifgokjagahfaaDoor.Pcs

/- == of messages. -/
set_option linter.unusedVariables false
set_option linter.unusedSimpArgs false
namespace Go.Proofs.YtnifgokjagahfaaDoor.EqM
open Go.RowKit Go.Proofs.YtnifgokjagahfaaDoorW.PrintWords Go.Proofs.YtnifgokjagahfaaDoorW.PrintLast Go.Proofs.YtnifgokjagahfaaDoorW.PrintMore
open Go.Proofs.YtnifgokjagahfaaDoor.Base Go.Proofs.YtnifgokjagahfaaDoor.Layouts Go.Proofs.YtnifgokjagahfaaDoor.Msg
def bM (a b : M) : Bool := a.kind == b.kind && (a.from_ == b.from_ && (a.to_ == b.to_ && (a.id == b.id && (a.epoch == b.epoch && (a.seq == b.seq && (a.version == b.version && (a.prev == b.prev && (a.code == b.code && (a.key.toList == b.key.toList && ((a.value.toList == b.value.toList)))))))))))
theorem bM_iff (a b : M) : bM a b = true ↔ a = b := by
  have hs : ∀ x y : ByteArray, (x.toList == y.toList) = true ↔ x = y := by
    intro x y
    rw [beq_iff_eq, ByteArray.toList_eq, ByteArray.toList_eq]
    constructor
    · intro h
      apply ByteArray.ext
      exact Array.ext' h
    · rintro rfl; rfl
  unfold bM
  simp only [Bool.and_eq_true, beq_iff_eq]
  have hk := hs a.key b.key
  have hv := hs a.value b.value
  rw [beq_iff_eq] at hk hv
  rw [hk, hv]
  cases a; cases b
  simp
set_option maxHeartbeats 4000000 in
theorem eqA (d : Nat) (w : World) (a b : M) : (Op.equalIn (d + 2) 24 (.agg (mL a).toArray) (.agg (mL b).toArray)).run Tryd.prog w = .ok (bM a b) w := by
  unfold mL bM
  refine eqA_of Tryd.underlying24 (by kernel_rfl) ?_
  refine eqf_cons (by rfl) (by go_simp; rfl) (by go_simp; rfl) (by go_simp) ?_
  refine eqf_cons (by rfl) (by go_simp; rfl) (by go_simp; rfl) (by go_simp) ?_
  refine eqf_cons (by rfl) (by go_simp; rfl) (by go_simp; rfl) (by go_simp) ?_
  refine eqf_cons (by rfl) (by go_simp; rfl) (by go_simp; rfl) (by go_simp) ?_
  refine eqf_cons (by rfl) (by go_simp; rfl) (by go_simp; rfl) (by go_simp) ?_
  refine eqf_cons (by rfl) (by go_simp; rfl) (by go_simp; rfl) (by go_simp) ?_
  refine eqf_cons (by rfl) (by go_simp; rfl) (by go_simp; rfl) (by go_simp) ?_
  refine eqf_cons (by rfl) (by go_simp; rfl) (by go_simp; rfl) (by go_simp) ?_
  refine eqf_cons (by rfl) (by go_simp; rfl) (by go_simp; rfl) (by go_simp) ?_
  refine eqf_cons (by rfl) (by go_simp; rfl) (by go_simp; rfl) (by go_simp) ?_
  exact eqf_last (by rfl) (by go_simp; rfl) (by go_simp; rfl) (by go_simp)
theorem eqM (w : World) (a b : M) : (binOp .eql 24 (.agg (mL a).toArray) (.agg (mL b).toArray)).run Tryd.prog w = .ok (.bool (bM a b)) w := by
  rw [run_eql_struct, eqA 9998 w a b]
  rfl
theorem neM (w : World) (a b : M) : (binOp .neq 24 (.agg (mL a).toArray) (.agg (mL b).toArray)).run Tryd.prog w = .ok (.bool (!bM a b)) w := by
  rw [run_neq_struct, eqA 9998 w a b]
  rfl
theorem bM_same (a : M) : bM a a = true := (bM_iff a a).2 rfl
end Go.Proofs.YtnifgokjagahfaaDoor.EqM

/- FrameDecodes: the program's Decode and the document's answer alike. -/
set_option linter.unusedVariables false
set_option linter.unusedSimpArgs false
namespace Go.Proofs.YtnifgokjagahfaaDoor.LawDec
open Go.RowKit Go.Proofs.YtnifgokjagahfaaDoorW.PrintWords Go.Proofs.YtnifgokjagahfaaDoorW.PrintLast Go.Proofs.YtnifgokjagahfaaDoorW.PrintMore
open Go.Proofs.YtnifgokjagahfaaDoor.Base Go.Proofs.YtnifgokjagahfaaDoor.App Go.Proofs.YtnifgokjagahfaaDoor.Layouts Go.Proofs.YtnifgokjagahfaaDoor.Msg Go.Proofs.YtnifgokjagahfaaDoor.Put Go.Proofs.YtnifgokjagahfaaDoor.EncPure Go.Proofs.YtnifgokjagahfaaDoor.DecPure Go.Proofs.YtnifgokjagahfaaDoor.RefSum Go.Proofs.YtnifgokjagahfaaDoor.Mids Go.Proofs.YtnifgokjagahfaaDoor.Enc Go.Proofs.YtnifgokjagahfaaDoor.RefF Go.Proofs.YtnifgokjagahfaaDoor.RefDec Go.Proofs.YtnifgokjagahfaaDoor.EqM
open Go.Proofs.YtnifgokjagahfaaDoor.Dec (mL_one)
attribute [local go_sem high] eqA
def pingM : M := ⟨1, 64, 3, 1, 0, 0, 0, 0, 0, ByteArray.empty, ByteArray.empty⟩
theorem ping_valid : vB pingM = true := by decide
theorem ping_kind : 1 ≤ pingM.kind ∧ pingM.kind < 17 := by decide
theorem zeros_new (W : World) (m : M) : MBox ((W.alloc (.cells #[.int .i64 0, .int .i64 0, .int .i64 0, .int .i64 0, .int .i64 0, .int .i64 0, .int .i64 0, .int .i64 0, .int .i64 0, .string { data := #[] }, .string { data := #[] }] 24)).setCells W.heap.size 0 (mL m)) W.heap.size m :=
  ⟨setCells_whole (old := mL zeroM) (Go.heap_alloc_new W _) rfl, by rw [setCells_size]; simp⟩
theorem zeros_there (W : World) : (W.alloc (.cells #[.int .i64 0, .int .i64 0, .int .i64 0, .int .i64 0, .int .i64 0, .int .i64 0, .int .i64 0, .int .i64 0, .int .i64 0, .string { data := #[] }, .string { data := #[] }] 24)).there W.heap.size 0 11 :=
  blk_there (cs := mL zeroM) (Go.heap_alloc_new W _)
theorem zeros_below (W : World) (m : M) : Below W.heap.size W ((W.alloc (.cells #[.int .i64 0, .int .i64 0, .int .i64 0, .int .i64 0, .int .i64 0, .int .i64 0, .int .i64 0, .int .i64 0, .int .i64 0, .string { data := #[] }, .string { data := #[] }] 24)).setCells W.heap.size 0 (mL m)) :=
  below_setCells ((Below.refl _ _).alloc (Nat.le_refl _) _) (Nat.le_refl _) _ _
set_option maxRecDepth 100000 in
set_option maxHeartbeats 8000000 in
theorem law_decodes (s : ByteArray) (w : World) (hsz : s.size ≤ 9223372036854775807) (hN : Crc.Nibs w) (hR : RTab w) : Calls Tryd.prog 4 #[.string s] w fun e w' => e = .returned (.bool true) ∧ Below w.heap.size w w' := by
  have HN := Aside0.mk hN
  have HR := Aside0.mk hR
  have hk1 := renc_any pingM w hR ⟨by decide, by decide⟩
  rw [encP_of pingM ping_kind ping_valid] at hk1
  have K1 := Lib.hid (show Calls Tryd.prog 14 #[.agg #[.int .i64 1, .int .i64 64, .int .i64 3, .int .i64 1, .int .i64 0, .int .i64 0, .int .i64 0, .int .i64 0, .int .i64 0, .string { data := #[] }, .string { data := #[] }]] w _ from hk1)
  have K2 : ∀ (w : World), Crc.Nibs w → Hid (Calls Tryd.prog 16 #[.string (strOfNums (whole pingM))] w fun e w' => e = .returned (.tuple #[.agg #[.int .i64 1, .int .i64 64, .int .i64 3, .int .i64 1, .int .i64 0, .int .i64 0, .int .i64 0, .int .i64 0, .int .i64 0, .string { data := #[] }, .string { data := #[] }], .int .i64 0]) ∧ Below w.heap.size w w') := by
    intro w hN
    have h := Dec.dec_any (strOfNums (whole pingM)) w (by rw [strOfNums_size, whole_length]; decide) hN
    rw [bytesOf_strOfNums _ (byt_whole _ ping_kind), dec_whole pingM ping_valid ping_kind] at h
    exact Lib.hid h
  have K3 := fun (w : World) hN => Lib.hid (Dec.dec_any s w hsz hN)
  have K4 := fun (w : World) hR => Lib.hid (rdec_any s w hsz hR)
  generalize decP (bytesOf s) = r at K3 K4
  obtain ⟨ma, k⟩ := r
  simp only at K3 K4
  generalize strOfNums (whole pingM) = PS at K1 K2
  have HB0 := Aside0.mk (Below.refl w.heap.size w)
  clear hN hR hk1
  go_enter Tryd.func4, Tryd.ntmps4
  go_wp2_with fail
  refine K1.out.mono ?_
  rintro e w1 ⟨rfl, hb⟩
  have HB1 := Aside0.mk hb
  clear hb
  go_wp2_with fail
  refine (K2 w1 (HN.out.below HB1.out)).out.mono ?_
  rintro e w2 ⟨rfl, hb⟩
  have HB2 := Aside0.mk ((HB1.out.trans (hb.mono HB1.out.size)).alloc (by have := HB1.out.size; have := hb.size; omega) (.cells #[.int .i64 1, .int .i64 64, .int .i64 3, .int .i64 1, .int .i64 0, .int .i64 0, .int .i64 0, .int .i64 0, .int .i64 0, .string { data := #[] }, .string { data := #[] }] 24))
  clear hb K1 K2
  go_wp2_with (go_at_call 15; refine (num_any _ _).mono ?_; rintro e w' ⟨rfl, rfl⟩)
  refine (K3 _ (HN.out.below HB2.out)).out.mono ?_
  rintro e w3 ⟨rfl, hb⟩
  have HB3 := Aside0.mk (HB2.out.trans (hb.mono HB2.out.size))
  clear hb K3 HB2 HB1
  have hth := zeros_there w3
  have HM4 := Aside0.mk (zeros_new w3 ma)
  have HB4 := Aside0.mk (HB3.out.trans ((zeros_below w3 ma).mono HB3.out.size))
  go_upto_region 6 with ((with_reducible refine gate_store (ty := 24) (x := .tmp 7) (y := .tmp 47) rfl ?_); refine wpList_store_mid rfl 24 (.tmp 7) (.tmp 47) rfl w3.heap.size 0 (mL ma).toArray rfl rfl hth infoM (mL_one ma) ?_)
  clear hth HB3
  generalize hw4 : (w3.alloc (.cells #[.int .i64 0, .int .i64 0, .int .i64 0, .int .i64 0, .int .i64 0, .int .i64 0, .int .i64 0, .int .i64 0, .int .i64 0, .string { data := #[] }, .string { data := #[] }] 24)).setCells w3.heap.size 0 (mL ma) = w4 at HM4 HB4 ⊢
  generalize w3.heap.size = g4 at HM4 hw4 ⊢
  clear hw4
  go_wp2_with fail
  refine (K4 _ (HR.out.below HB4.out)).out.mono ?_
  rintro e w5 ⟨rfl, hb⟩
  have HM5 := Aside0.mk (HM4.out.below hb HM4.out.lt)
  have HB5 := Aside0.mk (HB4.out.trans (hb.mono HB4.out.size))
  clear hb K4 HB4 HM4
  have hth := zeros_there w5
  have HM6 := Aside0.mk (zeros_new w5 ma)
  have HM7 := Aside0.mk (HM5.out.below (zeros_below w5 ma) HM5.out.lt)
  have HB6 := Aside0.mk (HB5.out.trans ((zeros_below w5 ma).mono HB5.out.size))
  go_upto_region 7 with ((with_reducible refine gate_store (ty := 24) (x := .tmp 9) (y := .tmp 52) rfl ?_); refine wpList_store_mid rfl 24 (.tmp 9) (.tmp 52) rfl w5.heap.size 0 (mL ma).toArray rfl rfl hth infoM (mL_one ma) ?_)
  clear hth HB5 HM5
  generalize hw6 : (w5.alloc (.cells #[.int .i64 0, .int .i64 0, .int .i64 0, .int .i64 0, .int .i64 0, .int .i64 0, .int .i64 0, .int .i64 0, .int .i64 0, .string { data := #[] }, .string { data := #[] }] 24)).setCells w5.heap.size 0 (mL ma) = w6 at HM6 HM7 HB6 ⊢
  generalize w5.heap.size = g6 at HM6 hw6 ⊢
  clear hw6
  have hrg4 := blk_range HM7.out.row
  have hrg6 := blk_range HM6.out.row
  have heq := bM_same ma
  go_wp2_with (first | ((with_reducible refine gate_load (ty := 24) (x := .tmp 7) rfl ?_); refine wpList_load_mid rfl 24 (.tmp 7) rfl g4 0 rfl (mL ma) _ hrg4 Tryd.underlying24 rfl infoM ?_) | ((with_reducible refine gate_load (ty := 24) (x := .tmp 9) rfl ?_); refine wpList_load_mid rfl 24 (.tmp 9) rfl g6 0 rfl (mL ma) _ hrg6 Tryd.underlying24 rfl infoM ?_))
  refine (num_any _ _).mono ?_
  rintro e w' ⟨rfl, rfl⟩
  go_wp2
  go_ret
  exact ⟨rfl, HB6.out⟩
end Go.Proofs.YtnifgokjagahfaaDoor.LawDec
