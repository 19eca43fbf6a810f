/- Joined texts of this claim: Enc, EncAny, EqM, CutsF -/
import Derived.Test.YtnifgokjagahfaaDoorJFStr0
import Derived.Test.YtnifgokjagahfaaDoorJFStr5
import Derived.Test.YtnifgokjagahfaaDoorJFStr1
import Derived.Lib.AppendStr
import Derived.Lib.SlBytesConst
import Derived.Deep.DeepCutAuto
import Derived.Test.YtnifgokjagahfaaDoorWEqStruct
import Derived.Test.YtnifgokjagahfaaDoorJFStr3
/- Encode of the frame package. -/
set_option linter.unusedVariables false
set_option linter.unusedSimpArgs false
namespace Go.Proofs.YtnifgokjagahfaaDoor.Enc
open Go.RowKit Go.Proofs.YtnifgokjagahfaaDoorW.PrintWords Go.Proofs.YtnifgokjagahfaaDoorW.PrintLast Go.Proofs.YtnifgokjagahfaaDoorW.PrintMore
open Go.Proofs.YtnifgokjagahfaaDoor.Base Go.Proofs.YtnifgokjagahfaaDoor.App Go.Proofs.YtnifgokjagahfaaDoor.Layouts Go.Proofs.YtnifgokjagahfaaDoor.Msg Go.Proofs.YtnifgokjagahfaaDoor.Put Go.Proofs.YtnifgokjagahfaaDoor.EncPure Go.Proofs.YtnifgokjagahfaaDoor.DecPure
section
variable {P : Program} {ops : Array Oper} {rest : List Oper} {o : Oper} {a : Act} {Q : Exit → Act → World → Prop}
/-- append to a full row that is only read: it grows -/
theorem list_append_full {w0 W : World} (base : Nat) (hgd : o.guard = none) (s x : Operand) (t e : TypeId) (z : Value) (bytes : Nat)
    (ho : o.op = .call { callee := .builtin .append, args := #[s, x], argTypes := #[t, t] })
    (ht : P.underlying t = some (.slice e)) (hinfo : (P.info? e).map (fun i => (i.zero, i.size, i.bytes)) = some (some z, 1, bytes)) (hz : z.cells.size = 1) (hb0 : 0 < bytes)
    (b0 n : Nat) (xs : List Value) (b m c : Nat) (ys : List Value) (hs : a.eval s = .slice (some ⟨b0, 0, none⟩) n n) (hxl : xs.length = n) (hcx : ∀ j u, xs[j]? = some u → W.cell? ⟨b0, j, none⟩ = some u)
    (hx : a.eval x = .slice (some ⟨b, 0, none⟩) m c) (hm : ys.length = m) (hm0 : 0 < m)
    (hc : ∀ j u, ys[j]? = some u → W.cell? ⟨b, j, none⟩ = some u)
    (HB : Below base w0 W) (hbase : base ≤ W.heap.size) (hl : (n + m) * bytes ≤ 140737488355328)
    (h : ∀ v1 w1, w1.ownsRow base e 1 v1 (n + m) (xs ++ ys) → Below base w0 w1 → w1.heap.size = W.heap.size + 1 → wpList P ops Q rest (a.put o.dst v1) w1) :
    wpList P ops Q (o :: rest) a W := by
  obtain ⟨i0, hi, hzz⟩ := Option.map_eq_some_iff.1 hinfo
  simp only [Prod.mk.injEq] at hzz
  obtain ⟨hz0, hz1, hz2⟩ := hzz
  have hlen : n + m ≤ 140737488355328 := Nat.le_trans (Nat.le_mul_of_pos_right _ hb0) hl
  have add : ∀ b j : Nat, (⟨b, 0, none⟩ : Addr).add j = ⟨b, j, none⟩ := by
    intro b j; unfold Addr.add; split <;> simp_all
  have hr := run_append_grow (P := P) W t o.type e i0 z ht hi hz0 ⟨b0, 0, none⟩ n n xs (by rw [hz1, Nat.mul_one]; exact hxl) (by intro j v hj; rw [add]; exact hcx j v hj) ⟨b, 0, none⟩ m c ys (by rw [hz1, Nat.mul_one]; exact hm) (by intro j v hj; rw [add]; exact hc j v hj) (by omega) (by omega) (growslice_fits (by omega) (by rw [hz2]; exact hl))
  have hge := grownCap_ge W (n + m) n e
  have hcm : grownCap W (n + m) n e ≤ maxLen := grownCap_le_maxLen W (n + m) n e (by simp only [maxLen]; omega)
  have hxy : (xs ++ ys).length = (n + m) * 1 := by rw [List.length_append, hxl, hm, Nat.mul_one]
  refine wpList_plain hgd fun K hK => ?_
  unfold Oper.wp execOp
  simp only [ho, resolve, invoke, builtin, Sem.run_bind, Sem.run_pure, Result.andThen_ok, List.map_toArray, List.map_cons, List.map_nil, hs, hx, hr]
  refine hK _ _ (h _ _ ⟨hxy, .inr ⟨W.heap.size, _, _, rfl, hbase, heap_alloc_new W.drew _, hge, hcm, ?_, ?_⟩⟩ ((HB.trans (Below.drew (Below.refl _ W) |>.mono hbase)).alloc hbase _) (by simp))
  · simp only [Array.size_append, List.size_toArray, size_zeroCells, hz, hxl, hm]; omega
  · simp only [Array.toList_append, List.append_assoc]
    rw [← List.append_assoc, ← hxy]
    exact List.take_left
end
/-- layouts, its rows told as blocks -/
theorem layouts_rows (w : World) : Calls Tryd.prog 37 #[] w fun e w' => e = .returned (.slice (some ⟨w.heap.size + 16, 0, none⟩) 17 17) ∧ Lay w' w.heap.size ∧ Below w.heap.size w w' ∧ w.heap.size + 17 ≤ w'.heap.size ∧ ∀ k, k < 16 → w'.heap[w.heap.size + k]? = some (rowOf (fieldsOf (k + 1))) := by
  refine (layouts_any w).mono ?_
  rintro e w' ⟨rfl, rfl⟩
  exact ⟨rfl, lay_of w, allocs_below _ _, by rw [allocs_size, objs_length]; exact Nat.le_refl _, fun k hk => by rw [allocs_new _ _ _ (by rw [objs_length]; omega), objs_row _ _ hk]⟩
/-- the state of Encode's loop -/
structure EInv (w w2 wr : World) (m : M) (q : Nat) (fs : List Nat) (bv : Value) (j : Nat) : Prop where mk ::
  (own : wr.ownsRow w2.heap.size 5 1 bv (20 + (bodyB m (fs.take j)).length) (nums .u8 (headB m ++ be 0 4 ++ bodyB m (fs.take j))))
  (msg : MBox wr w.heap.size m) (row : wr.heap[q]? = some (rowOf fs)) (bel : Below w2.heap.size w2 wr)
theorem rowOf_cell {w : World} {q : Nat} {fs : List Nat} (h : w.heap[q]? = some (rowOf fs)) (j n : Nat) (hj : fs[j]? = some n) : w.cell? ⟨q, j, none⟩ = some (.int .u8 (n : Nat)) := by
  rw [blk_cell h j, List.getElem?_toArray, List.getElem?_map, hj]; rfl
theorem keep_row {w w1 : World} {q : Nat} {fs : List Nat} (h : w.heap[q]? = some (rowOf fs)) (hk : KeepTy 5 w w1) : w1.heap[q]? = some (rowOf fs) := hk.2 _ _ _ _ (by decide) h
theorem keep_msg {w w1 : World} {g : Nat} {m : M} (h : MBox w g m) (hk : KeepTy 5 w w1) : MBox w1 g m := ⟨hk.2 _ _ _ _ (by decide) h.row, Nat.lt_of_lt_of_le h.lt hk.1⟩
theorem body_snoc (m : M) (fs : List Nat) (j n : Nat) (h : fs[j]? = some n) : bodyB m (fs.take (j + 1)) = bodyB m (fs.take j) ++ fieldB m n := by
  rw [List.take_add_one, h]; simp [bodyB]
theorem strCells_nums (s : ByteArray) : Lib.strCells s = nums .u8 (bytesOf s) := by
  unfold Lib.strCells nums bytesOf
  rw [List.map_map]; rfl
theorem body_take_le (m : M) (fs : List Nat) (j : Nat) : (bodyB m (fs.take j)).length ≤ (bodyB m fs).length := by
  have e : bodyB m fs = bodyB m (fs.take j) ++ bodyB m (fs.drop j) := by
    unfold bodyB
    rw [← List.flatMap_append, List.take_append_drop]
  rw [e, List.length_append]
  omega
theorem EInv.next {w w2 wr w1 : World} {m : M} {q : Nat} {fs : List Nat} {bv v1 : Value} {j n : Nat} (h : EInv w w2 wr m q fs bv j) (hs : bodyB m (fs.take (j + 1)) = bodyB m (fs.take j) ++ fieldB m n)
    (hO : w1.ownsRow w2.heap.size 5 1 v1 (20 + (bodyB m (fs.take j)).length + (fieldB m n).length) (nums .u8 (headB m ++ be 0 4 ++ bodyB m (fs.take j) ++ fieldB m n)))
    (hm : MBox w1 w.heap.size m) (hr : w1.heap[q]? = some (rowOf fs)) (hb : Below w2.heap.size w2 w1) : EInv w w2 w1 m q fs v1 (j + 1) := by
  refine ⟨?_, hm, hr, hb⟩
  rw [hs, List.length_append, ← Nat.add_assoc, ← List.append_assoc]
  exact hO
theorem setTo_head (H a b : List Int) (k : Nat) (hH : H.length = k) (c : List Int) (hc : c.length = a.length) : setTo (nums .u8 (H ++ a ++ b)) k (nums .u8 c) = nums .u8 (H ++ c ++ b) := by
  unfold setTo
  have h1 : (nums .u8 (H ++ a ++ b)).take k = nums .u8 H := by
    rw [nums_append, nums_append, List.append_assoc]
    exact List.take_left' (by rw [nums_length]; exact hH)
  have h2 : (nums .u8 (H ++ a ++ b)).drop (k + (nums .u8 c).length) = nums .u8 b := by
    rw [nums_append]
    exact List.drop_left' (by rw [nums_length, nums_length, List.length_append]; omega)
  rw [h1, h2, nums_append, nums_append]
/-- what a field lays behind the row -/
theorem field_step {w1 : World} {b0 : Nat} {m : M} {n L : Nat} {v1 : Value} {X : List Int} (ht : textOf m n = [])
    (h : w1.ownsRow b0 5 1 v1 (L + wN n) (nums .u8 X ++ nums .u8 (be (numOf m n) (wN n)))) : w1.ownsRow b0 5 1 v1 (L + (fieldB m n).length) (nums .u8 (X ++ fieldB m n)) := by
  have e : fieldB m n = be (numOf m n) (wN n) := by unfold fieldB; rw [ht, List.append_nil]
  rw [e, be_length, nums_append]
  exact h
theorem field_step_text {w1 : World} {b0 : Nat} {m : M} {n L : Nat} {v1 : Value} {X : List Int} {t : ByteArray} (ht : textOf m n = bytesOf t)
    (h : w1.ownsRow b0 5 1 v1 (L + wN n + t.size) (nums .u8 X ++ nums .u8 (be (numOf m n) (wN n)) ++ Lib.strCells t)) : w1.ownsRow b0 5 1 v1 (L + (fieldB m n).length) (nums .u8 (X ++ fieldB m n)) := by
  have e : fieldB m n = be (numOf m n) (wN n) ++ bytesOf t := by unfold fieldB; rw [ht]
  rw [e, List.length_append, be_length, bytesOf_length, nums_append, nums_append, ← strCells_nums, ← Nat.add_assoc, ← List.append_assoc]
  exact h
set_option maxRecDepth 100000 in
set_option maxHeartbeats 8000000 in
theorem enc_good (m : M) (w : World) (hk : 1 ≤ m.kind ∧ m.kind < 17) (hv : vB m = true) (hN : Crc.Nibs w) :
    Calls Tryd.prog 13 #[.agg (mL m).toArray] w fun e w' => e = .returned (.tuple #[.string (strOfNums (frameB m) ++ sumS (strOfNums (frameB m))), .int .i64 0]) ∧ Below w.heap.size w w' := by
  have HB0 := Aside0.mk ((Below.refl w.heap.size w).alloc (Nat.le_refl _) (.cells (mL m).toArray 24))
  have HM0 : Aside0 (MBox (w.alloc (.cells (mL m).toArray 24)) w.heap.size m) := ⟨⟨Go.heap_alloc_new w _, by simp⟩⟩
  have HV := Aside0.mk hv
  have HK := Aside0.mk hk
  have HN := Aside0.mk hN
  have hc0 : (w.alloc (.cells (mL m).toArray 24)).cell? ⟨w.heap.size, 0, none⟩ = some (.int .i64 m.kind) := HM0.out.c 0
  clear hv hN
  go_enter Tryd.func13, Tryd.ntmps13
  go_wp2_with fail
  refine (known_yes m.kind _ hk).mono ?_
  rintro e w1 ⟨rfl, hb⟩
  have HM1 := Aside0.mk (HM0.out.below hb (by simp))
  have HB1 := Aside0.mk (HB0.out.trans (hb.mono HB0.out.size))
  clear hb hc0 HM0 HB0
  go_wp2_with fail
  refine (valid_any w.heap.size m w1 HM1.out hk).mono ?_
  rintro e w2 ⟨rfl, hb⟩
  have HM2 := Aside0.mk (HM1.out.below hb HM1.out.lt)
  have HB2 := Aside0.mk (HB1.out.trans (hb.mono HB1.out.size))
  clear hb HM1 HB1
  rw [HV.out]
  have hc0 : w2.cell? ⟨w.heap.size, 0, none⟩ = some (.int .i64 m.kind) := HM2.out.c 0
  have HZ2 := Aside0.mk HM2.out.lt
  have hcvt := Lib.run_convert_bytes_const (P := Tryd.prog) w2 82 5 [Value.int .u8 71, .int .u8 82, .int .u8 1].toArray 3 3 Tryd.underlying82 Tryd.underlying5
  have hs1 : (w2.alloc (.cells [Value.int .u8 71, .int .u8 82, .int .u8 1].toArray 5 (3, 4))).heap.size = w2.heap.size + 1 := by simp
  have hg71 : ∀ j u, [Value.int .u8 71, .int .u8 82, .int .u8 1][j]? = some u → (w2.alloc (.cells [Value.int .u8 71, .int .u8 82, .int .u8 1].toArray 5 (3, 4))).cell? ⟨w2.heap.size, j, none⟩ = some u := by
    intro j u hj
    rw [World.cell?_alloc_mark]; simpa using hj
  generalize hwa : (w2.alloc (.cells [Value.int .u8 71, .int .u8 82, .int .u8 1].toArray 5 (3, 4))) = wa at hcvt hs1 hg71
  have hnew := news wa [.int .u8 m.kind] 5
  have hold : ∀ j u, [Value.int .u8 71, .int .u8 82, .int .u8 1][j]? = some u → (wa.alloc (.cells [Value.int .u8 m.kind].toArray 5)).cell? ⟨w2.heap.size, j, none⟩ = some u := fun j u hj => (Lib.cell?_alloc_marked _ (hg71 j u hj))
  have HHS := Aside0.mk hs1
  have HWA : Aside0 (Below w2.heap.size w2 wa) := ⟨by rw [← hwa]; exact (Below.refl _ w2).alloc (Nat.le_refl _) _⟩
  have hcell1 : wa.cell? ⟨w.heap.size, 0, none⟩ = some (.int .i64 m.kind) := (World.cell?_of_block (HWA.out.block _ HM2.out.lt)).trans hc0
  have HNEW := Aside0.mk hnew
  have HOLD := Aside0.mk hold
  have hk2 := hk.2
  have hk1 := hk.1
  clear hs1 hg71 hwa hnew hold
  go_wp2_with (at_builtin; go_loud (refine list_append_full (P := Tryd.prog) (w0 := w2) w2.heap.size rfl (.tmp 19) (.tmp 23) 82 5 (.int .u8 0) 1 rfl Tryd.underlying82 info8 rfl (by decide) w2.heap.size 3 [.int .u8 71, .int .u8 82, .int .u8 1] wa.heap.size 1 1 [.int .u8 m.kind] rfl rfl HOLD.out rfl rfl (by decide) HNEW.out (HWA.out.alloc HWA.out.size _) ?hs ?hl ?_); (case hs => have := HHS.out; simp; omega); (case hl => decide); intro v1 w3 HO1 HB3 _; have HM3 := Aside0.mk (HM2.out.below HB3 HM2.out.lt); have hc1 : w3.cell? ⟨w.heap.size, 1, none⟩ = some (.int .i64 m.from_) := HM3.out.c 1; have HO3 := Aside0.mk HO1; have HBB3 := Aside0.mk HB3; clear HO1 HB3)
  clear hcvt hcell1 HNEW HOLD HWA hc0 HHS hk1 hk2 hk HM2
  have HF := Aside0.mk (vB_facts m HV.out)
  refine (put_own w2.heap.size v1 4 _ m.from_ 2 w3 HO3.out HBB3.out.size HF.out.1.1 (by have := HF.out.1.2; omega) (by decide) (by decide) (by decide)).mono ?_
  rintro e w4 ⟨v4, rfl, hO, hb, hk⟩
  have HO4 := Aside0.mk hO
  have HB4 := Aside0.mk (HBB3.out.trans hb)
  have HM4 := Aside0.mk (keep_msg HM3.out hk)
  have hc2 : w4.cell? ⟨w.heap.size, 2, none⟩ = some (.int .i64 m.to_) := HM4.out.c 2
  clear hO hb hk HO3 HBB3 HM3 hc1
  go_wp2_with fail
  refine (put_own w2.heap.size v4 _ _ m.to_ 2 w4 HO4.out HB4.out.size HF.out.2.1.1 (by have := HF.out.2.1.2; omega) (by decide) (by decide) (by decide)).mono ?_
  rintro e w5 ⟨v5, rfl, hO, hb, hk⟩
  have HO5 := Aside0.mk hO
  have HB5 := Aside0.mk (HB4.out.trans hb)
  have HM5 := Aside0.mk (keep_msg HM4.out hk)
  have hc3 : w5.cell? ⟨w.heap.size, 3, none⟩ = some (.int .i64 m.id) := HM5.out.c 3
  clear hO hb hk HO4 HB4 HM4 hc2
  go_wp2_with fail
  refine (put_own w2.heap.size v5 _ _ m.id 8 w5 HO5.out HB5.out.size HF.out.2.2.1.1 (by have := HF.out.2.2.1.2; omega) (by decide) (by decide) (by decide)).mono ?_
  rintro e w6 ⟨v6, rfl, hO, hb, hk⟩
  obtain ⟨g6, cap6, rfl⟩ := own_slice hO (by decide)
  have HO6 := Aside0.mk hO
  have HB6 := Aside0.mk (HB5.out.trans hb)
  have HM6 := Aside0.mk (keep_msg HM5.out hk)
  clear hO hb hk HO5 HB5 HM5 hc3
  go_wp2_with fail
  refine (put_own w2.heap.size _ _ _ 0 4 w6 HO6.out HB6.out.size (by decide) (by decide) (by decide) (by decide) (by decide)).mono ?_
  rintro e w7 ⟨v7, rfl, hO, hb, hk⟩
  have HO7 : Aside0 (w7.ownsRow w2.heap.size 5 1 v7 20 (nums .u8 (headB m ++ be 0 4))) := ⟨by
    unfold headB
    simp only [nums_append]
    exact hO⟩
  have HB7 := Aside0.mk (HB6.out.trans hb)
  have HM7 := Aside0.mk (keep_msg HM6.out hk)
  clear hO hb hk HO6 HB6 HM6
  obtain ⟨kk, hkk⟩ : ∃ kk : Nat, m.kind = (kk : Int) := ⟨m.kind.toNat, by have := HK.out; omega⟩
  have hk1 : 1 ≤ (kk : Int) := by have := HK.out.1; omega
  have hk2 : (kk : Int) < 17 := by have := HK.out.2; omega
  have hkl : kk < 17 := by omega
  have hk0 : kk ≠ 0 := by omega
  have HKK := Lib.hid hkk
  have hc0 : w7.cell? ⟨w.heap.size, 0, none⟩ = some (.int .i64 (kk : Int)) := by rw [← hkk]; exact HM7.out.c 0
  clear hkk
  go_upto_region 11 with fail
  go_cut [45, 46, 47] (fun v45 v46 v47 wx => ∃ q : Nat, v45 = .slice (some ⟨q, 0, none⟩) (fieldsOf kk).length (fieldsOf kk).length ∧ v46 = .int .i64 ((fieldsOf kk).length : Int) ∧ v47 = .int .i64 0 ∧ Aside0 (wx.heap[q]? = some (rowOf (fieldsOf kk))) ∧ Aside0 (Below w7.heap.size w7 wx))
  case first =>
    have hgl := HM7.out.lt
    have hidx0 : (0 : Int) ≤ (kk : Int) := by omega
    have HSL := Aside0.mk (show ∀ b, slOf b kk = .slice (some ⟨b + (kk - 1), 0, none⟩) (fieldsOf kk).length (fieldsOf kk).length from fun b => if_neg hk0)
    go_region_with ((go_at_call 37; refine (layouts_rows _).mono ?_; rintro e w8 ⟨rfl, hL, hb, hsz, hrw⟩; have hS3 := (hb.cell (p := ⟨w.heap.size, 0, none⟩) hgl).trans hc0; have ho3 : w8.cell? ⟨w7.heap.size + 16, kk, none⟩ = some (.slice (some ⟨w7.heap.size + (kk - 1), 0, none⟩) (fieldsOf kk).length (fieldsOf kk).length) := (hL.out kk hkl).trans (congrArg some (HSL.out _)); have HL3 := Aside0.mk hrw; have HB3 := Aside0.mk hb; clear hL hb hsz hrw))
    all_goals
      go_wp2_with fail
      go_meet
      refine ⟨w7.heap.size + (kk - 1), rfl, rfl, rfl, ⟨?_⟩, ⟨⟨HB3.out.os, HB3.out.tape, HB3.out.output, HB3.out.size, HB3.out.block⟩⟩⟩
      have := HL3.out (kk - 1) (by omega)
      rw [Nat.sub_add_cancel (by omega)] at this
      exact this
  case rest =>
    obtain ⟨q, rfl, rfl, rfl, HR, HBC⟩ := hcut
    have hEI : EInv w w2 wc m q (fieldsOf kk) v7 0 := by
      have hO8 := pw_own_below HO7.out HBC.out
      refine ⟨?_, HM7.out.below HBC.out HM7.out.lt, HR.out, HB7.out.trans (HBC.out.mono HB7.out.size)⟩
      have e0 : bodyB m ((fieldsOf kk).take 0) = [] := rfl
      rw [e0, List.append_nil]
      exact hO8
    have HEI := Aside0.mk hEI
    have hfl := fields_len kk hkl
    have HFL := Aside0.mk (fields_lt kk hkl)
    have HFS : Aside0 (fieldsOf kk = fieldsOf m.kind.toNat) := ⟨by rw [HKK.out, Int.toNat_natCast]⟩
    generalize hfs : fieldsOf kk = fs at HEI hfl HFL HFS ⊢
    clear hEI HR HBC HO7 HM7 HB7 hfs hc0
    obtain ⟨i0, hi0, hzz⟩ := Option.map_eq_some_iff.1 info8
    simp only [Prod.mk.injEq] at hzz
    have HZ := Aside0.mk hzz
    clear hzz
    go_wp2
    go_loopw [4, 7, 8, 9, 10, 47] (fun bv _ _ _ _ iv wr => ∃ j : Nat, j ≤ fs.length ∧ iv = .int .i64 (j : Int) ∧ Aside0 (EInv w w2 wr m q fs bv j)) (fun _ _ _ _ _ iv _ => 7 - (intOf iv).toNat)
    case atStart => exact ⟨0, Nat.zero_le _, rfl, HEI⟩
    case round =>
      clear HEI
      obtain ⟨j, hj, rfl, HEI⟩ := hrel
      obtain ⟨wo, rfl⟩ : ∃ wo : World, wo = wr := ⟨_, rfl⟩
      by_cases hlt : j < fs.length
      · obtain ⟨n, hn⟩ : ∃ n, fs[j]? = some n := ⟨_, List.getElem?_eq_getElem hlt⟩
        have hn7 := HFL.out j n hn
        have hci := rowOf_cell HEI.out.row j n hn
        have HSN := Lib.hid (body_snoc m fs j n hn)
        have hnm := HF.out.2.2.2 n hn7
        have hwd := wN_range n hn7
        have KW := whole_any w.heap.size m n wo hn7 HEI.out.msg
        rw [wN_eq n hn7] at KW
        have hbl : 20 + (bodyB m (fs.take j)).length + 8 ≤ 5000 := by
          have h1 := body_take_le m fs j
          have h2 := body_length_le m HV.out HK.out
          rw [← HFS.out] at h2
          omega
        have hmx : mostOf n ≤ 9007199254740992 := by
          have : ∀ n, n < 7 → mostOf n ≤ 9007199254740992 := by decide
          exact this n hn7
        have KP := fun (h : (1 : Nat) ≤ 1) => Lib.hid (put_own w2.heap.size _ _ _ (numOf m n) (wN n) wo HEI.out.own HEI.out.bel.size hnm.1 (by omega) hwd.1 hwd.2 (by omega))
        replace KP := KP (Nat.le_refl _)
        have KW' := Lib.hid KW
        have htx : textOf m n = if n = 5 then bytesOf m.key else if n = 6 then bytesOf m.value else [] := rfl
        have hsz5 : n = 5 → (m.key.size : Int) ≤ 255 := by rintro rfl; have := hnm.2; exact this
        have hsz6 : n = 6 → (m.value.size : Int) ≤ 4096 := by rintro rfl; have := hnm.2; exact this
        have HTX := Lib.hid htx
        have HS5 := Aside0.mk hsz5
        have HS6 := Aside0.mk hsz6
        have HNM := Aside0.mk hnm
        have HWD := Aside0.mk hwd
        have HBL := Aside0.mk hbl
        clear hn hnm hwd KW htx hsz5 hsz6 hbl hmx
        go_wp2_with fail
        refine KW'.out.mono ?_
        rintro e w' ⟨rfl, rfl⟩
        go_wp2_with fail
        refine KP.out.mono ?_
        rintro e w9 ⟨v9, rfl, hO, hb, hk⟩
        have HO9 := Aside0.mk hO
        have HM9 := Aside0.mk (keep_msg HEI.out.msg hk)
        have HR9 := Aside0.mk (keep_row HEI.out.row hk)
        have HB9 := Aside0.mk (HEI.out.bel.trans hb)
        clear hO hb hk KP KW'
        by_cases h5 : n = 5
        · subst h5
          have hc9 : w9.cell? ⟨w.heap.size, 9, none⟩ = some (.string m.key) := HM9.out.c 9
          have hle := HS5.out rfl
          go_wp2_with (at_builtin; go_loud (refine Lib.wpList_append_own_string _ rfl (.tmp 64) (.tmp 66) 82 9 rfl w2.heap.size 5 i0 Tryd.underlying82 Tryd.underlying9 hi0 HZ.out.1 HZ.out.2.1 HZ.out.2.2 v9 _ _ rfl HO9.out m.key rfl ?h1 ?h2 HB9.out.size ?_); (case h1 => have := HBL.out; have := HWD.out; unfold maxLen; omega); (case h2 => have := HBL.out; have := HWD.out; omega); intro v1 w1 hO1 hg1 _; have HO1 := Aside0.mk (field_step_text (m := m) (n := 5) (by rw [HTX.out]; rfl) hO1); have HT1 := Aside0.mk ((KeepTy.refl 5 w9).grown HO9.out hg1); have HB1 := Aside0.mk (HB9.out.grown hg1 HB9.out.size (own_base HO9.out)); clear hO1 hg1)
          go_roundw
          case rel => exact ⟨j + 1, by omega, by go_num, ⟨HEI.out.next HSN.out HO1.out (keep_msg HM9.out HT1.out) (keep_row HR9.out HT1.out) HB1.out⟩⟩
          case measure => simp [intOf]; omega
        · by_cases h6 : n = 6
          · subst h6
            have hc9 : w9.cell? ⟨w.heap.size, 10, none⟩ = some (.string m.value) := HM9.out.c 10
            have hle := HS6.out rfl
            go_wp2_with (at_builtin; go_loud (refine Lib.wpList_append_own_string _ rfl (.tmp 70) (.tmp 72) 82 9 rfl w2.heap.size 5 i0 Tryd.underlying82 Tryd.underlying9 hi0 HZ.out.1 HZ.out.2.1 HZ.out.2.2 v9 _ _ rfl HO9.out m.value rfl ?h1 ?h2 HB9.out.size ?_); (case h1 => have := HBL.out; have := HWD.out; unfold maxLen; omega); (case h2 => have := HBL.out; have := HWD.out; omega); intro v1 w1 hO1 hg1 _; have HO1 := Aside0.mk (field_step_text (m := m) (n := 6) (by rw [HTX.out]; rfl) hO1); have HT1 := Aside0.mk ((KeepTy.refl 5 w9).grown HO9.out hg1); have HB1 := Aside0.mk (HB9.out.grown hg1 HB9.out.size (own_base HO9.out)); clear hO1 hg1)
            go_roundw
            case rel => exact ⟨j + 1, by omega, by go_num, ⟨HEI.out.next HSN.out HO1.out (keep_msg HM9.out HT1.out) (keep_row HR9.out HT1.out) HB1.out⟩⟩
            case measure => simp [intOf]; omega
          · have q5 : ((n : Int) == 5) = false := beq_eq_false_iff_ne.2 (by omega)
            have q6 : ((n : Int) == 6) = false := beq_eq_false_iff_ne.2 (by omega)
            have r5 : ¬ (n : Int) = 5 := by omega
            have r6 : ¬ (n : Int) = 6 := by omega
            have HO1 := Aside0.mk (field_step (m := m) (n := n) (by rw [HTX.out, if_neg h5, if_neg h6]) HO9.out)
            clear h5 h6
            go_wp2
            go_roundw
            case rel => exact ⟨j + 1, by omega, by go_num, ⟨HEI.out.next HSN.out HO1.out HM9.out HR9.out HB9.out⟩⟩
            case measure => simp [intOf]; omega
      · obtain rfl : j = fs.length := by omega
        have hO := HEI.out.own
        rw [List.take_length] at hO
        have hbl : (bodyB m fs).length ≤ 4383 := by
          have h2 := body_length_le m HV.out HK.out
          rw [← HFS.out] at h2
          exact h2
        obtain ⟨g, cap, rfl⟩ := own_slice hO (by omega)
        have HBW := Aside0.mk HEI.out.bel
        have hcap := own_le hO
        have hfr : frameB m = headB m ++ be (bodyB m fs).length 4 ++ bodyB m fs := by unfold frameB; rw [HFS.out]
        have HFR := Lib.hid hfr
        obtain ⟨n, hn⟩ : ∃ n, n = 20 + (bodyB m fs).length := ⟨_, rfl⟩
        rw [← hn] at hO hcap ⊢
        have hN : ((n : Int) - 20) = ((bodyB m fs).length : Int) := by omega
        have KP := put_at w2.heap.size g n cap 16 _ ((n : Int) - 20) 4 wo hO HBW.out.size (by omega) (by omega) (by decide) (by decide) (by omega) hcap (by omega)
        rw [hN, setTo_head (headB m) (be 0 4) (bodyB m fs) 16 (headB_length m) (be (bodyB m fs).length 4) (by rw [be_length, be_length]), ← hfr, ← hN] at KP
        have KP' := Lib.hid KP
        have hfl2 : (frameB m).length = n := by rw [frame_length, hn, HFS.out]
        have KSM := fun (w : World) (hN : Crc.Nibs w) => sum_any (strOfNums (frameB m)) w (by rw [strOfNums_size, hfl2]; omega) hN
        have KSM' := fun w h => Lib.hid (KSM w h)
        have n1 : (20 : Int) ≤ (n : Int) := by omega
        have n2 : (n : Int) ≤ 5000 := by omega
        have n3 : (16 : Int) ≤ (cap : Int) := by omega
        have n4 : (cap : Int) ≤ 9223372036854775807 := by
          have h := hO.2
          rcases h with h | ⟨g', c', cs, hv, _, _, _, hm, _⟩
          · cases h.1
          · cases hv; unfold maxLen at hm; omega
        have z1 : (strOfNums (frameB m)).size ≤ 5000 := by rw [strOfNums_size, hfl2]; omega
        have z2 : (sumS (strOfNums (frameB m))).size ≤ 4 := by rw [sumS_eq, strOfNums_size]; exact Nat.le_refl _
        clear hO hn KP hfr hN hbl hfl2 KSM HEI hcap
        go_wp2_with fail
        refine KP'.out.mono ?_
        rintro e w10 ⟨v10, rfl, hO10, hb10⟩
        have hcv := own_string (P := Tryd.prog) (e := 5) Tryd.underlying82 Tryd.underlying5 Tryd.underlying9 hO10
        have HB10 := Aside0.mk (HBW.out.trans hb10)
        have HBE := Aside0.mk (HB2.out.trans (HB10.out.mono HB2.out.size))
        have HN10 := Aside0.mk (HN.out.below HBE.out)
        clear hO10 hb10 KP'
        go_wp2_with fail
        refine (KSM' _ HN10.out).out.mono ?_
        rintro e w11 ⟨rfl, hb⟩
        have HB11 := Aside0.mk (HBE.out.trans (hb.mono HBE.out.size))
        clear hb
        go_wp2
        go_ret2
        exact ⟨rfl, HB11.out⟩
end Go.Proofs.YtnifgokjagahfaaDoor.Enc

/- Encode answers as encP says. -/
set_option linter.unusedVariables false
set_option linter.unusedSimpArgs false
namespace Go.Proofs.YtnifgokjagahfaaDoor.Enc
open Go.RowKit Go.Proofs.YtnifgokjagahfaaDoorW.PrintWords Go.Proofs.YtnifgokjagahfaaDoorW.PrintLast Go.Proofs.YtnifgokjagahfaaDoorW.PrintMore
open Go.Proofs.YtnifgokjagahfaaDoor.Base Go.Proofs.YtnifgokjagahfaaDoor.App Go.Proofs.YtnifgokjagahfaaDoor.Layouts Go.Proofs.YtnifgokjagahfaaDoor.Msg Go.Proofs.YtnifgokjagahfaaDoor.Put Go.Proofs.YtnifgokjagahfaaDoor.EncPure Go.Proofs.YtnifgokjagahfaaDoor.DecPure
def kB (m : M) : Bool := decide (1 ≤ m.kind ∧ m.kind < 17)
def encP (m : M) : ByteArray × Int := if kB m = true then (if vB m = true then (strOfNums (whole m), 0) else (ByteArray.empty, 50)) else (ByteArray.empty, 53)
theorem strOfNums_append (a b : List Int) : strOfNums (a ++ b) = strOfNums a ++ strOfNums b := by
  apply ByteArray.ext
  unfold strOfNums
  rw [List.map_append]
  simp [ByteArray.data_append]
set_option maxRecDepth 100000 in
set_option maxHeartbeats 4000000 in
theorem enc_kind (m : M) (w : World) (hk : ¬ (1 ≤ m.kind ∧ m.kind < 17)) : Calls Tryd.prog 13 #[.agg (mL m).toArray] w fun e w' => e = .returned (.tuple #[.string ByteArray.empty, .int .i64 53]) ∧ Below w.heap.size w w' := by
  have HB0 := Aside0.mk ((Below.refl w.heap.size w).alloc (Nat.le_refl _) (.cells (mL m).toArray 24))
  have HM0 : Aside0 (MBox (w.alloc (.cells (mL m).toArray 24)) w.heap.size m) := ⟨⟨Go.heap_alloc_new w _, by simp⟩⟩
  have hc0 : (w.alloc (.cells (mL m).toArray 24)).cell? ⟨w.heap.size, 0, none⟩ = some (.int .i64 m.kind) := HM0.out.c 0
  have K := fun w => Lib.hid (known_no m.kind w hk)
  clear hk
  go_enter Tryd.func13, Tryd.ntmps13
  go_wp2_with fail
  refine (K _).out.mono ?_
  rintro e w1 ⟨rfl, hb⟩
  have HB1 := Aside0.mk (HB0.out.trans (hb.mono HB0.out.size))
  clear hb hc0 HB0 K
  go_wp2
  go_ret2
  exact ⟨rfl, HB1.out⟩
set_option maxRecDepth 100000 in
set_option maxHeartbeats 4000000 in
theorem enc_field (m : M) (w : World) (hk : 1 ≤ m.kind ∧ m.kind < 17) (hv : vB m = false) : Calls Tryd.prog 13 #[.agg (mL m).toArray] w fun e w' => e = .returned (.tuple #[.string ByteArray.empty, .int .i64 50]) ∧ Below w.heap.size w w' := by
  have HB0 := Aside0.mk ((Below.refl w.heap.size w).alloc (Nat.le_refl _) (.cells (mL m).toArray 24))
  have HM0 : Aside0 (MBox (w.alloc (.cells (mL m).toArray 24)) w.heap.size m) := ⟨⟨Go.heap_alloc_new w _, by simp⟩⟩
  have hc0 : (w.alloc (.cells (mL m).toArray 24)).cell? ⟨w.heap.size, 0, none⟩ = some (.int .i64 m.kind) := HM0.out.c 0
  have K := fun w => Lib.hid (known_yes m.kind w hk)
  have HK := Aside0.mk hk
  have HV := Aside0.mk hv
  clear hk hv
  go_enter Tryd.func13, Tryd.ntmps13
  go_wp2_with fail
  refine (K _).out.mono ?_
  rintro e w1 ⟨rfl, hb⟩
  have HM1 := Aside0.mk (HM0.out.below hb (by simp))
  have HB1 := Aside0.mk (HB0.out.trans (hb.mono HB0.out.size))
  clear hb hc0 HB0 K
  go_wp2_with fail
  refine (valid_any w.heap.size m w1 HM1.out HK.out).mono ?_
  rintro e w2 ⟨rfl, hb⟩
  have HB2 := Aside0.mk (HB1.out.trans (hb.mono HB1.out.size))
  clear hb HM1 HB1
  rw [HV.out]
  go_wp2
  go_ret2
  exact ⟨rfl, HB2.out⟩
theorem enc_any (m : M) (w : World) (hN : Crc.Nibs w) : Calls Tryd.prog 13 #[.agg (mL m).toArray] w fun e w' => e = .returned (.tuple #[.string (encP m).1, .int .i64 (encP m).2]) ∧ Below w.heap.size w w' := by
  unfold encP kB
  by_cases hk : 1 ≤ m.kind ∧ m.kind < 17
  · rw [if_pos (decide_eq_true hk)]
    cases hv : vB m
    · rw [if_neg (by decide)]; exact enc_field m w hk hv
    · rw [if_pos rfl]
      have e : strOfNums (whole m) = strOfNums (frameB m) ++ sumS (strOfNums (frameB m)) := by
        unfold whole
        rw [strOfNums_append, sumS_eq, bytesOf_strOfNums _ (byt_frame m hk)]
      simp only [e]
      exact enc_good m w hk hv hN
  · rw [if_neg (by simpa using hk)]; exact enc_kind m w hk
end Go.Proofs.YtnifgokjagahfaaDoor.Enc

/- == of messages. -/
set_option linter.unusedVariables false
set_option linter.unusedSimpArgs false
namespace Go.Proofs.YtnifgokjagahfaaDoor.EqM
open Go.RowKit Go.Proofs.YtnifgokjagahfaaDoorW.PrintWords Go.Proofs.YtnifgokjagahfaaDoorW.PrintLast Go.Proofs.YtnifgokjagahfaaDoorW.PrintMore
open Go.Proofs.YtnifgokjagahfaaDoor.Base Go.Proofs.YtnifgokjagahfaaDoor.Layouts Go.Proofs.YtnifgokjagahfaaDoor.Msg
def bM (a b : M) : Bool := a.kind == b.kind && (a.from_ == b.from_ && (a.to_ == b.to_ && (a.id == b.id && (a.epoch == b.epoch && (a.seq == b.seq && (a.version == b.version && (a.prev == b.prev && (a.code == b.code && (a.key.toList == b.key.toList && ((a.value.toList == b.value.toList)))))))))))
theorem bM_iff (a b : M) : bM a b = true ↔ a = b := by
  have hs : ∀ x y : ByteArray, (x.toList == y.toList) = true ↔ x = y := by
    intro x y
    rw [beq_iff_eq, ByteArray.toList_eq, ByteArray.toList_eq]
    constructor
    · intro h
      apply ByteArray.ext
      exact Array.ext' h
    · rintro rfl; rfl
  unfold bM
  simp only [Bool.and_eq_true, beq_iff_eq]
  have hk := hs a.key b.key
  have hv := hs a.value b.value
  rw [beq_iff_eq] at hk hv
  rw [hk, hv]
  cases a; cases b
  simp
set_option maxHeartbeats 4000000 in
theorem eqA (d : Nat) (w : World) (a b : M) : (Op.equalIn (d + 2) 24 (.agg (mL a).toArray) (.agg (mL b).toArray)).run Tryd.prog w = .ok (bM a b) w := by
  unfold mL bM
  refine eqA_of Tryd.underlying24 (by kernel_rfl) ?_
  refine eqf_cons (by rfl) (by go_simp; rfl) (by go_simp; rfl) (by go_simp) ?_
  refine eqf_cons (by rfl) (by go_simp; rfl) (by go_simp; rfl) (by go_simp) ?_
  refine eqf_cons (by rfl) (by go_simp; rfl) (by go_simp; rfl) (by go_simp) ?_
  refine eqf_cons (by rfl) (by go_simp; rfl) (by go_simp; rfl) (by go_simp) ?_
  refine eqf_cons (by rfl) (by go_simp; rfl) (by go_simp; rfl) (by go_simp) ?_
  refine eqf_cons (by rfl) (by go_simp; rfl) (by go_simp; rfl) (by go_simp) ?_
  refine eqf_cons (by rfl) (by go_simp; rfl) (by go_simp; rfl) (by go_simp) ?_
  refine eqf_cons (by rfl) (by go_simp; rfl) (by go_simp; rfl) (by go_simp) ?_
  refine eqf_cons (by rfl) (by go_simp; rfl) (by go_simp; rfl) (by go_simp) ?_
  refine eqf_cons (by rfl) (by go_simp; rfl) (by go_simp; rfl) (by go_simp) ?_
  exact eqf_last (by rfl) (by go_simp; rfl) (by go_simp; rfl) (by go_simp)
theorem eqM (w : World) (a b : M) : (binOp .eql 24 (.agg (mL a).toArray) (.agg (mL b).toArray)).run Tryd.prog w = .ok (.bool (bM a b)) w := by
  rw [run_eql_struct, eqA 9998 w a b]
  rfl
theorem neM (w : World) (a b : M) : (binOp .neq 24 (.agg (mL a).toArray) (.agg (mL b).toArray)).run Tryd.prog w = .ok (.bool (!bM a b)) w := by
  rw [run_neq_struct, eqA 9998 w a b]
  rfl
theorem bM_same (a : M) : bM a a = true := (bM_iff a a).2 rfl
end Go.Proofs.YtnifgokjagahfaaDoor.EqM

/- FrameCuts: Feeds and Close tell what Split tells of the whole. -/
set_option linter.unusedVariables false
set_option linter.unusedSimpArgs false
namespace Go.Proofs.YtnifgokjagahfaaDoor.CutsF
open Go.RowKit Go.Proofs.YtnifgokjagahfaaDoorW.PrintWords Go.Proofs.YtnifgokjagahfaaDoorW.PrintLast Go.Proofs.YtnifgokjagahfaaDoorW.PrintMore
open Go.Proofs.YtnifgokjagahfaaDoor.Base Go.Proofs.YtnifgokjagahfaaDoor.App Go.Proofs.YtnifgokjagahfaaDoor.Layouts Go.Proofs.YtnifgokjagahfaaDoor.Msg Go.Proofs.YtnifgokjagahfaaDoor.Put Go.Proofs.YtnifgokjagahfaaDoor.EncPure Go.Proofs.YtnifgokjagahfaaDoor.DecPure Go.Proofs.YtnifgokjagahfaaDoor.Mids Go.Proofs.YtnifgokjagahfaaDoor.Enc Go.Proofs.YtnifgokjagahfaaDoor.EqM Go.Proofs.YtnifgokjagahfaaDoor.SplitPure Go.Proofs.YtnifgokjagahfaaDoor.Pcs Go.Proofs.YtnifgokjagahfaaDoor.Reader Go.Proofs.YtnifgokjagahfaaDoor.ReadPure Go.Proofs.YtnifgokjagahfaaDoor.ReadStream Go.Proofs.YtnifgokjagahfaaDoor.Feed Go.Proofs.YtnifgokjagahfaaDoor.Close
open Go.Proofs.YtnifgokjagahfaaDoor.Crc (Nibs)
attribute [local go_sem high] eqA
section
variable {P : Program} {ops : Array Oper} {rest : List Oper} {o : Oper} {a : Act} {Q : Exit → Act → World → Prop}
/-- append(v, u...): both slices of the call's own -/
theorem list_append_rows {w0 W : World} (base : Nat) (hgd : o.guard = none) (s x : Operand) (t e : TypeId) (z : Value) (size bytes : Nat)
    (ho : o.op = .call { callee := .builtin .append, args := #[s, x], argTypes := #[t, t] })
    (ht : P.underlying t = some (.slice e)) (hinfo : (P.info? e).map (fun i => (i.zero, i.size, i.bytes)) = some (some z, size, bytes)) (hz : z.cells.size = size) (hs0 : 0 < size) (hb0 : 0 < bytes)
    (v : Value) (n : Nat) (xs : List Value) (u : Value) (b2 m : Nat) (ys : List Value) (hs : a.eval s = v) (hx : a.eval x = u) (HU : W.ownsRow b2 e size u m ys) (h1 : ∀ y ∈ ys, y.oneCell' = true)
    (HO : W.ownsRow base e size v n xs) (HB : Below base w0 W) (hbase : base ≤ W.heap.size) (hl : (n + m) * bytes ≤ 140737488355328)
    (h : ∀ v1 w1, w1.ownsRow base e size v1 (n + m) (xs ++ ys) → Below base w0 w1 → W.grownBy w1 v.ownBlock → wpList P ops Q rest (a.put o.dst v1) w1) :
    wpList P ops Q (o :: rest) a W := by
  rcases HU.2 with ⟨rfl, rfl⟩ | ⟨g, cap, cur, rfl, hg, hgb, r⟩
  · have hy : ys = [] := List.eq_nil_of_length_eq_zero (by simpa using HU.1)
    subst hy
    obtain ⟨i0, hi, hzz⟩ := Option.map_eq_some_iff.1 hinfo
    simp only [Prod.mk.injEq] at hzz
    obtain ⟨hz0, hz1, hz2⟩ := hzz
    have hr : (Builtin.append_ #[t, t] o.type #[v, .slice none 0 0]).run P W = .ok v W := by
      rcases HO.2 with ⟨rfl, hn⟩ | ⟨g, cap, cur, rfl, _, _, hnc, _⟩
      · simp [Builtin.append_, run_underlying ht, sizeOf, typeInfo, hi, Builtin.lenOf, Builtin.firstCells]
      · simp [Builtin.append_, run_underlying ht, sizeOf, typeInfo, hi, Builtin.lenOf, Builtin.firstCells, hnc, storeCells]
    refine wpList_plain hgd fun K hK => ?_
    unfold Oper.wp execOp
    simp only [ho, resolve, invoke, builtin, Sem.run_bind, Sem.run_pure, Result.andThen_ok, List.map_toArray, List.map_cons, List.map_nil, hs, hx, hr]
    exact hK _ _ (h v W (by simpa using HO) HB ⟨rfl, rfl, rfl, Nat.le_refl _, fun _ _ _ => rfl⟩)
  · refine list_append_wide base hgd s x t e z size bytes ho ht hinfo hz hs0 hb0 v n xs g m cap ys hs hx HU.1 h1 (fun j y hy => ?_) HO HB hbase hl h
    have := HU.cells (g := g) rfl j y hy
    have e : (⟨g, 0, none⟩ : Addr).add j = ⟨g, j, none⟩ := by unfold Addr.add; split <;> simp_all
    rwa [e] at this
/-- a struct is read in a region that draws its order -/
theorem still_load_mid {w : World} {K : Act → Prop} (hg : o.guard = none) (ty : TypeId) (x : Operand) (ho : o.op = .load ty x)
    (b p : Nat) (hx : a.eval x = .pointer (some ⟨b, p, none⟩)) (cs : List Value) (d : TypeDesc) (hc : w.rangeAt b p cs)
    (hu : P.underlying ty = some d) (hd : d.isRow = true) (hi : (P.info? ty).map (·.size) = some cs.length)
    (h : wpStill P ops w K rest (a.put o.dst (.agg cs.toArray))) : wpStill P ops w K (o :: rest) a := by
  refine wpStill_step (fun L hL => ?_)
  simp only [Region.wanted, hg, if_true]
  unfold Oper.still execOp
  simp only [ho, hx, Instr.loadAt, Instr.sureAddr, Sem.run_bind, Sem.run_pure, Result.andThen_ok, run_loadVar_mid w b p ty cs d hc hu hd hi, Oper.stillUpon]
  exact ⟨trivial, hL _ h⟩
end
theorem num_any (x : Int) (w : World) : Calls Tryd.prog 15 #[.int .i64 x] w fun e w' => e = .returned (.int .i64 x) ∧ w = w' := by
  go_enter Tryd.func15, Tryd.ntmps15
  go_wp2
  go_ret
  exact ⟨rfl, rfl⟩
theorem encP_good (m : M) (hk : 1 ≤ m.kind ∧ m.kind < 17) (hv : vB m = true) : encP m = (strOfNums (whole m), 0) := by
  unfold encP kB
  rw [if_pos (decide_eq_true hk), if_pos hv]
theorem enc_good' (m : M) (vm : vB m = true) (km : 1 ≤ m.kind ∧ m.kind < 17) (w : World) (hN : Nibs w) : Calls Tryd.prog 13 #[.agg (mL m).toArray] w fun e w' => e = .returned (.tuple #[.string (strOfNums (whole m)), .int .i64 0]) ∧ Below w.heap.size w w' := by
  have h := enc_any m w hN
  rw [encP_good m km vm] at h
  exact h
theorem own_lower {w : World} {base base' : Nat} {e : TypeId} {size : Nat} {v : Value} {n : Nat} {xs : List Value} (h : w.ownsRow base e size v n xs) (hb : base' ≤ base) : w.ownsRow base' e size v n xs := by
  refine ⟨h.1, ?_⟩
  rcases h.2 with hn | ⟨g, cap, cur, rfl, hg, rest⟩
  · exact .inl hn
  · exact .inr ⟨g, cap, cur, rfl, Nat.le_trans hb hg, rest⟩
theorem own_but2 {w w' : World} {b base : Nat} {v : Value} {n : Nat} {xs : List Value} {h : ByteArray} {k : Int} (hr : w.ownsRow base 24 11 v n xs) (hb : But b w w') (r : RBox w b h k) : w'.ownsRow base 24 11 v n xs :=
  hr.kept hb (by
    have := row_ne hr r (by decide)
    cases hv : v.ownBlock with
    | none => exact .inl rfl
    | some j => exact .inr (fun e => this (by rw [hv]; exact e.symm)))
theorem RBox.grown {w w' : World} {b base : Nat} {v : Value} {n : Nat} {xs : List Value} {h : ByteArray} {k : Int} (r : RBox w b h k) (hr : w.ownsRow base 24 11 v n xs) (hg : w.grownBy w' v.ownBlock) : RBox w' b h k :=
  (hg.block b r.lt (row_ne hr r (by decide))).trans r
/-- one more part has come -/
theorem feedW (W s : ByteArray) (pre : List Pc) (p : Nat) (hF : Fed W pre p) (w : World) (b : Nat) (r : RBox w b (W.extract p W.size) ((p - szs pre : Nat) : Int)) (hsz : W.size + s.size ≤ 8388608) (hN : Nibs w) (hb2 : b ≠ 2) :
    Calls Tryd.prog 29 #[.pointer (some ⟨b, 0, none⟩), .string s] w fun e w' => ∃ (v : Value) (L : List Pc) (p' : Nat), e = .returned (.tuple #[v, .int .i64 0]) ∧ w'.ownsRow w.heap.size 24 11 v L.length (msL (msgs L)) ∧
      Fed (W ++ s) (pre ++ sh p L) p' ∧ RBox w' b ((W ++ s).extract p' (W ++ s).size) ((p' - szs (pre ++ sh p L) : Nat) : Int) ∧ But b w w' := by
  have hle := hF.le
  have hroom := hF.room
  have hts := tail_size W p hle
  refine (feed_any w b (W.extract p W.size) _ s r (by rw [ByteArray.size_append, hts]; omega) (by omega) (by omega) hN hb2).mono ?_
  rintro e w' ⟨v, rfl, ho, hr, hb⟩
  refine ⟨v, _, _, rfl, ho, hF.step s, ?_, hb⟩
  rw [hF.held s] at hr
  have h1 := fd_room (W.extract p W.size ++ s) 0 (Nat.zero_le _)
  have e : ((p - szs pre : Nat) : Int) + ((fdE (W.extract p W.size ++ s) 0 - szs (fdL (W.extract p W.size ++ s) 0) : Nat) : Int) = ((p + fdE (W.extract p W.size ++ s) 0 - szs (pre ++ sh p (fdL (W.extract p W.size ++ s) 0)) : Nat) : Int) := by
    rw [szs_append, szs_sh]; omega
  rw [← e]
  exact hr
def bkM : M := ⟨7, 64, 0, 3, 4, 2, 0, 0, 0, ByteArray.empty, ByteArray.empty⟩
theorem bk_valid : vB bkM = true := by decide
theorem bk_kind : 1 ≤ bkM.kind ∧ bkM.kind < 17 := by decide
/-- the frame ahead -/
def bk : ByteArray := strOfNums (whole bkM)
theorem bk_size : 24 ≤ bk.size ∧ bk.size ≤ 4407 := Zeros.whole_size bkM bk_valid bk_kind
/-- so far, the frame and so many parts -/
def jn (P : ByteArray) (l : List ByteArray) : ByteArray := l.foldl (· ++ ·) P
theorem jn_next (P : ByteArray) (l : List ByteArray) (k : Nat) (h : k < l.length) : jn P (l.take (k + 1)) = jn P (l.take k) ++ rdOf ByteArray.empty l (k : Nat) := by
  unfold jn
  rw [List.take_succ_eq_append_getElem h, List.foldl_append]
  simp only [List.foldl_cons, List.foldl_nil]
  congr 1
  simp [rdOf, List.getD_eq_getElem?_getD, h]
theorem jn_size (P : ByteArray) : ∀ (l : List ByteArray), (jn P l).size ≤ P.size + Open.total l := by
  intro l
  unfold jn Open.total
  induction l generalizing P with
  | nil => exact Nat.le_add_right _ _
  | cons s l ih =>
    simp only [List.foldl_cons, List.map_cons, List.sum_cons]
    have := ih (P ++ s)
    rw [ByteArray.size_append] at this
    omega
theorem total_take (l : List ByteArray) (k : Nat) : Open.total (l.take k) ≤ Open.total l := by
  unfold Open.total
  conv => rhs; rw [← List.take_append_drop k l]
  rw [List.map_append, List.sum_append]
  omega
theorem bk_fr : fr bk 0 = some (bk.size, bkM) := by
  have hb : bytesOf bk = whole bkM := bytesOf_strOfNums _ (byt_whole _ bk_kind)
  have hd := dec_whole bkM bk_valid bk_kind
  have hl : (whole bkM).length = bk.size := by rw [← hb, bytesOf_length]
  have h1 := bk_size
  unfold fr
  rw [List.drop_zero, hb]
  have hbody : 24 + bodyN (whole bkM) = ((whole bkM).length : Int) ∧ bodyN (whole bkM) ≤ 4383 := by
    have h2 : (decP (whole bkM)).2 = 0 := by rw [hd]
    unfold decP at h2
    by_cases c4 : 4383 < bodyN (whole bkM) ∨ 24 + bodyN (whole bkM) ≠ (whole bkM).length
    · rw [if_pos c4] at h2
      repeat' split at h2
      all_goals exact absurd h2 (by decide)
    · omega
  unfold Frm.frm
  have ht : (24 + bodyN (whole bkM)).toNat = (whole bkM).length := by omega
  rw [ht, List.take_length, hd, if_pos ⟨by omega, hbody.2, by omega, rfl⟩, hl]
theorem jn_starts (l : List ByteArray) : ∀ (P : ByteArray), ∃ X, jn P l = P ++ X := by
  unfold jn
  induction l with
  | nil => intro P; exact ⟨ByteArray.empty, (append_nil' P).symm⟩
  | cons s l ih =>
    intro P
    obtain ⟨X, hX⟩ := ih (P ++ s)
    exact ⟨s ++ X, by rw [List.foldl_cons, hX, append_assoc']⟩
theorem some_pieces (l : List ByteArray) : pcs (jn bk l) 0 ≠ [] := by
  obtain ⟨X, hX⟩ := jn_starts l bk
  rw [hX, pcs_some (fr_append X (Nat.zero_le _) bk_fr)]
  exact List.cons_ne_nil _ _
end Go.Proofs.YtnifgokjagahfaaDoor.CutsF
