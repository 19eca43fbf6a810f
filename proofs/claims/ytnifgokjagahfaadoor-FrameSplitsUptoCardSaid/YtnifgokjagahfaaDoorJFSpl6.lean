/- Joined texts of this claim: PcsIn, Pieces, Split, RefSplit, PSameP, SameP, BurstPure, FlipPure, FlipF, OutPure, LawSplit, LaidF -/
import Derived.RangeFuncNested
import Derived.RangeFuncBound
import Derived.RangeFuncCalls
import Derived.RangeFuncLeaves
import Derived.RangeFuncBox
import Derived.Shelf.Abstract
import Derived.Shelf.RegionOpen
import Derived.OwnWalkIn
import Derived.TacticsInMore
import Derived.LoopNIn
import Derived.LoopIn
import Derived.Test.YtnifgokjagahfaaDoorJFSpl5
import Derived.Maps.AppendAt
import Derived.Test.YtnifgokjagahfaaDoorPFrameSplitsx0
import Derived.Test.YtnifgokjagahfaaDoorPFrameSplitsx1
import Derived.Test.YtnifgokjagahfaaDoorJFSpl0
import Derived.Test.YtnifgokjagahfaaDoorJFSpl1
import Derived.Outline
import Derived.Test.YtnifgokjagahfaaDoorJFSpl3
import Derived.Test.YtnifgokjagahfaaDoorTie
import Derived.Lib.LaidTab
/- Pieces in memory, inside a fence. -/
set_option linter.unusedVariables false
set_option linter.unusedSimpArgs false
namespace Go.Proofs.YtnifgokjagahfaaDoor.PcsIn
open Go.RowKit Go.Shelf Go.Proofs.YtnifgokjagahfaaDoorW.PrintWords Go.Proofs.YtnifgokjagahfaaDoorW.PrintLast Go.Proofs.YtnifgokjagahfaaDoorW.PrintMore
open Go.Proofs.YtnifgokjagahfaaDoor.Base Go.Proofs.YtnifgokjagahfaaDoor.App Go.Proofs.YtnifgokjagahfaaDoor.Layouts Go.Proofs.YtnifgokjagahfaaDoor.Msg Go.Proofs.YtnifgokjagahfaaDoor.Mids Go.Proofs.YtnifgokjagahfaaDoor.SplitPure Go.Proofs.YtnifgokjagahfaaDoor.Pcs
section
variable {F : Fence} {n : Nat} {P : Program} {ops : Array Oper} {rest : List Oper} {o : Oper} {a : Act} {w w' : World} {Q : Exit → Act → World → Prop}
theorem listIn_exec {v : Value} (hg : o.guard = none) (hd : ∀ c, o.op ≠ .defer c) (ha : o.about P w a.eval = none) (hr : (execOp a.eval o).run P w = .ok (.value v) w')
    (h : wpListIn F n P ops Q rest (a.put o.dst v) w') : wpListIn F n P ops Q (o :: rest) a w := by
  refine wpListIn_plain hg fun K hK => ?_
  unfold Oper.wpIn
  refine ⟨fun f hf => (by rw [ha] at hf; cases hf), ?_⟩
  rw [Oper.semAt_plain F _ _ hd, hr]
  exact hK _ _ h
theorem listIn_skip (hg : o.guard = none) (hd : ∀ c, o.op ≠ .defer c) (ha : o.about P w a.eval = none) (hr : (execOp a.eval o).run P w = .ok .skip w')
    (h : wpListIn F n P ops Q rest (a.put o.dst undef) w') : wpListIn F n P ops Q (o :: rest) a w := by
  refine wpListIn_plain hg fun K hK => ?_
  unfold Oper.wpIn
  refine ⟨fun f hf => (by rw [ha] at hf; cases hf), ?_⟩
  rw [Oper.semAt_plain F _ _ hd, hr]
  exact hK _ _ h
theorem listIn_load_mid (hg : o.guard = none) (ty : TypeId) (x : Operand) (ho : o.op = .load ty x)
    (b p : Nat) (hx : a.eval x = .pointer (some ⟨b, p, none⟩)) (cs : List Value) (d : TypeDesc) (hc : w.rangeAt b p cs)
    (hu : P.underlying ty = some d) (hd : d.isRow = true) (hi : (P.info? ty).map (·.size) = some cs.length)
    (h : wpListIn F n P ops Q rest (a.put o.dst (.agg cs.toArray)) w) : wpListIn F n P ops Q (o :: rest) a w := by
  refine listIn_exec hg (by rw [ho]; intro c hc'; cases hc') (by simp [Oper.about, ho]) ?_ h
  unfold execOp
  simp only [ho, hx, Instr.loadAt, Instr.sureAddr, Sem.run_bind, Sem.run_pure, Result.andThen_ok, run_loadVar_mid w b p ty cs d hc hu hd hi]
theorem listIn_store_mid (hg : o.guard = none) (ty : TypeId) (x y : Operand) (ho : o.op = .store ty x y)
    (b p : Nat) (cells : Array Value) (hx : a.eval x = .pointer (some ⟨b, p, none⟩)) (hy : a.eval y = .agg cells)
    (ht : w.there b p cells.size) (hi : (P.info? ty).map (·.size) = some cells.size) (h1 : cells.all (·.oneCell') = true)
    (h : wpListIn F n P ops Q rest (a.put o.dst undef) (w.setCells b p cells.toList)) : wpListIn F n P ops Q (o :: rest) a w := by
  refine listIn_skip hg (by rw [ho]; intro c hc'; cases hc') (by simp [Oper.about, ho]) ?_ h
  unfold execOp
  simp only [ho, hx, hy, Instr.storeAt, Instr.sureAddr, Sem.run_bind, Sem.run_pure, Result.andThen_ok, run_storeVar_mid w b p ty cells ht hi h1]
theorem gateIn_load {ty : TypeId} {x : Operand} (_ho : o.op = .load ty x) (h : wpListIn F n P ops Q (o :: rest) a w) : wpListIn F n P ops Q (o :: rest) a w := h
theorem gateIn_store {ty : TypeId} {x y : Operand} (_ho : o.op = .store ty x y) (h : wpListIn F n P ops Q (o :: rest) a w) : wpListIn F n P ops Q (o :: rest) a w := h
theorem gateIn_build {t : TypeId} {parts : Array (Nat × Operand)} (_ho : o.op = .build t parts) (h : wpListIn F n P ops Q (o :: rest) a w) : wpListIn F n P ops Q (o :: rest) a w := h
theorem gateIn_buildSlice {t : TypeId} {k : Nat} {parts : Array (Nat × Operand)} (_ho : o.op = .buildSlice t k parts) (h : wpListIn F n P ops Q (o :: rest) a w) : wpListIn F n P ops Q (o :: rest) a w := h
theorem gateIn_call {fn : Callee} {args : Array Operand} {ts : Array TypeId} (_ho : o.op = .call { callee := fn, args := args, argTypes := ts }) (h : wpListIn F n P ops Q (o :: rest) a w) : wpListIn F n P ops Q (o :: rest) a w := h
end
section
variable {F : Fence} {n : Nat} {ops : Array Oper} {rest : List Oper} {o : Oper} {act : Act} {w : World} {Q : Exit → Act → World → Prop}
theorem listIn_buildP (hg : o.guard = none) (x y z : Tmp) (ho : o.op = .build 44 #[(0, .tmp x), (1, .tmp y), (2, .tmp z)]) (a b : Int) (m : M)
    (hx : act.eval (.tmp x) = .int .i64 a) (hy : act.eval (.tmp y) = .int .i64 b) (hz : act.eval (.tmp z) = .agg (mL m).toArray)
    (h : wpListIn F n Tryd.prog ops Q rest (act.put o.dst (.agg (pV a b m))) w) : wpListIn F n Tryd.prog ops Q (o :: rest) act w := by
  refine listIn_exec hg (by rw [ho]; intro c hc'; cases hc') (by simp [Oper.about, ho]) ?_ h
  unfold execOp
  simp only [ho, List.map_toArray, List.map_cons, List.map_nil, hx, hy, hz, Sem.run_bind, run_buildP, Result.andThen_ok]
  rfl
theorem listIn_oneP (hg : o.guard = none) (x : Tmp) (ho : o.op = .buildSlice 38 1 #[(0, .tmp x)]) (a b : Int) (m : M) (hx : act.eval (.tmp x) = .agg (pV a b m))
    (h : wpListIn F n Tryd.prog ops Q rest (act.put o.dst (.slice (some ⟨w.heap.size, 0, none⟩) 1 1)) (w.alloc (.cells (pV a b m) 44))) : wpListIn F n Tryd.prog ops Q (o :: rest) act w := by
  refine listIn_exec hg (by rw [ho]; intro c hc'; cases hc') (by simp [Oper.about, ho]) ?_ h
  unfold execOp
  simp only [ho, List.map_toArray, List.map_cons, List.map_nil, hx, Sem.run_bind, run_oneP, Result.andThen_ok]
  rfl
end
end Go.Proofs.YtnifgokjagahfaaDoor.PcsIn

/- The frames of a stream as an iterator: pieces. -/
set_option linter.unusedVariables false
set_option linter.unusedSimpArgs false
namespace Go.Proofs.YtnifgokjagahfaaDoor.Pieces
open Go.RowKit Go.Shelf Go.Proofs.YtnifgokjagahfaaDoorW.PrintWords Go.Proofs.YtnifgokjagahfaaDoorW.PrintLast Go.Proofs.YtnifgokjagahfaaDoorW.PrintMore
open Go.Proofs.YtnifgokjagahfaaDoor.Base Go.Proofs.YtnifgokjagahfaaDoor.App Go.Proofs.YtnifgokjagahfaaDoor.Layouts Go.Proofs.YtnifgokjagahfaaDoor.Msg Go.Proofs.YtnifgokjagahfaaDoor.Mids Go.Proofs.YtnifgokjagahfaaDoor.SplitPure Go.Proofs.YtnifgokjagahfaaDoor.Pcs Go.Proofs.YtnifgokjagahfaaDoor.PcsIn Go.Proofs.YtnifgokjagahfaaDoor.Frm Go.Proofs.YtnifgokjagahfaaDoor.Next
open Go.Proofs.YtnifgokjagahfaaDoor.Dec (mL_one infoM)
open Go.Proofs.YtnifgokjagahfaaDoor.LawDec (zeros_new zeros_there zeros_below)
open Go.Proofs.YtnifgokjagahfaaDoor.Crc (Nibs)
attribute [local go_sem] Oper.semAt_some
theorem abides_below {β : Type} {B : Nat} {J : β → World → Prop} (h : AbidesFrom B J) {s : β} {A A' : World} (hs : J s A) (hb : Below A.heap.size A A') : J s A' :=
  h s A A' none hs ⟨hb.os, hb.tape, hb.output, hb.size, fun k hk _ => hb.block k hk⟩ (fun r e => by cases e)
theorem drawn_below {B : Nat} {w w' : World} (h : Drawn0 w w') : Below B w w' := by
  obtain ⟨⟨n, rfl⟩⟩ := h
  exact pw_below_drewN (Below.refl _ _) n
theorem begins_at (s : ByteArray) (i : Nat) (w : World) (hi : i ≤ s.size) (hmx : s.size ≤ 9223372036854775807) (hN : Nibs w) :
    (fr s i = none ∧ ∃ q n m, q ≠ 2 ∧ Calls Tryd.prog 63 #[.string (s.extract i s.size)] w (Beg.TellW q n m w)) ∨
    (∃ n m, fr s i = some (n, m) ∧ Calls Tryd.prog 63 #[.string (s.extract i s.size)] w (Beg.TellW 2 (n : Nat) m w)) := by
  have h := Beg.beg_any (s.extract i s.size) w (by rw [ByteArray.size_extract]; omega) hN
  have e := drop_bytesOf s i hi
  rw [e] at h
  cases hf : fr s i with
  | none =>
    have := begP_none _ (byt_at s i) hf
    exact .inl ⟨rfl, _, _, _, this, h⟩
  | some r =>
    obtain ⟨n, m⟩ := r
    have := begP_full _ (byt_at s i) n m hf
    rw [this] at h
    exact .inr ⟨n, m, rfl, h⟩
/-- what a round keeps: all that lies below n₀, and block Bn -/
def KB (n₀ Bn : Nat) (A B : World) : Prop := Below n₀ A B ∧ B.heap[Bn]? = A.heap[Bn]?
theorem KB.refl (n₀ Bn : Nat) (A : World) : KB n₀ Bn A A := ⟨Below.refl _ _, rfl⟩
theorem KB.trans {n₀ Bn : Nat} {A B C : World} (h : KB n₀ Bn A B) (k : KB n₀ Bn B C) : KB n₀ Bn A C := ⟨h.1.trans k.1, k.2.trans h.2⟩
theorem KB.of_below {n₀ Bn : Nat} {A B : World} (h : Below A.heap.size A B) (hn : n₀ ≤ A.heap.size) (hb : Bn < A.heap.size) : KB n₀ Bn A B := ⟨h.mono hn, h.block _ hb⟩
theorem KB.cell {n₀ Bn : Nat} {A B : World} {v : Value} (h : KB n₀ Bn A B) (hc : A.cell? ⟨Bn, 0, none⟩ = some v) : B.cell? ⟨Bn, 0, none⟩ = some v := (World.cell?_of_block (a := ⟨Bn, 0, none⟩) h.2).trans hc
theorem KB.put {n₀ Bn : Nat} {w : World} (hn : n₀ ≤ w.heap.size) (hb : Bn < w.heap.size) (W : World) (l : Nat) (o o' : Obj) (hl : w.heap.size ≤ l) (h : W.heap[l]? = some o) (h1 : o.isCells = false) (h2 : o.isWalk = false) : KB n₀ Bn W (W.putObj l o') :=
  ⟨belowK_b hn W l o o' hl h h1 h2, World.putObj_heap_other (by omega)⟩
theorem nibs_keep {w w1 : World} {B : Nat} (h : Nibs w) (hb : Below B w w1) (hB : 2 < B) : Nibs w1 :=
  ⟨fun i hi => (hb.cell (p := ⟨2, i, none⟩) hB).trans (h.cell i hi), Nat.lt_of_lt_of_le h.lt hb.size⟩
set_option maxRecDepth 100000 in
set_option maxHeartbeats 4000000 in
theorem pieces1_any (n l Bn n₀ : Nat) (s : ByteArray) (hmx : s.size ≤ 9223372036854775807) (J Jx : List Pc → World → Prop) (W : World) (hJa : AbidesFrom W.heap.size J)
    (hY : ∀ (pre : List Pc) (x : Pc) W1, J pre W1 → pre.length < (pcs s 0).length → YieldAt Fence.wide (n - 1) Tryd.prog l #[.agg (pV (x.1 : Nat) (x.2.1 : Nat) x.2.2)] W1 fun e W' =>
      (e = .returned (.bool true) ∧ J (pre ++ [x]) W' ∧ KB n₀ Bn W1 W') ∨ (e = .returned (.bool false) ∧ Jx (pre ++ [x]) W'))
    (hn₀ : n₀ ≤ W.heap.size) (hBn : Bn < W.heap.size) (hc : W.cell? ⟨Bn, 0, none⟩ = some (.string s)) (hN : Nibs W) (hN0 : 2 < n₀) (h0 : J [] W) :
    Calls Tryd.prog 75 #[.func (.yield l) #[] #[], .pointer (some ⟨Bn, 0, none⟩)] W fun e W' => (∃ v, e = .returned v) ∧
      ((∃ ys, ys = pcs s 0 ∧ J ys W') ∨ (∃ pre, pre <+: pcs s 0 ∧ Jx pre W')) := by
  have hnx := next_any s 0 W (Nat.zero_le _) hmx
  have hn0 := nxt_le s 0 (Nat.zero_le _)
  have HP0 : Aside0 (pcs s 0 = [] ++ pcs s (nxt s 0)) := ⟨(pcs_next s 0 (Nat.zero_le _)).symm⟩
  have HY := Aside0.mk hY
  have HJA := Aside0.mk hJa
  have HC := Aside0.mk hc
  have HN := Aside0.mk hN
  go_enter Tryd.func75, Tryd.ntmps75
  go_wp2_with fail
  refine hnx.mono ?_
  rintro e w1 ⟨rfl, hd⟩
  have HB1 := Aside0.mk (KB.of_below (n₀ := n₀) (Bn := Bn) (drawn_below hd) hn₀ hBn)
  have HJ1 := Aside0.mk (abides_below hJa h0 (drawn_below hd))
  have HZ1 := Aside0.mk (drawn_below (B := W.heap.size) hd).size
  clear hd hY hJa hN hc h0 hnx
  generalize nxt s 0 = i0 at HP0 hn0 ⊢
  go_wp2_with fail
  go_loopw [3, 4, 5, 6] (fun iv _ _ _ wr => ∃ (i : Nat) (pre : List Pc), i ≤ s.size ∧ iv = .int .i64 (i : Int) ∧ Aside0 (pcs s 0 = pre ++ pcs s i) ∧ Aside0 (J pre wr) ∧ Aside0 (KB n₀ Bn W wr)) (fun iv _ _ _ _ => s.size - (intOf iv).toNat)
  case atStart => exact ⟨i0, [], hn0.2, rfl, HP0, HJ1, HB1⟩
  case round =>
    clear HP0 HJ1 HB1 HZ1 hn0
    obtain ⟨i, pre, hi, rfl, HP, HJ, HB⟩ := hrel
    have hc1 : wr.cell? ⟨Bn, 0, none⟩ = some (.string s) := HB.out.cell HC.out
    have HN1 : Aside0 (Nibs wr) := ⟨nibs_keep HN.out HB.out.1 hN0⟩
    by_cases hlt : i < s.size
    · rcases begins_at s i wr hi hmx HN1.out with ⟨hf, q, k, m, hq, hbg⟩ | ⟨k, m, hf, hbg⟩
      · have HP1 : Aside0 (pcs s 0 = pre ++ pcs s (nxt s (i + 1))) := ⟨by rw [HP.out, pcs_none hlt hf, pcs_next s (i + 1) (by omega)]⟩
        clear HP hf
        have g0 : (0 : Int) ≤ (i : Int) := by omega
        have g1 : (i : Int) ≤ (s.size : Int) := by omega
        have hs1 := fun wx => run_slice_string_l (P := Tryd.prog) wx 9 s Tryd.underlying9 .i64 (i : Int) g0 g1
        rw [Int.toNat_natCast] at hs1
        generalize s.extract i s.size = S1 at hs1 hbg
        have HBG := Aside0.mk hbg
        clear hbg HN1
        go_wp2_with fail
        refine HBG.out.mono ?_
        rintro e w2 ⟨rfl, hb⟩
        have HB2 := Aside0.mk (KB.of_below (n₀ := n₀) (Bn := Bn) hb (by have := HB.out.1.size; omega) (by have := HB.out.1.size; omega))
        have HJ2 := Aside0.mk (abides_below HJA.out HJ.out hb)
        clear hb HBG hs1 HJ
        have hth := zeros_there w2
        have HM3 := Aside0.mk (zeros_new w2 m)
        have HB3 := Aside0.mk (HB2.out.trans (KB.of_below (zeros_below w2 m) (by have := HB.out.1.size; have := HB2.out.1.size; omega) (by have := HB.out.1.size; have := HB2.out.1.size; omega)))
        have HJ3 := Aside0.mk (abides_below HJA.out HJ2.out (zeros_below w2 m))
        go_upto_region 3 with ((with_reducible refine gate_store (ty := 24) (x := .tmp 6) (y := .tmp 20) rfl ?_); refine wpList_store_mid rfl 24 (.tmp 6) (.tmp 20) rfl w2.heap.size 0 (mL m).toArray rfl rfl hth infoM (mL_one m) ?_)
        clear hth HB2 HJ2 hc1
        generalize hw3 : (w2.alloc (.cells #[.int .i64 0, .int .i64 0, .int .i64 0, .int .i64 0, .int .i64 0, .int .i64 0, .int .i64 0, .int .i64 0, .int .i64 0, .string { data := #[] }, .string { data := #[] }] 24)).setCells w2.heap.size 0 (mL m) = w3 at HM3 HB3 HJ3 ⊢
        generalize w2.heap.size = g3 at HM3 hw3 ⊢
        clear hw3
        have HB4 := Aside0.mk (HB.out.trans HB3.out)
        have hc1 : w3.cell? ⟨Bn, 0, none⟩ = some (.string s) := HB4.out.cell HC.out
        clear HB HB3
        have hq2 : (q != 2) = true := bne_iff_ne.2 hq
        have hw1 : wrap64 ((i : Int) + 1) = ((i + 1 : Nat) : Int) := RefAt.wadd i 1 (by omega)
        have hnx := fun w => Lib.hid (next_any s (i + 1) w (by omega) hmx)
        have hnb := nxt_le s (i + 1) (by omega)
        generalize nxt s (i + 1) = i2 at hnx hnb HP1
        go_wp2_with fail
        refine (hnx _).out.mono ?_
        rintro e w5 ⟨rfl, hd⟩
        have HB5 := Aside0.mk (HB4.out.trans (KB.of_below (drawn_below hd) (by have := HB4.out.1.size; omega) (by have := HB4.out.1.size; omega)))
        have HJ5 := Aside0.mk (abides_below HJA.out HJ3.out (drawn_below hd))
        clear hd hnx HB4 HJ3
        go_wp2_with fail
        go_roundw
        case rel => exact ⟨i2, pre, hnb.2, rfl, HP1, HJ5, HB5⟩
        case measure => simp [intOf]; omega
      · have HF := Aside0.mk (fr_bounds hf)
        have HP1 : Aside0 (pcs s 0 = pre ++ (i, k, m) :: pcs s (nxt s (i + k))) := ⟨by rw [HP.out, pcs_some hf, pcs_next s (i + k) HF.out.2.2]⟩
        clear HP hf
        have g0 : (0 : Int) ≤ (i : Int) := by omega
        have g1 : (i : Int) ≤ (s.size : Int) := by omega
        have hs1 := fun wx => run_slice_string_l (P := Tryd.prog) wx 9 s Tryd.underlying9 .i64 (i : Int) g0 g1
        rw [Int.toNat_natCast] at hs1
        generalize s.extract i s.size = S1 at hs1 hbg
        have HBG := Aside0.mk hbg
        clear hbg HN1
        go_wp2_with fail
        refine HBG.out.mono ?_
        rintro e w2 ⟨rfl, hb⟩
        have HB2 := Aside0.mk (KB.of_below (n₀ := n₀) (Bn := Bn) hb (by have := HB.out.1.size; omega) (by have := HB.out.1.size; omega))
        have HJ2 := Aside0.mk (abides_below HJA.out HJ.out hb)
        clear hb HBG hs1 HJ
        have hth := zeros_there w2
        have HM3 := Aside0.mk (zeros_new w2 m)
        have HB3 := Aside0.mk (HB2.out.trans (KB.of_below (zeros_below w2 m) (by have := HB.out.1.size; have := HB2.out.1.size; omega) (by have := HB.out.1.size; have := HB2.out.1.size; omega)))
        have HJ3 := Aside0.mk (abides_below HJA.out HJ2.out (zeros_below w2 m))
        go_upto_region 3 with ((with_reducible refine gate_store (ty := 24) (x := .tmp 6) (y := .tmp 20) rfl ?_); refine wpList_store_mid rfl 24 (.tmp 6) (.tmp 20) rfl w2.heap.size 0 (mL m).toArray rfl rfl hth infoM (mL_one m) ?_)
        clear hth HB2 HJ2 hc1
        generalize hw3 : (w2.alloc (.cells #[.int .i64 0, .int .i64 0, .int .i64 0, .int .i64 0, .int .i64 0, .int .i64 0, .int .i64 0, .int .i64 0, .int .i64 0, .string { data := #[] }, .string { data := #[] }] 24)).setCells w2.heap.size 0 (mL m) = w3 at HM3 HB3 HJ3 ⊢
        generalize w2.heap.size = g3 at HM3 hw3 ⊢
        clear hw3
        have HB4 := Aside0.mk (HB.out.trans HB3.out)
        have hc1 : w3.cell? ⟨Bn, 0, none⟩ = some (.string s) := HB4.out.cell HC.out
        clear HB HB3
        have hrg := blk_range HM3.out.row
        have hlen : pre.length < (pcs s 0).length := by rw [HP1.out]; simp
        obtain ⟨fn, tmps, assign, body, hy, hR⟩ := HY.out pre (i, k, m) w3 HJ3.out hlen
        have HR := Aside0.mk hR
        clear hlen hR
        go_upto_region 5 with fail
        refine (wpIn_wide (n := n)).1 ?_
        dsimp only at hy
        gi_wp2_with (first | ((with_reducible refine gateIn_load (ty := 24) (x := .tmp 6) rfl ?_); refine listIn_load_mid rfl 24 (.tmp 6) rfl g3 0 rfl (mL m) _ hrg Tryd.underlying24 rfl infoM ?_) | ((with_reducible refine gateIn_build (t := 44) (parts := #[(0, .tmp 28), (1, .tmp 29), (2, .tmp 30)]) rfl ?_); go_loud (refine listIn_buildP rfl 28 29 30 rfl (i : Int) (k : Int) m rfl rfl rfl ?_)))
        refine ⟨fun h => (by cases h), HR.out.mono ?_⟩
        rintro e w4 (⟨rfl, hj4, hk4⟩ | ⟨rfl, hjx⟩)
        · have HJ4 := Aside0.mk hj4
          have HB5 := Aside0.mk (HB4.out.trans hk4)
          have hc2 : w4.cell? ⟨Bn, 0, none⟩ = some (.string s) := HB5.out.cell HC.out
          have hb0 := HF.out
          have hw1 : wrap64 ((i : Int) + (k : Int)) = ((i + k : Nat) : Int) := RefAt.wadd i k (by omega)
          have hnx := fun w => Lib.hid (next_any s (i + k) w hb0.2.2 hmx)
          have hnb := nxt_le s (i + k) hb0.2.2
          generalize nxt s (i + k) = i2 at hnx hnb HP1
          clear hj4 hk4 HR hrg hc1 HB4 HJ3 hy hb0
          gi_wp2
          go_wp2_with fail
          refine (hnx _).out.mono ?_
          rintro e w5 ⟨rfl, hd⟩
          have HB6 := Aside0.mk (HB5.out.trans (KB.of_below (drawn_below hd) (by have := HB5.out.1.size; omega) (by have := HB5.out.1.size; omega)))
          have HJ6 := Aside0.mk (abides_below HJA.out HJ4.out (drawn_below hd))
          clear hd hnx HB5 HJ4
          go_wp2_with fail
          go_roundw
          case rel => exact ⟨i2, pre ++ [(i, k, m)], hnb.2, rfl, ⟨by rw [HP1.out]; simp⟩, HJ6, HB6⟩
          case measure => have := HF.out; simp [intOf]; omega
        · have HJX := Aside0.mk hjx
          clear hjx HR hrg hc1 HB4 HJ3 hy
          gi_wp2
          go_wp2_with fail
          refine bodyPost_ret (results_none rfl _ _ _) rfl ?_
          exact ⟨⟨_, rfl⟩, .inr ⟨pre ++ [(i, k, m)], ⟨pcs s (nxt s (i + k)), by rw [HP1.out]; simp⟩, HJX.out⟩⟩
    · obtain rfl : i = s.size := by omega
      have HE : Aside0 (pre = pcs s 0) := ⟨by rw [HP.out, pcs_end (Nat.le_refl _), List.append_nil]⟩
      go_wp2_with fail
      go_end0
      exact ⟨⟨_, rfl⟩, .inl ⟨pre, HE.out, HJ.out⟩⟩
theorem pieces_any (s : ByteArray) (w : World) : Calls Tryd.prog 49 #[.string s] w fun e w' => e = .returned (.func (.func 75) #[] #[.pointer (some ⟨w.heap.size, 0, none⟩)]) ∧ w' = w.alloc (.cells #[.string s] 9) := by
  go_enter Tryd.func49, Tryd.ntmps49
  go_wp2
  go_ret
  exact ⟨rfl, rfl⟩
/-- a piece as an argument -/
abbrev pA (x : Pc) : Array Value := #[.agg (pV (x.1 : Nat) (x.2.1 : Nat) x.2.2)]
theorem pieces_stops (n Bn n₀ : Nat) (s : ByteArray) (hmx : s.size ≤ 9223372036854775807) (w : World) (hn₀ : n₀ ≤ w.heap.size) (hBn : Bn < w.heap.size) (hc : w.cell? ⟨Bn, 0, none⟩ = some (.string s)) (hN : Nibs w) (hN0 : 2 < n₀) :
    SeqStopsK Fence.wide n Tryd.prog 75 #[.pointer (some ⟨Bn, 0, none⟩)] pA (KB n₀ Bn) (fun ys => ys = pcs s 0) (fun pre => pre <+: pcs s 0) (pcs s 0).length w := by
  intro l J Jx W hW hJ _ hY h0
  exact callsIn_wide.2 (pieces1_any n l Bn n₀ s hmx J Jx W hJ hY (Nat.le_trans hn₀ hW.size) (Nat.lt_of_lt_of_le hBn hW.size) ((hW.cell (p := ⟨Bn, 0, none⟩) hBn).trans hc) (hN.below hW) hN0 h0)
/-! blocks kept by the law's book-keeping -/
theorem blk_own {β : Type} (B : Nat) (t : TypeId) (cs : Array Value) : Own (fun (_ : β) W => W.heap[B]? = some (.cells cs t (0, 0))) := fun s X Y row hs hg hrow =>
  (hg.block B (Array.getElem?_eq_some_iff.1 hs).1 (fun e => by obtain ⟨o, ho, hc⟩ := hrow B e.symm; rw [hs] at ho; cases ho; cases hc)).trans hs
theorem keeps_cells (W : World) (b : Nat) : ∀ (vs : List Value) (o : Nat), KeepsOthers W (W.setCells b o vs) := by
  intro vs
  induction vs generalizing W with
  | nil => intro o; exact KeepsOthers.refl W
  | cons v vs ih => intro o; exact (KeepsOthers.setCell W ⟨b, o, none⟩ v).trans (ih _ _)
end Go.Proofs.YtnifgokjagahfaaDoor.Pieces

/- frame.Split: the frames of a stream. -/
set_option linter.unusedVariables false
set_option linter.unusedSimpArgs false
namespace Go.Proofs.YtnifgokjagahfaaDoor.Split
open Go.RowKit Go.Shelf Go.Proofs.YtnifgokjagahfaaDoorW.PrintWords Go.Proofs.YtnifgokjagahfaaDoorW.PrintLast Go.Proofs.YtnifgokjagahfaaDoorW.PrintMore
open Go.Proofs.YtnifgokjagahfaaDoor.Base Go.Proofs.YtnifgokjagahfaaDoor.App Go.Proofs.YtnifgokjagahfaaDoor.Layouts Go.Proofs.YtnifgokjagahfaaDoor.Msg Go.Proofs.YtnifgokjagahfaaDoor.Mids Go.Proofs.YtnifgokjagahfaaDoor.SplitPure Go.Proofs.YtnifgokjagahfaaDoor.Pcs Go.Proofs.YtnifgokjagahfaaDoor.PcsIn Go.Proofs.YtnifgokjagahfaaDoor.Pieces
open Go.Proofs.YtnifgokjagahfaaDoor.Crc (Nibs)
attribute [local go_sem] Oper.semAt_some
theorem infoP13 : (Tryd.prog.info? 44).map (·.size) = some 13 := by kernel_rfl
set_option maxRecDepth 100000 in
set_option maxHeartbeats 4000000 in
theorem split_any (s : ByteArray) (w : World) (hsz : s.size ≤ 4194304) (hN : Nibs w) : Calls Tryd.prog 20 #[.string s] w fun e w' => ∃ v, e = .returned v ∧ w'.ownsRow w.heap.size 44 13 v (pcs s 0).length (psL (pcs s 0)) ∧ Below w.heap.size w w' := by
  have hmx : s.size ≤ 9223372036854775807 := by omega
  refine (callsIn_wide (n := 6)).1 ?_
  refine callsIn_of_wp_marks Tryd.func20 rfl trivial ?_ rfl
  simp only [Tryd.ntmps20, List.size_toArray, List.length_cons, List.length_nil, Nat.reduceAdd, Nat.reduceSub, Array.replicate_succ, Array.replicate_zero, List.push_toArray, List.append_toArray, List.nil_append, List.cons_append]
  have HN := Aside0.mk hN
  clear hN
  gi_wp2_with fail
  refine ⟨trivial, (callsIn_wide.2 (pieces_any s _)).mono ?_⟩
  rintro e w' ⟨rfl, rfl⟩
  have bO := (Boxed.new w 38 (.slice none 0 0)).alloc (.cells #[.string s] 9)
  have bS := Boxed.new (w.alloc (.cells #[.slice none 0 0] 38)) 9 (.string s)
  rw [World.size_alloc] at bS
  have hB0 : Below w.heap.size w ((w.alloc (.cells #[.slice none 0 0] 38)).alloc (.cells #[.string s] 9)) := ((Below.refl _ w).alloc (Nat.le_refl _) _).alloc (by simp) _
  have hsz0 : ((w.alloc (.cells #[.slice none 0 0] 38)).alloc (.cells #[.string s] 9)).heap.size = w.heap.size + 2 := by simp
  gi_wp2_with fail
  generalize (w.alloc (.cells #[.slice none 0 0] 38)).alloc (.cells #[.string s] 9) = W0 at bO bS hB0 hsz0 ⊢
  have HB0 := Aside0.mk hB0
  have HS0 := Aside0.mk hsz0
  have bC := bS.cell
  refine wpIn_rangeFunc_ownH rfl (by decide) (gf := 75) (lb := #[.pointer (some ⟨w.heap.size + 1, 0, none⟩)]) rfl trivial (enters_of Tryd.func75 (by kernel_rfl) rfl)
    (pieces_stops 5 (w.heap.size + 1) w.heap.size s hmx W0 (by omega) (by omega) bC (HN.out.below hB0) HN.out.lt) KB.trans (KB.put (by omega) (by omega)) (Below.refl _ _) (fun _ => rfl)
    (fun pre W => (∃ v, Boxed W w.heap.size 38 v ∧ W.ownsRow w.heap.size 44 13 v pre.length (psL pre) ∧ True) ∧ (Below w.heap.size w W ∧ Boxed W (w.heap.size + 1) 9 (.string s)))
    (fun _ _ _ => False)
    (OwnFrom.and (Own.from (holdsRow_own w.heap.size w.heap.size 38 44 13 (fun pre => pre.length) (fun pre => psL pre) (fun _ _ => True)) _) (OwnFrom.and (ownFrom_below (Nat.le_refl _) (by omega)) (Own.from (boxed_own (w.heap.size + 1) 9 (fun _ => .string s)) _)))
    (fun _ _ _ _ _ hs _ _ => hs)
    ⟨⟨_, bO, World.ownsRow_nil _ _ _ _, trivial⟩, hB0, bS⟩
    (fun x a' W => ∃ Bx, w.heap.size + 1 < Bx ∧ W.heap[Bx]? = some (.cells (pV (x.1 : Nat) (x.2.1 : Nat) x.2.2) 44 (0, 0)) ∧ a' = { tmps := #[.string s, undef, .slice none 0 0, .pointer (some ⟨w.heap.size, 0, none⟩), .pointer (some ⟨Bx, 0, none⟩), .string s, .func (.func 75) #[] #[.pointer (some ⟨w.heap.size + 1, 0, none⟩)], .agg (pV (x.1 : Nat) (x.2.1 : Nat) x.2.2), undef, undef, undef, undef, undef], defers := [] })
    (fun x a' _ X Y row hs hg hr => by obtain ⟨Bx, h1, h2, h3⟩ := hs; exact ⟨Bx, h1, blk_own Bx 44 (pV (x.1 : Nat) (x.2.1 : Nat) x.2.2) () X Y row h2 hg (fun r e => (hr r e).2), h3⟩)
    ?assign ?body ?done ?stop
  case assign =>
    rintro l pre x W K ⟨⟨v, hv, hrow, _⟩, hB, hbs⟩ hK
    have hS := hbs.lt
    have HBS := Aside0.mk hbs
    clear hbs
    have hth : (W.alloc (.cells #[.int .i64 0, .int .i64 0, .int .i64 0, .int .i64 0, .int .i64 0, .int .i64 0, .int .i64 0, .int .i64 0, .int .i64 0, .int .i64 0, .int .i64 0, .string { data := #[] }, .string { data := #[] }] 44)).there W.heap.size 0 13 := blk_there (cs := [.int .i64 0, .int .i64 0, .int .i64 0, .int .i64 0, .int .i64 0, .int .i64 0, .int .i64 0, .int .i64 0, .int .i64 0, .int .i64 0, .int .i64 0, .string { data := #[] }, .string { data := #[] }]) (Go.heap_alloc_new W _)
    have hb : Below W.heap.size W ((W.alloc (.cells #[.int .i64 0, .int .i64 0, .int .i64 0, .int .i64 0, .int .i64 0, .int .i64 0, .int .i64 0, .int .i64 0, .int .i64 0, .int .i64 0, .int .i64 0, .string { data := #[] }, .string { data := #[] }] 44)).setCells W.heap.size 0 (pV (x.1 : Nat) (x.2.1 : Nat) x.2.2).toList) := below_setCells ((Below.refl _ _).alloc (Nat.le_refl _) _) (Nat.le_refl _) _ _
    have hko := (KeepsOthers.alloc W (.cells #[.int .i64 0, .int .i64 0, .int .i64 0, .int .i64 0, .int .i64 0, .int .i64 0, .int .i64 0, .int .i64 0, .int .i64 0, .int .i64 0, .int .i64 0, .string { data := #[] }, .string { data := #[] }] 44)).trans (keeps_cells _ W.heap.size (pV (x.1 : Nat) (x.2.1 : Nat) x.2.2).toList 0)
    have hnew := setCells_whole (vs := (pV (x.1 : Nat) (x.2.1 : Nat) x.2.2).toList) (Go.heap_alloc_new W (.cells #[.int .i64 0, .int .i64 0, .int .i64 0, .int .i64 0, .int .i64 0, .int .i64 0, .int .i64 0, .int .i64 0, .int .i64 0, .int .i64 0, .int .i64 0, .string { data := #[] }, .string { data := #[] }] 44)) rfl
    have HK := Aside0.mk hK
    have HB := Aside0.mk hb
    have HKO := Aside0.mk hko
    have HNW := Aside0.mk hnew
    have HV := Aside0.mk hv
    have HR := Aside0.mk hrow
    have HB1 := Aside0.mk hB
    clear hK hb hv hrow hko hnew hB
    gi_wp2_with ((with_reducible refine gateIn_store (ty := 44) (x := .tmp 4) (y := .tmp 7) rfl ?_); refine listIn_store_mid rfl 44 (.tmp 4) (.tmp 7) rfl W.heap.size 0 (pV (x.1 : Nat) (x.2.1 : Nat) x.2.2) rfl rfl hth infoP13 (pL_all x) ?_)
    have hlt := HV.out.lt
    refine HK.out _ _ (HKO.out.from _) (KB.of_below HB.out (by omega) (by omega)) ⟨⟨v, (HB.out.block _ hlt).trans HV.out, own_later HR.out HB.out, trivial⟩, HB1.out.trans (HB.out.mono (by omega)), (HB.out.block _ hS).trans HBS.out⟩ ⟨W.heap.size, by omega, HNW.out, rfl⟩
  case body =>
    rintro l pre x a' W hl hr0 ⟨⟨v, hv, hrow, _⟩, hB, hbs⟩ ⟨Bx, hBx, hbx, rfl⟩ hlt
    have hc := hv.cell
    have hf := hv.frozen
    have hrg := blk_range (cs := .int .i64 (x.1 : Nat) :: .int .i64 (x.2.1 : Nat) :: mL x.2.2) hbx
    have HV := Aside0.mk hv
    have HR := Aside0.mk hrow
    have HB1 := Aside0.mk hB
    have hS := hbs.lt
    have HBS := Aside0.mk hbs
    clear hbs
    have hlen : 24 * (pre.length + 1) ≤ s.size := by have := pcs_bytes s 0; omega
    have HLEN := Aside0.mk hlen
    have HNEW := Aside0.mk (news W (pL x) 44)
    obtain ⟨i0, hi, hz0, hz1, hz2⟩ := info_parts infoP
    clear hv hrow hB hlen hr0 hl hbx
    gi_wp2_with (first | ((with_reducible refine gateIn_load (ty := 44) (x := .tmp 4) rfl ?_); refine listIn_load_mid rfl 44 (.tmp 4) rfl Bx 0 rfl _ _ hrg Tryd.underlying44 rfl infoP13 ?_) | ((with_reducible refine gateIn_buildSlice (t := 38) (k := 1) (parts := #[(0, .tmp 9)]) rfl ?_); go_loud (refine listIn_oneP rfl 9 rfl (x.1 : Nat) (x.2.1 : Nat) x.2.2 rfl ?_)) | ((with_reducible refine gateIn_call (args := #[.tmp 8, .tmp 10]) rfl ?_); go_loud (refine wpListIn_append_own _ rfl (.tmp 8) (.tmp 10) 38 rfl w.heap.size 44 i0 _ 13 120 Tryd.underlying38 hi hz0 hz1 hz2 rfl (by decide) v pre.length (psL pre) rfl (HR.out.alloc _) ⟨W.heap.size, 0, none⟩ 1 1 (pL x) rfl rfl ?ac (pL_one x) ?a1 ?a2 ?a3 ?_); (case ac => intro j u hj; have := HNEW.out j u hj; have e : (⟨W.heap.size, 0, none⟩ : Addr).add j = ⟨W.heap.size, j, none⟩ := (by unfold Addr.add; split <;> simp_all); rw [e]; exact this); (case a1 => have := HLEN.out; simp only [maxLen]; omega); (case a2 => have := HLEN.out; omega); (case a3 => simp; omega); intro v' w1 hown' hgrow _; obtain ⟨g', cap', rfl⟩ := ownsRow_succ hown'; obtain ⟨hv1, hv2, hr2, hk2, hb2⟩ := HV.out.appended (by decide) HR.out (by omega) (Nat.le_refl _) hown' hgrow; have hc1 := hv1.cell; have hf1 := hv1.frozen; have HV2 := Aside0.mk hv2; have HR2 := Aside0.mk hr2; have HK2 := Aside0.mk hk2; have HB2 := Aside0.mk hb2; have HG2 := Aside0.mk (((HBS.out.alloc _).kept hgrow (HBS.out.not_row (by decide) HR.out)).other (Nat.succ_ne_self _) (.slice (some ⟨g', 0, none⟩) (pre.length + 1) cap')); clear hv1 hv2 hr2 hk2 hb2 hgrow hown'))
    exact ⟨HK2.out.from _, ⟨HB2.out, HG2.out.trans HBS.out.symm⟩, ⟨_, HV2.out, by rw [psL_snoc, List.length_append]; exact HR2.out, trivial⟩, HB1.out.trans HB2.out, HG2.out⟩
  case done =>
    rintro D ys W hD rfl ⟨⟨v, hv, hrow, _⟩, hB, hbs⟩ hK
    clear hbs
    have hc := hv.cell
    have HR := Aside0.mk hrow
    have HB1 := Aside0.mk hB
    have HKD := Aside0.mk hK
    clear hrow hB
    gi_wp2
    refine ⟨by simp, .inl ⟨_, _, rfl, run_takeDeferred HKD.out, ?_⟩⟩
    exact ⟨_, results_tmp rfl _ _ _, _, rfl, ownsRow_putObj HR.out _ HKD.out rfl, HB1.out.trans (belowK_b (w := w) (Nat.le_refl _) W D _ _ (by omega) HKD.out rfl rfl)⟩
  case stop =>
    rintro D c pre W _ _ h _
    exact h.elim
end Go.Proofs.YtnifgokjagahfaaDoor.Split

/- The document's Split. -/
set_option linter.unusedVariables false
set_option linter.unusedSimpArgs false
namespace Go.Proofs.YtnifgokjagahfaaDoor.RefSplit
open Go.RowKit Go.Proofs.YtnifgokjagahfaaDoorW.PrintWords Go.Proofs.YtnifgokjagahfaaDoorW.PrintLast Go.Proofs.YtnifgokjagahfaaDoorW.PrintMore
open Go.Proofs.YtnifgokjagahfaaDoor.Base Go.Proofs.YtnifgokjagahfaaDoor.App Go.Proofs.YtnifgokjagahfaaDoor.Layouts Go.Proofs.YtnifgokjagahfaaDoor.Msg Go.Proofs.YtnifgokjagahfaaDoor.Mids Go.Proofs.YtnifgokjagahfaaDoor.SplitPure Go.Proofs.YtnifgokjagahfaaDoor.Pcs
open Go.Proofs.YtnifgokjagahfaaDoor.Dec (mL_one infoM)
open Go.Proofs.YtnifgokjagahfaaDoor.LawDec (zeros_new zeros_there zeros_below)
open Go.Proofs.YtnifgokjagahfaaDoor.RefF (RTab)
set_option maxRecDepth 100000 in
set_option maxHeartbeats 8000000 in
theorem rsplit_any (s : ByteArray) (w : World) (hsz : s.size ≤ 4194304) (hR : RTab w) : Calls Tryd.prog 21 #[.string s] w fun e w' => ∃ v, e = .returned v ∧ w'.ownsRow w.heap.size 44 13 v (pcs s 0).length (psL (pcs s 0)) ∧ Below w.heap.size w w' := by
  have HR := Aside0.mk hR
  have HB0 := Aside0.mk (Below.refl w.heap.size w)
  have HO0 := Aside0.mk (World.ownsRow_nil w w.heap.size 44 13)
  have hmx : s.size ≤ 9223372036854775807 := by omega
  clear hR
  go_enter Tryd.func21, Tryd.ntmps21
  go_wp2
  go_loopw [3, 4, 5, 6] (fun v iv _ _ wr => ∃ (i : Nat) (pre : List Pc), i ≤ s.size ∧ iv = .int .i64 (i : Int) ∧ Aside0 (pcs s 0 = pre ++ pcs s i) ∧ Aside0 (wr.ownsRow w.heap.size 44 13 v pre.length (psL pre)) ∧ Aside0 (Below w.heap.size w wr)) (fun _ iv _ _ _ => s.size - (intOf iv).toNat)
  case atStart => exact ⟨0, [], Nat.zero_le _, rfl, ⟨rfl⟩, HO0, HB0⟩
  case round =>
    clear HO0 HB0
    obtain ⟨i, pre, hi, rfl, HP, HO, HB⟩ := hrel
    by_cases hlt : i < s.size
    · have KA := fun (w : World) hR => Lib.hid (at_any s i w hlt hmx hR)
      have HF : Aside0 (fr s i = fr s i) := ⟨rfl⟩
      have hN : (atP s i).1 ≤ 4407 := by
        unfold atP
        cases hf : fr s i with
        | none => exact Nat.zero_le _
        | some r => exact (fr_bounds hf).2.1
      have HA : Aside0 (((atP s i).1 = 0 ∧ pcs s i = pcs s (i + 1)) ∨ ((atP s i).1 ≠ 0 ∧ i + (atP s i).1 ≤ s.size ∧ pcs s i = (i, atP s i) :: pcs s (i + (atP s i).1))) := by
        refine ⟨?_⟩
        unfold atP
        cases hf : fr s i with
        | none => exact .inl ⟨rfl, pcs_none hlt hf⟩
        | some r =>
          have := fr_bounds hf
          exact .inr ⟨by simp only; omega, this.2.2, pcs_some hf⟩
      generalize atP s i = r at KA HA hN
      obtain ⟨N, m⟩ := r
      simp only at KA HA hN
      go_wp2_with fail
      refine (KA _ (HR.out.below (HB.out.mono (Nat.le_refl _)))).out.mono ?_
      rintro e w3 ⟨rfl, hb⟩
      have HB3 := Aside0.mk (HB.out.trans (hb.mono HB.out.size))
      have HO3 := Aside0.mk (own_later HO.out hb)
      clear hb KA HO
      have hth := zeros_there w3
      have HM4 := Aside0.mk (zeros_new w3 m)
      have HB4 := Aside0.mk (HB3.out.trans ((zeros_below w3 m).mono HB3.out.size))
      have HO4 := Aside0.mk (own_later HO3.out (zeros_below w3 m))
      go_upto_region 5 with ((with_reducible refine gate_store (ty := 24) (x := .tmp 6) (y := .tmp 16) rfl ?_); refine wpList_store_mid rfl 24 (.tmp 6) (.tmp 16) rfl w3.heap.size 0 (mL m).toArray rfl rfl hth infoM (mL_one m) ?_)
      clear hth HB3 HO3
      generalize hw4 : (w3.alloc (.cells #[.int .i64 0, .int .i64 0, .int .i64 0, .int .i64 0, .int .i64 0, .int .i64 0, .int .i64 0, .int .i64 0, .int .i64 0, .string { data := #[] }, .string { data := #[] }] 24)).setCells w3.heap.size 0 (mL m) = w4 at HM4 HB4 HO4 ⊢
      generalize w3.heap.size = g4 at HM4 hw4 ⊢
      clear hw4
      by_cases h0 : N = 0
      · have he := (HA.out.resolve_right (fun h => h.1 h0)).2
        have HE := Aside0.mk he
        clear HA he
        subst h0
        have hw1 : wrap64 ((i : Int) + 1) = ((i + 1 : Nat) : Int) := RefAt.wadd i 1 (by omega)
        go_wp2
        go_roundw
        case rel => exact ⟨i + 1, pre, by omega, by go_num, ⟨by rw [HP.out, HE.out]⟩, HO4, HB4⟩
        case measure => simp [intOf]; omega
      · obtain ⟨_, hle, he⟩ := HA.out.resolve_left (fun h => h0 h.1)
        have HE := Aside0.mk he
        have hn0 : ((N : Int) == 0) = false := beq_eq_false_iff_ne.2 (by omega)
        have hw1 : wrap64 ((i : Int) + (N : Int)) = ((i + N : Nat) : Int) := RefAt.wadd i N (by omega)
        clear HA he
        have hrg := blk_range HM4.out.row
        have hlen : 24 * pre.length ≤ s.size := by
          have := pcs_bytes s 0
          rw [HP.out, List.length_append] at this
          omega
        have HLEN := Aside0.mk hlen
        have HBS := Aside0.mk HB4.out.size
        have HNEW := Aside0.mk (news w4 (pL (i, N, m)) 44)
        clear hlen
        go_wp2_with (first | ((with_reducible refine gate_load (ty := 24) (x := .tmp 6) rfl ?_); refine wpList_load_mid rfl 24 (.tmp 6) rfl g4 0 rfl (mL m) _ hrg Tryd.underlying24 rfl infoM ?_) | ((with_reducible refine gate_build (t := 44) (parts := #[(0, .tmp 22), (1, .tmp 23), (2, .tmp 24)]) rfl ?_); go_loud (refine list_buildP rfl 22 23 24 rfl (i : Int) (N : Int) m rfl rfl rfl ?_)) | ((with_reducible refine gate_buildSlice (t := 38) (n := 1) (parts := #[(0, .tmp 25)]) rfl ?_); go_loud (refine list_oneP rfl 25 rfl (i : Int) (N : Int) m rfl ?_)) | (at_builtin; go_loud (refine list_append_wide (P := Tryd.prog) (w0 := w) w.heap.size rfl (.tmp 21) (.tmp 26) 38 44 _ 13 120 rfl Tryd.underlying38 infoP rfl (by decide) (by decide) _ pre.length (psL pre) w4.heap.size 1 1 (pL (i, N, m)) rfl rfl rfl (pL_one _) HNEW.out (HO4.out.alloc _) (HB4.out.alloc HBS.out _) ?hs ?hl ?_); (case hs => have := HBS.out; simp; omega); (case hl => have := HLEN.out; omega); intro v1 w5 HO5 HB5 _))
        go_roundw
        case rel => exact ⟨i + N, pre ++ [(i, N, m)], by omega, by go_num, ⟨by rw [HP.out, HE.out]; simp⟩, ⟨by rw [psL_snoc, List.length_append]; exact HO5⟩, ⟨HB5⟩⟩
        case measure => simp [intOf]; omega
    · obtain rfl : i = s.size := by omega
      have HE : Aside0 (pcs s 0 = pre) := ⟨by rw [HP.out, pcs_end (Nat.le_refl _), List.append_nil]⟩
      go_wp2
      go_ret
      rw [HE.out]
      exact ⟨_, rfl, HO.out, HB.out⟩
end Go.Proofs.YtnifgokjagahfaaDoor.RefSplit

/- Cut out of the text PFrameSplitsx2 that the printer wrote: granarylaw5_samePieces alone. -/
namespace Go.Proofs.YtnifgokjagahfaaDoor.PFrameSplits
open Go.RowKit Go.Proofs.YtnifgokjagahfaaDoorW.PrintWords Go.Proofs.YtnifgokjagahfaaDoorW.PrintLast Go.Proofs.YtnifgokjagahfaaDoorW.PrintMore
attribute [local go_sem] max2_int min2_int max_two min_two max_three min_three max_four min_four   -- for this text's walks alone
set_option linter.unusedVariables false
set_option linter.unusedSimpArgs false

attribute [local go_sem high] eqA44
/-! ### granarylaw5_samePieces: function 19 -/
def granarylaw5_samePieces.l0 : Nat → List (S44) → List (S44) → Int → Option (Bool)
  | 0, _, _, _ => none
  | k + 1, x0, x1, x5 => if x5 < (x0.length : Int) then (if 0 ≤ x5 then (if x5 < (x1.length : Int) then (if (!(((rd_T44 x0 x5).f0) == ((rd_T44 x1 x5).f0)) || (!(((rd_T44 x0 x5).f1) == ((rd_T44 x1 x5).f1)) || ((!(((rd_T44 x0 x5).f2.f0) == ((rd_T44 x1 x5).f2.f0)) || (!(((rd_T44 x0 x5).f2.f1) == ((rd_T44 x1 x5).f2.f1)) || (!(((rd_T44 x0 x5).f2.f2) == ((rd_T44 x1 x5).f2.f2)) || (!(((rd_T44 x0 x5).f2.f3) == ((rd_T44 x1 x5).f2.f3)) || (!(((rd_T44 x0 x5).f2.f4) == ((rd_T44 x1 x5).f2.f4)) || (!(((rd_T44 x0 x5).f2.f5) == ((rd_T44 x1 x5).f2.f5)) || (!(((rd_T44 x0 x5).f2.f6) == ((rd_T44 x1 x5).f2.f6)) || (!(((rd_T44 x0 x5).f2.f7) == ((rd_T44 x1 x5).f2.f7)) || (!(((rd_T44 x0 x5).f2.f8) == ((rd_T44 x1 x5).f2.f8)) || (!((((rd_T44 x0 x5).f2.f9).toList) == (((rd_T44 x1 x5).f2.f9).toList)) || (!((((rd_T44 x0 x5).f2.f10).toList) == (((rd_T44 x1 x5).f2.f10).toList)))))))))))))))) = true then (some false) else (granarylaw5_samePieces.l0 k x0 x1 (wrap64 (x5 + 1)))) else (none)) else (none)) else (some true)
def granarylaw5_samePieces.f (k : Nat) (l0 : List (S44)) (l1 : List (S44)) : Option (Bool) := if (l0.length : Int) = (l1.length : Int) then (granarylaw5_samePieces.l0 k l0 l1 0) else (some false)
theorem granarylaw5_samePieces.mono_l : ∀ k, (∀ y0 y1 y2, LeO (granarylaw5_samePieces.l0 k y0 y1 y2) (granarylaw5_samePieces.l0 (k + 1) y0 y1 y2))
  | 0 => fun _ _ _ r h => by simp [granarylaw5_samePieces.l0] at h
  | k + 1 => by
    have ih0 := granarylaw5_samePieces.mono_l k
    · intro y0 y1 y2
      unfold granarylaw5_samePieces.l0
      repeat' first
      | (with_reducible exact ih0 _ _ _)
      | (with_reducible exact LeO.refl _)
      | (with_reducible exact LeO.none _)
      | (with_reducible refine LeO.ite ?_ ?_)
      | (with_reducible refine LeO.bind ?_ (fun _ => ?_))
      | exact ih0 _ _ _
      | exact LeO.none _
      | refine LeO.ite ?_ ?_
      | refine LeO.bind ?_ (fun _ => ?_)
theorem granarylaw5_samePieces.mono : ∀ a0 a1 k, LeO (granarylaw5_samePieces.f k a0 a1) (granarylaw5_samePieces.f (k + 1) a0 a1) := by
  intro a0 a1 k
  have ih0 := granarylaw5_samePieces.mono_l k
  unfold granarylaw5_samePieces.f
  repeat' first
      | (with_reducible exact ih0 _ _ _)
      | (with_reducible exact LeO.refl _)
      | (with_reducible exact LeO.none _)
      | (with_reducible refine LeO.ite ?_ ?_)
      | (with_reducible refine LeO.bind ?_ (fun _ => ?_))
      | exact ih0 _ _ _
      | exact LeO.none _
      | refine LeO.ite ?_ ?_
      | refine LeO.bind ?_ (fun _ => ?_)
set_option maxHeartbeats 8000000 in
set_option maxRecDepth 100000 in
theorem granarylaw5_samePieces.calls (k : Nat) (A0 : Option Addr) (c0 : Nat) (l0 : List (S44)) (A1 : Option Addr) (c1 : Nat) (l1 : List (S44)) (r : Bool) (w : World) (hr0 : Kd.C k44 w A0 l0.length l0) (hc0 : l0.length ≤ c0) (hr1 : Kd.C k44 w A1 l1.length l1) (hc1 : l1.length ≤ c1) (h : granarylaw5_samePieces.f k l0 l1 = some r) :
    Calls Tryd.prog 19 #[.slice A0 l0.length c0, .slice A1 l1.length c1] w fun e w' => e = .returned (.bool r) ∧ Drawn0 w w' := by
  have hu44 := Tryd.underlying44
  have HR0 := Aside0.mk hr0
  have HC0 := Aside0.mk hc0
  clear hr0 hc0
  have HR1 := Aside0.mk hr1
  have HC1 := Aside0.mk hc1
  clear hr1 hc1
  have H : (if (l0.length : Int) = (l1.length : Int) then (granarylaw5_samePieces.l0 k l0 l1 0) else (some false)) = some r := h
  clear h
  by_cases c3 : (l0.length : Int) = (l1.length : Int)
  · rw [if_pos c3] at H
    have c3b0 : ((l0.length : Int) == (l1.length : Int)) = true := beq_iff_eq.mpr c3
    have c3b1 : ((l0.length : Int) != (l1.length : Int)) = false := bne_eq_false_iff_eq.mpr c3
    have c3b2 : (l0.length == l1.length) = true := by first | simpa using c3 | (simp at c3 ⊢; omega)
    clear c3
    have H' := Aside0.mk H
    clear H
    go_enter Tryd.func19, Tryd.ntmps19
    go_wp2
    repeat (go_quiet (fail); try go_wp2)
    go_loopg [5] k (fun kq v5 w' => ∃ (x5_1 : Int), v5 = .int .i64 x5_1 ∧ Aside0 (granarylaw5_samePieces.l0 kq l0 l1 x5_1 = some r) ∧ Aside0 (kq ≤ k) ∧ Drawn0 w w')
    case atStart => exact ⟨(0), (by first | rfl | (simp; done) | (simp [*]; done)), H', ⟨Nat.le_refl _⟩, by repeat (first | exact Drawn0.refl _ | apply Drawn0.step)⟩
    case round =>
      clear H'
      try clear c1
      try clear p2
      try clear c3
      try clear c3b0
      try clear c3b1
      try clear c3b2
      obtain ⟨x5_1, rfl, HA, HK1, ⟨m1, rfl⟩⟩ := hrel
      cases gk with
      | zero => exact absurd HA.out (by simp [granarylaw5_samePieces.l0])
      | succ k1 =>
        have H := HA.out
        clear HA
        simp only [granarylaw5_samePieces.l0] at H
        by_cases c4 : x5_1 < (l0.length : Int)
        · rw [if_pos c4] at H
          have c4b0 : decide (x5_1 < (l0.length : Int)) = true := decide_eq_true c4
          clear c4
          by_cases c5 : 0 ≤ x5_1
          · rw [if_pos c5] at H
            have c5b0 : decide (0 ≤ x5_1) = true := decide_eq_true c5
            clear c5
            by_cases c6 : x5_1 < (l1.length : Int)
            · rw [if_pos c6] at H
              have c6b0 : decide (x5_1 < (l1.length : Int)) = true := decide_eq_true c6
              clear c6
              by_cases c7 : (!(((rd_T44 l0 x5_1).f0) == ((rd_T44 l1 x5_1).f0)) || (!(((rd_T44 l0 x5_1).f1) == ((rd_T44 l1 x5_1).f1)) || ((!(((rd_T44 l0 x5_1).f2.f0) == ((rd_T44 l1 x5_1).f2.f0)) || (!(((rd_T44 l0 x5_1).f2.f1) == ((rd_T44 l1 x5_1).f2.f1)) || (!(((rd_T44 l0 x5_1).f2.f2) == ((rd_T44 l1 x5_1).f2.f2)) || (!(((rd_T44 l0 x5_1).f2.f3) == ((rd_T44 l1 x5_1).f2.f3)) || (!(((rd_T44 l0 x5_1).f2.f4) == ((rd_T44 l1 x5_1).f2.f4)) || (!(((rd_T44 l0 x5_1).f2.f5) == ((rd_T44 l1 x5_1).f2.f5)) || (!(((rd_T44 l0 x5_1).f2.f6) == ((rd_T44 l1 x5_1).f2.f6)) || (!(((rd_T44 l0 x5_1).f2.f7) == ((rd_T44 l1 x5_1).f2.f7)) || (!(((rd_T44 l0 x5_1).f2.f8) == ((rd_T44 l1 x5_1).f2.f8)) || (!((((rd_T44 l0 x5_1).f2.f9).toList) == (((rd_T44 l1 x5_1).f2.f9).toList)) || (!((((rd_T44 l0 x5_1).f2.f10).toList) == (((rd_T44 l1 x5_1).f2.f10).toList)))))))))))))))) = true
              · rw [if_pos c7] at H
                have c7b0 : (!(((rd_T44 l0 x5_1).f0) == ((rd_T44 l1 x5_1).f0)) || (!(((rd_T44 l0 x5_1).f1) == ((rd_T44 l1 x5_1).f1)) || ((!(((rd_T44 l0 x5_1).f2.f0) == ((rd_T44 l1 x5_1).f2.f0)) || (!(((rd_T44 l0 x5_1).f2.f1) == ((rd_T44 l1 x5_1).f2.f1)) || (!(((rd_T44 l0 x5_1).f2.f2) == ((rd_T44 l1 x5_1).f2.f2)) || (!(((rd_T44 l0 x5_1).f2.f3) == ((rd_T44 l1 x5_1).f2.f3)) || (!(((rd_T44 l0 x5_1).f2.f4) == ((rd_T44 l1 x5_1).f2.f4)) || (!(((rd_T44 l0 x5_1).f2.f5) == ((rd_T44 l1 x5_1).f2.f5)) || (!(((rd_T44 l0 x5_1).f2.f6) == ((rd_T44 l1 x5_1).f2.f6)) || (!(((rd_T44 l0 x5_1).f2.f7) == ((rd_T44 l1 x5_1).f2.f7)) || (!(((rd_T44 l0 x5_1).f2.f8) == ((rd_T44 l1 x5_1).f2.f8)) || (!((((rd_T44 l0 x5_1).f2.f9).toList) == (((rd_T44 l1 x5_1).f2.f9).toList)) || (!((((rd_T44 l0 x5_1).f2.f10).toList) == (((rd_T44 l1 x5_1).f2.f10).toList)))))))))))))))) = true := c7
                clear c7
                obtain rfl := Option.some.inj H
                have p113 : 0 ≤ (x5_1 : Int) := of_decide_eq_true (by first | (with_reducible assumption) | assumption)
                have q113 : x5_1 < (l0.length : Int) := of_decide_eq_true (by first | (with_reducible assumption) | assumption)
                obtain ⟨ad113, e113, hx113_0, hx113_1, hx113_2, hx113_3, hx113_4, hx113_5, hx113_6, hx113_7, hx113_8, hx113_9, hx113_10, hx113_11, hx113_12⟩ := at_T44 HR0.out x5_1 p113 q113
                cases e113
                replace p113 := eq_true p113
                replace q113 := eq_true q113
                have p114 : 0 ≤ (x5_1 : Int) := of_decide_eq_true (by first | (with_reducible assumption) | assumption)
                have q114 : x5_1 < (l1.length : Int) := of_decide_eq_true (by first | (with_reducible assumption) | assumption)
                obtain ⟨ad114, e114, hx114_0, hx114_1, hx114_2, hx114_3, hx114_4, hx114_5, hx114_6, hx114_7, hx114_8, hx114_9, hx114_10, hx114_11, hx114_12⟩ := at_T44 HR1.out x5_1 p114 q114
                cases e114
                replace p114 := eq_true p114
                replace q114 := eq_true q114
                go_wp2
                repeat (go_quiet (fail); try go_wp2)
                go_ret
                exact ⟨by first | rfl | (simp; done) | (simp [*]; done), by repeat (first | exact Drawn0.refl _ | apply Drawn0.step)⟩
              · rw [if_neg c7] at H
                have c7b0 : (!(((rd_T44 l0 x5_1).f0) == ((rd_T44 l1 x5_1).f0)) || (!(((rd_T44 l0 x5_1).f1) == ((rd_T44 l1 x5_1).f1)) || ((!(((rd_T44 l0 x5_1).f2.f0) == ((rd_T44 l1 x5_1).f2.f0)) || (!(((rd_T44 l0 x5_1).f2.f1) == ((rd_T44 l1 x5_1).f2.f1)) || (!(((rd_T44 l0 x5_1).f2.f2) == ((rd_T44 l1 x5_1).f2.f2)) || (!(((rd_T44 l0 x5_1).f2.f3) == ((rd_T44 l1 x5_1).f2.f3)) || (!(((rd_T44 l0 x5_1).f2.f4) == ((rd_T44 l1 x5_1).f2.f4)) || (!(((rd_T44 l0 x5_1).f2.f5) == ((rd_T44 l1 x5_1).f2.f5)) || (!(((rd_T44 l0 x5_1).f2.f6) == ((rd_T44 l1 x5_1).f2.f6)) || (!(((rd_T44 l0 x5_1).f2.f7) == ((rd_T44 l1 x5_1).f2.f7)) || (!(((rd_T44 l0 x5_1).f2.f8) == ((rd_T44 l1 x5_1).f2.f8)) || (!((((rd_T44 l0 x5_1).f2.f9).toList) == (((rd_T44 l1 x5_1).f2.f9).toList)) || (!((((rd_T44 l0 x5_1).f2.f10).toList) == (((rd_T44 l1 x5_1).f2.f10).toList)))))))))))))))) = false := by simpa using c7
                clear c7
                have H' := Aside0.mk H
                clear H
                have p113 : 0 ≤ (x5_1 : Int) := of_decide_eq_true (by first | (with_reducible assumption) | assumption)
                have q113 : x5_1 < (l0.length : Int) := of_decide_eq_true (by first | (with_reducible assumption) | assumption)
                obtain ⟨ad113, e113, hx113_0, hx113_1, hx113_2, hx113_3, hx113_4, hx113_5, hx113_6, hx113_7, hx113_8, hx113_9, hx113_10, hx113_11, hx113_12⟩ := at_T44 HR0.out x5_1 p113 q113
                cases e113
                replace p113 := eq_true p113
                replace q113 := eq_true q113
                have p114 : 0 ≤ (x5_1 : Int) := of_decide_eq_true (by first | (with_reducible assumption) | assumption)
                have q114 : x5_1 < (l1.length : Int) := of_decide_eq_true (by first | (with_reducible assumption) | assumption)
                obtain ⟨ad114, e114, hx114_0, hx114_1, hx114_2, hx114_3, hx114_4, hx114_5, hx114_6, hx114_7, hx114_8, hx114_9, hx114_10, hx114_11, hx114_12⟩ := at_T44 HR1.out x5_1 p114 q114
                cases e114
                replace p114 := eq_true p114
                replace q114 := eq_true q114
                go_wp2
                repeat (go_quiet (fail); try go_wp2)
                go_roundg k1
                case measure => have := HK1.out; omega
                case rel => exact ⟨(wrap64 (x5_1 + 1)), (by first | rfl | (simp; done) | (simp [*]; done)), H', ⟨by have := HK1.out; omega⟩, by repeat (first | exact Drawn0.refl _ | apply Drawn0.step)⟩
            · rw [if_neg c6] at H
              exact absurd H (by simp)
          · rw [if_neg c5] at H
            exact absurd H (by simp)
        · rw [if_neg c4] at H
          have c4b0 : decide (x5_1 < (l0.length : Int)) = false := decide_eq_false c4
          clear c4
          obtain rfl := Option.some.inj H
          go_wp2
          repeat (go_quiet (fail); try go_wp2)
          go_ret
          exact ⟨by first | rfl | (simp; done) | (simp [*]; done), by repeat (first | exact Drawn0.refl _ | apply Drawn0.step)⟩
  · rw [if_neg c3] at H
    have c3b0 : ((l0.length : Int) == (l1.length : Int)) = false := beq_eq_false_iff_ne.mpr c3
    have c3b1 : ((l0.length : Int) != (l1.length : Int)) = true := bne_iff_ne.mpr c3
    have c3b2 : (l0.length == l1.length) = false := by first | simpa using c3 | (simp at c3 ⊢; omega)
    obtain rfl := Option.some.inj H
    go_enter Tryd.func19, Tryd.ntmps19
    go_wp2
    repeat (go_quiet (fail); try go_wp2)
    go_ret
    exact ⟨by first | rfl | (simp; done) | (simp [*]; done), by repeat (first | exact Drawn0.refl _ | apply Drawn0.step)⟩

end Go.Proofs.YtnifgokjagahfaaDoor.PFrameSplits

/- samePieces of two lists of the same pieces. -/
set_option linter.unusedVariables false
set_option linter.unusedSimpArgs false
namespace Go.Proofs.YtnifgokjagahfaaDoor.SameP
open Go.RowKit Go.Proofs.YtnifgokjagahfaaDoorW.PrintWords Go.Proofs.YtnifgokjagahfaaDoorW.PrintLast Go.Proofs.YtnifgokjagahfaaDoorW.PrintMore
open Go.Proofs.YtnifgokjagahfaaDoor.Base Go.Proofs.YtnifgokjagahfaaDoor.Msg Go.Proofs.YtnifgokjagahfaaDoor.SplitPure Go.Proofs.YtnifgokjagahfaaDoor.Pcs Go.Proofs.YtnifgokjagahfaaDoor.PFrameSplits
theorem same_l0 (l : List S44) (hl : l.length ≤ 1073741824) : ∀ (k j : Nat), j ≤ l.length → l.length - j < k → granarylaw5_samePieces.l0 k l l (j : Int) = some true := by
  intro k
  induction k with
  | zero => intro j _ h; omega
  | succ k ih =>
    intro j hj h
    unfold granarylaw5_samePieces.l0
    by_cases c : j < l.length
    · have c1 : (j : Int) < (l.length : Int) := by omega
      have c2 : (0 : Int) ≤ (j : Int) := by omega
      have hw : wrap64 ((j : Int) + 1) = ((j + 1 : Nat) : Int) := RefAt.wadd j 1 (by omega)
      rw [if_pos c1, if_pos c2, if_pos c1, hw, if_neg (by simp only [beq_self_eq_true, Bool.not_true, Bool.or_false, Bool.or_self]; decide)]
      exact ih (j + 1) (by omega) (by omega)
    · rw [if_neg (by omega)]
theorem same_f (l : List S44) (hl : l.length ≤ 1073741824) : granarylaw5_samePieces.f (l.length + 1) l l = some true := by
  unfold granarylaw5_samePieces.f
  rw [if_pos rfl]
  exact same_l0 l hl _ 0 (Nat.zero_le _) (by omega)
/-- a piece as the printed texts have it -/
def toS (p : Pc) : S44 := ⟨(p.1 : Nat), (p.2.1 : Nat), ⟨p.2.2.kind, p.2.2.from_, p.2.2.to_, p.2.2.id, p.2.2.epoch, p.2.2.seq, p.2.2.version, p.2.2.prev, p.2.2.code, p.2.2.key, p.2.2.value⟩⟩
theorem toS_K (w : World) (p : Pc) : k44.K w (toS p) (pL p) := k44_mk w (toS p)
theorem psL_at : ∀ (l : List Pc) (j : Nat) (p : Pc), l[j]? = some p → ∀ (i : Nat) (u : Value), (pL p)[i]? = some u → (psL l)[j * 13 + i]? = some u := by
  intro l
  induction l with
  | nil => intro j p h; simp at h
  | cons q l ih =>
    intro j p h i u hu
    have hi : i < 13 := by
      have := (List.getElem?_eq_some_iff.1 hu).1
      rwa [pL_length] at this
    have e : psL (q :: l) = pL q ++ psL l := by unfold psL; rw [List.flatMap_cons]
    rw [e]
    cases j with
    | zero =>
      simp only [List.getElem?_cons_zero, Option.some.injEq] at h
      subst h
      rw [List.getElem?_append_left (by rw [pL_length]; omega), Nat.zero_mul, Nat.zero_add]
      exact hu
    | succ j =>
      rw [List.getElem?_cons_succ] at h
      rw [List.getElem?_append_right (by rw [pL_length]; omega), pL_length]
      have := ih j p h i u hu
      rw [← this]
      congr 1
      omega
theorem reads {w : World} {base : Nat} {v : Value} {l : List Pc} (hl : l.length ≤ 1073741824) (h : w.ownsRow base 44 13 v l.length (psL l)) : ∃ A c, v = .slice A (l.map toS).length c ∧ (l.map toS).length ≤ c ∧ Kd.C k44 w A (l.map toS).length (l.map toS) := by
  have h13 : k44.sz = 13 := rfl
  rcases h.2 with ⟨rfl, h0⟩ | ⟨g, cap, cur, rfl, hb, hg, hn, hm, hs, ht⟩
  · have : l = [] := List.eq_nil_of_length_eq_zero h0
    subst this
    exact ⟨none, 0, rfl, Nat.le_refl _, Kd.C_nil _ _⟩
  · refine ⟨some ⟨g, 0, none⟩, cap, by rw [List.length_map], by rw [List.length_map]; exact hn, rfl, by rw [List.length_map]; omega, fun _ => ⟨_, rfl, ?_⟩⟩
    intro j s hj
    rw [List.getElem?_map] at hj
    obtain ⟨p, hp, rfl⟩ := Option.map_eq_some_iff.1 hj
    refine ⟨pL p, by rw [h13]; exact pL_length p, toS_K w p, ?_⟩
    intro i u hu
    rw [h13]
    exact h.cells (g := g) rfl (j * 13 + i) u (psL_at l j p hp i u hu)
theorem same_any {w : World} {b1 b2 : Nat} {v1 v2 : Value} {l : List Pc} (hl : l.length ≤ 1073741824) (h1 : w.ownsRow b1 44 13 v1 l.length (psL l)) (h2 : w.ownsRow b2 44 13 v2 l.length (psL l)) :
    Calls Tryd.prog 19 #[v1, v2] w fun e w' => e = .returned (.bool true) ∧ Drawn0 w w' := by
  obtain ⟨A1, c1, rfl, hc1, hk1⟩ := reads hl h1
  obtain ⟨A2, c2, rfl, hc2, hk2⟩ := reads hl h2
  exact granarylaw5_samePieces.calls _ A1 c1 (l.map toS) A2 c2 (l.map toS) true w hk1 hc1 hk2 hc2 (same_f (l.map toS) (by rw [List.length_map]; exact hl))
end Go.Proofs.YtnifgokjagahfaaDoor.SameP

/- Plain arithmetic: bits changed within 32 neighbouring ones change the CRC. -/
namespace Go.Proofs.YtnifgokjagahfaaDoor.CrcPure
/-- a text as a number, the first byte lowest -/
def le : List UInt8 → Nat
  | [] => 0
  | c :: l => c.toNat + 256 * le l
theorem add_xor {n a b : Nat} (h : a < 2 ^ n) : a + 2 ^ n * b = a ^^^ 2 ^ n * b := by
  have e := split_low n (a + 2 ^ n * b)
  have e1 : (a + 2 ^ n * b) / 2 ^ n = b := by
    rw [Nat.add_mul_div_left _ _ (Nat.two_pow_pos n), Nat.div_eq_of_lt h, Nat.zero_add]
  have e2 : (a + 2 ^ n * b) % 2 ^ n = a := by
    rw [Nat.add_mul_mod_self_left, Nat.mod_eq_of_lt h]
  rw [e1, e2, Nat.xor_comm] at e
  exact e
theorem run_le (l : List UInt8) : ∀ w, run w l = steps (8 * l.length) (w ^^^ le l) := by
  induction l with
  | nil => intro w; simp [run, le, steps]
  | cons c l ih =>
    intro w
    show run (byteStep w c.toNat) l = _
    rw [ih]
    have hc : c.toNat < 2 ^ 8 := c.toNat_lt
    have e : le (c :: l) = c.toNat ^^^ 2 ^ 8 * le l := add_xor hc
    have e2 : w ^^^ (c.toNat ^^^ 2 ^ 8 * le l) = (w ^^^ c.toNat) ^^^ 2 ^ 8 * le l := by ac_rfl
    rw [e, e2, show 8 * (c :: l).length = 8 + 8 * l.length by simp; omega, steps_add, steps_xor 8, steps_shl]
    rfl
theorem le_lt (l : List UInt8) : le l < 2 ^ (8 * l.length) := by
  induction l with
  | nil => simp [le]
  | cons c l ih =>
    have hc : c.toNat < 256 := c.toNat_lt
    have : 2 ^ (8 * (c :: l).length) = 256 * 2 ^ (8 * l.length) := by
      rw [show 8 * (c :: l).length = 8 + 8 * l.length by simp; omega, Nat.pow_add]
    rw [this]; simp only [le]; omega
theorem le_inj : ∀ a b : List UInt8, a.length = b.length → le a = le b → a = b
  | [], [], _, _ => rfl
  | c :: a, d :: b, hl, h => by
    have hc : c.toNat < 256 := c.toNat_lt
    have hd : d.toNat < 256 := d.toNat_lt
    simp only [le] at h
    have e1 : c.toNat = d.toNat := by omega
    have e2 : le a = le b := by omega
    rw [le_inj a b (by simpa using hl) e2, UInt8.toNat_inj.1 e1]
theorem step_ne {w : Nat} (h : w < 2 ^ 32) (h0 : w ≠ 0) : step w ≠ 0 := by
  unfold step
  split
  · omega
  · intro e
    have : w / 2 = poly := by
      have e2 : (w / 2 ^^^ poly) ^^^ poly = poly := by rw [e, Nat.zero_xor]
      rwa [Nat.xor_assoc, Nat.xor_self, Nat.xor_zero] at e2
    unfold poly at this
    omega
theorem steps_ne (n : Nat) : ∀ {w : Nat}, w < 2 ^ 32 → w ≠ 0 → steps n w ≠ 0 := by
  induction n with
  | zero => intro w _ h; exact h
  | succ n ih => intro w h h0; exact ih (step_lt h) (step_ne h h0)
theorem xor_eq_zero {a b : Nat} (h : a ^^^ b = 0) : a = b := by
  have : (a ^^^ b) ^^^ b = b := by rw [h, Nat.zero_xor]
  rwa [Nat.xor_assoc, Nat.xor_self, Nat.xor_zero] at this
theorem burst {s t : List UInt8} {p m : Nat} (hl : t.length = s.length) (hp : p ≤ 8 * s.length) (hm : m < 2 ^ 32) (h : le t = le s ^^^ 2 ^ p * m) :
    (crc t = crc s ↔ t = s) := by
  constructor
  · intro e
    have e1 : run top t = run top s := by
      have : (run top t ^^^ top) ^^^ top = (run top s ^^^ top) ^^^ top := by unfold crc at e; rw [e]
      rwa [Nat.xor_assoc, Nat.xor_self, Nat.xor_zero, Nat.xor_assoc, Nat.xor_self, Nat.xor_zero] at this
    rw [run_le, run_le, hl, h] at e1
    have e2 : top ^^^ (le s ^^^ 2 ^ p * m) = (top ^^^ le s) ^^^ 2 ^ p * m := by ac_rfl
    rw [e2, steps_xor] at e1
    have e3 : steps (8 * s.length) (2 ^ p * m) = 0 := by
      have : steps (8 * s.length) (top ^^^ le s) ^^^ (steps (8 * s.length) (top ^^^ le s) ^^^ steps (8 * s.length) (2 ^ p * m)) = steps (8 * s.length) (top ^^^ le s) ^^^ steps (8 * s.length) (top ^^^ le s) := by rw [e1]
      rwa [← Nat.xor_assoc, Nat.xor_self, Nat.zero_xor] at this
    rw [show 8 * s.length = p + (8 * s.length - p) by omega, steps_add, steps_shl] at e3
    have : m = 0 := Classical.byContradiction fun hne => steps_ne _ hm hne e3
    subst this
    refine le_inj _ _ hl ?_
    rw [h]; simp
  · intro e; rw [e]
/-- bits p to p + 31 of s turned as m says, those that lie in s -/
def flipTo (s : Nat) (n p m : Nat) : Nat → Nat
  | 0 => s
  | i + 1 => if m / 2 ^ i % 2 = 1 ∧ p + i < n then flipTo s n p m i ^^^ 2 ^ (p + i) else flipTo s n p m i
theorem flipTo_eq (s n p m i : Nat) (hp : p ≤ n) : flipTo s n p m i = s ^^^ 2 ^ p * ((m % 2 ^ i) % 2 ^ (n - p)) := by
  induction i with
  | zero => simp [flipTo, Nat.mod_one]
  | succ i ih =>
    simp only [flipTo]
    rw [ih]
    have hb : m.testBit i = decide (m / 2 ^ i % 2 = 1) := Nat.testBit_eq_decide_div_mod_eq
    have key : (m % 2 ^ (i + 1)) % 2 ^ (n - p) = if m / 2 ^ i % 2 = 1 ∧ p + i < n then (m % 2 ^ i) % 2 ^ (n - p) ^^^ 2 ^ i else (m % 2 ^ i) % 2 ^ (n - p) := by
      apply Nat.eq_of_testBit_eq; intro k
      by_cases h1 : m / 2 ^ i % 2 = 1 ∧ p + i < n
      · rw [if_pos h1, Nat.testBit_xor]
        simp only [Nat.testBit_mod_two_pow, Nat.testBit_two_pow]
        by_cases hk : k = i
        · subst hk; simp [hb, h1.1, show k < n - p by omega]
        · have : ¬ i = k := fun h => hk h.symm
          have e2 : decide (k < i + 1) = decide (k < i) := by rw [decide_eq_decide]; omega
          simp [this, e2]
      · rw [if_neg h1]
        simp only [Nat.testBit_mod_two_pow]
        by_cases hk : k = i
        · subst hk
          by_cases h2 : k < n - p
          · have : ¬ m / 2 ^ k % 2 = 1 := fun h => h1 ⟨h, by omega⟩
            simp [hb, this]
          · simp [h2]
        · have e2 : decide (k < i + 1) = decide (k < i) := by rw [decide_eq_decide]; omega
          rw [e2]
    rw [key]
    split
    · have : 2 ^ p * ((m % 2 ^ i) % 2 ^ (n - p) ^^^ 2 ^ i) = 2 ^ p * ((m % 2 ^ i) % 2 ^ (n - p)) ^^^ 2 ^ (p + i) := by
        apply Nat.eq_of_testBit_eq; intro k
        rw [Nat.testBit_xor, Nat.testBit_two_pow_mul, Nat.testBit_two_pow_mul, Nat.testBit_xor, Nat.testBit_two_pow, Nat.testBit_two_pow]
        by_cases h : p ≤ k
        · have e : decide (i = k - p) = decide (p + i = k) := by rw [decide_eq_decide]; omega
          simp [h, e]
        · have : ¬ p + i = k := by omega
          simp [h, this]
      rw [this, Nat.xor_assoc]
    · rfl
end Go.Proofs.YtnifgokjagahfaaDoor.CrcPure

/- Plain arithmetic: a text with some bits turned. -/
namespace Go.Proofs.YtnifgokjagahfaaDoor.Flip
open Go.Proofs.YtnifgokjagahfaaDoor.CrcPure
def pw2 (i : Nat) : Nat := 2 ^ i
/-- byte j behind i steps -/
def fb (f : Nat → Nat) (n p m : Nat) : Nat → Nat → Nat
  | 0, j => f j
  | i + 1, j => if (m / 2 ^ i % 2 = 1 ∧ p + i < n) ∧ j = (p + i) / 8 then fb f n p m i j ^^^ 2 ^ ((p + i) % 8) else fb f n p m i j
theorem fb_lt {f : Nat → Nat} (hf : ∀ j, f j < 256) (n p m : Nat) : ∀ i j, fb f n p m i j < 256 := by
  intro i
  induction i with
  | zero => exact hf
  | succ i ih =>
    intro j
    simp only [fb]
    split
    · refine Nat.xor_lt_two_pow (n := 8) (ih j) ?_
      exact Nat.pow_lt_pow_right (by decide) (Nat.mod_lt _ (by decide))
    · exact ih j
def leF (f : Nat → Nat) : Nat → Nat
  | 0 => 0
  | n + 1 => leF f n + 2 ^ (8 * n) * f n
theorem leF_lt {f : Nat → Nat} (hf : ∀ j, f j < 256) (n : Nat) : leF f n < 2 ^ (8 * n) := by
  induction n with
  | zero => simp [leF]
  | succ n ih =>
    have h := hf n
    have : 2 ^ (8 * (n + 1)) = 2 ^ (8 * n) * 256 := by rw [show 8 * (n + 1) = 8 * n + 8 by omega, Nat.pow_add]
    rw [this]
    simp only [leF]
    have h2 : 2 ^ (8 * n) * (f n + 1) ≤ 2 ^ (8 * n) * 256 := Nat.mul_le_mul_left _ (by omega)
    rw [Nat.mul_add, Nat.mul_one] at h2
    omega
theorem leF_congr {f g : Nat → Nat} (n : Nat) (h : ∀ j, j < n → f j = g j) : leF f n = leF g n := by
  induction n with
  | zero => rfl
  | succ n ih => simp only [leF]; rw [ih (fun j hj => h j (by omega)), h n (by omega)]
theorem mul_xor_pow (n a r : Nat) : 2 ^ n * (a ^^^ 2 ^ r) = 2 ^ n * a ^^^ 2 ^ (n + r) := by
  apply Nat.eq_of_testBit_eq; intro k
  rw [Nat.testBit_xor, Nat.testBit_two_pow_mul, Nat.testBit_two_pow_mul, Nat.testBit_xor, Nat.testBit_two_pow, Nat.testBit_two_pow]
  by_cases h : n ≤ k
  · have e : decide (r = k - n) = decide (n + r = k) := by rw [decide_eq_decide]; omega
    simp [h, e]
  · have : ¬ n + r = k := by omega
    simp [h, this]
theorem leF_flip {f : Nat → Nat} (hf : ∀ j, f j < 256) (q r : Nat) (hr : r < 8) (n : Nat) (hq : q < n) : leF (fun j => if j = q then f j ^^^ 2 ^ r else f j) n = leF f n ^^^ 2 ^ (8 * q + r) := by
  have hg : ∀ j, (fun j => if j = q then f j ^^^ 2 ^ r else f j) j < 256 := by
    intro j
    simp only
    split
    · exact Nat.xor_lt_two_pow (n := 8) (hf j) (Nat.pow_lt_pow_right (by decide) hr)
    · exact hf j
  induction n with
  | zero => omega
  | succ n ih =>
    have e1 := add_xor (b := f n) (leF_lt hf n)
    have e2 := add_xor (b := (fun j => if j = q then f j ^^^ 2 ^ r else f j) n) (leF_lt hg n)
    show leF _ n + 2 ^ (8 * n) * (fun j => if j = q then f j ^^^ 2 ^ r else f j) n = (leF f n + 2 ^ (8 * n) * f n) ^^^ _
    rw [e1, e2]
    by_cases h : q = n
    · subst h
      rw [leF_congr q (g := f) (fun j hj => if_neg (by omega))]
      simp only [if_true]
      rw [mul_xor_pow, Nat.xor_assoc]
    · rw [ih (by omega)]
      simp only
      rw [if_neg (fun e => h e.symm)]
      ac_rfl
theorem leF_fb {f : Nat → Nat} (hf : ∀ j, f j < 256) (N p m : Nat) (i : Nat) : leF (fb f (8 * N) p m i) N = flipTo (leF f N) (8 * N) p m i := by
  induction i with
  | zero => exact leF_congr N (fun j _ => rfl)
  | succ i ih =>
    simp only [flipTo]
    by_cases h : m / 2 ^ i % 2 = 1 ∧ p + i < 8 * N
    · rw [if_pos h, ← ih]
      have := leF_flip (fb_lt hf (8 * N) p m i) ((p + i) / 8) ((p + i) % 8) (Nat.mod_lt _ (by decide)) N (by omega)
      rw [show 8 * ((p + i) / 8) + (p + i) % 8 = p + i by omega] at this
      rw [← this]
      refine leF_congr N (fun j _ => ?_)
      simp only [fb]
      by_cases hj : j = (p + i) / 8
      · rw [if_pos ⟨h, hj⟩, if_pos hj]
      · rw [if_neg (fun e => hj e.2), if_neg hj]
    · rw [if_neg h, ← ih]
      refine leF_congr N (fun j _ => ?_)
      simp only [fb]
      rw [if_neg (fun e => h e.1)]
theorem leF_shift (f : Nat → Nat) (n : Nat) : leF f (n + 1) = f 0 + 256 * leF (fun j => f (j + 1)) n := by
  induction n with
  | zero => simp [leF]
  | succ n ih =>
    have e : 2 ^ (8 * (n + 1)) = 256 * 2 ^ (8 * n) := by rw [show 8 * (n + 1) = 8 + 8 * n by omega, Nat.pow_add]
    rw [leF, ih, leF, e, Nat.mul_add, Nat.mul_assoc, Nat.add_assoc]
theorem le_leF : ∀ l : List UInt8, le l = leF (fun j => (l.getD j 0).toNat) l.length
  | [] => rfl
  | c :: l => by
    rw [List.length_cons, leF_shift]
    simp only [le, List.getD_cons_zero, List.getD_cons_succ]
    rw [le_leF l]
/-- the text with the bits of m turned from p on -/
def flipL (l : List UInt8) (p m : Nat) : List UInt8 := (List.range l.length).map fun j => UInt8.ofNat (fb (fun j => (l.getD j 0).toNat) (8 * l.length) p m 32 j)
theorem flipL_length (l : List UInt8) (p m : Nat) : (flipL l p m).length = l.length := by simp [flipL]
theorem flipL_le (l : List UInt8) (p m : Nat) : le (flipL l p m) = flipTo (le l) (8 * l.length) p m 32 := by
  have hf : ∀ j, (fun j => (l.getD j 0).toNat) j < 256 := fun j => (l.getD j 0).toNat_lt
  rw [le_leF, le_leF l, ← leF_fb hf, flipL_length]
  refine leF_congr _ (fun j hj => ?_)
  have := fb_lt hf (8 * l.length) p m 32 j
  simp only [flipL]
  rw [List.getD_eq_getElem?_getD, List.getElem?_map, List.getElem?_range hj]
  simp only [Option.map_some, Option.getD_some]
  rw [UInt8.toNat_ofNat', Nat.mod_eq_of_lt (by exact this)]
theorem flip_burst (l : List UInt8) (p m : Nat) (hp : p ≤ 8 * l.length) : (crc (flipL l p m) = crc l ↔ flipL l p m = l) := by
  refine burst (p := p) (m := (m % 2 ^ 32) % 2 ^ (8 * l.length - p)) (flipL_length l p m) hp ?_ ?_
  · exact Nat.lt_of_le_of_lt (Nat.mod_le _ _) (Nat.mod_lt _ (by decide))
  · rw [flipL_le, flipTo_eq _ _ _ _ _ hp]
end Go.Proofs.YtnifgokjagahfaaDoor.Flip

/- flipped: the text with some bits turned. -/
set_option linter.unusedVariables false
set_option linter.unusedSimpArgs false
namespace Go.Proofs.YtnifgokjagahfaaDoor.Flip
open Go.RowKit Go.Proofs.YtnifgokjagahfaaDoorW.PrintWords Go.Proofs.YtnifgokjagahfaaDoorW.PrintLast Go.Proofs.YtnifgokjagahfaaDoorW.PrintMore
open Go.Proofs.YtnifgokjagahfaaDoor.Base Go.Proofs.YtnifgokjagahfaaDoor.App Go.Proofs.YtnifgokjagahfaaDoor.Put
/-- a row of bytes that may be longer than n -/
structure Row (w : World) (b n : Nat) (f : Nat → Nat) : Prop where mk ::
  (cell : ∀ i, i < n → w.cell? ⟨b, i, none⟩ = some (.int .u8 (f i : Nat)))
  (froz : ∀ i, i < n → w.frozen? ⟨b, i, none⟩ = false)
  (lt : b < w.heap.size)
theorem Row.start (w : World) (e : TypeId) (s : ByteArray) : Row (Lib.bytesWorld w e s) w.heap.size s.size (fun j => (s.data.toList.getD j 0).toNat) := by
  refine ⟨fun i hi => Lib.bytesWorld_cell w e s i hi, fun i hi => ?_, by rw [Lib.bytesWorld_size]; omega⟩
  simp [World.frozen?, Lib.bytesWorld_at_new, Lib.bytesCells]
  intro h
  omega
theorem Row.set {w : World} {b n : Nat} {f : Nat → Nat} (h : Row w b n f) (i : Nat) (hi : i < n) (v : Nat) : Row (w.setCell ⟨b, i, none⟩ (.int .u8 (v : Nat))) b n (fun j => if j = i then v else f j) := by
  refine ⟨fun j hj => ?_, fun j hj => by rw [World.frozen?_setCell]; exact h.froz j hj, by simpa using h.lt⟩
  by_cases e : j = i
  · subst e
    rw [World.cell?_setCell_same _ _ _ (h.cell j hj)]
    simp
  · rw [World.cell?_setCell_other _ _ _ _ (by intro he; injection he with _ he2; exact e he2.symm), h.cell j hj]
    simp [e]
theorem Row.congr {w : World} {b n : Nat} {f g : Nat → Nat} (h : Row w b n f) (e : ∀ i, i < n → f i = g i) : Row w b n g :=
  ⟨fun i hi => by rw [h.cell i hi, e i hi], h.froz, h.lt⟩
theorem pw2_next (k : Nat) : pw2 (k + 1) = pw2 k * 2 := Nat.pow_succ ..
theorem pw2_le (k r : Nat) (h : k < r) (hr : r < 8) : pw2 k ≤ 64 := Nat.pow_le_pow_right (n := 2) (by decide) (show k ≤ 6 by omega)
theorem pw2_lt (r : Nat) (hr : r < 8) : pw2 r < 256 := Nat.pow_lt_pow_right (by decide) hr
theorem pw2_pos (i : Nat) : 0 < pw2 i := Nat.two_pow_pos i
def fs (s : ByteArray) (p m i : Nat) : Nat → Nat := fb (fun j => (s.data.toList.getD j 0).toNat) (8 * s.size) p m i
theorem fs_lt (s : ByteArray) (p m i j : Nat) : fs s p m i j < 256 := fb_lt (fun j => (s.data.toList.getD j 0).toNat_lt) _ _ _ _ _
theorem fs_hit (s : ByteArray) (p m i : Nat) (h : m / pw2 i % 2 = 1) (h2 : p + i < 8 * s.size) (q r : Nat) (hq : q = (p + i) / 8) (hr : r = (p + i) % 8) (j : Nat) : (if j = q then fs s p m i q ^^^ pw2 r else fs s p m i j) = fs s p m (i + 1) j := by
  subst hq hr
  unfold fs
  simp only [fb, pw2] at h ⊢
  by_cases hj : j = (p + i) / 8
  · rw [if_pos hj, if_pos ⟨⟨h, h2⟩, hj⟩, hj]
  · rw [if_neg hj, if_neg (fun e => hj e.2)]
theorem fs_miss (s : ByteArray) (p m i : Nat) (h : ¬ (m / pw2 i % 2 = 1 ∧ p + i < 8 * s.size)) (j : Nat) : fs s p m i j = fs s p m (i + 1) j := by
  unfold fs
  simp only [fb, pw2] at h ⊢
  rw [if_neg (fun e => h e.1)]
theorem half (m i : Nat) : m / pw2 i / 2 = m / pw2 (i + 1) := by rw [pw2_next, Nat.div_div_eq_div_mul]
def flipI (s : ByteArray) (p m : Nat) : List Int := (List.range s.size).map fun j => ((fs s p m 32 j : Nat) : Int)
theorem flipI_list (s : ByteArray) (p m : Nat) : (strOfNums (flipI s p m)).data.toList = flipL s.data.toList p m := by
  have e : s.data.toList.length = s.size := rfl
  have : (flipI s p m).map (fun n : Int => UInt8.ofNat n.toNat) = flipL s.data.toList p m := by
    simp only [flipI, flipL, List.map_map, e]
    apply List.map_congr_left
    intro j _
    simp [fs]
  rw [← this]
  unfold strOfNums
  simp
set_option maxRecDepth 100000 in
set_option maxHeartbeats 4000000 in
theorem flip_any (s : ByteArray) (p m : Nat) (w : World) (hs : s.size ≤ 2147483647) (hp : p < 8 * s.size) (hm : m < 4294967296) :
    Calls Tryd.prog 24 #[.string s, .int .i64 (p : Nat), .int .i64 (m : Nat)] w fun e w' => e = .returned (.string (strOfNums (flipI s p m))) ∧ Below w.heap.size w w' := by
  have kb := fun W => print_bytes (P := Tryd.prog) 9 82 5 Tryd.underlying9 Tryd.underlying82 Tryd.underlying5 s W
  have HR := Aside0.mk (Row.start w 5 s)
  have HB := Aside0.mk (below_bytes (Below.refl w.heap.size w) 5 s)
  go_enter Tryd.func24, Tryd.ntmps24
  go_wp2
  clear kb
  go_loopw [2, 8, 9, 10, 11] (fun wv iv _ _ _ wr => ∃ i : Nat, i ≤ 32 ∧ iv = .int .i64 i ∧ wv = .int .i64 (m / pw2 i : Nat) ∧ Aside0 (Row wr w.heap.size s.size (fs s p m i)) ∧ Aside0 (Below w.heap.size w wr)) (fun _ iv _ _ _ _ => 32 - (intOf iv).toNat)
  case atStart => exact ⟨0, by omega, rfl, by simp [pw2], HR, HB⟩
  case round =>
    clear HR HB
    obtain ⟨i, hi, rfl, rfl, HR, HB⟩ := hrel
    have hv := half m i
    have hle : m / pw2 i ≤ m := Nat.div_le_self _ _
    by_cases hlt : i < 32
    · by_cases h1 : m / pw2 i % 2 = 1
      · by_cases h2 : p + i < 8 * s.size
        · obtain ⟨q, hq⟩ : ∃ q : Nat, q = (p + i) / 8 := ⟨_, rfl⟩
          obtain ⟨r, hr⟩ : ∃ r : Nat, r = (p + i) % 8 := ⟨_, rfl⟩
          have HF := Aside0.mk (fs_hit s p m i h1 h2 q r hq hr)
          have hqI : ((p : Int) + (i : Int)) / 8 = (q : Int) := by omega
          have hrI : ((p : Int) + (i : Int)) % 8 = (r : Int) := by omega
          have hqs : q < s.size := by omega
          have hr8 : r < 8 := by omega
          have hc := HR.out.cell q hqs
          have hz := HR.out.froz q hqs
          have hl := fs_lt s p m i q
          have hx := u8_xor_nat (fs s p m i q) (pw2 r) hl (pw2_lt r hr8)
          generalize hg : fs s p m i q = g at hc hl hx HF
          clear hg
          generalize hy : m / pw2 i = y at h1 hv hle
          have HY := Aside0.mk hy
          have HV := Aside0.mk hv
          have h1I : ((y : Int) % 2 == 1) = true := beq_iff_eq.2 (by omega)
          have HQ := Aside0.mk hq
          have HRR := Aside0.mk hr
          clear hy hv hq hr
          go_wp2
          go_loop [10, 11] (fun mv kv => ∃ k : Nat, k ≤ r ∧ kv = .int .i64 k ∧ mv = .int .u8 (pw2 k : Nat)) (fun _ kv => r - (intOf kv).toNat)
          case atStart => exact ⟨0, by omega, rfl, rfl⟩
          case round =>
            obtain ⟨k, hk, rfl, rfl⟩ := hrel
            by_cases hkr : k < r
            · have hpl := pw2_le k r hkr hr8
              have HN := Aside0.mk (pw2_next k)
              generalize pw2 k = z at hpl HN
              go_wp2
              go_round
              case rel => exact ⟨k + 1, by omega, by go_num, by rw [HN.out]; go_num⟩
              case measure => simp [intOf]; omega
            · obtain rfl : k = r := by omega
              go_wp2
              go_roundw
              case rel => exact ⟨i + 1, by omega, by go_num, by rw [← HV.out]; go_num, ⟨(HR.out.set q hqs (g ^^^ pw2 k)).congr (fun j hj => HF.out j)⟩, ⟨HB.out.setCell (Nat.le_refl _) _⟩⟩
              case measure => simp [intOf]; omega
        · have HF := Aside0.mk (fs_miss s p m i (fun h => h2 h.2))
          generalize hy : m / pw2 i = y at h1 hv hle
          have HV := Aside0.mk hv
          have h1I : ((y : Int) % 2 == 1) = true := beq_iff_eq.2 (by omega)
          clear hy hv
          go_wp2
          go_roundw
          case rel => exact ⟨i + 1, by omega, by go_num, by rw [← HV.out]; go_num, ⟨HR.out.congr (fun j hj => HF.out j)⟩, HB⟩
          case measure => simp [intOf]; omega
      · have HF := Aside0.mk (fs_miss s p m i (fun h => h1 h.1))
        generalize hy : m / pw2 i = y at h1 hv hle
        have HV := Aside0.mk hv
        have h1I : ((y : Int) % 2 == 1) = false := beq_eq_false_iff_ne.2 (by omega)
        clear hy hv
        go_wp2
        go_roundw
        case rel => exact ⟨i + 1, by omega, by go_num, by rw [← HV.out]; go_num, ⟨HR.out.congr (fun j hj => HF.out j)⟩, HB⟩
        case measure => simp [intOf]; omega
    · obtain rfl : i = 32 := by omega
      have hcv := fun c => run_convert_bytes_arg (P := Tryd.prog) wr 82 5 Tryd.underlying82 Tryd.underlying5 w.heap.size 0 s.size c (flipI s p m) (by simp [flipI]) (fun i hi => by rw [Nat.zero_add, HR.out.cell i hi]; simp [flipI, List.getD, hi]) 9 Tryd.underlying9
      go_wp2
      go_ret
      exact ⟨rfl, HB.out⟩
end Go.Proofs.YtnifgokjagahfaaDoor.Flip

/- Plain laws of the statements that do not ask the document: a frame says its message; a changed frame is refused. -/
set_option linter.unusedVariables false
set_option linter.unusedSimpArgs false
namespace Go.Proofs.YtnifgokjagahfaaDoor.OutPure
open Go.RowKit Go.Proofs.YtnifgokjagahfaaDoorW.PrintWords Go.Proofs.YtnifgokjagahfaaDoorW.PrintLast Go.Proofs.YtnifgokjagahfaaDoorW.PrintMore
open Go.Proofs.YtnifgokjagahfaaDoor.Base Go.Proofs.YtnifgokjagahfaaDoor.Layouts Go.Proofs.YtnifgokjagahfaaDoor.Msg Go.Proofs.YtnifgokjagahfaaDoor.Put Go.Proofs.YtnifgokjagahfaaDoor.EncPure Go.Proofs.YtnifgokjagahfaaDoor.DecPure Go.Proofs.YtnifgokjagahfaaDoor.EqM Go.Proofs.YtnifgokjagahfaaDoor.CrcPure Go.Proofs.YtnifgokjagahfaaDoor.Flip
theorem whole_inj (m n : M) (vm : vB m = true) (vn : vB n = true) (km : 1 ≤ m.kind ∧ m.kind < 17) (kn : 1 ≤ n.kind ∧ n.kind < 17) (h : strOfNums (whole m) = strOfNums (whole n)) : m = n := by
  have e : whole m = whole n := by
    rw [← bytesOf_strOfNums _ (byt_whole m km), ← bytesOf_strOfNums _ (byt_whole n kn), h]
  have h1 := dec_whole m vm km
  rw [e, dec_whole n vn kn] at h1
  cases h1
  rfl
theorem same_whole (m n : M) (vm : vB m = true) (vn : vB n = true) (km : 1 ≤ m.kind ∧ m.kind < 17) (kn : 1 ≤ n.kind ∧ n.kind < 17) : ((strOfNums (whole m)).toList == (strOfNums (whole n)).toList) = bM m n := by
  by_cases h : m = n
  · subst h; rw [bM_same]; simp
  · have h1 : bM m n = false := by
      cases hb : bM m n
      · rfl
      · exact absurd ((bM_iff m n).1 hb) h
    rw [h1]
    refine beq_eq_false_iff_ne.2 (fun e => h (whole_inj m n vm vn km kn ?_))
    rw [ByteArray.toList_eq, ByteArray.toList_eq] at e
    exact ByteArray.ext (Array.ext' e)
theorem whole_size (m : M) (vm : vB m = true) (km : 1 ≤ m.kind ∧ m.kind < 17) : 24 ≤ (strOfNums (whole m)).size ∧ (strOfNums (whole m)).size ≤ 4407 := by
  have := body_length_le m vm km
  rw [strOfNums_size, whole_length]
  omega
/-- the bytes of a list -/
def byL (l : List Int) : List UInt8 := (strOfNums l).data.toList
theorem byL_append (a b : List Int) : byL (a ++ b) = byL a ++ byL b := by
  unfold byL strOfNums
  simp
theorem byL_le4 (c : Nat) (h : c < 2 ^ 32) : le (byL (le4 c)) = c := by
  have : byL (le4 c) = [UInt8.ofNat (c % 256), UInt8.ofNat (c / 256 % 256), UInt8.ofNat (c / 65536 % 256), UInt8.ofNat (c / 16777216 % 256)] := rfl
  rw [this]
  simp only [le, UInt8.toNat_ofNat']
  omega
theorem byL_le4_length (c : Nat) : (byL (le4 c)).length = 4 := rfl
/-- a text with its sum behind it has always the same sum -/
theorem crc_sum (l : List Int) : crc (byL (l ++ sumL l)) = steps 32 top ^^^ top := by
  have hc := crc_lt (byL l)
  have e : byL (l ++ sumL l) = byL l ++ byL (le4 (crc (byL l))) := byL_append _ _
  rw [e]
  unfold crc at hc ⊢
  rw [run_append, run_le, byL_le4 _ hc, byL_le4_length]
  have : run top (byL l) ^^^ (run top (byL l) ^^^ top) = top := by rw [← Nat.xor_assoc, Nat.xor_self, Nat.zero_xor]
  rw [this]
theorem flip_refused (m : M) (p q : Nat) (km : 1 ≤ m.kind ∧ m.kind < 17) (hp : p < 8 * (strOfNums (whole m)).size) (hne : strOfNums (flipI (strOfNums (whole m)) p q) ≠ strOfNums (whole m)) :
    (decP (bytesOf (strOfNums (flipI (strOfNums (whole m)) p q)))).2 ≠ 0 := by
  intro h0
  generalize ht : strOfNums (flipI (strOfNums (whole m)) p q) = t at hne h0
  generalize hr : decP (bytesOf t) = r at h0
  obtain ⟨m2, k⟩ := r
  simp only at h0
  subst h0
  obtain ⟨_, _, hw⟩ := dec_ok (byt_bytesOf t) hr
  have hl := flipI_list (strOfNums (whole m)) p q
  rw [ht] at hl
  have e1 : crc t.data.toList = crc (byL (whole m2)) := by unfold byL; rw [← hw, strOfNums_bytesOf]
  have e2 : crc (byL (whole m2)) = crc (byL (whole m)) := (crc_sum (frameB m2)).trans (crc_sum (frameB m)).symm
  have hf := flip_burst (strOfNums (whole m)).data.toList p q (by
    have : (strOfNums (whole m)).data.toList.length = (strOfNums (whole m)).size := rfl
    omega)
  rw [← hl] at hf
  have e3 := hf.1 (e1.trans e2)
  exact hne (ByteArray.ext (Array.ext' e3))
end Go.Proofs.YtnifgokjagahfaaDoor.OutPure

/- FrameSplits: the program's Split and the document's alike. -/
set_option linter.unusedVariables false
set_option linter.unusedSimpArgs false
namespace Go.Proofs.YtnifgokjagahfaaDoor.LawSplit
open Go.RowKit Go.Proofs.YtnifgokjagahfaaDoorW.PrintWords Go.Proofs.YtnifgokjagahfaaDoorW.PrintLast Go.Proofs.YtnifgokjagahfaaDoorW.PrintMore
open Go.Proofs.YtnifgokjagahfaaDoor.Base Go.Proofs.YtnifgokjagahfaaDoor.App Go.Proofs.YtnifgokjagahfaaDoor.Layouts Go.Proofs.YtnifgokjagahfaaDoor.Msg Go.Proofs.YtnifgokjagahfaaDoor.Put Go.Proofs.YtnifgokjagahfaaDoor.EncPure Go.Proofs.YtnifgokjagahfaaDoor.DecPure Go.Proofs.YtnifgokjagahfaaDoor.Mids Go.Proofs.YtnifgokjagahfaaDoor.RefF Go.Proofs.YtnifgokjagahfaaDoor.RefDec Go.Proofs.YtnifgokjagahfaaDoor.Enc Go.Proofs.YtnifgokjagahfaaDoor.SplitPure Go.Proofs.YtnifgokjagahfaaDoor.Pcs Go.Proofs.YtnifgokjagahfaaDoor.OutPure
open Go.Proofs.YtnifgokjagahfaaDoor.Crc (Nibs)
def getM : M := ⟨11, 65, 2, 9, 0, 0, 0, 0, 0, { data := #[111, 97, 116] }, ByteArray.empty⟩
theorem get_valid : vB getM = true := by decide
theorem get_kind : 1 ≤ getM.kind ∧ getM.kind < 17 := by decide
/-- the frame ahead -/
def hd : ByteArray := strOfNums (whole getM)
theorem hd_size : hd.size ≤ 4407 := (whole_size getM get_valid get_kind).2
set_option maxRecDepth 100000 in
set_option maxHeartbeats 4000000 in
theorem headed_any (s : ByteArray) (w : World) (hsz : s.size ≤ 2097152) (hR : RTab w) : Calls Tryd.prog 18 #[.string s] w fun e w' => e = .returned (.string (hd ++ s)) ∧ Below w.heap.size w w' := by
  have hk1 := renc_any getM w hR ⟨by decide, by decide⟩
  rw [encP_of getM get_kind get_valid] at hk1
  have K1 := Lib.hid (show Calls Tryd.prog 14 #[.agg #[.int .i64 11, .int .i64 65, .int .i64 2, .int .i64 9, .int .i64 0, .int .i64 0, .int .i64 0, .int .i64 0, .int .i64 0, .string { data := #[111, 97, 116] }, .string { data := #[] }]] w _ from hk1)
  have hs := hd_size
  rw [show strOfNums (whole getM) = hd from rfl] at K1
  generalize hd = H at K1 hs ⊢
  clear hk1 hR
  go_enter Tryd.func18, Tryd.ntmps18
  go_wp2_with fail
  refine K1.out.mono ?_
  rintro e w1 ⟨rfl, hb⟩
  have HB := Aside0.mk hb
  clear hb K1
  go_wp2
  go_ret
  exact ⟨rfl, HB.out⟩
set_option maxRecDepth 100000 in
set_option maxHeartbeats 4000000 in
theorem law_splits (s : ByteArray) (w : World) (hsz : s.size ≤ 2097152) (hN : Nibs w) (hR : RTab w) : Calls Tryd.prog 5 #[.string s] w fun e w' => e = .returned (.bool true) ∧ Below w.heap.size w w' := by
  have K1 := Lib.hid (headed_any s w hsz hR)
  have hx : (hd ++ s).size ≤ 4194304 := by have := hd_size; rw [ByteArray.size_append]; omega
  have HX := Aside0.mk hx
  have HN := Aside0.mk hN
  have HR := Aside0.mk hR
  generalize hd ++ s = t at K1 HX
  clear hx hN hR
  go_enter Tryd.func5, Tryd.ntmps5
  go_wp2_with fail
  refine K1.out.mono ?_
  rintro e w1 ⟨rfl, hb⟩
  have HB1 := Aside0.mk hb
  clear hb K1
  go_wp2_with fail
  refine (Split.split_any t w1 HX.out (HN.out.below HB1.out)).mono ?_
  rintro e w2 ⟨v1, rfl, ho, hb⟩
  have HB2 := Aside0.mk (HB1.out.trans (hb.mono HB1.out.size))
  have HO2 := Aside0.mk ho
  clear hb ho HB1
  go_wp2_with fail
  refine (RefSplit.rsplit_any t w2 HX.out (HR.out.below HB2.out)).mono ?_
  rintro e w3 ⟨v2, rfl, ho, hb⟩
  have HB3 := Aside0.mk (HB2.out.trans (hb.mono HB2.out.size))
  have HO3 := Aside0.mk (own_later HO2.out hb)
  have HQ3 := Aside0.mk ho
  clear hb ho HB2 HO2
  go_wp2_with fail
  have hlen := fun (u : ByteArray) (h : u.size ≤ 4194304) => (show (pcs u 0).length ≤ 1073741824 by have := pcs_bytes u 0; omega)
  have HLEN := Aside0.mk hlen
  clear hlen
  refine (SameP.same_any (HLEN.out t HX.out) HO3.out HQ3.out).mono ?_
  rintro e w4 ⟨rfl, hd⟩
  have HB4 := Aside0.mk (HB3.out.trans (Pieces.drawn_below hd))
  clear hd HB3 HO3 HQ3
  go_wp2_with fail
  refine (Split.split_any s w4 (by omega) (HN.out.below HB4.out)).mono ?_
  rintro e w5 ⟨v3, rfl, ho, hb⟩
  have HB5 := Aside0.mk (HB4.out.trans (hb.mono HB4.out.size))
  have HO5 := Aside0.mk ho
  clear hb ho HB4
  go_wp2_with fail
  refine (RefSplit.rsplit_any s w5 (by omega) (HR.out.below HB5.out)).mono ?_
  rintro e w6 ⟨v4, rfl, ho, hb⟩
  have HB6 := Aside0.mk (HB5.out.trans (hb.mono HB5.out.size))
  have HO6 := Aside0.mk (own_later HO5.out hb)
  have HQ6 := Aside0.mk ho
  clear hb ho HB5 HO5
  go_wp2_with fail
  refine (SameP.same_any (HLEN.out s (by omega)) HO6.out HQ6.out).mono ?_
  rintro e w7 ⟨rfl, hd⟩
  have HB7 := Aside0.mk (HB6.out.trans (Pieces.drawn_below hd))
  clear hd HB6 HO6 HQ6
  go_wp2
  go_ret
  exact ⟨rfl, HB7.out⟩
end Go.Proofs.YtnifgokjagahfaaDoor.LawSplit

/- The tables that a row lays down, as the walks ask them. -/
set_option linter.unusedVariables false
set_option linter.unusedSimpArgs false
namespace Go.Proofs.YtnifgokjagahfaaDoor.LaidF
open Go.RowKit
open Go.Proofs.YtnifgokjagahfaaDoor.Base Go.Proofs.YtnifgokjagahfaaDoor.Layouts Go.Proofs.YtnifgokjagahfaaDoor.RefF
open Go.Proofs.YtnifgokjagahfaaDoor.Crc (Nibs nib)
theorem tail {P : Program} {x : String × DataW Unit} {r : List (String × DataW Unit)} {w : World} (h : laidMet P (x :: r) w) : laidMet P r w := by
  obtain ⟨ps, ⟨g, t, cs, fuel, p, q, _, _, _, _, hq, rfl⟩, hn, hc⟩ := h
  exact ⟨q, hq, (List.nodup_append.1 hn).2.1, fun b off hm => hc b off (List.mem_append_right _ hm)⟩
def nibI : List Int := [0, 498536548, 997073096, 651767980, 1994146192, 1802195444, 1303535960, 1342533948, 3988292384, 4027552580, 3604390888, 3412177804, 2607071920, 2262029012, 2685067896, 3183342108]
theorem gNib : Tryd.prog.globalNamed "granary/digest.nibbles" = some 2 := by kernel_rfl
theorem nibs_of {W : World} {r : List (String × DataW Unit)} (h : laidMet Tryd.prog (("granary/digest.nibbles", Lib.tabData .u32 nibI) :: r) W) : Nibs W := by
  have hT := Lib.tabIs_of_head (t := 142) gNib (by kernel_rfl) Tryd.underlying142 Tryd.underlying137 (by kernel_rfl) (by kernel_rfl) h
  have hc : ∀ i, i < 16 → W.cell? ⟨2, i, none⟩ = some (.int .u32 (nib i : Nat)) := by
    intro i hi
    rw [hT.cell gNib i (by simpa [nibI] using hi)]
    have : ∀ i, i < 16 → nibI.getD i 0 = (nib i : Nat) := by decide
    rw [this i hi]
  exact ⟨hc, World.block_lt_of_cell? W ⟨2, 0, none⟩ (hc 0 (by decide))⟩
theorem cells_of_strs {H : Type} {enc : TypeId × Value → H} {P : Program} {w : World} {base : Nat} {sp : Nat → Bool} {held : Bool} {fuel : Nat} {t e : TypeId} {n : Nat} {cs : List Value} {rows : List (List UInt8)} {p : List MemPlace}
    (ht : P.underlying t = some (.array n e)) (he : P.underlying e = some .string) (hce : P.cellsOf e = 1)
    (h : DataW.trod enc P w base sp held fuel t cs = some (.agg (rows.map fun l => DataW.lit (Lit.string l)), p)) (hr : rows.length = n) : ∀ (i : Nat) (l : List UInt8), rows[i]? = some l → cs[i]? = some (Value.string ⟨l.toArray⟩) := by
  cases fuel with
  | zero => simp [DataW.trod] at h
  | succ fuel =>
    simp only [DataW.trod, ht, hce] at h
    split at h
    · rename_i hl
      obtain ⟨xs, hm, hx⟩ := Option.map_eq_some_iff.1 h
      have hxs : xs.map (·.1) = rows.map (fun l => (DataW.lit (H := H) (Lit.string l))) := by
        have := congrArg Prod.fst hx
        simpa using this
      intro i l hi
      have hin : i < n := by
        rcases Nat.lt_or_ge i n with h | h
        · exact h
        · rw [List.getElem?_eq_none (by omega)] at hi; cases hi
      obtain ⟨b, hb, hf⟩ := Lib.mapM_at hm i i (by simp [hin])
      have h2 : (xs.map (·.1))[i]? = some (DataW.lit (Lit.string l)) := by rw [hxs, List.getElem?_map, hi]; rfl
      rw [List.getElem?_map, hb] at h2
      simp only [Option.map_some, Option.some.injEq] at h2
      obtain ⟨b1, b2⟩ := b
      simp only at h2
      subst h2
      obtain ⟨s, hs, hx2, _⟩ := DataW.trod_string he hf
      simp only [Prod.mk.injEq, DataW.lit.injEq, Lit.string.injEq] at hx2
      have h3 := congrArg (·[0]?) hs
      simp only [List.getElem?_take, List.getElem?_drop, Nat.mul_one, Nat.add_zero, List.getElem?_cons_zero] at h3
      have e : s = ⟨l.toArray⟩ := by rw [hx2.1]
      rw [e] at h3
      simpa using h3
    · cases h
def fldI : List (List UInt8) := [[], [], [], [69, 86], [69, 86, 67], [69, 83, 86], [69, 83, 86, 80, 67], [69, 83], [69, 83, 86, 80, 67], [], [69, 83, 86, 80, 67], [75], [86, 67, 75, 87], [83, 86], [83, 86, 80, 67, 87], [83, 86, 80], [83, 86, 80, 67, 75, 87]]
theorem gFld : Tryd.prog.globalNamed "granary/granaryref5.fields" = some 1 := by kernel_rfl
theorem strs_of {nm : String} {g : Nat} {W : World} {r : List (String × DataW Unit)} (hgn : Tryd.prog.globalNamed nm = some g) (hgt : (Tryd.prog.globals[g]?).map (·.type) = some 105)
    (h : laidMet Tryd.prog ((nm, .agg (fldI.map fun l => DataW.lit (Lit.string l))) :: r) W) (i : Nat) (hi : i < 17) : W.cell? ⟨g, i, none⟩ = some (.string (fstr i)) := by
  obtain ⟨ps, ⟨g', t', cs, fuel, p, q, hg', ht', hvar, hd, _, _⟩, _⟩ := h
  obtain rfl := Option.some.inj (hgn.symm.trans hg')
  obtain rfl := Option.some.inj (hgt.symm.trans ht')
  have hc := cells_of_strs Tryd.underlying105 Tryd.underlying9 (by kernel_rfl) hd rfl
  rw [World.var?_cell hgn hvar i, ← Array.getElem?_toList]
  have hf : fldI[i]? = some ((fieldsOf i).map fun f => UInt8.ofNat (chOf f)) := by
    have : ∀ i, i < 17 → fldI[i]? = some ((fieldsOf i).map fun f => UInt8.ofNat (chOf f)) := by decide
    exact this i hi
  exact hc i _ hf
theorem rtab_of {W : World} {r : List (String × DataW Unit)} (h : laidMet Tryd.prog (("granary/granaryref5.fields", .agg (fldI.map fun l => DataW.lit (Lit.string l))) :: r) W) : RTab W :=
  ⟨fun i hi => strs_of gFld (by kernel_rfl) h i hi, World.block_lt_of_cell? W ⟨1, 0, none⟩ (strs_of gFld (by kernel_rfl) h 0 (by decide))⟩
end Go.Proofs.YtnifgokjagahfaaDoor.LaidF
