/- Joined texts of this claim: Clone, Reader, ReadStream, PcsIn, Pieces, Feed, Split, InRegion -/
import Derived.Test.YtnifgokjagahfaaDoorJFCut0
import Derived.Lib.Strings
import Derived.Lib.Walk
import Derived.Lib.BufferWrite
import Derived.Lib.UnsafeStr
import Derived.Lib.Hide
import Derived.Laws.MakeOwn
import Derived.WalkKit
import Derived.Test.YtnifgokjagahfaaDoorJFCut2
import Derived.RangeFuncNested
import Derived.RangeFuncBound
import Derived.RangeFuncCalls
import Derived.RangeFuncLeaves
import Derived.RangeFuncBox
import Derived.Shelf.Abstract
import Derived.Shelf.RegionOpen
import Derived.OwnWalkIn
import Derived.TacticsInMore
import Derived.LoopNIn
import Derived.LoopIn
import Derived.Maps.AppendAt
import Derived.OrdersIn
import Derived.StillTailTactics
/- strings.Clone: the same text (turned from the shelf's worked proof). -/
set_option linter.unusedVariables false
set_option linter.unusedSimpArgs false
namespace Go.Proofs.YtnifgokjagahfaaDoor.Clone
open Go.RowKit Go.Proofs.YtnifgokjagahfaaDoorW.PrintWords Go.Proofs.YtnifgokjagahfaaDoorW.PrintLast Go.Proofs.YtnifgokjagahfaaDoorW.PrintMore
open Go.Proofs.YtnifgokjagahfaaDoor.Base
set_option maxHeartbeats 4000000 in
set_option maxRecDepth 100000 in
theorem sclone_any (s : ByteArray) (w : World) (hlim : s.size ≤ 281474976710656) :
    Calls Tryd.prog 81 #[.string s] w fun e w' => e = .returned (.string s) ∧ Below w.heap.size w w' := by
  by_cases h0 : s.size = 0
  · have hs : s = ⟨#[]⟩ := by
      apply ByteArray.ext
      exact Array.eq_empty_of_size_eq_zero h0
    subst hs
    go_enter Tryd.func81, Tryd.ntmps81
    go_wp2
    go_ret
    exact ⟨rfl, Below.refl _ _⟩
  · obtain ⟨i0, hi, hz0, hz1, hz2⟩ := info_parts info8
    have hinfo : (Tryd.prog.info? 5).map (·.size) = some 1 := by rw [hi]; simp [hz1]
    have hco : Tryd.prog.cellsOf 5 = 1 := by simp [Program.cellsOf, hi, hz1]
    obtain ⟨M, hM⟩ : ∃ M, M = madeCells (Value.int .u8 0).cells (((s.size : Nat) : Int).toNat * i0.size) := ⟨_, rfl⟩
    have hMs : M.size = s.size := by rw [hM, size_madeCells, hz1]; simp
    have hmk : ∀ W : World, (Instr.makeSlice 82 (.int .i64 (s.size : Int)) (.int .i64 (s.size : Int))).run Tryd.prog W = .ok (.slice (some ⟨W.heap.size, 0, none⟩) s.size s.size) (W.alloc (.cells M 5)) := fun W => by
      have h := run_make (P := Tryd.prog) W 82 5 i0 (.int .u8 0) Tryd.underlying82 hi hz0 .i64 .i64 (s.size : Int) (s.size : Int) (by omega) (by omega) (by rw [hz2]; omega) (by omega)
      rw [← hM] at h
      simpa using h
    clear hM
    have hcp := Lib.run_copy_row_string (P := Tryd.prog) (w.alloc (.cells M 5)) 82 9 3 5 w.heap.size 0 s.size s.size s M 5 Tryd.underlying82 hinfo (heap_alloc_new w _) (Nat.le_refl _) (by omega)
    obtain ⟨Y, hY⟩ : ∃ Y, Y = (M.toList.take 0 ++ Lib.byteCells s.data.toList ++ M.toList.drop (0 + s.size)).toArray := ⟨_, rfl⟩
    rw [← hY] at hcp
    have hYl : Y.toList = Lib.byteCells s.data.toList := by
      rw [hY, List.toList_toArray, List.take_zero, List.nil_append, List.drop_of_length_le (by rw [Array.length_toList]; omega), List.append_nil]
    have hYs : Y.size = s.size := by rw [← Array.length_toList, hYl, Lib.byteCells_length, ← Lib.size_eq]
    have hgY : ((w.alloc (.cells M 5)).setRow w.heap.size Y).heap[w.heap.size]? = some (.cells Y 5 (0, 0)) := setRow_heap _ _ M _ 5 (0, 0) (heap_alloc_new w _)
    have hne : s.data.toList ≠ [] := fun e => h0 (by rw [Lib.size_eq, e]; rfl)
    have hUS := Lib.run_unsafeString_row (P := Tryd.prog) ((w.alloc (.cells M 5)).setRow w.heap.size Y) 141 3 9 5 Tryd.underlying141 hco w.heap.size Y.size (by unfold World.shape?; rw [hgY]) s.data.toList hne (by rw [← Lib.size_eq]; omega) (by rw [← Lib.size_eq]; omega)
      (fun j x hx => Lib.cells_of_row hgY Y.size j _ (by rw [List.take_of_length_le (by rw [Array.length_toList]; exact Nat.le_refl _), hYl]; simp [Lib.byteCells, hx]))
    rw [← Lib.size_eq] at hUS
    clear hY
    go_enter Tryd.func81, Tryd.ntmps81
    go_wp2
    go_ret
    have hb1 : Below w.heap.size w (w.alloc (.cells M 5)) := (Below.refl _ w).alloc (Nat.le_refl _) _
    have hb2 : Below w.heap.size (w.alloc (.cells M 5)) ((w.alloc (.cells M 5)).setRow w.heap.size Y) := ⟨rfl, rfl, rfl, by simp, fun k hk => setRow_other _ _ _ _ (by omega)⟩
    exact ⟨rfl, Lib.below_freeze (hb1.trans hb2) (p := ⟨w.heap.size, 0, none⟩) (Nat.le_refl _) _⟩
theorem clone_any (s : ByteArray) (w : World) (hlim : s.size ≤ 281474976710656) :
    Calls Tryd.prog 65 #[.string s] w fun e w' => e = .returned (.string s) ∧ Below w.heap.size w w' := by
  have K := Lib.hid (sclone_any s w hlim)
  go_enter Tryd.func65, Tryd.ntmps65
  go_wp2_with fail
  refine K.out.mono ?_
  rintro e w1 ⟨rfl, hb⟩
  have HB := Aside0.mk hb
  clear hb K
  go_wp2
  go_ret
  exact ⟨rfl, HB.out⟩
end Go.Proofs.YtnifgokjagahfaaDoor.Clone

/- The program's Reader in memory; NewReader, Skipped. -/
set_option linter.unusedVariables false
set_option linter.unusedSimpArgs false
namespace Go.Proofs.YtnifgokjagahfaaDoor.Reader
open Go.RowKit Go.Proofs.YtnifgokjagahfaaDoorW.PrintWords Go.Proofs.YtnifgokjagahfaaDoorW.PrintLast Go.Proofs.YtnifgokjagahfaaDoorW.PrintMore
open Go.Proofs.YtnifgokjagahfaaDoor.Base Go.Proofs.YtnifgokjagahfaaDoor.App Go.Proofs.YtnifgokjagahfaaDoor.Layouts Go.Proofs.YtnifgokjagahfaaDoor.Msg Go.Proofs.YtnifgokjagahfaaDoor.Mids Go.Proofs.YtnifgokjagahfaaDoor.SplitPure Go.Proofs.YtnifgokjagahfaaDoor.Pcs
/-- a Reader's block -/
def RBox (w : World) (b : Nat) (h : ByteArray) (k : Int) : Prop := w.heap[b]? = some (.cells #[.string h, .int .i64 k] 116 (0, 0))
section
variable {w w' : World} {b : Nat} {h h' : ByteArray} {k k' : Int}
theorem RBox.lt (r : RBox w b h k) : b < w.heap.size := (Array.getElem?_eq_some_iff.1 r).1
theorem RBox.c0 (r : RBox w b h k) : w.cell? ⟨b, 0, none⟩ = some (.string h) := by simp [World.cell?, show w.heap[b]? = _ from r]
theorem RBox.c1 (r : RBox w b h k) : w.cell? ⟨b, 1, none⟩ = some (.int .i64 k) := by simp [World.cell?, show w.heap[b]? = _ from r]
theorem RBox.f0 (r : RBox w b h k) : w.frozen? ⟨b, 0, none⟩ = false := by simp [World.frozen?, show w.heap[b]? = _ from r]
theorem RBox.f1 (r : RBox w b h k) : w.frozen? ⟨b, 1, none⟩ = false := by simp [World.frozen?, show w.heap[b]? = _ from r]
theorem RBox.below {B : Nat} (r : RBox w b h k) (hb : Below B w w') (hB : b < B) : RBox w' b h k := (hb.block b hB).trans r
theorem RBox.later (r : RBox w b h k) (hb : Below w.heap.size w w') : RBox w' b h k := r.below hb r.lt
theorem RBox.set0 (r : RBox w b h k) (h' : ByteArray) : RBox (w.setCell ⟨b, 0, none⟩ (.string h')) b h' k := by
  obtain ⟨hlt, hk⟩ := Array.getElem?_eq_some_iff.1 r
  show (w.heap.modify b _)[b]? = _
  rw [Array.getElem?_eq_getElem (by rw [Array.size_modify]; exact hlt), Array.getElem_modify_self, hk]
  rfl
theorem RBox.set1 (r : RBox w b h k) (k' : Int) : RBox (w.setCell ⟨b, 1, none⟩ (.int .i64 k')) b h k' := by
  obtain ⟨hlt, hk⟩ := Array.getElem?_eq_some_iff.1 r
  show (w.heap.modify b _)[b]? = _
  rw [Array.getElem?_eq_getElem (by rw [Array.size_modify]; exact hlt), Array.getElem_modify_self, hk]
  rfl
end
/-- all blocks but one are as they were -/
def But (b : Nat) (w w' : World) : Prop := w.grownBy w' (some b)
theorem But.of_below {b : Nat} {w w' : World} (h : Below w.heap.size w w') : But b w w' := ⟨h.os, h.tape, h.output, h.size, fun k hk _ => h.block k hk⟩
theorem But.trans {b : Nat} {u v w : World} (h : But b u v) (k : But b v w) : But b u w :=
  ⟨k.os.trans h.os, k.tape.trans h.tape, k.output.trans h.output, Nat.le_trans h.size k.size, fun i hi hne => (k.block i (Nat.lt_of_lt_of_le hi h.size) hne).trans (h.block i hi hne)⟩
theorem But.set {b o : Nat} {u w : World} (h : But b u w) (v : Value) : But b u (w.setCell ⟨b, o, none⟩ v) :=
  h.trans ⟨rfl, rfl, rfl, by simp [World.setCell], fun k _ hk => Below.heap_setCell _ _ _ k (fun e => hk (by rw [e]))⟩
theorem But.then {b B : Nat} {u v w : World} (h : But b u v) (k : Below B v w) (hB : u.heap.size ≤ B) : But b u w :=
  ⟨k.os.trans h.os, k.tape.trans h.tape, k.output.trans h.output, Nat.le_trans h.size k.size, fun i hi hne => (k.block i (by omega)).trans (h.block i hi hne)⟩
theorem But.below {b : Nat} {u w : World} {B : Nat} (h : But b u w) (hb : B ≤ b) (hB : B ≤ u.heap.size) : Below B u w :=
  ⟨h.os, h.tape, h.output, h.size, fun k hk => h.block k (by omega) (fun e => by cases e; omega)⟩
theorem own_but {w w' : World} {b base : Nat} {e : TypeId} {size : Nat} {v : Value} {n : Nat} {xs : List Value} (h : w.ownsRow base e size v n xs) (hb : But b w w') (hlt : b < base) : w'.ownsRow base e size v n xs :=
  h.kept hb (by
    cases hv : v.ownBlock with
    | none => exact .inl rfl
    | some k => exact .inr (fun e => by have := (h.lt k hv).1; cases e; omega))
/-- a list of messages' cells -/
def msL (l : List M) : List Value := l.flatMap mL
theorem mL_len (m : M) : (mL m).length = 11 := rfl
theorem msL_length (l : List M) : (msL l).length = l.length * 11 := by
  induction l with
  | nil => rfl
  | cons p l ih => unfold msL at ih ⊢; rw [List.flatMap_cons, List.length_append, ih, mL_len, List.length_cons]; omega
theorem msL_snoc (l : List M) (p : M) : msL (l ++ [p]) = msL l ++ mL p := by simp [msL]
theorem msL_append (a b : List M) : msL (a ++ b) = msL a ++ msL b := by simp [msL]
theorem mL_ones (p : M) : ∀ u ∈ mL p, u.oneCell' = true := by simp [mL, Value.oneCell']
theorem msL_ones (l : List M) : ∀ u ∈ msL l, u.oneCell' = true := by
  intro u hu
  obtain ⟨p, _, h⟩ := List.mem_flatMap.1 hu
  exact mL_ones p u h
theorem infoMs : (Tryd.prog.info? 24).map (fun i => (i.zero, i.size, i.bytes)) = some (some (.agg #[.int .i64 0, .int .i64 0, .int .i64 0, .int .i64 0, .int .i64 0, .int .i64 0, .int .i64 0, .int .i64 0, .int .i64 0, .string { data := #[] }, .string { data := #[] }]), 11, 104) := by kernel_rfl
theorem run_oneM (w : World) (m : M) : (Instr.buildSlice 67 1 #[(0, .agg (mL m).toArray)]).run Tryd.prog w = .ok (.slice (some ⟨w.heap.size, 0, none⟩) 1 1) (w.alloc (.cells (mL m).toArray 24)) := by
  obtain ⟨i0, hi, hzz⟩ := Option.map_eq_some_iff.1 infoMs
  simp only [Prod.mk.injEq] at hzz
  obtain ⟨hz0, hz1, hz2⟩ := hzz
  refine run_buildSlice w _ _ 1 _ (mL m).toArray i0 _ Tryd.underlying67 hi hz0 ?_ ?_ ?_
  · rw [hz1]; decide
  · rw [hz1]; decide
  · rw [hz1]; kernel_rfl
theorem list_oneM {ops : Array Oper} {rest : List Oper} {o : Oper} {act : Act} {Q : Exit → Act → World → Prop} {w : World} (hg : o.guard = none) (x : Tmp) (ho : o.op = .buildSlice 67 1 #[(0, .tmp x)]) (m : M) (hx : act.eval (.tmp x) = .agg (mL m).toArray)
    (h : wpList Tryd.prog ops Q rest (act.put o.dst (.slice (some ⟨w.heap.size, 0, none⟩) 1 1)) (w.alloc (.cells (mL m).toArray 24))) : wpList Tryd.prog ops Q (o :: rest) act w := by
  refine wpList_plain hg fun K hK => ?_
  unfold Oper.wp execOp
  simp only [ho, List.map_toArray, List.map_cons, List.map_nil, hx, Sem.run_bind, run_oneM, Result.andThen_ok]
  exact hK _ _ h
theorem new_any (w : World) : Calls Tryd.prog 28 #[] w fun e w' => e = .returned (.pointer (some ⟨w.heap.size, 0, none⟩)) ∧ w' = w.alloc (.cells #[.string ByteArray.empty, .int .i64 0] 116) := by
  go_enter Tryd.func28, Tryd.ntmps28
  go_wp2
  go_ret
  exact ⟨rfl, rfl⟩
theorem new_box (w : World) : RBox (w.alloc (.cells #[.string ByteArray.empty, .int .i64 0] 116)) w.heap.size ByteArray.empty 0 := Go.heap_alloc_new w _
theorem skipped_any (w : World) (b : Nat) (h : ByteArray) (k : Int) (r : RBox w b h k) : Calls Tryd.prog 31 #[.pointer (some ⟨b, 0, none⟩)] w fun e w' => e = .returned (.int .i64 k) ∧ Below w.heap.size w w' := by
  have hc0 := r.c0
  have hc1 := r.c1
  go_enter Tryd.func31, Tryd.ntmps31
  go_wp2
  go_ret
  exact ⟨rfl, Below.refl _ _⟩
end Go.Proofs.YtnifgokjagahfaaDoor.Reader

/- What a Reader tells of a stream that comes in parts is what Split tells of the whole; plain. -/
set_option linter.unusedVariables false
set_option linter.unusedSimpArgs false
namespace Go.Proofs.YtnifgokjagahfaaDoor.ReadStream
open Go.RowKit Go.Proofs.YtnifgokjagahfaaDoorW.PrintWords Go.Proofs.YtnifgokjagahfaaDoorW.PrintLast Go.Proofs.YtnifgokjagahfaaDoorW.PrintMore
open Go.Proofs.YtnifgokjagahfaaDoor.Base Go.Proofs.YtnifgokjagahfaaDoor.Layouts Go.Proofs.YtnifgokjagahfaaDoor.Msg Go.Proofs.YtnifgokjagahfaaDoor.Put Go.Proofs.YtnifgokjagahfaaDoor.EncPure Go.Proofs.YtnifgokjagahfaaDoor.DecPure Go.Proofs.YtnifgokjagahfaaDoor.Num Go.Proofs.YtnifgokjagahfaaDoor.Mids Go.Proofs.YtnifgokjagahfaaDoor.Beg Go.Proofs.YtnifgokjagahfaaDoor.Frm Go.Proofs.YtnifgokjagahfaaDoor.Next Go.Proofs.YtnifgokjagahfaaDoor.SplitPure Go.Proofs.YtnifgokjagahfaaDoor.ReadPure
theorem data_append (s X : ByteArray) : (s ++ X).data.toList = s.data.toList ++ X.data.toList := by
  rw [ByteArray.data_append, Array.toList_append]
theorem ext_list {a b : ByteArray} (h : a.data.toList = b.data.toList) : a = b := ByteArray.ext (Array.ext' h)
theorem bytesOf_append (s X : ByteArray) : bytesOf (s ++ X) = bytesOf s ++ bytesOf X := by
  unfold bytesOf
  rw [data_append, List.map_append]
theorem drop_append (s X : ByteArray) (i : Nat) (h : i ≤ s.size) : (bytesOf (s ++ X)).drop i = (bytesOf s).drop i ++ bytesOf X := by
  rw [bytesOf_append, List.drop_append_of_le_length (by rw [bytesOf_length]; exact h)]
theorem fr_append {s : ByteArray} (X : ByteArray) {i : Nat} {r : Nat × M} (hi : i ≤ s.size) (h : fr s i = some r) : fr (s ++ X) i = some r := by
  unfold fr
  rw [drop_append s X i hi]
  exact frm_append _ (byt_at s i) h
theorem fr_refused {s : ByteArray} (X : ByteArray) {i : Nat} (hi : i ≤ s.size) (h : bg s i = 0) : fr (s ++ X) i = none := by
  unfold fr
  rw [drop_append s X i hi]
  exact refused _ (byt_at s i) (byt_bytesOf X) h
theorem skip_ne : ∀ (l : List UInt8) (j : Nat), j < skip l → ∃ b, l[j]? = some b ∧ b ≠ 71 := by
  intro l
  induction l with
  | nil => intro j h; simp [skip] at h
  | cons b l ih =>
    intro j h
    unfold skip at h
    by_cases hb : (b == 71) = true
    · rw [if_pos hb] at h; omega
    · rw [if_neg hb] at h
      cases j with
      | zero => exact ⟨b, rfl, fun e => hb (beq_iff_eq.2 e)⟩
      | succ j => exact ih j (by omega)
theorem nxt_gap {s : ByteArray} (X : ByteArray) {a j : Nat} (ha : a ≤ j) (h : j < nxt s a) (hs : a ≤ s.size) : fr (s ++ X) j = none := by
  have hle := nxt_le s a hs
  unfold nxt at h
  obtain ⟨b, hb, hne⟩ := skip_ne (s.data.toList.drop a) (j - a) (by omega)
  rw [List.getElem?_drop, show a + (j - a) = j by omega] at hb
  cases hf : fr (s ++ X) j with
  | none => rfl
  | some r =>
    exfalso
    obtain ⟨n, m⟩ := r
    have hj : j < s.size := by unfold nxt at hle; omega
    have hjx : j < (s ++ X).size := by rw [ByteArray.size_append]; omega
    have h71 := fr_byte hjx hf
    have e : (s ++ X).data.toList[j]? = some ((s ++ X)[j]'hjx) := by
      rw [List.getElem?_eq_getElem (by rw [data_length]; exact hjx)]
      rfl
    rw [data_append, List.getElem?_append_left (by rw [data_length]; exact hj), hb] at e
    simp only [Option.some.injEq] at e
    rw [← e] at h71
    exact hne (UInt8.toNat_inj.1 h71)
theorem pcs_skip {t : ByteArray} : ∀ (k a c : Nat), c - a ≤ k → a ≤ c → c ≤ t.size → (∀ j, a ≤ j → j < c → fr t j = none) → pcs t a = pcs t c := by
  intro k
  induction k with
  | zero => intro a c h h1 _ _; rw [show a = c by omega]
  | succ k ih =>
    intro a c h h1 h2 hz
    by_cases e : a = c
    · rw [e]
    · rw [pcs_none (by omega) (hz a (Nat.le_refl _) (by omega)), ih (a + 1) c (by omega) (by omega) h2 (fun j h3 h4 => hz j (by omega) h4)]
theorem feed_pcs (s X : ByteArray) : ∀ (k i : Nat), s.size - i ≤ k → i ≤ s.size → pcs (s ++ X) i = fdL s i ++ pcs (s ++ X) (fdE s i) := by
  intro k
  induction k with
  | zero => intro i h hi; rw [(fd_end (show s.size ≤ i by omega)).1, (fd_end (show s.size ≤ i by omega)).2]; rfl
  | succ k ih =>
    intro i h hi
    by_cases hl : i < s.size
    · rcases bg_cases ((bytesOf s).drop i) with hb | hb | hb
      · have hx := nxt_le s (i + 1) (by omega)
        rw [(fd_none hl hb).1, (fd_none hl hb).2, ← ih (nxt s (i + 1)) (by omega) hx.2]
        rw [pcs_none (by rw [ByteArray.size_append]; omega) (fr_refused X hi hb)]
        exact pcs_skip _ _ _ (Nat.le_refl _) hx.1 (by rw [ByteArray.size_append]; omega) (fun j h1 h2 => nxt_gap X h1 h2 (by omega))
      · rw [(fd_wait hb).1, (fd_wait hb).2]; rfl
      · obtain ⟨n, m, hf⟩ := bg_some (s := s) (i := i) hb
        obtain ⟨h1, _, h3⟩ := fr_bounds hf
        rw [(fd_some hf).1, (fd_some hf).2, pcs_some (fr_append X hi hf), ih (i + n) (by omega) h3]
        rfl
    · rw [(fd_end (show s.size ≤ i by omega)).1, (fd_end (show s.size ≤ i by omega)).2]; rfl
/-- pieces, so many places further on -/
def sh (p : Nat) (l : List Pc) : List Pc := l.map (fun x => (p + x.1, x.2))
theorem sh_append (p : Nat) (a b : List Pc) : sh p (a ++ b) = sh p a ++ sh p b := by simp [sh]
theorem szs_sh (p : Nat) (l : List Pc) : szs (sh p l) = szs l := by simp [szs, sh, Function.comp_def]
def msgs (l : List Pc) : List M := l.map (fun x => x.2.2)
theorem msgs_sh (p : Nat) (l : List Pc) : msgs (sh p l) = msgs l := by simp [msgs, sh, Function.comp_def]
theorem msgs_append (a b : List Pc) : msgs (a ++ b) = msgs a ++ msgs b := by simp [msgs]
theorem tail_size (t : ByteArray) (p : Nat) (h : p ≤ t.size) : (t.extract p t.size).size = t.size - p := by rw [ByteArray.size_extract]; omega
theorem fr_shift (t : ByteArray) (p i : Nat) (h : p ≤ t.size) : fr (t.extract p t.size) i = fr t (p + i) := by
  unfold fr
  rw [drop_bytesOf t p h, List.drop_drop]
theorem pcs_shift (t : ByteArray) (p : Nat) (h : p ≤ t.size) : ∀ (k i : Nat), t.size - p - i ≤ k → pcs t (p + i) = sh p (pcs (t.extract p t.size) i) := by
  intro k
  have hz := tail_size t p h
  induction k with
  | zero => intro i hk; rw [pcs_end (by omega), pcs_end (by omega)]; rfl
  | succ k ih =>
    intro i hk
    by_cases hi : i < t.size - p
    · cases hf : fr t (p + i) with
      | none =>
        have hf' : fr (t.extract p t.size) i = none := by rw [fr_shift t p i h]; exact hf
        have e1 := pcs_none (by omega) hf
        have e2 := pcs_none (by omega) hf'
        rw [e1, e2, ← ih (i + 1) (by omega)]
        rfl
      | some r =>
        obtain ⟨n, m⟩ := r
        obtain ⟨h1, _, h3⟩ := fr_bounds hf
        rw [pcs_some hf, pcs_some (s := t.extract p t.size) (by rw [fr_shift t p i h]; exact hf)]
        have := ih (i + n) (by omega)
        rw [show p + i + n = p + (i + n) by omega, this]
        rfl
    · rw [pcs_end (by omega), pcs_end (by omega)]; rfl
theorem pcs_tail (t : ByteArray) (p i : Nat) (h : p ≤ t.size) : pcs t (p + i) = sh p (pcs (t.extract p t.size) i) := pcs_shift t p h _ i (Nat.le_refl _)
theorem tail_append (W s : ByteArray) (p : Nat) (h : p ≤ W.size) : (W ++ s).extract p (W ++ s).size = W.extract p W.size ++ s := by
  apply ext_list
  rw [extract_list, data_append, data_append, extract_list, List.drop_append_of_le_length (by rw [data_length]; exact h)]
theorem tail_tail (t : ByteArray) (p q : Nat) : (t.extract p t.size).extract q (t.extract p t.size).size = t.extract (p + q) t.size := by
  apply ext_list
  rw [extract_list, extract_list, extract_list, List.drop_drop]
theorem append_assoc' (a b c : ByteArray) : a ++ b ++ c = a ++ (b ++ c) := by
  apply ext_list
  simp only [data_append, List.append_assoc]
theorem append_nil' (a : ByteArray) : a ++ ByteArray.empty = a := by
  apply ext_list
  rw [data_append]
  exact List.append_nil _
/-- so far a stream W has come; the pieces pre were told; behind the place p it is held -/
structure Fed (W : ByteArray) (pre : List Pc) (p : Nat) : Prop where mk ::
  (le : p ≤ W.size) (room : szs pre ≤ p) (all : ∀ X, pcs (W ++ X) 0 = pre ++ pcs (W ++ X) p)
theorem Fed.init : Fed ByteArray.empty [] 0 := ⟨Nat.le_refl _, Nat.le_refl _, fun _ => rfl⟩
theorem Fed.step {W : ByteArray} {pre : List Pc} {p : Nat} (h : Fed W pre p) (s : ByteArray) :
    Fed (W ++ s) (pre ++ sh p (fdL (W.extract p W.size ++ s) 0)) (p + fdE (W.extract p W.size ++ s) 0) := by
  have hb := fdE_bounds (W.extract p W.size ++ s) 0 (Nat.zero_le _)
  have hr := fd_room (W.extract p W.size ++ s) 0 (Nat.zero_le _)
  rw [ByteArray.size_append, tail_size W p h.le] at hb
  refine ⟨by rw [ByteArray.size_append]; have := h.le; omega, by rw [szs_append, szs_sh]; have := h.room; omega, fun X => ?_⟩
  have e1 : pcs (W ++ s ++ X) p = sh p (pcs (W.extract p W.size ++ s ++ X) 0) := by
    have h1 := pcs_tail (W ++ s ++ X) p 0 (by rw [ByteArray.size_append, ByteArray.size_append]; have := h.le; omega)
    rw [append_assoc', tail_append W (s ++ X) p h.le, ← append_assoc'] at h1
    rw [← append_assoc'] at h1
    exact h1
  have e2 : pcs (W ++ s ++ X) (p + fdE (W.extract p W.size ++ s) 0) = sh p (pcs (W.extract p W.size ++ s ++ X) (fdE (W.extract p W.size ++ s) 0)) := by
    have h1 := pcs_tail (W ++ s ++ X) p (fdE (W.extract p W.size ++ s) 0) (by rw [ByteArray.size_append, ByteArray.size_append]; have := h.le; omega)
    rw [append_assoc' W s X, tail_append W (s ++ X) p h.le, ← append_assoc', ← append_assoc'] at h1
    exact h1
  have h0 := h.all (s ++ X)
  rw [← append_assoc'] at h0
  rw [h0, e1, feed_pcs (W.extract p W.size ++ s) X _ 0 (Nat.le_refl _) (Nat.zero_le _), sh_append, ← e2, List.append_assoc]
theorem Fed.held {W : ByteArray} {pre : List Pc} {p : Nat} (h : Fed W pre p) (s : ByteArray) :
    (W.extract p W.size ++ s).extract (fdE (W.extract p W.size ++ s) 0) (W.extract p W.size ++ s).size = (W ++ s).extract (p + fdE (W.extract p W.size ++ s) 0) (W ++ s).size := by
  rw [← tail_append W s p h.le, tail_tail]
theorem Fed.close {W : ByteArray} {pre : List Pc} {p : Nat} (h : Fed W pre p) : pcs W 0 = pre ++ sh p (pcs (W.extract p W.size) 0) := by
  have h0 := h.all ByteArray.empty
  rw [append_nil'] at h0
  rw [h0, ← pcs_tail W p 0 h.le]
  rfl
/-- pieces lie within their text -/
theorem pcs_szs (s : ByteArray) : ∀ (k i : Nat), s.size - i ≤ k → szs (pcs s i) ≤ s.size - i := by
  intro k
  induction k with
  | zero => intro i h; rw [pcs_end (by omega)]; exact Nat.zero_le _
  | succ k ih =>
    intro i h
    by_cases hi : i < s.size
    · cases hf : fr s i with
      | none => rw [pcs_none hi hf]; have := ih (i + 1) (by omega); omega
      | some r =>
        obtain ⟨n, m⟩ := r
        obtain ⟨h1, _, h3⟩ := fr_bounds hf
        rw [pcs_some hf, szs_cons]
        have := ih (i + n) (by omega)
        simp only
        omega
    · rw [pcs_end (by omega)]; exact Nat.zero_le _
end Go.Proofs.YtnifgokjagahfaaDoor.ReadStream

/- Pieces in memory, inside a fence. -/
set_option linter.unusedVariables false
set_option linter.unusedSimpArgs false
namespace Go.Proofs.YtnifgokjagahfaaDoor.PcsIn
open Go.RowKit Go.Shelf Go.Proofs.YtnifgokjagahfaaDoorW.PrintWords Go.Proofs.YtnifgokjagahfaaDoorW.PrintLast Go.Proofs.YtnifgokjagahfaaDoorW.PrintMore
open Go.Proofs.YtnifgokjagahfaaDoor.Base Go.Proofs.YtnifgokjagahfaaDoor.App Go.Proofs.YtnifgokjagahfaaDoor.Layouts Go.Proofs.YtnifgokjagahfaaDoor.Msg Go.Proofs.YtnifgokjagahfaaDoor.Mids Go.Proofs.YtnifgokjagahfaaDoor.SplitPure Go.Proofs.YtnifgokjagahfaaDoor.Pcs
section
variable {F : Fence} {n : Nat} {P : Program} {ops : Array Oper} {rest : List Oper} {o : Oper} {a : Act} {w w' : World} {Q : Exit → Act → World → Prop}
theorem listIn_exec {v : Value} (hg : o.guard = none) (hd : ∀ c, o.op ≠ .defer c) (ha : o.about P w a.eval = none) (hr : (execOp a.eval o).run P w = .ok (.value v) w')
    (h : wpListIn F n P ops Q rest (a.put o.dst v) w') : wpListIn F n P ops Q (o :: rest) a w := by
  refine wpListIn_plain hg fun K hK => ?_
  unfold Oper.wpIn
  refine ⟨fun f hf => (by rw [ha] at hf; cases hf), ?_⟩
  rw [Oper.semAt_plain F _ _ hd, hr]
  exact hK _ _ h
theorem listIn_skip (hg : o.guard = none) (hd : ∀ c, o.op ≠ .defer c) (ha : o.about P w a.eval = none) (hr : (execOp a.eval o).run P w = .ok .skip w')
    (h : wpListIn F n P ops Q rest (a.put o.dst undef) w') : wpListIn F n P ops Q (o :: rest) a w := by
  refine wpListIn_plain hg fun K hK => ?_
  unfold Oper.wpIn
  refine ⟨fun f hf => (by rw [ha] at hf; cases hf), ?_⟩
  rw [Oper.semAt_plain F _ _ hd, hr]
  exact hK _ _ h
theorem listIn_load_mid (hg : o.guard = none) (ty : TypeId) (x : Operand) (ho : o.op = .load ty x)
    (b p : Nat) (hx : a.eval x = .pointer (some ⟨b, p, none⟩)) (cs : List Value) (d : TypeDesc) (hc : w.rangeAt b p cs)
    (hu : P.underlying ty = some d) (hd : d.isRow = true) (hi : (P.info? ty).map (·.size) = some cs.length)
    (h : wpListIn F n P ops Q rest (a.put o.dst (.agg cs.toArray)) w) : wpListIn F n P ops Q (o :: rest) a w := by
  refine listIn_exec hg (by rw [ho]; intro c hc'; cases hc') (by simp [Oper.about, ho]) ?_ h
  unfold execOp
  simp only [ho, hx, Instr.loadAt, Instr.sureAddr, Sem.run_bind, Sem.run_pure, Result.andThen_ok, run_loadVar_mid w b p ty cs d hc hu hd hi]
theorem listIn_store_mid (hg : o.guard = none) (ty : TypeId) (x y : Operand) (ho : o.op = .store ty x y)
    (b p : Nat) (cells : Array Value) (hx : a.eval x = .pointer (some ⟨b, p, none⟩)) (hy : a.eval y = .agg cells)
    (ht : w.there b p cells.size) (hi : (P.info? ty).map (·.size) = some cells.size) (h1 : cells.all (·.oneCell') = true)
    (h : wpListIn F n P ops Q rest (a.put o.dst undef) (w.setCells b p cells.toList)) : wpListIn F n P ops Q (o :: rest) a w := by
  refine listIn_skip hg (by rw [ho]; intro c hc'; cases hc') (by simp [Oper.about, ho]) ?_ h
  unfold execOp
  simp only [ho, hx, hy, Instr.storeAt, Instr.sureAddr, Sem.run_bind, Sem.run_pure, Result.andThen_ok, run_storeVar_mid w b p ty cells ht hi h1]
theorem gateIn_load {ty : TypeId} {x : Operand} (_ho : o.op = .load ty x) (h : wpListIn F n P ops Q (o :: rest) a w) : wpListIn F n P ops Q (o :: rest) a w := h
theorem gateIn_store {ty : TypeId} {x y : Operand} (_ho : o.op = .store ty x y) (h : wpListIn F n P ops Q (o :: rest) a w) : wpListIn F n P ops Q (o :: rest) a w := h
theorem gateIn_build {t : TypeId} {parts : Array (Nat × Operand)} (_ho : o.op = .build t parts) (h : wpListIn F n P ops Q (o :: rest) a w) : wpListIn F n P ops Q (o :: rest) a w := h
theorem gateIn_buildSlice {t : TypeId} {k : Nat} {parts : Array (Nat × Operand)} (_ho : o.op = .buildSlice t k parts) (h : wpListIn F n P ops Q (o :: rest) a w) : wpListIn F n P ops Q (o :: rest) a w := h
theorem gateIn_call {fn : Callee} {args : Array Operand} {ts : Array TypeId} (_ho : o.op = .call { callee := fn, args := args, argTypes := ts }) (h : wpListIn F n P ops Q (o :: rest) a w) : wpListIn F n P ops Q (o :: rest) a w := h
end
section
variable {F : Fence} {n : Nat} {ops : Array Oper} {rest : List Oper} {o : Oper} {act : Act} {w : World} {Q : Exit → Act → World → Prop}
theorem listIn_buildP (hg : o.guard = none) (x y z : Tmp) (ho : o.op = .build 44 #[(0, .tmp x), (1, .tmp y), (2, .tmp z)]) (a b : Int) (m : M)
    (hx : act.eval (.tmp x) = .int .i64 a) (hy : act.eval (.tmp y) = .int .i64 b) (hz : act.eval (.tmp z) = .agg (mL m).toArray)
    (h : wpListIn F n Tryd.prog ops Q rest (act.put o.dst (.agg (pV a b m))) w) : wpListIn F n Tryd.prog ops Q (o :: rest) act w := by
  refine listIn_exec hg (by rw [ho]; intro c hc'; cases hc') (by simp [Oper.about, ho]) ?_ h
  unfold execOp
  simp only [ho, List.map_toArray, List.map_cons, List.map_nil, hx, hy, hz, Sem.run_bind, run_buildP, Result.andThen_ok]
  rfl
theorem listIn_oneP (hg : o.guard = none) (x : Tmp) (ho : o.op = .buildSlice 38 1 #[(0, .tmp x)]) (a b : Int) (m : M) (hx : act.eval (.tmp x) = .agg (pV a b m))
    (h : wpListIn F n Tryd.prog ops Q rest (act.put o.dst (.slice (some ⟨w.heap.size, 0, none⟩) 1 1)) (w.alloc (.cells (pV a b m) 44))) : wpListIn F n Tryd.prog ops Q (o :: rest) act w := by
  refine listIn_exec hg (by rw [ho]; intro c hc'; cases hc') (by simp [Oper.about, ho]) ?_ h
  unfold execOp
  simp only [ho, List.map_toArray, List.map_cons, List.map_nil, hx, Sem.run_bind, run_oneP, Result.andThen_ok]
  rfl
end
end Go.Proofs.YtnifgokjagahfaaDoor.PcsIn

/- The frames of a stream as an iterator: pieces. -/
set_option linter.unusedVariables false
set_option linter.unusedSimpArgs false
namespace Go.Proofs.YtnifgokjagahfaaDoor.Pieces
open Go.RowKit Go.Shelf Go.Proofs.YtnifgokjagahfaaDoorW.PrintWords Go.Proofs.YtnifgokjagahfaaDoorW.PrintLast Go.Proofs.YtnifgokjagahfaaDoorW.PrintMore
open Go.Proofs.YtnifgokjagahfaaDoor.Base Go.Proofs.YtnifgokjagahfaaDoor.App Go.Proofs.YtnifgokjagahfaaDoor.Layouts Go.Proofs.YtnifgokjagahfaaDoor.Msg Go.Proofs.YtnifgokjagahfaaDoor.Mids Go.Proofs.YtnifgokjagahfaaDoor.SplitPure Go.Proofs.YtnifgokjagahfaaDoor.Pcs Go.Proofs.YtnifgokjagahfaaDoor.PcsIn Go.Proofs.YtnifgokjagahfaaDoor.Frm Go.Proofs.YtnifgokjagahfaaDoor.Next
open Go.Proofs.YtnifgokjagahfaaDoor.Dec (mL_one infoM)
open Go.Proofs.YtnifgokjagahfaaDoor.Zeros (zeros_new zeros_there zeros_below)
open Go.Proofs.YtnifgokjagahfaaDoor.Crc (Nibs)
attribute [local go_sem] Oper.semAt_some
theorem abides_below {β : Type} {B : Nat} {J : β → World → Prop} (h : AbidesFrom B J) {s : β} {A A' : World} (hs : J s A) (hb : Below A.heap.size A A') : J s A' :=
  h s A A' none hs ⟨hb.os, hb.tape, hb.output, hb.size, fun k hk _ => hb.block k hk⟩ (fun r e => by cases e)
theorem drawn_below {B : Nat} {w w' : World} (h : Drawn0 w w') : Below B w w' := by
  obtain ⟨⟨n, rfl⟩⟩ := h
  exact pw_below_drewN (Below.refl _ _) n
theorem begins_at (s : ByteArray) (i : Nat) (w : World) (hi : i ≤ s.size) (hmx : s.size ≤ 9223372036854775807) (hN : Nibs w) :
    (fr s i = none ∧ ∃ q n m, q ≠ 2 ∧ Calls Tryd.prog 63 #[.string (s.extract i s.size)] w (Beg.TellW q n m w)) ∨
    (∃ n m, fr s i = some (n, m) ∧ Calls Tryd.prog 63 #[.string (s.extract i s.size)] w (Beg.TellW 2 (n : Nat) m w)) := by
  have h := Beg.beg_any (s.extract i s.size) w (by rw [ByteArray.size_extract]; omega) hN
  have e := drop_bytesOf s i hi
  rw [e] at h
  cases hf : fr s i with
  | none =>
    have := begP_none _ (byt_at s i) hf
    exact .inl ⟨rfl, _, _, _, this, h⟩
  | some r =>
    obtain ⟨n, m⟩ := r
    have := begP_full _ (byt_at s i) n m hf
    rw [this] at h
    exact .inr ⟨n, m, rfl, h⟩
/-- what a round keeps: all that lies below n₀, and block Bn -/
def KB (n₀ Bn : Nat) (A B : World) : Prop := Below n₀ A B ∧ B.heap[Bn]? = A.heap[Bn]?
theorem KB.refl (n₀ Bn : Nat) (A : World) : KB n₀ Bn A A := ⟨Below.refl _ _, rfl⟩
theorem KB.trans {n₀ Bn : Nat} {A B C : World} (h : KB n₀ Bn A B) (k : KB n₀ Bn B C) : KB n₀ Bn A C := ⟨h.1.trans k.1, k.2.trans h.2⟩
theorem KB.of_below {n₀ Bn : Nat} {A B : World} (h : Below A.heap.size A B) (hn : n₀ ≤ A.heap.size) (hb : Bn < A.heap.size) : KB n₀ Bn A B := ⟨h.mono hn, h.block _ hb⟩
theorem KB.cell {n₀ Bn : Nat} {A B : World} {v : Value} (h : KB n₀ Bn A B) (hc : A.cell? ⟨Bn, 0, none⟩ = some v) : B.cell? ⟨Bn, 0, none⟩ = some v := (World.cell?_of_block (a := ⟨Bn, 0, none⟩) h.2).trans hc
theorem KB.put {n₀ Bn : Nat} {w : World} (hn : n₀ ≤ w.heap.size) (hb : Bn < w.heap.size) (W : World) (l : Nat) (o o' : Obj) (hl : w.heap.size ≤ l) (h : W.heap[l]? = some o) (h1 : o.isCells = false) (h2 : o.isWalk = false) : KB n₀ Bn W (W.putObj l o') :=
  ⟨belowK_b hn W l o o' hl h h1 h2, World.putObj_heap_other (by omega)⟩
theorem nibs_keep {w w1 : World} {B : Nat} (h : Nibs w) (hb : Below B w w1) (hB : 2 < B) : Nibs w1 :=
  ⟨fun i hi => (hb.cell (p := ⟨2, i, none⟩) hB).trans (h.cell i hi), Nat.lt_of_lt_of_le h.lt hb.size⟩
set_option maxRecDepth 100000 in
set_option maxHeartbeats 4000000 in
theorem pieces1_any (n l Bn n₀ : Nat) (s : ByteArray) (hmx : s.size ≤ 9223372036854775807) (J Jx : List Pc → World → Prop) (W : World) (hJa : AbidesFrom W.heap.size J)
    (hY : ∀ (pre : List Pc) (x : Pc) W1, J pre W1 → pre.length < (pcs s 0).length → YieldAt Fence.wide (n - 1) Tryd.prog l #[.agg (pV (x.1 : Nat) (x.2.1 : Nat) x.2.2)] W1 fun e W' =>
      (e = .returned (.bool true) ∧ J (pre ++ [x]) W' ∧ KB n₀ Bn W1 W') ∨ (e = .returned (.bool false) ∧ Jx (pre ++ [x]) W'))
    (hn₀ : n₀ ≤ W.heap.size) (hBn : Bn < W.heap.size) (hc : W.cell? ⟨Bn, 0, none⟩ = some (.string s)) (hN : Nibs W) (hN0 : 2 < n₀) (h0 : J [] W) :
    Calls Tryd.prog 75 #[.func (.yield l) #[] #[], .pointer (some ⟨Bn, 0, none⟩)] W fun e W' => (∃ v, e = .returned v) ∧
      ((∃ ys, ys = pcs s 0 ∧ J ys W') ∨ (∃ pre, pre <+: pcs s 0 ∧ Jx pre W')) := by
  have hnx := next_any s 0 W (Nat.zero_le _) hmx
  have hn0 := nxt_le s 0 (Nat.zero_le _)
  have HP0 : Aside0 (pcs s 0 = [] ++ pcs s (nxt s 0)) := ⟨(pcs_next s 0 (Nat.zero_le _)).symm⟩
  have HY := Aside0.mk hY
  have HJA := Aside0.mk hJa
  have HC := Aside0.mk hc
  have HN := Aside0.mk hN
  go_enter Tryd.func75, Tryd.ntmps75
  go_wp2_with fail
  refine hnx.mono ?_
  rintro e w1 ⟨rfl, hd⟩
  have HB1 := Aside0.mk (KB.of_below (n₀ := n₀) (Bn := Bn) (drawn_below hd) hn₀ hBn)
  have HJ1 := Aside0.mk (abides_below hJa h0 (drawn_below hd))
  have HZ1 := Aside0.mk (drawn_below (B := W.heap.size) hd).size
  clear hd hY hJa hN hc h0 hnx
  generalize nxt s 0 = i0 at HP0 hn0 ⊢
  go_wp2_with fail
  go_loopw [3, 4, 5, 6] (fun iv _ _ _ wr => ∃ (i : Nat) (pre : List Pc), i ≤ s.size ∧ iv = .int .i64 (i : Int) ∧ Aside0 (pcs s 0 = pre ++ pcs s i) ∧ Aside0 (J pre wr) ∧ Aside0 (KB n₀ Bn W wr)) (fun iv _ _ _ _ => s.size - (intOf iv).toNat)
  case atStart => exact ⟨i0, [], hn0.2, rfl, HP0, HJ1, HB1⟩
  case round =>
    clear HP0 HJ1 HB1 HZ1 hn0
    obtain ⟨i, pre, hi, rfl, HP, HJ, HB⟩ := hrel
    have hc1 : wr.cell? ⟨Bn, 0, none⟩ = some (.string s) := HB.out.cell HC.out
    have HN1 : Aside0 (Nibs wr) := ⟨nibs_keep HN.out HB.out.1 hN0⟩
    by_cases hlt : i < s.size
    · rcases begins_at s i wr hi hmx HN1.out with ⟨hf, q, k, m, hq, hbg⟩ | ⟨k, m, hf, hbg⟩
      · have HP1 : Aside0 (pcs s 0 = pre ++ pcs s (nxt s (i + 1))) := ⟨by rw [HP.out, pcs_none hlt hf, pcs_next s (i + 1) (by omega)]⟩
        clear HP hf
        have g0 : (0 : Int) ≤ (i : Int) := by omega
        have g1 : (i : Int) ≤ (s.size : Int) := by omega
        have hs1 := fun wx => run_slice_string_l (P := Tryd.prog) wx 9 s Tryd.underlying9 .i64 (i : Int) g0 g1
        rw [Int.toNat_natCast] at hs1
        generalize s.extract i s.size = S1 at hs1 hbg
        have HBG := Aside0.mk hbg
        clear hbg HN1
        go_wp2_with fail
        refine HBG.out.mono ?_
        rintro e w2 ⟨rfl, hb⟩
        have HB2 := Aside0.mk (KB.of_below (n₀ := n₀) (Bn := Bn) hb (by have := HB.out.1.size; omega) (by have := HB.out.1.size; omega))
        have HJ2 := Aside0.mk (abides_below HJA.out HJ.out hb)
        clear hb HBG hs1 HJ
        have hth := zeros_there w2
        have HM3 := Aside0.mk (zeros_new w2 m)
        have HB3 := Aside0.mk (HB2.out.trans (KB.of_below (zeros_below w2 m) (by have := HB.out.1.size; have := HB2.out.1.size; omega) (by have := HB.out.1.size; have := HB2.out.1.size; omega)))
        have HJ3 := Aside0.mk (abides_below HJA.out HJ2.out (zeros_below w2 m))
        go_upto_region 3 with ((with_reducible refine gate_store (ty := 24) (x := .tmp 6) (y := .tmp 20) rfl ?_); refine wpList_store_mid rfl 24 (.tmp 6) (.tmp 20) rfl w2.heap.size 0 (mL m).toArray rfl rfl hth infoM (mL_one m) ?_)
        clear hth HB2 HJ2 hc1
        generalize hw3 : (w2.alloc (.cells #[.int .i64 0, .int .i64 0, .int .i64 0, .int .i64 0, .int .i64 0, .int .i64 0, .int .i64 0, .int .i64 0, .int .i64 0, .string { data := #[] }, .string { data := #[] }] 24)).setCells w2.heap.size 0 (mL m) = w3 at HM3 HB3 HJ3 ⊢
        generalize w2.heap.size = g3 at HM3 hw3 ⊢
        clear hw3
        have HB4 := Aside0.mk (HB.out.trans HB3.out)
        have hc1 : w3.cell? ⟨Bn, 0, none⟩ = some (.string s) := HB4.out.cell HC.out
        clear HB HB3
        have hq2 : (q != 2) = true := bne_iff_ne.2 hq
        have hw1 : wrap64 ((i : Int) + 1) = ((i + 1 : Nat) : Int) := Zeros.wadd i 1 (by omega)
        have hnx := fun w => Lib.hid (next_any s (i + 1) w (by omega) hmx)
        have hnb := nxt_le s (i + 1) (by omega)
        generalize nxt s (i + 1) = i2 at hnx hnb HP1
        go_wp2_with fail
        refine (hnx _).out.mono ?_
        rintro e w5 ⟨rfl, hd⟩
        have HB5 := Aside0.mk (HB4.out.trans (KB.of_below (drawn_below hd) (by have := HB4.out.1.size; omega) (by have := HB4.out.1.size; omega)))
        have HJ5 := Aside0.mk (abides_below HJA.out HJ3.out (drawn_below hd))
        clear hd hnx HB4 HJ3
        go_wp2_with fail
        go_roundw
        case rel => exact ⟨i2, pre, hnb.2, rfl, HP1, HJ5, HB5⟩
        case measure => simp [intOf]; omega
      · have HF := Aside0.mk (fr_bounds hf)
        have HP1 : Aside0 (pcs s 0 = pre ++ (i, k, m) :: pcs s (nxt s (i + k))) := ⟨by rw [HP.out, pcs_some hf, pcs_next s (i + k) HF.out.2.2]⟩
        clear HP hf
        have g0 : (0 : Int) ≤ (i : Int) := by omega
        have g1 : (i : Int) ≤ (s.size : Int) := by omega
        have hs1 := fun wx => run_slice_string_l (P := Tryd.prog) wx 9 s Tryd.underlying9 .i64 (i : Int) g0 g1
        rw [Int.toNat_natCast] at hs1
        generalize s.extract i s.size = S1 at hs1 hbg
        have HBG := Aside0.mk hbg
        clear hbg HN1
        go_wp2_with fail
        refine HBG.out.mono ?_
        rintro e w2 ⟨rfl, hb⟩
        have HB2 := Aside0.mk (KB.of_below (n₀ := n₀) (Bn := Bn) hb (by have := HB.out.1.size; omega) (by have := HB.out.1.size; omega))
        have HJ2 := Aside0.mk (abides_below HJA.out HJ.out hb)
        clear hb HBG hs1 HJ
        have hth := zeros_there w2
        have HM3 := Aside0.mk (zeros_new w2 m)
        have HB3 := Aside0.mk (HB2.out.trans (KB.of_below (zeros_below w2 m) (by have := HB.out.1.size; have := HB2.out.1.size; omega) (by have := HB.out.1.size; have := HB2.out.1.size; omega)))
        have HJ3 := Aside0.mk (abides_below HJA.out HJ2.out (zeros_below w2 m))
        go_upto_region 3 with ((with_reducible refine gate_store (ty := 24) (x := .tmp 6) (y := .tmp 20) rfl ?_); refine wpList_store_mid rfl 24 (.tmp 6) (.tmp 20) rfl w2.heap.size 0 (mL m).toArray rfl rfl hth infoM (mL_one m) ?_)
        clear hth HB2 HJ2 hc1
        generalize hw3 : (w2.alloc (.cells #[.int .i64 0, .int .i64 0, .int .i64 0, .int .i64 0, .int .i64 0, .int .i64 0, .int .i64 0, .int .i64 0, .int .i64 0, .string { data := #[] }, .string { data := #[] }] 24)).setCells w2.heap.size 0 (mL m) = w3 at HM3 HB3 HJ3 ⊢
        generalize w2.heap.size = g3 at HM3 hw3 ⊢
        clear hw3
        have HB4 := Aside0.mk (HB.out.trans HB3.out)
        have hc1 : w3.cell? ⟨Bn, 0, none⟩ = some (.string s) := HB4.out.cell HC.out
        clear HB HB3
        have hrg := blk_range HM3.out.row
        have hlen : pre.length < (pcs s 0).length := by rw [HP1.out]; simp
        obtain ⟨fn, tmps, assign, body, hy, hR⟩ := HY.out pre (i, k, m) w3 HJ3.out hlen
        have HR := Aside0.mk hR
        clear hlen hR
        go_upto_region 5 with fail
        refine (wpIn_wide (n := n)).1 ?_
        dsimp only at hy
        gi_wp2_with (first | ((with_reducible refine gateIn_load (ty := 24) (x := .tmp 6) rfl ?_); refine listIn_load_mid rfl 24 (.tmp 6) rfl g3 0 rfl (mL m) _ hrg Tryd.underlying24 rfl infoM ?_) | ((with_reducible refine gateIn_build (t := 44) (parts := #[(0, .tmp 28), (1, .tmp 29), (2, .tmp 30)]) rfl ?_); go_loud (refine listIn_buildP rfl 28 29 30 rfl (i : Int) (k : Int) m rfl rfl rfl ?_)))
        refine ⟨fun h => (by cases h), HR.out.mono ?_⟩
        rintro e w4 (⟨rfl, hj4, hk4⟩ | ⟨rfl, hjx⟩)
        · have HJ4 := Aside0.mk hj4
          have HB5 := Aside0.mk (HB4.out.trans hk4)
          have hc2 : w4.cell? ⟨Bn, 0, none⟩ = some (.string s) := HB5.out.cell HC.out
          have hb0 := HF.out
          have hw1 : wrap64 ((i : Int) + (k : Int)) = ((i + k : Nat) : Int) := Zeros.wadd i k (by omega)
          have hnx := fun w => Lib.hid (next_any s (i + k) w hb0.2.2 hmx)
          have hnb := nxt_le s (i + k) hb0.2.2
          generalize nxt s (i + k) = i2 at hnx hnb HP1
          clear hj4 hk4 HR hrg hc1 HB4 HJ3 hy hb0
          gi_wp2
          go_wp2_with fail
          refine (hnx _).out.mono ?_
          rintro e w5 ⟨rfl, hd⟩
          have HB6 := Aside0.mk (HB5.out.trans (KB.of_below (drawn_below hd) (by have := HB5.out.1.size; omega) (by have := HB5.out.1.size; omega)))
          have HJ6 := Aside0.mk (abides_below HJA.out HJ4.out (drawn_below hd))
          clear hd hnx HB5 HJ4
          go_wp2_with fail
          go_roundw
          case rel => exact ⟨i2, pre ++ [(i, k, m)], hnb.2, rfl, ⟨by rw [HP1.out]; simp⟩, HJ6, HB6⟩
          case measure => have := HF.out; simp [intOf]; omega
        · have HJX := Aside0.mk hjx
          clear hjx HR hrg hc1 HB4 HJ3 hy
          gi_wp2
          go_wp2_with fail
          refine bodyPost_ret (results_none rfl _ _ _) rfl ?_
          exact ⟨⟨_, rfl⟩, .inr ⟨pre ++ [(i, k, m)], ⟨pcs s (nxt s (i + k)), by rw [HP1.out]; simp⟩, HJX.out⟩⟩
    · obtain rfl : i = s.size := by omega
      have HE : Aside0 (pre = pcs s 0) := ⟨by rw [HP.out, pcs_end (Nat.le_refl _), List.append_nil]⟩
      go_wp2_with fail
      go_end0
      exact ⟨⟨_, rfl⟩, .inl ⟨pre, HE.out, HJ.out⟩⟩
theorem pieces_any (s : ByteArray) (w : World) : Calls Tryd.prog 49 #[.string s] w fun e w' => e = .returned (.func (.func 75) #[] #[.pointer (some ⟨w.heap.size, 0, none⟩)]) ∧ w' = w.alloc (.cells #[.string s] 9) := by
  go_enter Tryd.func49, Tryd.ntmps49
  go_wp2
  go_ret
  exact ⟨rfl, rfl⟩
/-- a piece as an argument -/
abbrev pA (x : Pc) : Array Value := #[.agg (pV (x.1 : Nat) (x.2.1 : Nat) x.2.2)]
theorem pieces_stops (n Bn n₀ : Nat) (s : ByteArray) (hmx : s.size ≤ 9223372036854775807) (w : World) (hn₀ : n₀ ≤ w.heap.size) (hBn : Bn < w.heap.size) (hc : w.cell? ⟨Bn, 0, none⟩ = some (.string s)) (hN : Nibs w) (hN0 : 2 < n₀) :
    SeqStopsK Fence.wide n Tryd.prog 75 #[.pointer (some ⟨Bn, 0, none⟩)] pA (KB n₀ Bn) (fun ys => ys = pcs s 0) (fun pre => pre <+: pcs s 0) (pcs s 0).length w := by
  intro l J Jx W hW hJ _ hY h0
  exact callsIn_wide.2 (pieces1_any n l Bn n₀ s hmx J Jx W hJ hY (Nat.le_trans hn₀ hW.size) (Nat.lt_of_lt_of_le hBn hW.size) ((hW.cell (p := ⟨Bn, 0, none⟩) hBn).trans hc) (hN.below hW) hN0 h0)
/-! blocks kept by the law's book-keeping -/
theorem blk_own {β : Type} (B : Nat) (t : TypeId) (cs : Array Value) : Own (fun (_ : β) W => W.heap[B]? = some (.cells cs t (0, 0))) := fun s X Y row hs hg hrow =>
  (hg.block B (Array.getElem?_eq_some_iff.1 hs).1 (fun e => by obtain ⟨o, ho, hc⟩ := hrow B e.symm; rw [hs] at ho; cases ho; cases hc)).trans hs
theorem keeps_cells (W : World) (b : Nat) : ∀ (vs : List Value) (o : Nat), KeepsOthers W (W.setCells b o vs) := by
  intro vs
  induction vs generalizing W with
  | nil => intro o; exact KeepsOthers.refl W
  | cons v vs ih => intro o; exact (KeepsOthers.setCell W ⟨b, o, none⟩ v).trans (ih _ _)
end Go.Proofs.YtnifgokjagahfaaDoor.Pieces

/- (*frame.Reader).Feed walked. -/
set_option linter.unusedVariables false
set_option linter.unusedSimpArgs false
namespace Go.Proofs.YtnifgokjagahfaaDoor.Feed
open Go.RowKit Go.Proofs.YtnifgokjagahfaaDoorW.PrintWords Go.Proofs.YtnifgokjagahfaaDoorW.PrintLast Go.Proofs.YtnifgokjagahfaaDoorW.PrintMore
open Go.Proofs.YtnifgokjagahfaaDoor.Base Go.Proofs.YtnifgokjagahfaaDoor.App Go.Proofs.YtnifgokjagahfaaDoor.Layouts Go.Proofs.YtnifgokjagahfaaDoor.Msg Go.Proofs.YtnifgokjagahfaaDoor.Mids Go.Proofs.YtnifgokjagahfaaDoor.SplitPure Go.Proofs.YtnifgokjagahfaaDoor.Pcs Go.Proofs.YtnifgokjagahfaaDoor.Reader Go.Proofs.YtnifgokjagahfaaDoor.ReadPure Go.Proofs.YtnifgokjagahfaaDoor.ReadStream Go.Proofs.YtnifgokjagahfaaDoor.Next Go.Proofs.YtnifgokjagahfaaDoor.Beg
open Go.Proofs.YtnifgokjagahfaaDoor.Dec (mL_one infoM)
open Go.Proofs.YtnifgokjagahfaaDoor.Zeros (zeros_new zeros_there zeros_below)
open Go.Proofs.YtnifgokjagahfaaDoor.Crc (Nibs)
theorem empty_of (S : ByteArray) (h : S.size = 0) : S = { data := #[] } := ByteArray.ext (Array.eq_empty_of_size_eq_zero h)
theorem ne_of (S : ByteArray) (h : 0 < S.size) : S.toList.isEmpty = false := by
  rw [Bool.eq_false_iff]
  intro hh
  rw [List.isEmpty_iff, ByteArray.toList_eq] at hh
  have : S.data.toList.length = S.size := data_length S
  rw [hh] at this
  simp at this
  omega
def strLen : Value → Nat
  | .string s => s.size
  | _ => 0
/-- what begins says, by bg -/
theorem begins_bg (s : ByteArray) (i : Nat) (w : World) (hi : i ≤ s.size) (hmx : s.size ≤ 9223372036854775807) (hN : Nibs w) :
    ∃ n m, Calls Tryd.prog 63 #[.string (s.extract i s.size)] w (Beg.TellW (bg s i) n m w) ∧ (bg s i = 2 → ∃ k : Nat, n = (k : Int) ∧ fr s i = some (k, m)) := by
  have h := Beg.beg_any (s.extract i s.size) w (by rw [ByteArray.size_extract]; omega) hN
  have e := drop_bytesOf s i hi
  rw [e] at h
  refine ⟨_, _, h, fun h2 => ?_⟩
  obtain ⟨n, m, hf⟩ := bg_some h2
  have := Frm.begP_full _ (byt_at s i) n m hf
  rw [this]
  exact ⟨n, rfl, hf⟩
theorem rel_next (s : ByteArray) (i : Nat) (h : i < s.size) : nxt (s.extract i s.size) 1 + i = nxt s (i + 1) := by
  unfold nxt
  rw [extract_list, List.drop_drop]
  omega
set_option maxRecDepth 100000 in
set_option maxHeartbeats 8000000 in
theorem feed_any (w : World) (b : Nat) (h : ByteArray) (k : Int) (s : ByteArray) (r : RBox w b h k) (hsz : (h ++ s).size ≤ 4194304) (hk0 : 0 ≤ k) (hk1 : k ≤ 1099511627776) (hN : Nibs w) (hb2 : b ≠ 2) :
    Calls Tryd.prog 29 #[.pointer (some ⟨b, 0, none⟩), .string s] w fun e w' => ∃ v, e = .returned (.tuple #[v, .int .i64 0]) ∧ w'.ownsRow w.heap.size 24 11 v (fdL (h ++ s) 0).length (msL (msgs (fdL (h ++ s) 0))) ∧
      RBox w' b ((h ++ s).extract (fdE (h ++ s) 0) (h ++ s).size) (k + ((fdE (h ++ s) 0 - szs (fdL (h ++ s) 0) : Nat) : Int)) ∧ But b w w' := by
  have hc0 := r.c0
  have HR0 := Aside0.mk r
  have HN := Aside0.mk hN
  have hlt := r.lt
  have hall : (h ++ s).extract 0 (h ++ s).size = h ++ s := ByteArray.extract_zero_size
  have hcc : h.size + s.size ≤ 4194304 := by rw [ByteArray.size_append] at hsz; exact hsz
  obtain ⟨all, hA⟩ : ∃ all, all = h ++ s := ⟨_, rfl⟩
  rw [← hA] at hall hsz ⊢
  have HA := Aside0.mk hA
  clear r hN hA
  go_enter Tryd.func29, Tryd.ntmps29
  go_wp2_with fail
  rw [← HA.out]
  have HALL := Aside0.mk hall
  clear hall hc0
  go_loopw [6, 7, 8, 9, 10] (fun v sv _ _ _ wr => ∃ (i : Nat) (pre : List Pc) (S : ByteArray), i ≤ all.size ∧ sv = .string S ∧ Aside0 (S = all.extract i all.size) ∧ Aside0 (fdL all 0 = pre ++ fdL all i ∧ fdE all 0 = fdE all i) ∧ Aside0 (szs pre ≤ i) ∧ Aside0 (wr.ownsRow w.heap.size 24 11 v pre.length (msL (msgs pre))) ∧ Aside0 (RBox wr b h (k + ((i - szs pre : Nat) : Int))) ∧ Aside0 (But b w wr)) (fun _ sv _ _ _ _ => strLen sv)
  case atStart => exact ⟨0, [], all, Nat.zero_le _, rfl, ⟨HALL.out.symm⟩, ⟨rfl, rfl⟩, ⟨Nat.le_refl _⟩, ⟨World.ownsRow_nil _ _ _ _⟩, ⟨by simpa using HR0.out⟩, ⟨But.of_below (Below.refl _ _)⟩⟩
  case round =>
    clear HR0 HALL
    obtain ⟨i, pre, S, hi, rfl, HS, HF, HSZ, HO, HR, HB⟩ := hrel
    obtain ⟨wo, rfl⟩ : ∃ wo : World, wo = wr := ⟨_, rfl⟩
    have hSs : S.size = all.size - i := by rw [HS.out]; exact tail_size all i hi
    have HN1 : Aside0 (Nibs wo) := ⟨⟨fun j hj => (World.cell?_of_block (a := ⟨2, j, none⟩) (HB.out.block _ HN.out.lt (fun e => hb2 (by cases e; rfl)))).trans (HN.out.cell j hj), Nat.lt_of_lt_of_le HN.out.lt HB.out.size⟩⟩
    by_cases hl : i < all.size
    · have hem : S.toList.isEmpty = false := ne_of S (by omega)
      obtain ⟨n, m, hbg, h2⟩ := begins_bg all i wo hi (by omega) HN1.out
      rw [← HS.out] at hbg
      have HBG := Aside0.mk hbg
      have H2 := Aside0.mk h2
      have hcs := bg_cases ((bytesOf all).drop i)
      have hq : (begP ((bytesOf all).drop i)).1 = bg all i := rfl
      rw [hq] at hcs
      have HQ := Aside0.mk (fun j : Nat => (rfl : bg all j = bg all j))
      generalize hqq : bg all i = q at HBG H2 hcs
      have HQQ := Aside0.mk hqq
      clear hbg h2 HN1 hq HQ hqq
      go_wp2_with fail
      refine HBG.out.mono ?_
      rintro e w2 ⟨rfl, hb⟩
      have HO2 := Aside0.mk (own_later HO.out hb)
      have HR2 := Aside0.mk (HR.out.later hb)
      have HB2 := Aside0.mk (HB.out.trans (But.of_below hb))
      clear hb HBG HO HR HB
      have hth := zeros_there w2
      have HM3 := Aside0.mk (zeros_new w2 m)
      have HO3 := Aside0.mk (own_later HO2.out (zeros_below w2 m))
      have HR3 := Aside0.mk (HR2.out.later (zeros_below w2 m))
      have HB3 := Aside0.mk (HB2.out.trans (But.of_below (zeros_below w2 m)))
      go_upto_region 7 with ((with_reducible refine gate_store (ty := 24) (x := .tmp 10) (y := .tmp 26) rfl ?_); refine wpList_store_mid rfl 24 (.tmp 10) (.tmp 26) rfl w2.heap.size 0 (mL m).toArray rfl rfl hth infoM (mL_one m) ?_)
      clear hth HO2 HR2 HB2
      generalize hw3 : (w2.alloc (.cells #[.int .i64 0, .int .i64 0, .int .i64 0, .int .i64 0, .int .i64 0, .int .i64 0, .int .i64 0, .int .i64 0, .int .i64 0, .string { data := #[] }, .string { data := #[] }] 24)).setCells w2.heap.size 0 (mL m) = w3 at HM3 HO3 HR3 HB3 ⊢
      generalize w2.heap.size = g3 at HM3 hw3 ⊢
      clear hw3
      rcases hcs with rfl | rfl | rfl
      · have HST := Aside0.mk (fd_none hl HQQ.out)
        have hnx := fun wx => Lib.hid (Next.next_any S 1 wx (by omega) (by omega))
        have hnb := nxt_le S 1 (by omega)
        have hrn : nxt S 1 + i = nxt all (i + 1) := by rw [HS.out]; exact rel_next all i hl
        generalize nxt S 1 = d at hnx hnb hrn
        have HRN := Aside0.mk hrn
        have hw1 : wrap64 (k + ((i - szs pre : Nat) : Int) + (d : Int)) = k + ((i + d - szs pre : Nat) : Int) := by have := HSZ.out; rw [w64 _ (by omega) (by omega)]; omega
        clear hrn
        have g0 : (0 : Int) ≤ (d : Int) := by omega
        have g1 : (d : Int) ≤ (S.size : Int) := by omega
        have hs1 := fun wx => run_slice_string_l (P := Tryd.prog) wx 9 S Tryd.underlying9 .i64 (d : Int) g0 g1
        rw [Int.toNat_natCast] at hs1
        have HSX : Aside0 (S.extract d S.size = all.extract (i + d) all.size) := ⟨by rw [HS.out, tail_tail]⟩
        generalize S.extract d S.size = S2 at hs1 HSX
        have hid : i + d = nxt all (i + 1) := by have := HRN.out; omega
        have HID := Aside0.mk hid
        have hnb2 := nxt_le all (i + 1) (by omega)
        clear hid hnb
        go_wp2_with fail
        refine (hnx _).out.mono ?_
        rintro e w4 ⟨rfl, hd⟩
        have HR4 := Aside0.mk (HR3.out.later (Pieces.drawn_below hd))
        have HO4 := Aside0.mk (own_later HO3.out (Pieces.drawn_below hd))
        have HB4 := Aside0.mk (HB3.out.trans (But.of_below (Pieces.drawn_below hd)))
        have hc1 := HR4.out.c1
        have hf1 := HR4.out.f1
        have HRS := Aside0.mk (HR4.out.set1 (k + ((i - szs pre : Nat) : Int) + (d : Int)))
        have HEQ : Aside0 (k + ((i - szs pre : Nat) : Int) + (d : Int) = k + ((i + d - szs pre : Nat) : Int)) := ⟨by have := HSZ.out; omega⟩
        clear hd hnx HR3 HO3 HB3
        go_wp2_with fail
        go_roundw
        case rel => exact ⟨i + d, pre, S2, by have := HID.out; omega, rfl, HSX, ⟨by rw [HF.out.1, HST.out.1, HID.out], by rw [HF.out.2, HST.out.2, HID.out]⟩, ⟨by have := HSZ.out; omega⟩, ⟨own_but HO4.out (But.set (o := 1) (But.of_below (b := b) (Below.refl _ w4)) _) hlt⟩, ⟨HEQ.out ▸ HRS.out⟩, ⟨HB4.out.set _⟩⟩
        case measure =>
          have h1 := HSX.out
          have h2 := tail_size all (i + d) (by have := HID.out; omega)
          have h3 := HID.out
          rw [← h1] at h2
          show S2.size < S.size
          omega
      · have HFIN : Aside0 (fdL all 0 = pre ∧ fdE all 0 = i) := ⟨by rw [HF.out.1, (fd_wait HQQ.out).1, List.append_nil], by rw [HF.out.2, (fd_wait HQQ.out).2]⟩
        have KC := Lib.hid (Clone.clone_any S w3 (by omega))
        have HBE := Aside0.mk HB3.out
        go_wp2_with fail
        refine KC.out.mono ?_
        rintro e w7 ⟨rfl, hb⟩
        have HRE := Aside0.mk (HR3.out.later hb)
        have HBF := Aside0.mk (HBE.out.trans (But.of_below hb))
        have HOE := Aside0.mk (own_later HO3.out hb)
        have hc0 := HRE.out.c0
        have hf0 := HRE.out.f0
        clear hb KC HBE
        go_wp2_with fail
        go_ret2
        have HOF := own_but HOE.out (But.set (o := 0) (But.of_below (b := b) (Below.refl _ w7)) (.string S)) hlt
        rw [HFIN.out.1, HFIN.out.2, ← HS.out]
        exact ⟨_, rfl, HOF, HRE.out.set0 S, HBF.out.set _⟩
      · obtain ⟨n', rfl, hf⟩ := H2.out rfl
        have HST := Aside0.mk (fd_some hf)
        have HBD := Aside0.mk (fr_bounds hf)
        have hbd := HBD.out
        have g0 : (0 : Int) ≤ (n' : Int) := by omega
        have g1 : (n' : Int) ≤ (S.size : Int) := by omega
        have hs1 := fun wx => run_slice_string_l (P := Tryd.prog) wx 9 S Tryd.underlying9 .i64 (n' : Int) g0 g1
        rw [Int.toNat_natCast] at hs1
        have HSX : Aside0 (S.extract n' S.size = all.extract (i + n') all.size) := ⟨by rw [HS.out, tail_tail]⟩
        generalize S.extract n' S.size = S2 at hs1 HSX
        have hrg := blk_range HM3.out.row
        have hlen : 24 * pre.length ≤ all.size := by have h1 := fd_count all; rw [HF.out.1, List.length_append] at h1; omega
        have HLEN := Aside0.mk hlen
        have HBS := Aside0.mk HB3.out.size
        have HNEW := Aside0.mk (news w3 (mL m) 24)
        clear hlen
        go_wp2_with (first | ((with_reducible refine gate_load (ty := 24) (x := .tmp 10) rfl ?_); refine wpList_load_mid rfl 24 (.tmp 10) rfl g3 0 rfl (mL m) _ hrg Tryd.underlying24 rfl infoM ?_) | ((with_reducible refine gate_buildSlice (t := 67) (n := 1) (parts := #[(0, .tmp 32)]) rfl ?_); go_loud (refine list_oneM rfl 32 rfl m rfl ?_)) | ((with_reducible refine gate_call (args := #[.tmp 31, .tmp 33]) rfl ?_); go_loud (refine list_append_wide (P := Tryd.prog) (w0 := w3) w.heap.size rfl (.tmp 31) (.tmp 33) 67 24 _ 11 104 rfl Tryd.underlying67 infoMs rfl (by decide) (by decide) _ pre.length (msL (msgs pre)) w3.heap.size 1 1 (mL m) rfl rfl rfl (mL_ones _) HNEW.out (HO3.out.alloc _) ((Below.refl _ w3).alloc HBS.out _) ?hs ?hl ?_); (case hs => have := HBS.out; simp; omega); (case hl => have := HLEN.out; omega); intro v1 w5 HO5 HB5 _; have HO6 := Aside0.mk HO5; have HB6 := Aside0.mk HB5; clear HO5 HB5))
        go_roundw
        case rel =>
          have hszn : szs (pre ++ [(i, n', m)]) = szs pre + n' := by rw [szs_append]; simp [szs]
          have hmn : msL (msgs (pre ++ [(i, n', m)])) = msL (msgs pre) ++ mL m := by rw [msgs_append, msL_append]; simp [msgs, msL]
          refine ⟨i + n', pre ++ [(i, n', m)], S2, hbd.2.2, rfl, HSX, ⟨by rw [HF.out.1, HST.out.1]; simp, by rw [HF.out.2, HST.out.2]⟩, ⟨by rw [hszn]; have := HSZ.out; omega⟩, ⟨by rw [hmn, List.length_append]; exact HO6.out⟩, ⟨?_⟩, ⟨HB3.out.then HB6.out (Nat.le_refl _)⟩⟩
          rw [hszn, show i + n' - (szs pre + n') = i - szs pre by omega]
          exact HR3.out.below HB6.out hlt
        case measure =>
          have h1 := HSX.out
          have h2 := tail_size all (i + n') hbd.2.2
          rw [← h1] at h2
          show S2.size < S.size
          omega
    · have hi' : i = all.size := by omega
      have hS0 : S.size = 0 := by omega
      have hSe := empty_of S hS0
      have HFIN : Aside0 (fdL all 0 = pre ∧ fdE all 0 = i) := ⟨by rw [HF.out.1, (fd_end (show all.size ≤ i by omega)).1, List.append_nil], by rw [HF.out.2, (fd_end (show all.size ≤ i by omega)).2]⟩
      subst hSe
      have KC := Lib.hid (Clone.clone_any { data := #[] } wo (by decide))
      have HBE := Aside0.mk HB.out
      go_wp2_with fail
      refine KC.out.mono ?_
      rintro e w7 ⟨rfl, hb⟩
      have HRE := Aside0.mk (HR.out.later hb)
      have HBF := Aside0.mk (HBE.out.trans (But.of_below hb))
      have HOE := Aside0.mk (own_later HO.out hb)
      have hc0 := HRE.out.c0
      have hf0 := HRE.out.f0
      clear hb KC HBE
      go_wp2_with fail
      go_ret2
      have HOF := own_but HOE.out (But.set (o := 0) (But.of_below (b := b) (Below.refl _ w7)) (.string { data := #[] })) hlt
      rw [HFIN.out.1, HFIN.out.2, ← HS.out]
      exact ⟨_, rfl, HOF, HRE.out.set0 { data := #[] }, HBF.out.set _⟩
end Go.Proofs.YtnifgokjagahfaaDoor.Feed

/- frame.Split: the frames of a stream. -/
set_option linter.unusedVariables false
set_option linter.unusedSimpArgs false
namespace Go.Proofs.YtnifgokjagahfaaDoor.Split
open Go.RowKit Go.Shelf Go.Proofs.YtnifgokjagahfaaDoorW.PrintWords Go.Proofs.YtnifgokjagahfaaDoorW.PrintLast Go.Proofs.YtnifgokjagahfaaDoorW.PrintMore
open Go.Proofs.YtnifgokjagahfaaDoor.Base Go.Proofs.YtnifgokjagahfaaDoor.App Go.Proofs.YtnifgokjagahfaaDoor.Layouts Go.Proofs.YtnifgokjagahfaaDoor.Msg Go.Proofs.YtnifgokjagahfaaDoor.Mids Go.Proofs.YtnifgokjagahfaaDoor.SplitPure Go.Proofs.YtnifgokjagahfaaDoor.Pcs Go.Proofs.YtnifgokjagahfaaDoor.PcsIn Go.Proofs.YtnifgokjagahfaaDoor.Pieces
open Go.Proofs.YtnifgokjagahfaaDoor.Crc (Nibs)
attribute [local go_sem] Oper.semAt_some
theorem infoP13 : (Tryd.prog.info? 44).map (·.size) = some 13 := by kernel_rfl
set_option maxRecDepth 100000 in
set_option maxHeartbeats 4000000 in
theorem split_any (s : ByteArray) (w : World) (hsz : s.size ≤ 4194304) (hN : Nibs w) : Calls Tryd.prog 20 #[.string s] w fun e w' => ∃ v, e = .returned v ∧ w'.ownsRow w.heap.size 44 13 v (pcs s 0).length (psL (pcs s 0)) ∧ Below w.heap.size w w' := by
  have hmx : s.size ≤ 9223372036854775807 := by omega
  refine (callsIn_wide (n := 6)).1 ?_
  refine callsIn_of_wp_marks Tryd.func20 rfl trivial ?_ rfl
  simp only [Tryd.ntmps20, List.size_toArray, List.length_cons, List.length_nil, Nat.reduceAdd, Nat.reduceSub, Array.replicate_succ, Array.replicate_zero, List.push_toArray, List.append_toArray, List.nil_append, List.cons_append]
  have HN := Aside0.mk hN
  clear hN
  gi_wp2_with fail
  refine ⟨trivial, (callsIn_wide.2 (pieces_any s _)).mono ?_⟩
  rintro e w' ⟨rfl, rfl⟩
  have bO := (Boxed.new w 38 (.slice none 0 0)).alloc (.cells #[.string s] 9)
  have bS := Boxed.new (w.alloc (.cells #[.slice none 0 0] 38)) 9 (.string s)
  rw [World.size_alloc] at bS
  have hB0 : Below w.heap.size w ((w.alloc (.cells #[.slice none 0 0] 38)).alloc (.cells #[.string s] 9)) := ((Below.refl _ w).alloc (Nat.le_refl _) _).alloc (by simp) _
  have hsz0 : ((w.alloc (.cells #[.slice none 0 0] 38)).alloc (.cells #[.string s] 9)).heap.size = w.heap.size + 2 := by simp
  gi_wp2_with fail
  generalize (w.alloc (.cells #[.slice none 0 0] 38)).alloc (.cells #[.string s] 9) = W0 at bO bS hB0 hsz0 ⊢
  have HB0 := Aside0.mk hB0
  have HS0 := Aside0.mk hsz0
  have bC := bS.cell
  refine wpIn_rangeFunc_ownH rfl (by decide) (gf := 75) (lb := #[.pointer (some ⟨w.heap.size + 1, 0, none⟩)]) rfl trivial (enters_of Tryd.func75 (by kernel_rfl) rfl)
    (pieces_stops 5 (w.heap.size + 1) w.heap.size s hmx W0 (by omega) (by omega) bC (HN.out.below hB0) HN.out.lt) KB.trans (KB.put (by omega) (by omega)) (Below.refl _ _) (fun _ => rfl)
    (fun pre W => (∃ v, Boxed W w.heap.size 38 v ∧ W.ownsRow w.heap.size 44 13 v pre.length (psL pre) ∧ True) ∧ (Below w.heap.size w W ∧ Boxed W (w.heap.size + 1) 9 (.string s)))
    (fun _ _ _ => False)
    (OwnFrom.and (Own.from (holdsRow_own w.heap.size w.heap.size 38 44 13 (fun pre => pre.length) (fun pre => psL pre) (fun _ _ => True)) _) (OwnFrom.and (ownFrom_below (Nat.le_refl _) (by omega)) (Own.from (boxed_own (w.heap.size + 1) 9 (fun _ => .string s)) _)))
    (fun _ _ _ _ _ hs _ _ => hs)
    ⟨⟨_, bO, World.ownsRow_nil _ _ _ _, trivial⟩, hB0, bS⟩
    (fun x a' W => ∃ Bx, w.heap.size + 1 < Bx ∧ W.heap[Bx]? = some (.cells (pV (x.1 : Nat) (x.2.1 : Nat) x.2.2) 44 (0, 0)) ∧ a' = { tmps := #[.string s, undef, .slice none 0 0, .pointer (some ⟨w.heap.size, 0, none⟩), .pointer (some ⟨Bx, 0, none⟩), .string s, .func (.func 75) #[] #[.pointer (some ⟨w.heap.size + 1, 0, none⟩)], .agg (pV (x.1 : Nat) (x.2.1 : Nat) x.2.2), undef, undef, undef, undef, undef], defers := [] })
    (fun x a' _ X Y row hs hg hr => by obtain ⟨Bx, h1, h2, h3⟩ := hs; exact ⟨Bx, h1, blk_own Bx 44 (pV (x.1 : Nat) (x.2.1 : Nat) x.2.2) () X Y row h2 hg (fun r e => (hr r e).2), h3⟩)
    ?assign ?body ?done ?stop
  case assign =>
    rintro l pre x W K ⟨⟨v, hv, hrow, _⟩, hB, hbs⟩ hK
    have hS := hbs.lt
    have HBS := Aside0.mk hbs
    clear hbs
    have hth : (W.alloc (.cells #[.int .i64 0, .int .i64 0, .int .i64 0, .int .i64 0, .int .i64 0, .int .i64 0, .int .i64 0, .int .i64 0, .int .i64 0, .int .i64 0, .int .i64 0, .string { data := #[] }, .string { data := #[] }] 44)).there W.heap.size 0 13 := blk_there (cs := [.int .i64 0, .int .i64 0, .int .i64 0, .int .i64 0, .int .i64 0, .int .i64 0, .int .i64 0, .int .i64 0, .int .i64 0, .int .i64 0, .int .i64 0, .string { data := #[] }, .string { data := #[] }]) (Go.heap_alloc_new W _)
    have hb : Below W.heap.size W ((W.alloc (.cells #[.int .i64 0, .int .i64 0, .int .i64 0, .int .i64 0, .int .i64 0, .int .i64 0, .int .i64 0, .int .i64 0, .int .i64 0, .int .i64 0, .int .i64 0, .string { data := #[] }, .string { data := #[] }] 44)).setCells W.heap.size 0 (pV (x.1 : Nat) (x.2.1 : Nat) x.2.2).toList) := below_setCells ((Below.refl _ _).alloc (Nat.le_refl _) _) (Nat.le_refl _) _ _
    have hko := (KeepsOthers.alloc W (.cells #[.int .i64 0, .int .i64 0, .int .i64 0, .int .i64 0, .int .i64 0, .int .i64 0, .int .i64 0, .int .i64 0, .int .i64 0, .int .i64 0, .int .i64 0, .string { data := #[] }, .string { data := #[] }] 44)).trans (keeps_cells _ W.heap.size (pV (x.1 : Nat) (x.2.1 : Nat) x.2.2).toList 0)
    have hnew := setCells_whole (vs := (pV (x.1 : Nat) (x.2.1 : Nat) x.2.2).toList) (Go.heap_alloc_new W (.cells #[.int .i64 0, .int .i64 0, .int .i64 0, .int .i64 0, .int .i64 0, .int .i64 0, .int .i64 0, .int .i64 0, .int .i64 0, .int .i64 0, .int .i64 0, .string { data := #[] }, .string { data := #[] }] 44)) rfl
    have HK := Aside0.mk hK
    have HB := Aside0.mk hb
    have HKO := Aside0.mk hko
    have HNW := Aside0.mk hnew
    have HV := Aside0.mk hv
    have HR := Aside0.mk hrow
    have HB1 := Aside0.mk hB
    clear hK hb hv hrow hko hnew hB
    gi_wp2_with ((with_reducible refine gateIn_store (ty := 44) (x := .tmp 4) (y := .tmp 7) rfl ?_); refine listIn_store_mid rfl 44 (.tmp 4) (.tmp 7) rfl W.heap.size 0 (pV (x.1 : Nat) (x.2.1 : Nat) x.2.2) rfl rfl hth infoP13 (pL_all x) ?_)
    have hlt := HV.out.lt
    refine HK.out _ _ (HKO.out.from _) (KB.of_below HB.out (by omega) (by omega)) ⟨⟨v, (HB.out.block _ hlt).trans HV.out, own_later HR.out HB.out, trivial⟩, HB1.out.trans (HB.out.mono (by omega)), (HB.out.block _ hS).trans HBS.out⟩ ⟨W.heap.size, by omega, HNW.out, rfl⟩
  case body =>
    rintro l pre x a' W hl hr0 ⟨⟨v, hv, hrow, _⟩, hB, hbs⟩ ⟨Bx, hBx, hbx, rfl⟩ hlt
    have hc := hv.cell
    have hf := hv.frozen
    have hrg := blk_range (cs := .int .i64 (x.1 : Nat) :: .int .i64 (x.2.1 : Nat) :: mL x.2.2) hbx
    have HV := Aside0.mk hv
    have HR := Aside0.mk hrow
    have HB1 := Aside0.mk hB
    have hS := hbs.lt
    have HBS := Aside0.mk hbs
    clear hbs
    have hlen : 24 * (pre.length + 1) ≤ s.size := by have := pcs_bytes s 0; omega
    have HLEN := Aside0.mk hlen
    have HNEW := Aside0.mk (news W (pL x) 44)
    obtain ⟨i0, hi, hz0, hz1, hz2⟩ := info_parts infoP
    clear hv hrow hB hlen hr0 hl hbx
    gi_wp2_with (first | ((with_reducible refine gateIn_load (ty := 44) (x := .tmp 4) rfl ?_); refine listIn_load_mid rfl 44 (.tmp 4) rfl Bx 0 rfl _ _ hrg Tryd.underlying44 rfl infoP13 ?_) | ((with_reducible refine gateIn_buildSlice (t := 38) (k := 1) (parts := #[(0, .tmp 9)]) rfl ?_); go_loud (refine listIn_oneP rfl 9 rfl (x.1 : Nat) (x.2.1 : Nat) x.2.2 rfl ?_)) | ((with_reducible refine gateIn_call (args := #[.tmp 8, .tmp 10]) rfl ?_); go_loud (refine wpListIn_append_own _ rfl (.tmp 8) (.tmp 10) 38 rfl w.heap.size 44 i0 _ 13 120 Tryd.underlying38 hi hz0 hz1 hz2 rfl (by decide) v pre.length (psL pre) rfl (HR.out.alloc _) ⟨W.heap.size, 0, none⟩ 1 1 (pL x) rfl rfl ?ac (pL_one x) ?a1 ?a2 ?a3 ?_); (case ac => intro j u hj; have := HNEW.out j u hj; have e : (⟨W.heap.size, 0, none⟩ : Addr).add j = ⟨W.heap.size, j, none⟩ := (by unfold Addr.add; split <;> simp_all); rw [e]; exact this); (case a1 => have := HLEN.out; simp only [maxLen]; omega); (case a2 => have := HLEN.out; omega); (case a3 => simp; omega); intro v' w1 hown' hgrow _; obtain ⟨g', cap', rfl⟩ := ownsRow_succ hown'; obtain ⟨hv1, hv2, hr2, hk2, hb2⟩ := HV.out.appended (by decide) HR.out (by omega) (Nat.le_refl _) hown' hgrow; have hc1 := hv1.cell; have hf1 := hv1.frozen; have HV2 := Aside0.mk hv2; have HR2 := Aside0.mk hr2; have HK2 := Aside0.mk hk2; have HB2 := Aside0.mk hb2; have HG2 := Aside0.mk (((HBS.out.alloc _).kept hgrow (HBS.out.not_row (by decide) HR.out)).other (Nat.succ_ne_self _) (.slice (some ⟨g', 0, none⟩) (pre.length + 1) cap')); clear hv1 hv2 hr2 hk2 hb2 hgrow hown'))
    exact ⟨HK2.out.from _, ⟨HB2.out, HG2.out.trans HBS.out.symm⟩, ⟨_, HV2.out, by rw [psL_snoc, List.length_append]; exact HR2.out, trivial⟩, HB1.out.trans HB2.out, HG2.out⟩
  case done =>
    rintro D ys W hD rfl ⟨⟨v, hv, hrow, _⟩, hB, hbs⟩ hK
    clear hbs
    have hc := hv.cell
    have HR := Aside0.mk hrow
    have HB1 := Aside0.mk hB
    have HKD := Aside0.mk hK
    clear hrow hB
    gi_wp2
    refine ⟨by simp, .inl ⟨_, _, rfl, run_takeDeferred HKD.out, ?_⟩⟩
    exact ⟨_, results_tmp rfl _ _ _, _, rfl, ownsRow_putObj HR.out _ HKD.out rfl, HB1.out.trans (belowK_b (w := w) (Nat.le_refl _) W D _ _ (by omega) HKD.out rfl rfl)⟩
  case stop =>
    rintro D c pre W _ _ h _
    exact h.elim
end Go.Proofs.YtnifgokjagahfaaDoor.Split

/- A region in a round's frame, walked as a plain one. -/
set_option linter.unusedVariables false
set_option linter.unusedSimpArgs false
namespace Go.Proofs.YtnifgokjagahfaaDoor.InRegion
open Go.RowKit
section
variable {P : Program} {ops : Array Oper} {Q : Exit → Act → World → Prop} {n l₀ : Nat}
def noDefer (o : Oper) : Bool := match o.op with | .defer _ => false | _ => true
theorem noDefer_ne {o : Oper} (h : noDefer o = true) : ∀ c, o.op ≠ .defer c := by
  intro c hc
  simp [noDefer, hc] at h
theorem rows_in {row : String} {args : Array Value} {w : World} {R : Value → World → Prop} (h : Rows P row args w R) : RowsIn (Fence.wide.inRound l₀) n P row args w R :=
  fun c cs _ => let ⟨v, w', r, s⟩ := h c cs; ⟨v, w', r, stepsIn_wide.2 s⟩
theorem oper_in {o : Oper} {a : Act} {w : World} {K : Act → World → Prop} (hd : noDefer o = true) (h : o.wp P a w K Q) : o.wpIn (Fence.wide.inRound l₀) n P a w K Q := by
  unfold Oper.wpIn
  refine ⟨fun _ _ => trivial, ?_⟩
  rw [Oper.semAt_plain _ _ _ (noDefer_ne hd)]
  unfold Oper.wp at h
  generalize (execOp a.eval o).run P w = r at h ⊢
  cases r with
  | ok x w' =>
    cases x with
    | value v => exact h
    | skip => exact h
    | defer d => exact h
    | enter f args => exact ⟨fun hh => (by cases hh), CallsIn.inRound l₀ (callsIn_wide.2 h)⟩
    | row row args => exact ⟨fun hh => (by cases hh), rows_in h⟩
    | _ => exact h.elim
  | halt x w' =>
    cases x with
    | panic v => exact h
    | _ => exact h.elim
theorem list_in (hq : ¬ LetsOut Q) : ∀ (l : List Oper) (a : Act) (w : World), (∀ o ∈ l, noDefer o = true) → wpList P ops Q l a w → wpListIn (Fence.wide.inRound l₀) n P ops Q l a w := by
  intro l
  induction l with
  | nil => intro a w _ h; exact h
  | cons o rest ih =>
    intro a w hd h
    have hr : ∀ o ∈ rest, noDefer o = true := fun o ho => hd o (List.mem_cons_of_mem _ ho)
    unfold wpList at h
    unfold wpListIn
    split
    · rename_i hw
      rw [if_pos hw] at h
      rcases h with h | h
      · exact oper_in (hd o List.mem_cons_self) (Oper.wp_mono (fun a w => ih a w hr) h)
      · exact absurd h.2 hq
    · rename_i hw
      rw [if_neg hw] at h
      exact ⟨fun _ _ => trivial, ih _ _ hr h⟩
theorem any_in {md : Region.Mode} (hq : ¬ LetsOut Q) (hd : ∀ (i : Nat) (o : Oper), ops[i]? = some o → noDefer o = true) : ∀ (fuel : Nat) (listed : Array Bool) (a : Act) (w : World),
    wpAny P md ops Q fuel listed a w → wpAnyIn (Fence.wide.inRound l₀) n P md ops Q fuel listed a w := by
  intro fuel
  induction fuel with
  | zero => intro listed a w h; exact h
  | succ fuel ih =>
    intro listed a w h
    refine ⟨h.1, fun i hi => ?_⟩
    have h2 := h.2 i hi
    unfold wpOp at h2
    unfold wpOpIn
    split
    · rename_i ho
      simp only [ho] at h2
      exact ih _ _ _ h2
    · rename_i o ho
      simp only [ho] at h2
      split
      · rename_i hw
        rw [if_pos hw] at h2
        rcases h2 with h2 | h2
        · exact oper_in (hd i o ho) (Oper.wp_mono (fun a w => ih _ a w) h2)
        · exact absurd h2.2 hq
      · rename_i hw
        rw [if_neg hw] at h2
        exact ⟨fun _ _ => trivial, ih _ _ _ h2⟩
def allPlain (ops : List Oper) : Bool := ops.all noDefer
/-- a region that draws nothing -/
theorem region_in {id : Nat} {l : List Oper} {a : Act} {w : World} (hq : ¬ LetsOut Q) (hd : allPlain l = true) (h : wpList P l.toArray Q l a w) : (Code.region id l.toArray false).wpIn (Fence.wide.inRound l₀) n P Q a w :=
  wpIn_region_lit (list_in hq l a w (fun o ho => List.all_eq_true.1 hd o ho) h)
/-- a region that draws its order: its head only reads -/
theorem region_in_still_tail {id : Nat} {a : Act} {w : World} {l : List Oper} (k : Nat) (hq : ¬ LetsOut Q) (hd : allPlain l = true) (hm : P.follows .mixedOrders = true) (hB : Region.lexTailB .any l.toArray k = true)
    (h : wpStill P l.toArray { w with drawn := w.drawn + 1 } (fun a' => wpList P l.toArray Q (l.drop k) a' { w with drawn := w.drawn + 1 }) (l.take k) a) : (Code.region id l.toArray true).wpIn (Fence.wide.inRound l₀) n P Q a w := by
  simp only [Region.lexTailB, Bool.and_eq_true, decide_eq_true_eq] at hB
  obtain ⟨⟨⟨⟨hsel, hn⟩, hs⟩, hc⟩, hlex⟩ := hB
  have hn' : k < l.length := by simpa using hn
  have htl : (l.take k).length = k := by simp; omega
  have hdl : (l.drop k).length = l.toArray.size - k := by simp
  have inv0 : HeadInv .any l.toArray k (Array.replicate l.toArray.size false) :=
    ⟨by simp, fun j oj _ hl => (by rw [getD_replicate_false] at hl; cases hl), fun t _ ht => getD_in (by simpa using ht) (getD_replicate_false _ _)⟩
  have H := wpAnyL_lex (md := .any) (g := l.toArray.size - k) hsel hs hc hn (l.take k) 0 _ a (fun j hj => by
    have hj' : j < k := by rw [htl] at hj; exact hj
    simp [hj']) (by simpa using htl) inv0 (by rw [htl]; exact hlex) h
  refine wpIn_region_any hm (any_in hq (fun i o ho => List.all_eq_true.1 hd o (List.mem_of_getElem? (by simpa using ho))) _ _ _ _ ?_)
  have := wpAny_of_head (Q' := Q) (g := l.toArray.size - k) (fun listed a' hL => by
    have := wpAny_of_seq (md := .any) (Q' := Q) (l.drop k) k listed a' { w with drawn := w.drawn + 1 } (fun j => by simp [List.getElem?_drop]) (by rw [hdl]; exact hL.1) hL.2
    rwa [hdl] at this) _ _ _ H
  rw [htl, show k + (l.toArray.size - k) = l.toArray.size by omega] at this
  exact this
end
end Go.Proofs.YtnifgokjagahfaaDoor.InRegion
