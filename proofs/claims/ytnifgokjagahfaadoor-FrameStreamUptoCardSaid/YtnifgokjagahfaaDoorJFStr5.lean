/- Joined texts of this claim: Clone, Reader, Feed, Split, InRegion, Close, PutAt -/
import Derived.Test.YtnifgokjagahfaaDoorJFStr0
import Derived.Lib.Strings
import Derived.Lib.Walk
import Derived.Lib.BufferWrite
import Derived.Lib.UnsafeStr
import Derived.Lib.Hide
import Derived.Laws.MakeOwn
import Derived.WalkKit
import Derived.Test.YtnifgokjagahfaaDoorJFStr3
import Derived.Test.YtnifgokjagahfaaDoorJFStr4
import Derived.Maps.AppendAt
import Derived.RangeFuncNested
import Derived.RangeFuncCalls
import Derived.TacticsInMore
import Derived.OrdersIn
import Derived.OwnWalkIn
import Derived.StillTailTactics
import Derived.ArgAppend
/- strings.Clone: the same text (turned from the shelf's worked proof). -/
set_option linter.unusedVariables false
set_option linter.unusedSimpArgs false
namespace Go.Proofs.YtnifgokjagahfaaDoor.Clone
open Go.RowKit Go.Proofs.YtnifgokjagahfaaDoorW.PrintWords Go.Proofs.YtnifgokjagahfaaDoorW.PrintLast Go.Proofs.YtnifgokjagahfaaDoorW.PrintMore
open Go.Proofs.YtnifgokjagahfaaDoor.Base
set_option maxHeartbeats 4000000 in
set_option maxRecDepth 100000 in
theorem sclone_any (s : ByteArray) (w : World) (hlim : s.size ≤ 281474976710656) :
    Calls Tryd.prog 81 #[.string s] w fun e w' => e = .returned (.string s) ∧ Below w.heap.size w w' := by
  by_cases h0 : s.size = 0
  · have hs : s = ⟨#[]⟩ := by
      apply ByteArray.ext
      exact Array.eq_empty_of_size_eq_zero h0
    subst hs
    go_enter Tryd.func81, Tryd.ntmps81
    go_wp2
    go_ret
    exact ⟨rfl, Below.refl _ _⟩
  · obtain ⟨i0, hi, hz0, hz1, hz2⟩ := info_parts info8
    have hinfo : (Tryd.prog.info? 5).map (·.size) = some 1 := by rw [hi]; simp [hz1]
    have hco : Tryd.prog.cellsOf 5 = 1 := by simp [Program.cellsOf, hi, hz1]
    obtain ⟨M, hM⟩ : ∃ M, M = madeCells (Value.int .u8 0).cells (((s.size : Nat) : Int).toNat * i0.size) := ⟨_, rfl⟩
    have hMs : M.size = s.size := by rw [hM, size_madeCells, hz1]; simp
    have hmk : ∀ W : World, (Instr.makeSlice 82 (.int .i64 (s.size : Int)) (.int .i64 (s.size : Int))).run Tryd.prog W = .ok (.slice (some ⟨W.heap.size, 0, none⟩) s.size s.size) (W.alloc (.cells M 5)) := fun W => by
      have h := run_make (P := Tryd.prog) W 82 5 i0 (.int .u8 0) Tryd.underlying82 hi hz0 .i64 .i64 (s.size : Int) (s.size : Int) (by omega) (by omega) (by rw [hz2]; omega) (by omega)
      rw [← hM] at h
      simpa using h
    clear hM
    have hcp := Lib.run_copy_row_string (P := Tryd.prog) (w.alloc (.cells M 5)) 82 9 3 5 w.heap.size 0 s.size s.size s M 5 Tryd.underlying82 hinfo (heap_alloc_new w _) (Nat.le_refl _) (by omega)
    obtain ⟨Y, hY⟩ : ∃ Y, Y = (M.toList.take 0 ++ Lib.byteCells s.data.toList ++ M.toList.drop (0 + s.size)).toArray := ⟨_, rfl⟩
    rw [← hY] at hcp
    have hYl : Y.toList = Lib.byteCells s.data.toList := by
      rw [hY, List.toList_toArray, List.take_zero, List.nil_append, List.drop_of_length_le (by rw [Array.length_toList]; omega), List.append_nil]
    have hYs : Y.size = s.size := by rw [← Array.length_toList, hYl, Lib.byteCells_length, ← Lib.size_eq]
    have hgY : ((w.alloc (.cells M 5)).setRow w.heap.size Y).heap[w.heap.size]? = some (.cells Y 5 (0, 0)) := setRow_heap _ _ M _ 5 (0, 0) (heap_alloc_new w _)
    have hne : s.data.toList ≠ [] := fun e => h0 (by rw [Lib.size_eq, e]; rfl)
    have hUS := Lib.run_unsafeString_row (P := Tryd.prog) ((w.alloc (.cells M 5)).setRow w.heap.size Y) 141 3 9 5 Tryd.underlying141 hco w.heap.size Y.size (by unfold World.shape?; rw [hgY]) s.data.toList hne (by rw [← Lib.size_eq]; omega) (by rw [← Lib.size_eq]; omega)
      (fun j x hx => Lib.cells_of_row hgY Y.size j _ (by rw [List.take_of_length_le (by rw [Array.length_toList]; exact Nat.le_refl _), hYl]; simp [Lib.byteCells, hx]))
    rw [← Lib.size_eq] at hUS
    clear hY
    go_enter Tryd.func81, Tryd.ntmps81
    go_wp2
    go_ret
    have hb1 : Below w.heap.size w (w.alloc (.cells M 5)) := (Below.refl _ w).alloc (Nat.le_refl _) _
    have hb2 : Below w.heap.size (w.alloc (.cells M 5)) ((w.alloc (.cells M 5)).setRow w.heap.size Y) := ⟨rfl, rfl, rfl, by simp, fun k hk => setRow_other _ _ _ _ (by omega)⟩
    exact ⟨rfl, Lib.below_freeze (hb1.trans hb2) (p := ⟨w.heap.size, 0, none⟩) (Nat.le_refl _) _⟩
theorem clone_any (s : ByteArray) (w : World) (hlim : s.size ≤ 281474976710656) :
    Calls Tryd.prog 65 #[.string s] w fun e w' => e = .returned (.string s) ∧ Below w.heap.size w w' := by
  have K := Lib.hid (sclone_any s w hlim)
  go_enter Tryd.func65, Tryd.ntmps65
  go_wp2_with fail
  refine K.out.mono ?_
  rintro e w1 ⟨rfl, hb⟩
  have HB := Aside0.mk hb
  clear hb K
  go_wp2
  go_ret
  exact ⟨rfl, HB.out⟩
end Go.Proofs.YtnifgokjagahfaaDoor.Clone

/- The program's Reader in memory; NewReader, Skipped. -/
set_option linter.unusedVariables false
set_option linter.unusedSimpArgs false
namespace Go.Proofs.YtnifgokjagahfaaDoor.Reader
open Go.RowKit Go.Proofs.YtnifgokjagahfaaDoorW.PrintWords Go.Proofs.YtnifgokjagahfaaDoorW.PrintLast Go.Proofs.YtnifgokjagahfaaDoorW.PrintMore
open Go.Proofs.YtnifgokjagahfaaDoor.Base Go.Proofs.YtnifgokjagahfaaDoor.App Go.Proofs.YtnifgokjagahfaaDoor.Layouts Go.Proofs.YtnifgokjagahfaaDoor.Msg Go.Proofs.YtnifgokjagahfaaDoor.Mids Go.Proofs.YtnifgokjagahfaaDoor.SplitPure Go.Proofs.YtnifgokjagahfaaDoor.Pcs
/-- a Reader's block -/
def RBox (w : World) (b : Nat) (h : ByteArray) (k : Int) : Prop := w.heap[b]? = some (.cells #[.string h, .int .i64 k] 116 (0, 0))
section
variable {w w' : World} {b : Nat} {h h' : ByteArray} {k k' : Int}
theorem RBox.lt (r : RBox w b h k) : b < w.heap.size := (Array.getElem?_eq_some_iff.1 r).1
theorem RBox.c0 (r : RBox w b h k) : w.cell? ⟨b, 0, none⟩ = some (.string h) := by simp [World.cell?, show w.heap[b]? = _ from r]
theorem RBox.c1 (r : RBox w b h k) : w.cell? ⟨b, 1, none⟩ = some (.int .i64 k) := by simp [World.cell?, show w.heap[b]? = _ from r]
theorem RBox.f0 (r : RBox w b h k) : w.frozen? ⟨b, 0, none⟩ = false := by simp [World.frozen?, show w.heap[b]? = _ from r]
theorem RBox.f1 (r : RBox w b h k) : w.frozen? ⟨b, 1, none⟩ = false := by simp [World.frozen?, show w.heap[b]? = _ from r]
theorem RBox.below {B : Nat} (r : RBox w b h k) (hb : Below B w w') (hB : b < B) : RBox w' b h k := (hb.block b hB).trans r
theorem RBox.later (r : RBox w b h k) (hb : Below w.heap.size w w') : RBox w' b h k := r.below hb r.lt
theorem RBox.set0 (r : RBox w b h k) (h' : ByteArray) : RBox (w.setCell ⟨b, 0, none⟩ (.string h')) b h' k := by
  obtain ⟨hlt, hk⟩ := Array.getElem?_eq_some_iff.1 r
  show (w.heap.modify b _)[b]? = _
  rw [Array.getElem?_eq_getElem (by rw [Array.size_modify]; exact hlt), Array.getElem_modify_self, hk]
  rfl
theorem RBox.set1 (r : RBox w b h k) (k' : Int) : RBox (w.setCell ⟨b, 1, none⟩ (.int .i64 k')) b h k' := by
  obtain ⟨hlt, hk⟩ := Array.getElem?_eq_some_iff.1 r
  show (w.heap.modify b _)[b]? = _
  rw [Array.getElem?_eq_getElem (by rw [Array.size_modify]; exact hlt), Array.getElem_modify_self, hk]
  rfl
end
/-- all blocks but one are as they were -/
def But (b : Nat) (w w' : World) : Prop := w.grownBy w' (some b)
theorem But.of_below {b : Nat} {w w' : World} (h : Below w.heap.size w w') : But b w w' := ⟨h.os, h.tape, h.output, h.size, fun k hk _ => h.block k hk⟩
theorem But.trans {b : Nat} {u v w : World} (h : But b u v) (k : But b v w) : But b u w :=
  ⟨k.os.trans h.os, k.tape.trans h.tape, k.output.trans h.output, Nat.le_trans h.size k.size, fun i hi hne => (k.block i (Nat.lt_of_lt_of_le hi h.size) hne).trans (h.block i hi hne)⟩
theorem But.set {b o : Nat} {u w : World} (h : But b u w) (v : Value) : But b u (w.setCell ⟨b, o, none⟩ v) :=
  h.trans ⟨rfl, rfl, rfl, by simp [World.setCell], fun k _ hk => Below.heap_setCell _ _ _ k (fun e => hk (by rw [e]))⟩
theorem But.then {b B : Nat} {u v w : World} (h : But b u v) (k : Below B v w) (hB : u.heap.size ≤ B) : But b u w :=
  ⟨k.os.trans h.os, k.tape.trans h.tape, k.output.trans h.output, Nat.le_trans h.size k.size, fun i hi hne => (k.block i (by omega)).trans (h.block i hi hne)⟩
theorem But.below {b : Nat} {u w : World} {B : Nat} (h : But b u w) (hb : B ≤ b) (hB : B ≤ u.heap.size) : Below B u w :=
  ⟨h.os, h.tape, h.output, h.size, fun k hk => h.block k (by omega) (fun e => by cases e; omega)⟩
theorem own_but {w w' : World} {b base : Nat} {e : TypeId} {size : Nat} {v : Value} {n : Nat} {xs : List Value} (h : w.ownsRow base e size v n xs) (hb : But b w w') (hlt : b < base) : w'.ownsRow base e size v n xs :=
  h.kept hb (by
    cases hv : v.ownBlock with
    | none => exact .inl rfl
    | some k => exact .inr (fun e => by have := (h.lt k hv).1; cases e; omega))
/-- a list of messages' cells -/
def msL (l : List M) : List Value := l.flatMap mL
theorem mL_len (m : M) : (mL m).length = 11 := rfl
theorem msL_length (l : List M) : (msL l).length = l.length * 11 := by
  induction l with
  | nil => rfl
  | cons p l ih => unfold msL at ih ⊢; rw [List.flatMap_cons, List.length_append, ih, mL_len, List.length_cons]; omega
theorem msL_snoc (l : List M) (p : M) : msL (l ++ [p]) = msL l ++ mL p := by simp [msL]
theorem msL_append (a b : List M) : msL (a ++ b) = msL a ++ msL b := by simp [msL]
theorem mL_ones (p : M) : ∀ u ∈ mL p, u.oneCell' = true := by simp [mL, Value.oneCell']
theorem msL_ones (l : List M) : ∀ u ∈ msL l, u.oneCell' = true := by
  intro u hu
  obtain ⟨p, _, h⟩ := List.mem_flatMap.1 hu
  exact mL_ones p u h
theorem infoMs : (Tryd.prog.info? 24).map (fun i => (i.zero, i.size, i.bytes)) = some (some (.agg #[.int .i64 0, .int .i64 0, .int .i64 0, .int .i64 0, .int .i64 0, .int .i64 0, .int .i64 0, .int .i64 0, .int .i64 0, .string { data := #[] }, .string { data := #[] }]), 11, 104) := by kernel_rfl
theorem run_oneM (w : World) (m : M) : (Instr.buildSlice 67 1 #[(0, .agg (mL m).toArray)]).run Tryd.prog w = .ok (.slice (some ⟨w.heap.size, 0, none⟩) 1 1) (w.alloc (.cells (mL m).toArray 24)) := by
  obtain ⟨i0, hi, hzz⟩ := Option.map_eq_some_iff.1 infoMs
  simp only [Prod.mk.injEq] at hzz
  obtain ⟨hz0, hz1, hz2⟩ := hzz
  refine run_buildSlice w _ _ 1 _ (mL m).toArray i0 _ Tryd.underlying67 hi hz0 ?_ ?_ ?_
  · rw [hz1]; decide
  · rw [hz1]; decide
  · rw [hz1]; kernel_rfl
theorem list_oneM {ops : Array Oper} {rest : List Oper} {o : Oper} {act : Act} {Q : Exit → Act → World → Prop} {w : World} (hg : o.guard = none) (x : Tmp) (ho : o.op = .buildSlice 67 1 #[(0, .tmp x)]) (m : M) (hx : act.eval (.tmp x) = .agg (mL m).toArray)
    (h : wpList Tryd.prog ops Q rest (act.put o.dst (.slice (some ⟨w.heap.size, 0, none⟩) 1 1)) (w.alloc (.cells (mL m).toArray 24))) : wpList Tryd.prog ops Q (o :: rest) act w := by
  refine wpList_plain hg fun K hK => ?_
  unfold Oper.wp execOp
  simp only [ho, List.map_toArray, List.map_cons, List.map_nil, hx, Sem.run_bind, run_oneM, Result.andThen_ok]
  exact hK _ _ h
theorem new_any (w : World) : Calls Tryd.prog 28 #[] w fun e w' => e = .returned (.pointer (some ⟨w.heap.size, 0, none⟩)) ∧ w' = w.alloc (.cells #[.string ByteArray.empty, .int .i64 0] 116) := by
  go_enter Tryd.func28, Tryd.ntmps28
  go_wp2
  go_ret
  exact ⟨rfl, rfl⟩
theorem new_box (w : World) : RBox (w.alloc (.cells #[.string ByteArray.empty, .int .i64 0] 116)) w.heap.size ByteArray.empty 0 := Go.heap_alloc_new w _
theorem skipped_any (w : World) (b : Nat) (h : ByteArray) (k : Int) (r : RBox w b h k) : Calls Tryd.prog 31 #[.pointer (some ⟨b, 0, none⟩)] w fun e w' => e = .returned (.int .i64 k) ∧ Below w.heap.size w w' := by
  have hc0 := r.c0
  have hc1 := r.c1
  go_enter Tryd.func31, Tryd.ntmps31
  go_wp2
  go_ret
  exact ⟨rfl, Below.refl _ _⟩
end Go.Proofs.YtnifgokjagahfaaDoor.Reader

/- (*frame.Reader).Feed walked. -/
set_option linter.unusedVariables false
set_option linter.unusedSimpArgs false
namespace Go.Proofs.YtnifgokjagahfaaDoor.Feed
open Go.RowKit Go.Proofs.YtnifgokjagahfaaDoorW.PrintWords Go.Proofs.YtnifgokjagahfaaDoorW.PrintLast Go.Proofs.YtnifgokjagahfaaDoorW.PrintMore
open Go.Proofs.YtnifgokjagahfaaDoor.Base Go.Proofs.YtnifgokjagahfaaDoor.App Go.Proofs.YtnifgokjagahfaaDoor.Layouts Go.Proofs.YtnifgokjagahfaaDoor.Msg Go.Proofs.YtnifgokjagahfaaDoor.Mids Go.Proofs.YtnifgokjagahfaaDoor.SplitPure Go.Proofs.YtnifgokjagahfaaDoor.Pcs Go.Proofs.YtnifgokjagahfaaDoor.Reader Go.Proofs.YtnifgokjagahfaaDoor.ReadPure Go.Proofs.YtnifgokjagahfaaDoor.ReadStream Go.Proofs.YtnifgokjagahfaaDoor.Next Go.Proofs.YtnifgokjagahfaaDoor.Beg
open Go.Proofs.YtnifgokjagahfaaDoor.Dec (mL_one infoM)
open Go.Proofs.YtnifgokjagahfaaDoor.Zeros (zeros_new zeros_there zeros_below)
open Go.Proofs.YtnifgokjagahfaaDoor.Crc (Nibs)
theorem empty_of (S : ByteArray) (h : S.size = 0) : S = { data := #[] } := ByteArray.ext (Array.eq_empty_of_size_eq_zero h)
theorem ne_of (S : ByteArray) (h : 0 < S.size) : S.toList.isEmpty = false := by
  rw [Bool.eq_false_iff]
  intro hh
  rw [List.isEmpty_iff, ByteArray.toList_eq] at hh
  have : S.data.toList.length = S.size := data_length S
  rw [hh] at this
  simp at this
  omega
def strLen : Value → Nat
  | .string s => s.size
  | _ => 0
/-- what begins says, by bg -/
theorem begins_bg (s : ByteArray) (i : Nat) (w : World) (hi : i ≤ s.size) (hmx : s.size ≤ 9223372036854775807) (hN : Nibs w) :
    ∃ n m, Calls Tryd.prog 63 #[.string (s.extract i s.size)] w (Beg.TellW (bg s i) n m w) ∧ (bg s i = 2 → ∃ k : Nat, n = (k : Int) ∧ fr s i = some (k, m)) := by
  have h := Beg.beg_any (s.extract i s.size) w (by rw [ByteArray.size_extract]; omega) hN
  have e := drop_bytesOf s i hi
  rw [e] at h
  refine ⟨_, _, h, fun h2 => ?_⟩
  obtain ⟨n, m, hf⟩ := bg_some h2
  have := Frm.begP_full _ (byt_at s i) n m hf
  rw [this]
  exact ⟨n, rfl, hf⟩
theorem rel_next (s : ByteArray) (i : Nat) (h : i < s.size) : nxt (s.extract i s.size) 1 + i = nxt s (i + 1) := by
  unfold nxt
  rw [extract_list, List.drop_drop]
  omega
set_option maxRecDepth 100000 in
set_option maxHeartbeats 8000000 in
theorem feed_any (w : World) (b : Nat) (h : ByteArray) (k : Int) (s : ByteArray) (r : RBox w b h k) (hsz : (h ++ s).size ≤ 8388608) (hk0 : 0 ≤ k) (hk1 : k ≤ 1099511627776) (hN : Nibs w) (hb2 : b ≠ 2) :
    Calls Tryd.prog 29 #[.pointer (some ⟨b, 0, none⟩), .string s] w fun e w' => ∃ v, e = .returned (.tuple #[v, .int .i64 0]) ∧ w'.ownsRow w.heap.size 24 11 v (fdL (h ++ s) 0).length (msL (msgs (fdL (h ++ s) 0))) ∧
      RBox w' b ((h ++ s).extract (fdE (h ++ s) 0) (h ++ s).size) (k + ((fdE (h ++ s) 0 - szs (fdL (h ++ s) 0) : Nat) : Int)) ∧ But b w w' := by
  have hc0 := r.c0
  have HR0 := Aside0.mk r
  have HN := Aside0.mk hN
  have hlt := r.lt
  have hall : (h ++ s).extract 0 (h ++ s).size = h ++ s := ByteArray.extract_zero_size
  have hcc : h.size + s.size ≤ 8388608 := by rw [ByteArray.size_append] at hsz; exact hsz
  obtain ⟨all, hA⟩ : ∃ all, all = h ++ s := ⟨_, rfl⟩
  rw [← hA] at hall hsz ⊢
  have HA := Aside0.mk hA
  clear r hN hA
  go_enter Tryd.func29, Tryd.ntmps29
  go_wp2_with fail
  rw [← HA.out]
  have HALL := Aside0.mk hall
  clear hall hc0
  go_loopw [6, 7, 8, 9, 10] (fun v sv _ _ _ wr => ∃ (i : Nat) (pre : List Pc) (S : ByteArray), i ≤ all.size ∧ sv = .string S ∧ Aside0 (S = all.extract i all.size) ∧ Aside0 (fdL all 0 = pre ++ fdL all i ∧ fdE all 0 = fdE all i) ∧ Aside0 (szs pre ≤ i) ∧ Aside0 (wr.ownsRow w.heap.size 24 11 v pre.length (msL (msgs pre))) ∧ Aside0 (RBox wr b h (k + ((i - szs pre : Nat) : Int))) ∧ Aside0 (But b w wr)) (fun _ sv _ _ _ _ => strLen sv)
  case atStart => exact ⟨0, [], all, Nat.zero_le _, rfl, ⟨HALL.out.symm⟩, ⟨rfl, rfl⟩, ⟨Nat.le_refl _⟩, ⟨World.ownsRow_nil _ _ _ _⟩, ⟨by simpa using HR0.out⟩, ⟨But.of_below (Below.refl _ _)⟩⟩
  case round =>
    clear HR0 HALL
    obtain ⟨i, pre, S, hi, rfl, HS, HF, HSZ, HO, HR, HB⟩ := hrel
    obtain ⟨wo, rfl⟩ : ∃ wo : World, wo = wr := ⟨_, rfl⟩
    have hSs : S.size = all.size - i := by rw [HS.out]; exact tail_size all i hi
    have HN1 : Aside0 (Nibs wo) := ⟨⟨fun j hj => (World.cell?_of_block (a := ⟨2, j, none⟩) (HB.out.block _ HN.out.lt (fun e => hb2 (by cases e; rfl)))).trans (HN.out.cell j hj), Nat.lt_of_lt_of_le HN.out.lt HB.out.size⟩⟩
    by_cases hl : i < all.size
    · have hem : S.toList.isEmpty = false := ne_of S (by omega)
      obtain ⟨n, m, hbg, h2⟩ := begins_bg all i wo hi (by omega) HN1.out
      rw [← HS.out] at hbg
      have HBG := Aside0.mk hbg
      have H2 := Aside0.mk h2
      have hcs := bg_cases ((bytesOf all).drop i)
      have hq : (begP ((bytesOf all).drop i)).1 = bg all i := rfl
      rw [hq] at hcs
      have HQ := Aside0.mk (fun j : Nat => (rfl : bg all j = bg all j))
      generalize hqq : bg all i = q at HBG H2 hcs
      have HQQ := Aside0.mk hqq
      clear hbg h2 HN1 hq HQ hqq
      go_wp2_with fail
      refine HBG.out.mono ?_
      rintro e w2 ⟨rfl, hb⟩
      have HO2 := Aside0.mk (own_later HO.out hb)
      have HR2 := Aside0.mk (HR.out.later hb)
      have HB2 := Aside0.mk (HB.out.trans (But.of_below hb))
      clear hb HBG HO HR HB
      have hth := zeros_there w2
      have HM3 := Aside0.mk (zeros_new w2 m)
      have HO3 := Aside0.mk (own_later HO2.out (zeros_below w2 m))
      have HR3 := Aside0.mk (HR2.out.later (zeros_below w2 m))
      have HB3 := Aside0.mk (HB2.out.trans (But.of_below (zeros_below w2 m)))
      go_upto_region 7 with ((with_reducible refine gate_store (ty := 24) (x := .tmp 10) (y := .tmp 26) rfl ?_); refine wpList_store_mid rfl 24 (.tmp 10) (.tmp 26) rfl w2.heap.size 0 (mL m).toArray rfl rfl hth infoM (mL_one m) ?_)
      clear hth HO2 HR2 HB2
      generalize hw3 : (w2.alloc (.cells #[.int .i64 0, .int .i64 0, .int .i64 0, .int .i64 0, .int .i64 0, .int .i64 0, .int .i64 0, .int .i64 0, .int .i64 0, .string { data := #[] }, .string { data := #[] }] 24)).setCells w2.heap.size 0 (mL m) = w3 at HM3 HO3 HR3 HB3 ⊢
      generalize w2.heap.size = g3 at HM3 hw3 ⊢
      clear hw3
      rcases hcs with rfl | rfl | rfl
      · have HST := Aside0.mk (fd_none hl HQQ.out)
        have hnx := fun wx => Lib.hid (Next.next_any S 1 wx (by omega) (by omega))
        have hnb := nxt_le S 1 (by omega)
        have hrn : nxt S 1 + i = nxt all (i + 1) := by rw [HS.out]; exact rel_next all i hl
        generalize nxt S 1 = d at hnx hnb hrn
        have HRN := Aside0.mk hrn
        have hw1 : wrap64 (k + ((i - szs pre : Nat) : Int) + (d : Int)) = k + ((i + d - szs pre : Nat) : Int) := by have := HSZ.out; rw [w64 _ (by omega) (by omega)]; omega
        clear hrn
        have g0 : (0 : Int) ≤ (d : Int) := by omega
        have g1 : (d : Int) ≤ (S.size : Int) := by omega
        have hs1 := fun wx => run_slice_string_l (P := Tryd.prog) wx 9 S Tryd.underlying9 .i64 (d : Int) g0 g1
        rw [Int.toNat_natCast] at hs1
        have HSX : Aside0 (S.extract d S.size = all.extract (i + d) all.size) := ⟨by rw [HS.out, tail_tail]⟩
        generalize S.extract d S.size = S2 at hs1 HSX
        have hid : i + d = nxt all (i + 1) := by have := HRN.out; omega
        have HID := Aside0.mk hid
        have hnb2 := nxt_le all (i + 1) (by omega)
        clear hid hnb
        go_wp2_with fail
        refine (hnx _).out.mono ?_
        rintro e w4 ⟨rfl, hd⟩
        have HR4 := Aside0.mk (HR3.out.later (Pieces.drawn_below hd))
        have HO4 := Aside0.mk (own_later HO3.out (Pieces.drawn_below hd))
        have HB4 := Aside0.mk (HB3.out.trans (But.of_below (Pieces.drawn_below hd)))
        have hc1 := HR4.out.c1
        have hf1 := HR4.out.f1
        have HRS := Aside0.mk (HR4.out.set1 (k + ((i - szs pre : Nat) : Int) + (d : Int)))
        have HEQ : Aside0 (k + ((i - szs pre : Nat) : Int) + (d : Int) = k + ((i + d - szs pre : Nat) : Int)) := ⟨by have := HSZ.out; omega⟩
        clear hd hnx HR3 HO3 HB3
        go_wp2_with fail
        go_roundw
        case rel => exact ⟨i + d, pre, S2, by have := HID.out; omega, rfl, HSX, ⟨by rw [HF.out.1, HST.out.1, HID.out], by rw [HF.out.2, HST.out.2, HID.out]⟩, ⟨by have := HSZ.out; omega⟩, ⟨own_but HO4.out (But.set (o := 1) (But.of_below (b := b) (Below.refl _ w4)) _) hlt⟩, ⟨HEQ.out ▸ HRS.out⟩, ⟨HB4.out.set _⟩⟩
        case measure =>
          have h1 := HSX.out
          have h2 := tail_size all (i + d) (by have := HID.out; omega)
          have h3 := HID.out
          rw [← h1] at h2
          show S2.size < S.size
          omega
      · have HFIN : Aside0 (fdL all 0 = pre ∧ fdE all 0 = i) := ⟨by rw [HF.out.1, (fd_wait HQQ.out).1, List.append_nil], by rw [HF.out.2, (fd_wait HQQ.out).2]⟩
        have KC := Lib.hid (Clone.clone_any S w3 (by omega))
        have HBE := Aside0.mk HB3.out
        go_wp2_with fail
        refine KC.out.mono ?_
        rintro e w7 ⟨rfl, hb⟩
        have HRE := Aside0.mk (HR3.out.later hb)
        have HBF := Aside0.mk (HBE.out.trans (But.of_below hb))
        have HOE := Aside0.mk (own_later HO3.out hb)
        have hc0 := HRE.out.c0
        have hf0 := HRE.out.f0
        clear hb KC HBE
        go_wp2_with fail
        go_ret2
        have HOF := own_but HOE.out (But.set (o := 0) (But.of_below (b := b) (Below.refl _ w7)) (.string S)) hlt
        rw [HFIN.out.1, HFIN.out.2, ← HS.out]
        exact ⟨_, rfl, HOF, HRE.out.set0 S, HBF.out.set _⟩
      · obtain ⟨n', rfl, hf⟩ := H2.out rfl
        have HST := Aside0.mk (fd_some hf)
        have HBD := Aside0.mk (fr_bounds hf)
        have hbd := HBD.out
        have g0 : (0 : Int) ≤ (n' : Int) := by omega
        have g1 : (n' : Int) ≤ (S.size : Int) := by omega
        have hs1 := fun wx => run_slice_string_l (P := Tryd.prog) wx 9 S Tryd.underlying9 .i64 (n' : Int) g0 g1
        rw [Int.toNat_natCast] at hs1
        have HSX : Aside0 (S.extract n' S.size = all.extract (i + n') all.size) := ⟨by rw [HS.out, tail_tail]⟩
        generalize S.extract n' S.size = S2 at hs1 HSX
        have hrg := blk_range HM3.out.row
        have hlen : 24 * pre.length ≤ all.size := by have h1 := fd_count all; rw [HF.out.1, List.length_append] at h1; omega
        have HLEN := Aside0.mk hlen
        have HBS := Aside0.mk HB3.out.size
        have HNEW := Aside0.mk (news w3 (mL m) 24)
        clear hlen
        go_wp2_with (first | ((with_reducible refine gate_load (ty := 24) (x := .tmp 10) rfl ?_); refine wpList_load_mid rfl 24 (.tmp 10) rfl g3 0 rfl (mL m) _ hrg Tryd.underlying24 rfl infoM ?_) | ((with_reducible refine gate_buildSlice (t := 67) (n := 1) (parts := #[(0, .tmp 32)]) rfl ?_); go_loud (refine list_oneM rfl 32 rfl m rfl ?_)) | ((with_reducible refine gate_call (args := #[.tmp 31, .tmp 33]) rfl ?_); go_loud (refine list_append_wide (P := Tryd.prog) (w0 := w3) w.heap.size rfl (.tmp 31) (.tmp 33) 67 24 _ 11 104 rfl Tryd.underlying67 infoMs rfl (by decide) (by decide) _ pre.length (msL (msgs pre)) w3.heap.size 1 1 (mL m) rfl rfl rfl (mL_ones _) HNEW.out (HO3.out.alloc _) ((Below.refl _ w3).alloc HBS.out _) ?hs ?hl ?_); (case hs => have := HBS.out; simp; omega); (case hl => have := HLEN.out; omega); intro v1 w5 HO5 HB5 _; have HO6 := Aside0.mk HO5; have HB6 := Aside0.mk HB5; clear HO5 HB5))
        go_roundw
        case rel =>
          have hszn : szs (pre ++ [(i, n', m)]) = szs pre + n' := by rw [szs_append]; simp [szs]
          have hmn : msL (msgs (pre ++ [(i, n', m)])) = msL (msgs pre) ++ mL m := by rw [msgs_append, msL_append]; simp [msgs, msL]
          refine ⟨i + n', pre ++ [(i, n', m)], S2, hbd.2.2, rfl, HSX, ⟨by rw [HF.out.1, HST.out.1]; simp, by rw [HF.out.2, HST.out.2]⟩, ⟨by rw [hszn]; have := HSZ.out; omega⟩, ⟨by rw [hmn, List.length_append]; exact HO6.out⟩, ⟨?_⟩, ⟨HB3.out.then HB6.out (Nat.le_refl _)⟩⟩
          rw [hszn, show i + n' - (szs pre + n') = i - szs pre by omega]
          exact HR3.out.below HB6.out hlt
        case measure =>
          have h1 := HSX.out
          have h2 := tail_size all (i + n') hbd.2.2
          rw [← h1] at h2
          show S2.size < S.size
          omega
    · have hi' : i = all.size := by omega
      have hS0 : S.size = 0 := by omega
      have hSe := empty_of S hS0
      have HFIN : Aside0 (fdL all 0 = pre ∧ fdE all 0 = i) := ⟨by rw [HF.out.1, (fd_end (show all.size ≤ i by omega)).1, List.append_nil], by rw [HF.out.2, (fd_end (show all.size ≤ i by omega)).2]⟩
      subst hSe
      have KC := Lib.hid (Clone.clone_any { data := #[] } wo (by decide))
      have HBE := Aside0.mk HB.out
      go_wp2_with fail
      refine KC.out.mono ?_
      rintro e w7 ⟨rfl, hb⟩
      have HRE := Aside0.mk (HR.out.later hb)
      have HBF := Aside0.mk (HBE.out.trans (But.of_below hb))
      have HOE := Aside0.mk (own_later HO.out hb)
      have hc0 := HRE.out.c0
      have hf0 := HRE.out.f0
      clear hb KC HBE
      go_wp2_with fail
      go_ret2
      have HOF := own_but HOE.out (But.set (o := 0) (But.of_below (b := b) (Below.refl _ w7)) (.string { data := #[] })) hlt
      rw [HFIN.out.1, HFIN.out.2, ← HS.out]
      exact ⟨_, rfl, HOF, HRE.out.set0 { data := #[] }, HBF.out.set _⟩
end Go.Proofs.YtnifgokjagahfaaDoor.Feed

/- frame.Split: the frames of a stream. -/
set_option linter.unusedVariables false
set_option linter.unusedSimpArgs false
namespace Go.Proofs.YtnifgokjagahfaaDoor.Split
open Go.RowKit Go.Shelf Go.Proofs.YtnifgokjagahfaaDoorW.PrintWords Go.Proofs.YtnifgokjagahfaaDoorW.PrintLast Go.Proofs.YtnifgokjagahfaaDoorW.PrintMore
open Go.Proofs.YtnifgokjagahfaaDoor.Base Go.Proofs.YtnifgokjagahfaaDoor.App Go.Proofs.YtnifgokjagahfaaDoor.Layouts Go.Proofs.YtnifgokjagahfaaDoor.Msg Go.Proofs.YtnifgokjagahfaaDoor.Mids Go.Proofs.YtnifgokjagahfaaDoor.SplitPure Go.Proofs.YtnifgokjagahfaaDoor.Pcs Go.Proofs.YtnifgokjagahfaaDoor.PcsIn Go.Proofs.YtnifgokjagahfaaDoor.Pieces
open Go.Proofs.YtnifgokjagahfaaDoor.Crc (Nibs)
attribute [local go_sem] Oper.semAt_some
theorem infoP13 : (Tryd.prog.info? 44).map (·.size) = some 13 := by kernel_rfl
set_option maxRecDepth 100000 in
set_option maxHeartbeats 4000000 in
theorem split_any (s : ByteArray) (w : World) (hsz : s.size ≤ 8388608) (hN : Nibs w) : Calls Tryd.prog 20 #[.string s] w fun e w' => ∃ v, e = .returned v ∧ w'.ownsRow w.heap.size 44 13 v (pcs s 0).length (psL (pcs s 0)) ∧ Below w.heap.size w w' := by
  have hmx : s.size ≤ 9223372036854775807 := by omega
  refine (callsIn_wide (n := 6)).1 ?_
  refine callsIn_of_wp_marks Tryd.func20 rfl trivial ?_ rfl
  simp only [Tryd.ntmps20, List.size_toArray, List.length_cons, List.length_nil, Nat.reduceAdd, Nat.reduceSub, Array.replicate_succ, Array.replicate_zero, List.push_toArray, List.append_toArray, List.nil_append, List.cons_append]
  have HN := Aside0.mk hN
  clear hN
  gi_wp2_with fail
  refine ⟨trivial, (callsIn_wide.2 (pieces_any s _)).mono ?_⟩
  rintro e w' ⟨rfl, rfl⟩
  have bO := (Boxed.new w 38 (.slice none 0 0)).alloc (.cells #[.string s] 9)
  have bS := Boxed.new (w.alloc (.cells #[.slice none 0 0] 38)) 9 (.string s)
  rw [World.size_alloc] at bS
  have hB0 : Below w.heap.size w ((w.alloc (.cells #[.slice none 0 0] 38)).alloc (.cells #[.string s] 9)) := ((Below.refl _ w).alloc (Nat.le_refl _) _).alloc (by simp) _
  have hsz0 : ((w.alloc (.cells #[.slice none 0 0] 38)).alloc (.cells #[.string s] 9)).heap.size = w.heap.size + 2 := by simp
  gi_wp2_with fail
  generalize (w.alloc (.cells #[.slice none 0 0] 38)).alloc (.cells #[.string s] 9) = W0 at bO bS hB0 hsz0 ⊢
  have HB0 := Aside0.mk hB0
  have HS0 := Aside0.mk hsz0
  have bC := bS.cell
  refine wpIn_rangeFunc_ownH rfl (by decide) (gf := 75) (lb := #[.pointer (some ⟨w.heap.size + 1, 0, none⟩)]) rfl trivial (enters_of Tryd.func75 (by kernel_rfl) rfl)
    (pieces_stops 5 (w.heap.size + 1) w.heap.size s hmx W0 (by omega) (by omega) bC (HN.out.below hB0) HN.out.lt) KB.trans (KB.put (by omega) (by omega)) (Below.refl _ _) (fun _ => rfl)
    (fun pre W => (∃ v, Boxed W w.heap.size 38 v ∧ W.ownsRow w.heap.size 44 13 v pre.length (psL pre) ∧ True) ∧ (Below w.heap.size w W ∧ Boxed W (w.heap.size + 1) 9 (.string s)))
    (fun _ _ _ => False)
    (OwnFrom.and (Own.from (holdsRow_own w.heap.size w.heap.size 38 44 13 (fun pre => pre.length) (fun pre => psL pre) (fun _ _ => True)) _) (OwnFrom.and (ownFrom_below (Nat.le_refl _) (by omega)) (Own.from (boxed_own (w.heap.size + 1) 9 (fun _ => .string s)) _)))
    (fun _ _ _ _ _ hs _ _ => hs)
    ⟨⟨_, bO, World.ownsRow_nil _ _ _ _, trivial⟩, hB0, bS⟩
    (fun x a' W => ∃ Bx, w.heap.size + 1 < Bx ∧ W.heap[Bx]? = some (.cells (pV (x.1 : Nat) (x.2.1 : Nat) x.2.2) 44 (0, 0)) ∧ a' = { tmps := #[.string s, undef, .slice none 0 0, .pointer (some ⟨w.heap.size, 0, none⟩), .pointer (some ⟨Bx, 0, none⟩), .string s, .func (.func 75) #[] #[.pointer (some ⟨w.heap.size + 1, 0, none⟩)], .agg (pV (x.1 : Nat) (x.2.1 : Nat) x.2.2), undef, undef, undef, undef, undef], defers := [] })
    (fun x a' _ X Y row hs hg hr => by obtain ⟨Bx, h1, h2, h3⟩ := hs; exact ⟨Bx, h1, blk_own Bx 44 (pV (x.1 : Nat) (x.2.1 : Nat) x.2.2) () X Y row h2 hg (fun r e => (hr r e).2), h3⟩)
    ?assign ?body ?done ?stop
  case assign =>
    rintro l pre x W K ⟨⟨v, hv, hrow, _⟩, hB, hbs⟩ hK
    have hS := hbs.lt
    have HBS := Aside0.mk hbs
    clear hbs
    have hth : (W.alloc (.cells #[.int .i64 0, .int .i64 0, .int .i64 0, .int .i64 0, .int .i64 0, .int .i64 0, .int .i64 0, .int .i64 0, .int .i64 0, .int .i64 0, .int .i64 0, .string { data := #[] }, .string { data := #[] }] 44)).there W.heap.size 0 13 := blk_there (cs := [.int .i64 0, .int .i64 0, .int .i64 0, .int .i64 0, .int .i64 0, .int .i64 0, .int .i64 0, .int .i64 0, .int .i64 0, .int .i64 0, .int .i64 0, .string { data := #[] }, .string { data := #[] }]) (Go.heap_alloc_new W _)
    have hb : Below W.heap.size W ((W.alloc (.cells #[.int .i64 0, .int .i64 0, .int .i64 0, .int .i64 0, .int .i64 0, .int .i64 0, .int .i64 0, .int .i64 0, .int .i64 0, .int .i64 0, .int .i64 0, .string { data := #[] }, .string { data := #[] }] 44)).setCells W.heap.size 0 (pV (x.1 : Nat) (x.2.1 : Nat) x.2.2).toList) := below_setCells ((Below.refl _ _).alloc (Nat.le_refl _) _) (Nat.le_refl _) _ _
    have hko := (KeepsOthers.alloc W (.cells #[.int .i64 0, .int .i64 0, .int .i64 0, .int .i64 0, .int .i64 0, .int .i64 0, .int .i64 0, .int .i64 0, .int .i64 0, .int .i64 0, .int .i64 0, .string { data := #[] }, .string { data := #[] }] 44)).trans (keeps_cells _ W.heap.size (pV (x.1 : Nat) (x.2.1 : Nat) x.2.2).toList 0)
    have hnew := setCells_whole (vs := (pV (x.1 : Nat) (x.2.1 : Nat) x.2.2).toList) (Go.heap_alloc_new W (.cells #[.int .i64 0, .int .i64 0, .int .i64 0, .int .i64 0, .int .i64 0, .int .i64 0, .int .i64 0, .int .i64 0, .int .i64 0, .int .i64 0, .int .i64 0, .string { data := #[] }, .string { data := #[] }] 44)) rfl
    have HK := Aside0.mk hK
    have HB := Aside0.mk hb
    have HKO := Aside0.mk hko
    have HNW := Aside0.mk hnew
    have HV := Aside0.mk hv
    have HR := Aside0.mk hrow
    have HB1 := Aside0.mk hB
    clear hK hb hv hrow hko hnew hB
    gi_wp2_with ((with_reducible refine gateIn_store (ty := 44) (x := .tmp 4) (y := .tmp 7) rfl ?_); refine listIn_store_mid rfl 44 (.tmp 4) (.tmp 7) rfl W.heap.size 0 (pV (x.1 : Nat) (x.2.1 : Nat) x.2.2) rfl rfl hth infoP13 (pL_all x) ?_)
    have hlt := HV.out.lt
    refine HK.out _ _ (HKO.out.from _) (KB.of_below HB.out (by omega) (by omega)) ⟨⟨v, (HB.out.block _ hlt).trans HV.out, own_later HR.out HB.out, trivial⟩, HB1.out.trans (HB.out.mono (by omega)), (HB.out.block _ hS).trans HBS.out⟩ ⟨W.heap.size, by omega, HNW.out, rfl⟩
  case body =>
    rintro l pre x a' W hl hr0 ⟨⟨v, hv, hrow, _⟩, hB, hbs⟩ ⟨Bx, hBx, hbx, rfl⟩ hlt
    have hc := hv.cell
    have hf := hv.frozen
    have hrg := blk_range (cs := .int .i64 (x.1 : Nat) :: .int .i64 (x.2.1 : Nat) :: mL x.2.2) hbx
    have HV := Aside0.mk hv
    have HR := Aside0.mk hrow
    have HB1 := Aside0.mk hB
    have hS := hbs.lt
    have HBS := Aside0.mk hbs
    clear hbs
    have hlen : 24 * (pre.length + 1) ≤ s.size := by have := pcs_bytes s 0; omega
    have HLEN := Aside0.mk hlen
    have HNEW := Aside0.mk (news W (pL x) 44)
    obtain ⟨i0, hi, hz0, hz1, hz2⟩ := info_parts infoP
    clear hv hrow hB hlen hr0 hl hbx
    gi_wp2_with (first | ((with_reducible refine gateIn_load (ty := 44) (x := .tmp 4) rfl ?_); refine listIn_load_mid rfl 44 (.tmp 4) rfl Bx 0 rfl _ _ hrg Tryd.underlying44 rfl infoP13 ?_) | ((with_reducible refine gateIn_buildSlice (t := 38) (k := 1) (parts := #[(0, .tmp 9)]) rfl ?_); go_loud (refine listIn_oneP rfl 9 rfl (x.1 : Nat) (x.2.1 : Nat) x.2.2 rfl ?_)) | ((with_reducible refine gateIn_call (args := #[.tmp 8, .tmp 10]) rfl ?_); go_loud (refine wpListIn_append_own _ rfl (.tmp 8) (.tmp 10) 38 rfl w.heap.size 44 i0 _ 13 120 Tryd.underlying38 hi hz0 hz1 hz2 rfl (by decide) v pre.length (psL pre) rfl (HR.out.alloc _) ⟨W.heap.size, 0, none⟩ 1 1 (pL x) rfl rfl ?ac (pL_one x) ?a1 ?a2 ?a3 ?_); (case ac => intro j u hj; have := HNEW.out j u hj; have e : (⟨W.heap.size, 0, none⟩ : Addr).add j = ⟨W.heap.size, j, none⟩ := (by unfold Addr.add; split <;> simp_all); rw [e]; exact this); (case a1 => have := HLEN.out; simp only [maxLen]; omega); (case a2 => have := HLEN.out; omega); (case a3 => simp; omega); intro v' w1 hown' hgrow _; obtain ⟨g', cap', rfl⟩ := ownsRow_succ hown'; obtain ⟨hv1, hv2, hr2, hk2, hb2⟩ := HV.out.appended (by decide) HR.out (by omega) (Nat.le_refl _) hown' hgrow; have hc1 := hv1.cell; have hf1 := hv1.frozen; have HV2 := Aside0.mk hv2; have HR2 := Aside0.mk hr2; have HK2 := Aside0.mk hk2; have HB2 := Aside0.mk hb2; have HG2 := Aside0.mk (((HBS.out.alloc _).kept hgrow (HBS.out.not_row (by decide) HR.out)).other (Nat.succ_ne_self _) (.slice (some ⟨g', 0, none⟩) (pre.length + 1) cap')); clear hv1 hv2 hr2 hk2 hb2 hgrow hown'))
    exact ⟨HK2.out.from _, ⟨HB2.out, HG2.out.trans HBS.out.symm⟩, ⟨_, HV2.out, by rw [psL_snoc, List.length_append]; exact HR2.out, trivial⟩, HB1.out.trans HB2.out, HG2.out⟩
  case done =>
    rintro D ys W hD rfl ⟨⟨v, hv, hrow, _⟩, hB, hbs⟩ hK
    clear hbs
    have hc := hv.cell
    have HR := Aside0.mk hrow
    have HB1 := Aside0.mk hB
    have HKD := Aside0.mk hK
    clear hrow hB
    gi_wp2
    refine ⟨by simp, .inl ⟨_, _, rfl, run_takeDeferred HKD.out, ?_⟩⟩
    exact ⟨_, results_tmp rfl _ _ _, _, rfl, ownsRow_putObj HR.out _ HKD.out rfl, HB1.out.trans (belowK_b (w := w) (Nat.le_refl _) W D _ _ (by omega) HKD.out rfl rfl)⟩
  case stop =>
    rintro D c pre W _ _ h _
    exact h.elim
end Go.Proofs.YtnifgokjagahfaaDoor.Split

/- A region in a round's frame, walked as a plain one. -/
set_option linter.unusedVariables false
set_option linter.unusedSimpArgs false
namespace Go.Proofs.YtnifgokjagahfaaDoor.InRegion
open Go.RowKit
section
variable {P : Program} {ops : Array Oper} {Q : Exit → Act → World → Prop} {n l₀ : Nat}
def noDefer (o : Oper) : Bool := match o.op with | .defer _ => false | _ => true
theorem noDefer_ne {o : Oper} (h : noDefer o = true) : ∀ c, o.op ≠ .defer c := by
  intro c hc
  simp [noDefer, hc] at h
theorem rows_in {row : String} {args : Array Value} {w : World} {R : Value → World → Prop} (h : Rows P row args w R) : RowsIn (Fence.wide.inRound l₀) n P row args w R :=
  fun c cs _ => let ⟨v, w', r, s⟩ := h c cs; ⟨v, w', r, stepsIn_wide.2 s⟩
theorem oper_in {o : Oper} {a : Act} {w : World} {K : Act → World → Prop} (hd : noDefer o = true) (h : o.wp P a w K Q) : o.wpIn (Fence.wide.inRound l₀) n P a w K Q := by
  unfold Oper.wpIn
  refine ⟨fun _ _ => trivial, ?_⟩
  rw [Oper.semAt_plain _ _ _ (noDefer_ne hd)]
  unfold Oper.wp at h
  generalize (execOp a.eval o).run P w = r at h ⊢
  cases r with
  | ok x w' =>
    cases x with
    | value v => exact h
    | skip => exact h
    | defer d => exact h
    | enter f args => exact ⟨fun hh => (by cases hh), CallsIn.inRound l₀ (callsIn_wide.2 h)⟩
    | row row args => exact ⟨fun hh => (by cases hh), rows_in h⟩
    | _ => exact h.elim
  | halt x w' =>
    cases x with
    | panic v => exact h
    | _ => exact h.elim
theorem list_in (hq : ¬ LetsOut Q) : ∀ (l : List Oper) (a : Act) (w : World), (∀ o ∈ l, noDefer o = true) → wpList P ops Q l a w → wpListIn (Fence.wide.inRound l₀) n P ops Q l a w := by
  intro l
  induction l with
  | nil => intro a w _ h; exact h
  | cons o rest ih =>
    intro a w hd h
    have hr : ∀ o ∈ rest, noDefer o = true := fun o ho => hd o (List.mem_cons_of_mem _ ho)
    unfold wpList at h
    unfold wpListIn
    split
    · rename_i hw
      rw [if_pos hw] at h
      rcases h with h | h
      · exact oper_in (hd o List.mem_cons_self) (Oper.wp_mono (fun a w => ih a w hr) h)
      · exact absurd h.2 hq
    · rename_i hw
      rw [if_neg hw] at h
      exact ⟨fun _ _ => trivial, ih _ _ hr h⟩
theorem any_in {md : Region.Mode} (hq : ¬ LetsOut Q) (hd : ∀ (i : Nat) (o : Oper), ops[i]? = some o → noDefer o = true) : ∀ (fuel : Nat) (listed : Array Bool) (a : Act) (w : World),
    wpAny P md ops Q fuel listed a w → wpAnyIn (Fence.wide.inRound l₀) n P md ops Q fuel listed a w := by
  intro fuel
  induction fuel with
  | zero => intro listed a w h; exact h
  | succ fuel ih =>
    intro listed a w h
    refine ⟨h.1, fun i hi => ?_⟩
    have h2 := h.2 i hi
    unfold wpOp at h2
    unfold wpOpIn
    split
    · rename_i ho
      simp only [ho] at h2
      exact ih _ _ _ h2
    · rename_i o ho
      simp only [ho] at h2
      split
      · rename_i hw
        rw [if_pos hw] at h2
        rcases h2 with h2 | h2
        · exact oper_in (hd i o ho) (Oper.wp_mono (fun a w => ih _ a w) h2)
        · exact absurd h2.2 hq
      · rename_i hw
        rw [if_neg hw] at h2
        exact ⟨fun _ _ => trivial, ih _ _ _ h2⟩
def allPlain (ops : List Oper) : Bool := ops.all noDefer
/-- a region that draws nothing -/
theorem region_in {id : Nat} {l : List Oper} {a : Act} {w : World} (hq : ¬ LetsOut Q) (hd : allPlain l = true) (h : wpList P l.toArray Q l a w) : (Code.region id l.toArray false).wpIn (Fence.wide.inRound l₀) n P Q a w :=
  wpIn_region_lit (list_in hq l a w (fun o ho => List.all_eq_true.1 hd o ho) h)
/-- a region that draws its order: its head only reads -/
theorem region_in_still_tail {id : Nat} {a : Act} {w : World} {l : List Oper} (k : Nat) (hq : ¬ LetsOut Q) (hd : allPlain l = true) (hm : P.follows .mixedOrders = true) (hB : Region.lexTailB .any l.toArray k = true)
    (h : wpStill P l.toArray { w with drawn := w.drawn + 1 } (fun a' => wpList P l.toArray Q (l.drop k) a' { w with drawn := w.drawn + 1 }) (l.take k) a) : (Code.region id l.toArray true).wpIn (Fence.wide.inRound l₀) n P Q a w := by
  simp only [Region.lexTailB, Bool.and_eq_true, decide_eq_true_eq] at hB
  obtain ⟨⟨⟨⟨hsel, hn⟩, hs⟩, hc⟩, hlex⟩ := hB
  have hn' : k < l.length := by simpa using hn
  have htl : (l.take k).length = k := by simp; omega
  have hdl : (l.drop k).length = l.toArray.size - k := by simp
  have inv0 : HeadInv .any l.toArray k (Array.replicate l.toArray.size false) :=
    ⟨by simp, fun j oj _ hl => (by rw [getD_replicate_false] at hl; cases hl), fun t _ ht => getD_in (by simpa using ht) (getD_replicate_false _ _)⟩
  have H := wpAnyL_lex (md := .any) (g := l.toArray.size - k) hsel hs hc hn (l.take k) 0 _ a (fun j hj => by
    have hj' : j < k := by rw [htl] at hj; exact hj
    simp [hj']) (by simpa using htl) inv0 (by rw [htl]; exact hlex) h
  refine wpIn_region_any hm (any_in hq (fun i o ho => List.all_eq_true.1 hd o (List.mem_of_getElem? (by simpa using ho))) _ _ _ _ ?_)
  have := wpAny_of_head (Q' := Q) (g := l.toArray.size - k) (fun listed a' hL => by
    have := wpAny_of_seq (md := .any) (Q' := Q) (l.drop k) k listed a' { w with drawn := w.drawn + 1 } (fun j => by simp [List.getElem?_drop]) (by rw [hdl]; exact hL.1) hL.2
    rwa [hdl] at this) _ _ _ H
  rw [htl, show k + (l.toArray.size - k) = l.toArray.size by omega] at this
  exact this
end
end Go.Proofs.YtnifgokjagahfaaDoor.InRegion

/- (*frame.Reader).Close walked. -/
set_option linter.unusedVariables false
set_option linter.unusedSimpArgs false
namespace Go.Proofs.YtnifgokjagahfaaDoor.Close
open Go.RowKit Go.Shelf Go.Proofs.YtnifgokjagahfaaDoorW.PrintWords Go.Proofs.YtnifgokjagahfaaDoorW.PrintLast Go.Proofs.YtnifgokjagahfaaDoorW.PrintMore
open Go.Proofs.YtnifgokjagahfaaDoor.Base Go.Proofs.YtnifgokjagahfaaDoor.App Go.Proofs.YtnifgokjagahfaaDoor.Layouts Go.Proofs.YtnifgokjagahfaaDoor.Msg Go.Proofs.YtnifgokjagahfaaDoor.Mids Go.Proofs.YtnifgokjagahfaaDoor.SplitPure Go.Proofs.YtnifgokjagahfaaDoor.Pcs Go.Proofs.YtnifgokjagahfaaDoor.PcsIn Go.Proofs.YtnifgokjagahfaaDoor.Pieces Go.Proofs.YtnifgokjagahfaaDoor.Reader Go.Proofs.YtnifgokjagahfaaDoor.ReadPure Go.Proofs.YtnifgokjagahfaaDoor.ReadStream Go.Proofs.YtnifgokjagahfaaDoor.InRegion Go.Proofs.YtnifgokjagahfaaDoor.Split
open Go.Proofs.YtnifgokjagahfaaDoor.Dec (mL_one infoM)
open Go.Proofs.YtnifgokjagahfaaDoor.Crc (Nibs)
attribute [local go_sem] Oper.semAt_some
theorem ownFrom_but {β : Type} {b B : Nat} {w₀ : World} (hB : w₀.heap.size ≤ B) : OwnFrom B (fun (_ : β) W => But b w₀ W) :=
  fun _ _ _ _ hs hg hr => ⟨hg.os.trans hs.os, hg.tape.trans hs.tape, hg.output.trans hs.output, Nat.le_trans hs.size hg.size, fun k hk hne =>
    (hg.block k (Nat.lt_of_lt_of_le hk hs.size) (fun e => by have := (hr k e.symm).1; omega)).trans (hs.block k hk hne)⟩
theorem blk_ownf {β : Type} (B : Nat) (t : TypeId) (cs : β → Array Value) : Own (fun (x : β) W => W.heap[B]? = some (.cells (cs x) t (0, 0))) := fun s X Y row hs hg hrow =>
  (hg.block B (Array.getElem?_eq_some_iff.1 hs).1 (fun e => by obtain ⟨o, ho, hc⟩ := hrow B e.symm; rw [hs] at ho; cases ho; cases hc)).trans hs
theorem nibs_but {b : Nat} {w w' : World} (h : Nibs w) (hb : But b w w') (hne : b ≠ 2) : Nibs w' :=
  ⟨fun j hj => (World.cell?_of_block (a := ⟨2, j, none⟩) (hb.block _ h.lt (fun e => hne (by cases e; rfl)))).trans (h.cell j hj), Nat.lt_of_lt_of_le h.lt hb.size⟩
theorem keeps_drew (W : World) : KeepsOthers W W.drew := ⟨Nat.le_refl _, fun _ _ h _ => h⟩
/-- the count behind the loop's rounds -/
def vf (c : Int) (pre : List Pc) : Int := pre.foldl (fun a p => IntKind.i64.wrap (a - (p.2.1 : Nat))) c
theorem vf_snoc (c : Int) (pre : List Pc) (x : Pc) : vf c (pre ++ [x]) = IntKind.i64.wrap (vf c pre - (x.2.1 : Nat)) := by simp [vf]
theorem vf_all : ∀ (l : List Pc) (c : Int), (szs l : Int) ≤ c → c ≤ 2199023255552 → vf c l = c - (szs l : Nat) := by
  intro l
  induction l with
  | nil => intro c _ _; simp [vf, szs]
  | cons p l ih =>
    intro c h1 h2
    rw [szs_cons] at h1 ⊢
    have hw : IntKind.i64.wrap (c - (p.2.1 : Nat)) = c - (p.2.1 : Nat) := by rw [IntKind.wrap_i64]; omega
    show vf (IntKind.i64.wrap (c - (p.2.1 : Nat))) l = _
    rw [hw, ih _ (by omega) (by omega)]
    omega
theorem row_ne {W : World} {B base : Nat} {e t : TypeId} {size n : Nat} {v : Value} {xs : List Value} {cs : Array Value} (hr : W.ownsRow base e size v n xs) (hb : W.heap[B]? = some (.cells cs t (0, 0))) (hte : t ≠ e) : some B ≠ v.ownBlock := by
  intro he
  obtain ⟨cells, hc⟩ := own_typed hr B he.symm
  rw [hb] at hc
  simp only [Option.some.injEq, Obj.cells.injEq] at hc
  exact hte hc.2.1
theorem listIn_oneM {F : Fence} {n : Nat} {ops : Array Oper} {rest : List Oper} {o : Oper} {act : Act} {Q : Exit → Act → World → Prop} {w : World} (hg : o.guard = none) (x : Tmp) (ho : o.op = .buildSlice 67 1 #[(0, .tmp x)]) (m : M) (hx : act.eval (.tmp x) = .agg (mL m).toArray)
    (h : wpListIn F n Tryd.prog ops Q rest (act.put o.dst (.slice (some ⟨w.heap.size, 0, none⟩) 1 1)) (w.alloc (.cells (mL m).toArray 24))) : wpListIn F n Tryd.prog ops Q (o :: rest) act w := by
  refine listIn_exec hg (by rw [ho]; intro c hc'; cases hc') (by simp [Oper.about, ho]) ?_ h
  unfold execOp
  simp only [ho, List.map_toArray, List.map_cons, List.map_nil, hx, Sem.run_bind, run_oneM, Result.andThen_ok]
  rfl
set_option maxRecDepth 100000 in
set_option maxHeartbeats 8000000 in
theorem close_any (w : World) (b : Nat) (h : ByteArray) (k : Int) (r : RBox w b h k) (hsz : h.size ≤ 8388608) (hk0 : 0 ≤ k) (hk1 : k ≤ 1099511627776) (hN : Nibs w) (hb2 : 2 < b) :
    Calls Tryd.prog 30 #[.pointer (some ⟨b, 0, none⟩)] w fun e w' => ∃ v, e = .returned v ∧ w'.ownsRow w.heap.size 24 11 v (pcs h 0).length (msL (msgs (pcs h 0))) ∧
      RBox w' b ByteArray.empty (k + ((h.size - szs (pcs h 0) : Nat) : Int)) ∧ But b w w' := by
  have hlt := r.lt
  have HN := Aside0.mk hN
  have bR := (Boxed.new w 53 (.pointer (some ⟨b, 0, none⟩))).alloc (.cells #[.slice none 0 0] 67)
  have bO := Boxed.new (w.alloc (.cells #[.pointer (some ⟨b, 0, none⟩)] 53)) 67 (.slice none 0 0)
  rw [World.size_alloc] at bO
  have hB0 : Below w.heap.size w ((w.alloc (.cells #[.pointer (some ⟨b, 0, none⟩)] 53)).alloc (.cells #[.slice none 0 0] 67)) := ((Below.refl _ w).alloc (Nat.le_refl _) _).alloc (by simp) _
  have hsz0 : ((w.alloc (.cells #[.pointer (some ⟨b, 0, none⟩)] 53)).alloc (.cells #[.slice none 0 0] 67)).heap.size = w.heap.size + 2 := by simp
  have hr0 := r.later hB0
  clear r hN
  refine (callsIn_wide (n := 6)).1 ?_
  refine callsIn_of_wp_marks Tryd.func30 rfl trivial ?_ rfl
  simp only [Tryd.ntmps30, List.size_toArray, List.length_cons, List.length_nil, Nat.reduceAdd, Nat.reduceSub, Array.replicate_succ, Array.replicate_zero, List.push_toArray, List.append_toArray, List.nil_append, List.cons_append]
  gi_wp2_with fail
  generalize (w.alloc (.cells #[.pointer (some ⟨b, 0, none⟩)] 53)).alloc (.cells #[.slice none 0 0] 67) = W0 at bR bO hB0 hsz0 hr0 ⊢
  have cR := bR.cell
  have hc0 := hr0.c0
  have hc1 := hr0.c1
  have hf1 := hr0.f1
  have HB0 := Aside0.mk hB0
  have HS0 := Aside0.mk hsz0
  have HBO := Aside0.mk bO
  have HBR := Aside0.mk bR
  have HR0 := Aside0.mk hr0
  have hw1 : wrap64 (k + (h.size : Int)) = k + (h.size : Int) := w64 _ (by omega) (by omega)
  clear hB0 hsz0 bO bR hr0
  refine wpIn_wide.2 ?_
  refine wp_region_still_tail 12 (by kernel_rfl) (by kernel_rfl) ?_
  simp only [List.take_succ_cons, List.take_zero, List.drop_succ_cons, List.drop_zero]
  iterate 12 still_step
  with_reducible refine wpStill_nil ?_
  have HB1 : Aside0 (But b w (W0.setCell ⟨b, 1, none⟩ (.int .i64 (k + (h.size : Int)))).drew) := ⟨(But.of_below HB0.out).set _ |>.then (Below.refl w.heap.size _).drew (Nat.le_refl _)⟩
  have HR1 : Aside0 (RBox ((W0.setCell ⟨b, 1, none⟩ (.int .i64 (k + (h.size : Int)))).drew) b h (k + (h.size : Int))) := ⟨RBox.set1 HR0.out _⟩
  have HBO1 : Aside0 (Boxed ((W0.setCell ⟨b, 1, none⟩ (.int .i64 (k + (h.size : Int)))).drew) (w.heap.size + 1) 67 (.slice none 0 0)) := ⟨(Below.heap_setCell _ _ _ _ (by simp only; omega)).trans HBO.out⟩
  have HBR1 : Aside0 (Boxed ((W0.setCell ⟨b, 1, none⟩ (.int .i64 (k + (h.size : Int)))).drew) w.heap.size 53 (.pointer (some ⟨b, 0, none⟩))) := ⟨(Below.heap_setCell _ _ _ _ (by simp only; omega)).trans HBR.out⟩
  have HS1 : Aside0 (((W0.setCell ⟨b, 1, none⟩ (.int .i64 (k + (h.size : Int)))).drew).heap.size = w.heap.size + 2) := ⟨by have := HS0.out; simpa [World.setCell, World.drew] using this⟩
  rw [show IntKind.i64.wrap (k + (h.size : Int)) = k + (h.size : Int) from (Go.Proofs.YtnifgokjagahfaaDoorW.PrintLast.i64_w _).trans hw1]
  clear cR hc0
  rename_i KK hKK
  have HKK := Aside0.mk hKK
  clear hKK
  go_wp2_with fail
  generalize (W0.setCell ⟨b, 1, none⟩ (.int .i64 (k + (h.size : Int)))).drew = W1 at HB1 HR1 HBO1 HBR1 HS1 ⊢
  clear hc1 hf1 hw1 HB0 HS0 HBO HBR HR0
  have cR := HBR1.out.cell
  have hc0 := HR1.out.c0
  refine HKK.out _ _ ?_
  gi_wp2_with fail
  refine ⟨trivial, (callsIn_wide.2 (pieces_any h _)).mono ?_⟩
  rintro e w' ⟨rfl, rfl⟩
  gi_wp2_with fail
  have hb2' : Below W1.heap.size W1 (W1.alloc (.cells #[.string h] 9)) := (Below.refl _ _).alloc (Nat.le_refl _) _
  have HB2 := Aside0.mk (HB1.out.trans (But.of_below hb2'))
  have HR2 := Aside0.mk (HR1.out.later hb2')
  have HBO2 := Aside0.mk (HBO1.out.alloc (.cells #[.string h] 9))
  have HBR2 := Aside0.mk (HBR1.out.alloc (.cells #[.string h] 9))
  have hbs := Boxed.new W1 9 (.string h)
  rw [HS1.out] at hbs
  have HBS2 := Aside0.mk hbs
  have hs2 : (W1.alloc (.cells #[.string h] 9)).heap.size = w.heap.size + 3 := by have := HS1.out; simp; omega
  have hcs := HBS2.out.cell
  rw [HS1.out]
  clear hb2' HB1 HR1 HBO1 HBR1 cR hc0 hbs
  clear HS1
  generalize W1.alloc (.cells #[.string h] 9) = W2 at HB2 HR2 HBO2 HBR2 HBS2 hs2 hcs ⊢
  have HN2 := nibs_but HN.out HB2.out (by omega)
  refine wpIn_rangeFunc_ownH rfl (by decide) (gf := 75) (lb := #[.pointer (some ⟨w.heap.size + 2, 0, none⟩)]) rfl trivial (enters_of Tryd.func75 (by kernel_rfl) rfl)
    (pieces_stops 5 (w.heap.size + 2) b h (by omega) W2 (by omega) (by omega) hcs HN2 hb2) KB.trans (KB.put (by omega) (by omega)) (Below.refl _ _) (fun _ => rfl)
    (fun pre W => (∃ v, Boxed W (w.heap.size + 1) 67 v ∧ W.ownsRow w.heap.size 24 11 v pre.length (msL (msgs pre)) ∧ True) ∧ (But b w W ∧ (Boxed W (w.heap.size + 2) 9 (.string h) ∧ (Boxed W w.heap.size 53 (.pointer (some ⟨b, 0, none⟩)) ∧ RBox W b h (vf (k + (h.size : Int)) pre)))))
    (fun _ _ _ => False)
    (OwnFrom.and (Own.from (holdsRow_own w.heap.size (w.heap.size + 1) 67 24 11 (fun pre => pre.length) (fun pre => msL (msgs pre)) (fun _ _ => True)) _) (OwnFrom.and (ownFrom_but (by omega)) (OwnFrom.and (Own.from (boxed_own (w.heap.size + 2) 9 (fun _ => .string h)) _) (OwnFrom.and (Own.from (boxed_own w.heap.size 53 (fun _ => .pointer (some ⟨b, 0, none⟩))) _) (Own.from (blk_ownf b 116 (fun pre => #[.string h, .int .i64 (vf (k + (h.size : Int)) pre)])) _)))))
    (fun _ _ _ _ _ hs _ _ => hs)
    ⟨⟨_, HBO2.out, World.ownsRow_nil _ _ _ _, trivial⟩, HB2.out, HBS2.out, HBR2.out, HR2.out⟩
    (fun x a' W => ∃ Bx, w.heap.size + 2 < Bx ∧ W.heap[Bx]? = some (.cells (pV (x.1 : Nat) (x.2.1 : Nat) x.2.2) 44 (0, 0)) ∧ a' = { tmps := #[.pointer (some ⟨b, 0, none⟩), .pointer (some ⟨w.heap.size, 0, none⟩), .slice none 0 0, .pointer (some ⟨w.heap.size + 1, 0, none⟩), .pointer (some ⟨Bx, 0, none⟩), .pointer (some ⟨b, 0, none⟩), .bool false, .pointer (some ⟨b, 0, none⟩), .pointer (some ⟨b, 0, none⟩), .pointer (some ⟨b, 1, none⟩), .int .i64 k, .pointer (some ⟨b, 0, none⟩), .pointer (some ⟨b, 0, none⟩), .pointer (some ⟨b, 0, none⟩), .string h, .int .i64 (h.size : Int), .int .i64 (k + (h.size : Int)), .pointer (some ⟨b, 0, none⟩), .pointer (some ⟨b, 1, none⟩), .pointer (some ⟨b, 0, none⟩), .pointer (some ⟨b, 0, none⟩), .pointer (some ⟨b, 0, none⟩), .string h, .func (.func 75) #[] #[.pointer (some ⟨w.heap.size + 2, 0, none⟩)], .agg (pV (x.1 : Nat) (x.2.1 : Nat) x.2.2), undef, undef, undef, undef, undef, undef, undef, undef, undef, undef, undef, undef, undef, undef, undef, undef, undef, undef], defers := [] })
    (fun x a' _ X Y row hs hg hr => by obtain ⟨Bx, h1, h2, h3⟩ := hs; exact ⟨Bx, h1, blk_own Bx 44 (pV (x.1 : Nat) (x.2.1 : Nat) x.2.2) () X Y row h2 hg (fun r e => (hr r e).2), h3⟩)
    ?assign ?body ?done ?stop
  case assign =>
    rintro l pre x W K ⟨⟨v, hv, hrow, _⟩, hB, hbs, hbr, hr⟩ hK
    have hS := hbs.lt
    have hth : (W.alloc (.cells #[.int .i64 0, .int .i64 0, .int .i64 0, .int .i64 0, .int .i64 0, .int .i64 0, .int .i64 0, .int .i64 0, .int .i64 0, .int .i64 0, .int .i64 0, .string { data := #[] }, .string { data := #[] }] 44)).there W.heap.size 0 13 := blk_there (cs := [.int .i64 0, .int .i64 0, .int .i64 0, .int .i64 0, .int .i64 0, .int .i64 0, .int .i64 0, .int .i64 0, .int .i64 0, .int .i64 0, .int .i64 0, .string { data := #[] }, .string { data := #[] }]) (Go.heap_alloc_new W _)
    have hb : Below W.heap.size W ((W.alloc (.cells #[.int .i64 0, .int .i64 0, .int .i64 0, .int .i64 0, .int .i64 0, .int .i64 0, .int .i64 0, .int .i64 0, .int .i64 0, .int .i64 0, .int .i64 0, .string { data := #[] }, .string { data := #[] }] 44)).setCells W.heap.size 0 (pV (x.1 : Nat) (x.2.1 : Nat) x.2.2).toList) := below_setCells ((Below.refl _ _).alloc (Nat.le_refl _) _) (Nat.le_refl _) _ _
    have hko := (KeepsOthers.alloc W (.cells #[.int .i64 0, .int .i64 0, .int .i64 0, .int .i64 0, .int .i64 0, .int .i64 0, .int .i64 0, .int .i64 0, .int .i64 0, .int .i64 0, .int .i64 0, .string { data := #[] }, .string { data := #[] }] 44)).trans (keeps_cells _ W.heap.size (pV (x.1 : Nat) (x.2.1 : Nat) x.2.2).toList 0)
    have hnew := setCells_whole (vs := (pV (x.1 : Nat) (x.2.1 : Nat) x.2.2).toList) (Go.heap_alloc_new W (.cells #[.int .i64 0, .int .i64 0, .int .i64 0, .int .i64 0, .int .i64 0, .int .i64 0, .int .i64 0, .int .i64 0, .int .i64 0, .int .i64 0, .int .i64 0, .string { data := #[] }, .string { data := #[] }] 44)) rfl
    have HK := Aside0.mk hK
    have HB := Aside0.mk hb
    have HKO := Aside0.mk hko
    have HNW := Aside0.mk hnew
    have HV := Aside0.mk hv
    have HR := Aside0.mk hrow
    have HB1 := Aside0.mk hB
    have HBS := Aside0.mk hbs
    have HBR := Aside0.mk hbr
    have HRD := Aside0.mk hr
    clear hK hb hv hrow hko hnew hB hbs hbr hr
    gi_wp2_with ((with_reducible refine gateIn_store (ty := 44) (x := .tmp 4) (y := .tmp 24) rfl ?_); refine listIn_store_mid rfl 44 (.tmp 4) (.tmp 24) rfl W.heap.size 0 (pV (x.1 : Nat) (x.2.1 : Nat) x.2.2) rfl rfl hth infoP13 (pL_all x) ?_)
    refine HK.out _ _ (HKO.out.from _) (KB.of_below HB.out (by omega) (by omega)) ⟨⟨v, (HB.out.block _ HV.out.lt).trans HV.out, own_later HR.out HB.out, trivial⟩, HB1.out.trans (But.of_below HB.out), (HB.out.block _ HBS.out.lt).trans HBS.out, (HB.out.block _ HBR.out.lt).trans HBR.out, HRD.out.later HB.out⟩ ⟨W.heap.size, by omega, HNW.out, rfl⟩
  case body =>
    rintro l pre x a' W hl hr0 ⟨⟨v, hv, hrow, _⟩, hB, hbs, hbr, hr⟩ ⟨Bx, hBx, hbx, rfl⟩ hlen0
    have hc := hv.cell
    have hf := hv.frozen
    have hrg2 : W.rangeAt Bx 2 (mL x.2.2) := fun j u hu => by
      rw [blk_cell hbx (2 + j), show 2 + j = j + 1 + 1 by omega]
      unfold pV
      rw [List.getElem?_toArray]
      exact hu
    have hS := hbs.lt
    have HV := Aside0.mk hv
    have HR := Aside0.mk hrow
    have HB1 := Aside0.mk hB
    have HBS := Aside0.mk hbs
    have HBR := Aside0.mk hbr
    have HRD := Aside0.mk hr
    have hlen : 24 * (pre.length + 1) ≤ h.size := by have := pcs_bytes h 0; omega
    have HLEN := Aside0.mk hlen
    have HNEW := Aside0.mk (news W (mL x.2.2) 24)
    obtain ⟨i0, hi, hz0, hz1, hz2⟩ := info_parts infoMs
    have HBX := Aside0.mk hbx
    clear hv hrow hB hbs hbr hr hlen hr0 hl hbx
    gi_wp2_with (first | ((with_reducible refine gateIn_load (ty := 24) (x := .tmp 26) rfl ?_); refine listIn_load_mid rfl 24 (.tmp 26) rfl Bx 2 rfl _ _ hrg2 Tryd.underlying24 rfl infoM ?_) | ((with_reducible refine gateIn_buildSlice (t := 67) (k := 1) (parts := #[(0, .tmp 27)]) rfl ?_); go_loud (refine listIn_oneM rfl 27 rfl x.2.2 rfl ?_)) | ((with_reducible refine gateIn_call (args := #[.tmp 25, .tmp 28]) rfl ?_); go_loud (refine wpListIn_append_own _ rfl (.tmp 25) (.tmp 28) 67 rfl w.heap.size 24 i0 _ 11 104 Tryd.underlying67 hi hz0 hz1 hz2 rfl (by decide) v pre.length (msL (msgs pre)) rfl (HR.out.alloc _) ⟨W.heap.size, 0, none⟩ 1 1 (mL x.2.2) rfl rfl ?ac (mL_ones _) ?a1 ?a2 ?a3 ?_); (case ac => intro j u hj; have := HNEW.out j u hj; have e : (⟨W.heap.size, 0, none⟩ : Addr).add j = ⟨W.heap.size, j, none⟩ := (by unfold Addr.add; split <;> simp_all); rw [e]; exact this); (case a1 => have := HLEN.out; simp only [maxLen]; omega); (case a2 => have := HLEN.out; omega); (case a3 => simp; omega); intro v' w1 hown' hgrow _; obtain ⟨g', cap', rfl⟩ := ownsRow_succ hown'; obtain ⟨hv1, hv2, hr2, hk2, hb2⟩ := HV.out.appended (by decide) HR.out (by omega) (Nat.le_succ _) hown' hgrow; have hc1 := hv1.cell; have hf1 := hv1.frozen; have HV2 := Aside0.mk hv2; have HR2 := Aside0.mk hr2; have HK2 := Aside0.mk hk2; have HBB2 := Aside0.mk hb2; have HG2 := Aside0.mk (((HBS.out.alloc _).kept hgrow (HBS.out.not_row (by decide) HR.out)).other (show w.heap.size + 2 ≠ w.heap.size + 1 by omega) (.slice (some ⟨g', 0, none⟩) (pre.length + 1) cap')); have HP2 := Aside0.mk (((HBR.out.alloc _).kept hgrow (HBR.out.not_row (by decide) HR.out)).other (show w.heap.size ≠ w.heap.size + 1 by omega) (.slice (some ⟨g', 0, none⟩) (pre.length + 1) cap')); have HX2 := Aside0.mk ((Below.heap_setCell w1 ⟨w.heap.size + 1, 0, none⟩ (.slice (some ⟨g', 0, none⟩) (pre.length + 1) cap') Bx (by simp only; omega)).trans ((hgrow.block Bx (by have := (Array.getElem?_eq_some_iff.1 HBX.out).1; simp; omega) (row_ne HR.out HBX.out (by decide))).trans ((Below.heap_alloc W _ Bx (Array.getElem?_eq_some_iff.1 HBX.out).1).trans HBX.out))); clear hv1 hv2 hr2 hk2 hb2 hgrow hown'))
    have hc0 := HP2.out.cell
    have hrb := HRD.out.below HBB2.out hlt
    have hrc1 := hrb.c1
    have hrf1 := hrb.f1
    have hx1 : (w1.setCell ⟨w.heap.size + 1, 0, none⟩ (.slice (some ⟨g', 0, none⟩) (pre.length + 1) cap')).cell? ⟨Bx, 1, none⟩ = some (.int .i64 (x.2.1 : Nat)) := by rw [blk_cell HX2.out 1]; rfl
    have HRB := Aside0.mk hrb
    clear hrb hc hf hc1 hf1
    generalize w1.setCell ⟨w.heap.size + 1, 0, none⟩ (.slice (some ⟨g', 0, none⟩) (pre.length + 1) cap') = W3 at HV2 HR2 HK2 HBB2 HG2 HP2 HX2 hc0 hrc1 hrf1 hx1 HRB ⊢
    refine region_in_still_tail 9 (by rintro ⟨a, w, h⟩; exact h) rfl (by kernel_rfl) (by kernel_rfl) ?_
    simp only [List.take_succ_cons, List.take_zero, List.drop_succ_cons, List.drop_zero]
    iterate 9 still_step
    with_reducible refine wpStill_nil ?_
    rw [← vf_snoc (k + (h.size : Int)) pre x]
    generalize hV : vf (k + (h.size : Int)) (pre ++ [x]) = V
    have HVV := Aside0.mk hV
    clear hV
    go_wp2_with fail
    have hne : ∀ B, w.heap.size ≤ B → ((W3.setCell ⟨b, 1, none⟩ (.int .i64 V)).drew).heap[B]? = W3.heap[B]? := fun B hB => Below.heap_setCell W3 ⟨b, 1, none⟩ (.int .i64 V) B (show B ≠ b by omega)
    have hBB : Below b W ((W3.setCell ⟨b, 1, none⟩ (.int .i64 V)).drew) := ((HBB2.out.mono (B' := b) (by omega)).setCell (p := ⟨b, 1, none⟩) (Nat.le_refl _) _).drew
    have hBut : But b w ((W3.setCell ⟨b, 1, none⟩ (.int .i64 V)).drew) := ((HB1.out.then HBB2.out (Nat.le_refl _)).set (.int .i64 V)).then (Below.refl w.heap.size _).drew (Nat.le_refl _)
    have hB3 : But b W3 ((W3.setCell ⟨b, 1, none⟩ (.int .i64 V)).drew) := (But.set (o := 1) (But.of_below (b := b) (Below.refl _ W3)) (.int .i64 V)).then (Below.refl W3.heap.size _).drew (Nat.le_refl _)
    refine ⟨((HK2.out.trans (KeepsOthers.setCell W3 ⟨b, 1, none⟩ (.int .i64 V))).trans (keeps_drew _)).from _, ⟨hBB, (hne _ (by omega)).trans (HG2.out.trans HBS.out.symm)⟩, ⟨_, (hne _ (by omega)).trans HV2.out, ?_, trivial⟩, hBut, (hne _ (by omega)).trans HG2.out, (hne _ (by omega)).trans HP2.out, ?_⟩
    · have hmn : msL (msgs (pre ++ [x])) = msL (msgs pre) ++ mL x.2.2 := by rw [msgs_append, msL_append]; simp [msgs, msL]
      rw [hmn, List.length_append]
      exact own_but HR2.out hB3 hlt
    · rw [HVV.out]
      exact RBox.set1 HRB.out V
  case done =>
    rintro D ys W hD rfl ⟨⟨v, hv, hrow, _⟩, hB, hbs, hbr, hr⟩ hK
    have hc := hv.cell
    have hcr := hbr.cell
    have hrc0 := hr.c0
    have hrf0 := hr.f0
    have hsz1 := pcs_szs h _ 0 (Nat.le_refl _)
    have hvf := vf_all (pcs h 0) (k + (h.size : Int)) (by omega) (by omega)
    have hK2 := (KeepsOthers.setCell W ⟨b, 0, none⟩ (.string { data := #[] })).same D _ hK rfl
    have hc2 : (W.setCell ⟨b, 0, none⟩ (.string { data := #[] })).cell? ⟨w.heap.size + 1, 0, none⟩ = some v := (World.cell?_of_block (a := ⟨w.heap.size + 1, 0, none⟩) (Below.heap_setCell W ⟨b, 0, none⟩ _ _ (show w.heap.size + 1 ≠ b by omega))).trans hc
    have HR := Aside0.mk hrow
    have HB1 := Aside0.mk hB
    have HKD := Aside0.mk hK2
    have HRD := Aside0.mk hr
    have HVF := Aside0.mk hvf
    have HSZ := Aside0.mk hsz1
    clear hrow hB hK hK2 hr hvf hsz1 hv hbr hbs
    gi_wp2
    refine ⟨by simp, .inl ⟨_, _, rfl, run_takeDeferred HKD.out, ?_⟩⟩
    refine ⟨_, results_tmp rfl _ _ _, _, rfl, ownsRow_putObj (own_but HR.out (But.set (o := 0) (But.of_below (b := b) (Below.refl _ W)) _) hlt) _ HKD.out rfl, ?_, (HB1.out.set _).then (belowK_b (w := w) (Nat.le_refl _) _ D _ _ (by omega) HKD.out rfl rfl) (Nat.le_refl _)⟩
    have h1 := HRD.out.set0 ByteArray.empty
    rw [HVF.out, show k + (h.size : Int) - (szs (pcs h 0) : Nat) = k + ((h.size - szs (pcs h 0) : Nat) : Int) by have := HSZ.out; omega] at h1
    exact (World.putObj_heap_other (by omega)).trans h1
  case stop =>
    rintro D c pre W _ _ h _
    exact h.elim
end Go.Proofs.YtnifgokjagahfaaDoor.Close

/- put of the frame package, where there is room: written in place. -/
set_option linter.unusedVariables false
set_option linter.unusedSimpArgs false
namespace Go.Proofs.YtnifgokjagahfaaDoor.Put
open Go.RowKit Go.Proofs.YtnifgokjagahfaaDoorW.PrintWords Go.Proofs.YtnifgokjagahfaaDoorW.PrintLast Go.Proofs.YtnifgokjagahfaaDoorW.PrintMore
open Go.Proofs.YtnifgokjagahfaaDoor.Base Go.Proofs.YtnifgokjagahfaaDoor.App
/-- xs with ys written from k on -/
def setTo (xs : List Value) (k : Nat) (ys : List Value) : List Value := xs.take k ++ ys ++ xs.drop (k + ys.length)
theorem setTo_nil (xs : List Value) (k : Nat) : setTo xs k [] = xs := by simp [setTo]
theorem setTo_next (xs ys : List Value) (k : Nat) (y : Value) (h : k + ys.length < xs.length) : (setTo xs k ys).set (k + ys.length) y = setTo xs k (ys ++ [y]) := by
  unfold setTo
  have hl : (xs.take k ++ ys).length = k + ys.length := by simp; omega
  rw [List.set_append_right _ _ (by omega), hl, Nat.sub_self, List.length_append]
  have hd : xs.drop (k + ys.length) = xs[k + ys.length] :: xs.drop (k + ys.length + 1) := (List.drop_eq_getElem_cons h)
  rw [hd, List.set_cons_zero]
  simp [Nat.add_assoc]
theorem own_set {w : World} {base g n cap : Nat} {e : TypeId} {xs : List Value} (h : w.ownsRow base e 1 (.slice (some ⟨g, 0, none⟩) n cap) n xs) (i : Nat) (hi : i < n) (v : Value) : (w.setCell ⟨g, i, none⟩ v).ownsRow base e 1 (.slice (some ⟨g, 0, none⟩) n cap) n (xs.set i v) := by
  rcases h with ⟨hl, h | ⟨g', cap', cs, hv, hb, hg, hn, hm, hs, ht⟩⟩
  · cases h.1
  · cases hv
    refine ⟨by simpa using hl, .inr ⟨g, cap, _, rfl, hb, heap_setCell_same _ _ _ _ _ _ hg, hn, hm, by simpa using hs, ?_⟩⟩
    rw [← ht, Array.toList_setIfInBounds, List.take_set]
theorem own_cell {w : World} {base g n cap : Nat} {e : TypeId} {xs : List Value} (h : w.ownsRow base e 1 (.slice (some ⟨g, 0, none⟩) n cap) n xs) (i : Nat) (hi : i < n) : (w.cell? ⟨g, i, none⟩).isSome = true ∧ w.frozen? ⟨g, i, none⟩ = false ∧ base ≤ g := by
  rcases h with ⟨hl, h | ⟨g', cap', cs, hv, hb, hg, hn, hm, hs, ht⟩⟩
  · cases h.1
  · cases hv
    refine ⟨?_, frozen_of_row _ _ i _ _ hg, hb⟩
    rw [cell_of_row _ _ _ _ _ _ hg]
    simp; omega
section
variable {P : Program} {ops : Array Oper} {rest : List Oper} {o : Oper} {a : Act} {Q : Exit → Act → World → Prop}
/-- append of one cell, where there is room -/
theorem wp_append_room {W : World} (hgd : o.guard = none) (s x : Operand) (t e : TypeId) (ho : o.op = .call { callee := .builtin .append, args := #[s, x], argTypes := #[t, t] })
    (ht : P.underlying t = some (.slice e)) (i : TypeInfo) (hi : P.info? e = some i) (hi1 : i.size = 1) (g n cap b c : Nat) (y : Value) (hs : a.eval s = .slice (some ⟨g, 0, none⟩) n cap) (hx : a.eval x = .slice (some ⟨b, 0, none⟩) 1 c)
    (hy : W.cell? ⟨b, 0, none⟩ = some y) (h1 : y.oneCell' = true) (hroom : n + 1 ≤ cap) (hcell : (W.cell? ⟨g, n, none⟩).isSome = true) (hfr : W.frozen? ⟨g, n, none⟩ = false)
    (h : wpList P ops Q rest (a.put o.dst (.slice (some ⟨g, 0, none⟩) (n + 1) cap)) (W.setCell ⟨g, n, none⟩ y)) : wpList P ops Q (o :: rest) a W := by
  have c1 : ∀ j u, [y][j]? = some u → W.cell? ((⟨b, 0, none⟩ : Addr).add j) = some u := by
    intro j u hj
    cases j with
    | zero => simpa [Addr.add] using hy.trans (by simpa using hj)
    | succ j => simp at hj
  have c2 : ∀ u ∈ [y], u.oneCell' = true := by
    intro u hu
    simp at hu
    subst hu
    exact h1
  have c3 : ∀ j, j < [y].length → (W.cell? ⟨g, 0 + n * i.size + j, none⟩).isSome = true := by
    intro j hj
    have hj0 : j = 0 := by simpa using hj
    subst hj0
    simpa [hi1] using hcell
  have c4 : ∀ j, j < [y].length → W.frozen? ⟨g, 0 + n * i.size + j, none⟩ = false := by
    intro j hj
    have hj0 : j = 0 := by simpa using hj
    subst hj0
    simpa [hi1] using hfr
  have hr := run_append_room_cells (P := P) W t o.type e i ht hi g 0 n cap ⟨b, 0, none⟩ 1 c [y] (by rw [hi1]; rfl) c1 c2 hroom c3 c4
  have e1 : W.setCells g (0 + n * i.size) [y] = W.setCell ⟨g, n, none⟩ y := by rw [hi1]; simp [World.setCells]
  rw [e1] at hr
  refine wpList_plain hgd fun K hK => ?_
  unfold Oper.wp execOp
  simp only [ho, resolve, invoke, builtin, Sem.run_bind, Sem.run_pure, Result.andThen_ok, List.map_toArray, List.map_cons, List.map_nil, hs, hx, hr]
  exact hK _ _ h
end
set_option maxRecDepth 100000 in
set_option maxHeartbeats 4000000 in
theorem put_at (base g n cap k0 : Nat) (xs : List Value) (N : Int) (wd : Nat) (w : World) (hO : w.ownsRow base 5 1 (.slice (some ⟨g, 0, none⟩) n cap) n xs) (hb : base ≤ w.heap.size) (hN0 : 0 ≤ N) (hN : N ≤ 9223372036854775807) (hw0 : 1 ≤ wd) (hw1 : wd ≤ 8) (hk0 : k0 + wd ≤ n) (hnc : n ≤ cap) (hn : n ≤ 1000000) :
    Calls Tryd.prog 36 #[.slice (some ⟨g, 0, none⟩) k0 cap, .int .i64 N, .int .i64 (wd : Int)] w fun e w' => ∃ v', e = .returned v' ∧ w'.ownsRow base 5 1 (.slice (some ⟨g, 0, none⟩) n cap) n (setTo xs k0 (nums .u8 (be N wd))) ∧ Below base w w' := by
  have HO := Aside0.mk hO
  have HB := Aside0.mk (Below.refl base w)
  have hxl : xs.length = n := by have := hO.1; simpa using this
  have HXL := Aside0.mk hxl
  clear hO hxl
  obtain ⟨i0, hi0, hzz⟩ := Option.map_eq_some_iff.1 info8
  have hi1 : i0.size = 1 := by simp only [Prod.mk.injEq] at hzz; exact hzz.2.1
  clear hzz
  go_enter Tryd.func36, Tryd.ntmps36
  go_wp2
  go_loopw [0, 7] (fun sv iv wr => ∃ k : Nat, k ≤ wd ∧ iv = .int .i64 ((wd : Int) - 1 - (k : Int)) ∧ sv = .slice (some ⟨g, 0, none⟩) (k0 + k) cap ∧ Aside0 (wr.ownsRow base 5 1 (.slice (some ⟨g, 0, none⟩) n cap) n (setTo xs k0 (nums .u8 (beTo N wd k)))) ∧ Aside0 (Below base w wr)) (fun _ iv _ => (intOf iv + 1).toNat)
  case atStart => exact ⟨0, Nat.zero_le _, by simp, rfl, ⟨by simpa [beTo, nums, setTo_nil] using HO.out⟩, HB⟩
  case round =>
    clear HO HB
    obtain ⟨k, hk, rfl, rfl, HO, HB⟩ := hrel
    obtain ⟨wo, rfl⟩ : ∃ wo : World, wo = wr := ⟨_, rfl⟩
    by_cases hlt : k < wd
    · have hsz := HB.out.size
      have HZ : Aside0 (base ≤ wo.heap.size) := ⟨by omega⟩
      have HN := Lib.hid (beTo_next N wd k)
      obtain ⟨i, hi⟩ : ∃ i : Nat, (wd : Int) - 1 - (k : Int) = (i : Int) ∧ i = wd - 1 - k := ⟨wd - 1 - k, by omega, rfl⟩
      rw [← hi.2] at HN
      have hi7 : i ≤ 7 := by omega
      have hie := hi.1
      have HI := Aside0.mk hi
      clear hsz hi
      rw [hie]
      clear hie
      have hnew := news wo [.int .u8 (N / 2 ^ (8 * i) % 256)] 5 0 _ rfl
      have HOA := Aside0.mk (HO.out.alloc (.cells [Value.int .u8 (N / 2 ^ (8 * i) % 256)].toArray 5))
      obtain ⟨hcell, hfr, _⟩ := own_cell HOA.out (k0 + k) (by omega)
      go_wp2_with (at_builtin; go_loud (refine wp_append_room (P := Tryd.prog) rfl (.tmp 14) (.tmp 20) 82 5 rfl Tryd.underlying82 i0 hi0 hi1 g (k0 + k) cap wo.heap.size 1 (.int .u8 (N / 2 ^ (8 * i) % 256)) rfl rfl hnew rfl (by omega) hcell hfr ?_))
      go_roundw
      case rel =>
        have hnl : (nums .u8 (beTo N wd k)).length = k := by rw [nums, List.length_map, beTo_length]
        have h2 := own_set HOA.out (k0 + k) (by omega) (.int .u8 (N / 2 ^ (8 * i) % 256))
        have h3 := setTo_next xs (nums .u8 (beTo N wd k)) k0 (.int .u8 (N / 2 ^ (8 * i) % 256)) (by rw [hnl, HXL.out]; omega)
        rw [hnl] at h3
        rw [h3] at h2
        refine ⟨k + 1, by omega, ?_, rfl, ⟨?_⟩, ⟨(HB.out.alloc HZ.out _).setCell (own_cell HOA.out (k0 + k) (by omega)).2.2 _⟩⟩
        · have := HI.out.1
          congr 1; omega
        · rw [HN.out, nums_append]
          exact h2
      case measure => have := HI.out; simp [intOf]
    · obtain rfl : k = wd := by omega
      have hneg : (k : Int) - 1 - (k : Int) = -1 := by omega
      rw [hneg]
      go_wp2
      go_ret
      exact ⟨_, rfl, HO.out, HB.out⟩
end Go.Proofs.YtnifgokjagahfaaDoor.Put
