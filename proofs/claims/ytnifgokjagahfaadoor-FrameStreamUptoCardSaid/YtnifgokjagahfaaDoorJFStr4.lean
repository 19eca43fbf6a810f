/- Joined texts of this claim: ProperPure, PcsIn, Pieces, StreamKit, StreamSize, OpenX -/
import Derived.Test.YtnifgokjagahfaaDoorJFStr1
import Derived.Test.YtnifgokjagahfaaDoorPFrameBackx1
import Derived.Test.YtnifgokjagahfaaDoorPFrameBackx2
import Derived.RangeFuncNested
import Derived.RangeFuncBound
import Derived.RangeFuncCalls
import Derived.RangeFuncLeaves
import Derived.RangeFuncBox
import Derived.Shelf.Abstract
import Derived.Shelf.RegionOpen
import Derived.OwnWalkIn
import Derived.TacticsInMore
import Derived.LoopNIn
import Derived.LoopIn
import Derived.Test.YtnifgokjagahfaaDoorJFStr3
import Derived.Test.YtnifgokjagahfaaDoorRows
import Derived.Test.YtnifgokjagahfaaDoorJFStr0
import Derived.Deep.Slices
/- Proper, as a function: the valid message nearest to any. -/
set_option linter.unusedVariables false
set_option linter.unusedSimpArgs false
namespace Go.Proofs.YtnifgokjagahfaaDoor.Proper
open Go.RowKit Go.Proofs.YtnifgokjagahfaaDoorW.PrintWords Go.Proofs.YtnifgokjagahfaaDoorW.PrintLast Go.Proofs.YtnifgokjagahfaaDoorW.PrintMore
open Go.Proofs.YtnifgokjagahfaaDoor.Base Go.Proofs.YtnifgokjagahfaaDoor.Layouts Go.Proofs.YtnifgokjagahfaaDoor.Msg Go.Proofs.YtnifgokjagahfaaDoor.Put Go.Proofs.YtnifgokjagahfaaDoor.EncPure Go.Proofs.YtnifgokjagahfaaDoor.DecPure Go.Proofs.YtnifgokjagahfaaDoor.PFrameBack
def clip (n top : Int) : Int := if n.tmod (top + 1) < 0 then n.tmod (top + 1) + top + 1 else n.tmod (top + 1)
theorem tmod_bound (n t : Int) (ht : 0 < t) : -t < n.tmod t ∧ n.tmod t < t := ⟨Int.lt_tmod_of_pos n ht, Int.tmod_lt_of_pos n ht⟩
theorem clip_range (n top : Int) (h : 0 ≤ top) : 0 ≤ clip n top ∧ clip n top ≤ top := by
  have hb := tmod_bound n (top + 1) (by omega)
  unfold clip
  generalize n.tmod (top + 1) = x at hb
  split <;> omega
theorem clipped_f (n top : Int) (h : 0 ≤ top) (h1 : top ≤ 9007199254740992) : granarylaw5_clipped.f n top = some (clip n top) := by
  have hb := tmod_bound n (top + 1) (by omega)
  have B1 : -9223372036854775808 ≤ top + 1 ∧ top + 1 ≤ 9223372036854775807 := by omega
  have c1 : ¬ top + 1 = 0 := by omega
  unfold granarylaw5_clipped.f clip
  rw [w64 _ B1.1 B1.2, if_neg c1]
  generalize n.tmod (top + 1) = x at hb
  by_cases hx : x < 0
  · have B2 : -9223372036854775808 ≤ x + top ∧ x + top ≤ 9223372036854775807 := by omega
    have B3 : -9223372036854775808 ≤ x + top + 1 ∧ x + top + 1 ≤ 9223372036854775807 := by omega
    rw [if_pos hx, if_pos hx, w64 _ B2.1 B2.2, w64 _ B3.1 B3.2]
  · rw [if_neg hx, if_neg hx]
theorem clipped_any (n top : Int) (w : World) (h : 0 ≤ top) (h1 : top ≤ 9007199254740992) : Calls Tryd.prog 25 #[.int .i64 n, .int .i64 top] w fun e w' => e = .returned (.int .i64 (clip n top)) ∧ Drawn0 w w' :=
  granarylaw5_clipped.calls n top _ w (clipped_f n top h h1)
def cutS (s : ByteArray) (n : Nat) : ByteArray := if s.size > n then s.extract 0 n else s
theorem cutS_size (s : ByteArray) (n : Nat) : (cutS s n).size ≤ n := by
  unfold cutS
  split
  · rw [ByteArray.size_extract]; omega
  · omega
theorem cut_any (s : ByteArray) (n : Nat) (w : World) : Calls Tryd.prog 52 #[.string s, .int .i64 (n : Nat)] w fun e w' => e = .returned (.string (cutS s n)) ∧ Drawn0 w w' := by
  refine granarylaw5_cut.calls s n _ w ?_
  unfold granarylaw5_cut.f cutS
  by_cases h : s.size > n
  · rw [if_pos (by omega), if_pos (by omega), if_pos (by omega), if_pos h, Int.toNat_natCast]
  · rw [if_neg (by omega), if_neg h]
def propF (a m : M) (f : Nat) : M :=
  if f < 4 then setNum m f (clip (numOf a f) 9007199254740992) else if f = 4 then setNum m 4 (clip (numOf a 4) 65535)
  else if f = 5 then setText m 5 (cutS a.key 255) else setText m 6 (cutS a.value 4096)
def kP (a : M) : Nat := (1 + clip a.kind 15).toNat
theorem kP_range (a : M) : 1 ≤ kP a ∧ kP a < 17 ∧ (kP a : Int) = 1 + clip a.kind 15 := by
  have := clip_range a.kind 15 (by decide)
  unfold kP
  omega
def mP (a : M) : M := blankM (kP a) (clip a.from_ 65535) (clip a.to_ 65535) (clip a.id 9007199254740992)
def PSt (a : M) (fs : List Nat) (j : Nat) : M := (fs.take j).foldl (propF a) (mP a)
theorem PSt_next (a : M) (fs : List Nat) (j n : Nat) (h : fs[j]? = some n) : PSt a fs (j + 1) = propF a (PSt a fs j) n := by
  unfold PSt
  rw [List.take_add_one, h]
  simp
def properM (a : M) : M := PSt a (fieldsOf (kP a)) (fieldsOf (kP a)).length
theorem propF_head (a m : M) (f : Nat) : SameHead (propF a m f) m := by
  unfold propF
  split
  · exact setNum_head _ _ _
  · split
    · exact setNum_head _ _ _
    · split
      · exact setText_head _ _ _
      · exact setText_head _ _ _
theorem propF_far (a m : M) (f g : Nat) (hf : f < 7) (hg : g < 7) (hne : g ≠ f) : AgreeF (propF a m f) m g := by
  unfold propF
  split
  · exact agree_set _ _ _ _ (by omega) hg hne
  · split
    · rename_i e; exact agree_set _ _ _ _ (by decide) hg (by rw [← e]; exact hne)
    · split
      · rename_i e; exact agree_text _ _ _ _ (.inl rfl) hg (by rw [← e]; exact hne)
      · exact agree_text _ _ _ _ (.inr rfl) hg (by omega)
def InR (m : M) (g : Nat) : Prop := 0 ≤ numOf m g ∧ numOf m g ≤ mostOf g
theorem propF_in (a m : M) (f : Nat) (hf : f < 7) : InR (propF a m f) f := by
  have e : f = 0 ∨ f = 1 ∨ f = 2 ∨ f = 3 ∨ f = 4 ∨ f = 5 ∨ f = 6 := by omega
  rcases e with e | e | e | e | e | e | e <;> subst e
  · exact clip_range a.epoch 9007199254740992 (by decide)
  · exact clip_range a.seq 9007199254740992 (by decide)
  · exact clip_range a.version 9007199254740992 (by decide)
  · exact clip_range a.prev 9007199254740992 (by decide)
  · exact clip_range a.code 65535 (by decide)
  · have := cutS_size a.key 255
    show (0 : Int) ≤ ((cutS a.key 255).size : Int) ∧ ((cutS a.key 255).size : Int) ≤ 255
    omega
  · have := cutS_size a.value 4096
    show (0 : Int) ≤ ((cutS a.value 4096).size : Int) ∧ ((cutS a.value 4096).size : Int) ≤ 4096
    omega
theorem proper_fold (a : M) : ∀ (fs : List Nat) (m : M), (∀ f ∈ fs, f < 7) → SameHead (fs.foldl (propF a) m) m ∧ (∀ g, g < 7 → g ∉ fs → AgreeF (fs.foldl (propF a) m) m g) ∧ (∀ g, g < 7 → (g ∈ fs ∨ InR m g) → InR (fs.foldl (propF a) m) g)
  | [], m, _ => ⟨⟨rfl, rfl, rfl, rfl⟩, fun _ _ _ => ⟨rfl, rfl⟩, fun g _ h => by
      rcases h with h | h
      · cases h
      · exact h⟩
  | f :: fs, m, hf => by
    obtain ⟨h1, h2, h3⟩ := proper_fold a fs (propF a m f) (fun g hg => hf g (by simp [hg]))
    have hf7 := hf f (by simp)
    refine ⟨h1.trans (propF_head a m f), fun g hg hng => ?_, fun g hg h => h3 g hg ?_⟩
    · exact (h2 g hg (fun e => hng (by simp [e]))).trans (propF_far a m f g hf7 hg (fun e => hng (by simp [e])))
    · by_cases e : g = f
      · subst e; exact .inr (propF_in a m g hg)
      · rcases h with h | h
        · rcases List.mem_cons.1 h with h | h
          · exact absurd h e
          · exact .inl h
        · refine .inr ?_
          have ha := propF_far a m f g hf7 hg e
          unfold InR
          rw [ha.1]
          exact h
theorem proper_valid (a : M) : vB (properM a) = true ∧ (1 ≤ (properM a).kind ∧ (properM a).kind < 17) ∧ (properM a).kind = (kP a : Int) := by
  obtain ⟨k1, k2, k3⟩ := kP_range a
  have he : properM a = (fieldsOf (kP a)).foldl (propF a) (mP a) := by unfold properM PSt; rw [List.take_length]
  obtain ⟨⟨h1, h2, h3, h4⟩, ha, hr⟩ := proper_fold a (fieldsOf (kP a)) (mP a) (fieldsOf_lt _ k2)
  rw [← he] at h1 h2 h3 h4 ha hr
  have hk : (properM a).kind = (kP a : Int) := h1
  refine ⟨(vB_iff _).2 ⟨?_, ?_, ?_, fun f hf => ?_⟩, by rw [hk]; omega, hk⟩
  · rw [h2]; exact clip_range a.from_ 65535 (by decide)
  · rw [h3]; exact clip_range a.to_ 65535 (by decide)
  · rw [h4]; exact clip_range a.id 9007199254740992 (by decide)
  · by_cases hm : f ∈ fieldsOf (properM a).kind.toNat
    · rw [need_of_mem _ f hm]
      exact hr f hf (.inl (by rw [hk, Int.toNat_natCast] at hm; exact hm))
    · rw [need_not_mem _ f hm]
      have hz := ha f hf (by rw [hk, Int.toNat_natCast] at hm; exact hm)
      have h0 : numOf (mP a) f = 0 := (zero_blank _ _ _ _ f hf).1
      rw [hz.1, h0]
      exact ⟨Int.le_refl _, Int.le_refl _⟩
end Go.Proofs.YtnifgokjagahfaaDoor.Proper

/- Pieces in memory, inside a fence. -/
set_option linter.unusedVariables false
set_option linter.unusedSimpArgs false
namespace Go.Proofs.YtnifgokjagahfaaDoor.PcsIn
open Go.RowKit Go.Shelf Go.Proofs.YtnifgokjagahfaaDoorW.PrintWords Go.Proofs.YtnifgokjagahfaaDoorW.PrintLast Go.Proofs.YtnifgokjagahfaaDoorW.PrintMore
open Go.Proofs.YtnifgokjagahfaaDoor.Base Go.Proofs.YtnifgokjagahfaaDoor.App Go.Proofs.YtnifgokjagahfaaDoor.Layouts Go.Proofs.YtnifgokjagahfaaDoor.Msg Go.Proofs.YtnifgokjagahfaaDoor.Mids Go.Proofs.YtnifgokjagahfaaDoor.SplitPure Go.Proofs.YtnifgokjagahfaaDoor.Pcs
section
variable {F : Fence} {n : Nat} {P : Program} {ops : Array Oper} {rest : List Oper} {o : Oper} {a : Act} {w w' : World} {Q : Exit → Act → World → Prop}
theorem listIn_exec {v : Value} (hg : o.guard = none) (hd : ∀ c, o.op ≠ .defer c) (ha : o.about P w a.eval = none) (hr : (execOp a.eval o).run P w = .ok (.value v) w')
    (h : wpListIn F n P ops Q rest (a.put o.dst v) w') : wpListIn F n P ops Q (o :: rest) a w := by
  refine wpListIn_plain hg fun K hK => ?_
  unfold Oper.wpIn
  refine ⟨fun f hf => (by rw [ha] at hf; cases hf), ?_⟩
  rw [Oper.semAt_plain F _ _ hd, hr]
  exact hK _ _ h
theorem listIn_skip (hg : o.guard = none) (hd : ∀ c, o.op ≠ .defer c) (ha : o.about P w a.eval = none) (hr : (execOp a.eval o).run P w = .ok .skip w')
    (h : wpListIn F n P ops Q rest (a.put o.dst undef) w') : wpListIn F n P ops Q (o :: rest) a w := by
  refine wpListIn_plain hg fun K hK => ?_
  unfold Oper.wpIn
  refine ⟨fun f hf => (by rw [ha] at hf; cases hf), ?_⟩
  rw [Oper.semAt_plain F _ _ hd, hr]
  exact hK _ _ h
theorem listIn_load_mid (hg : o.guard = none) (ty : TypeId) (x : Operand) (ho : o.op = .load ty x)
    (b p : Nat) (hx : a.eval x = .pointer (some ⟨b, p, none⟩)) (cs : List Value) (d : TypeDesc) (hc : w.rangeAt b p cs)
    (hu : P.underlying ty = some d) (hd : d.isRow = true) (hi : (P.info? ty).map (·.size) = some cs.length)
    (h : wpListIn F n P ops Q rest (a.put o.dst (.agg cs.toArray)) w) : wpListIn F n P ops Q (o :: rest) a w := by
  refine listIn_exec hg (by rw [ho]; intro c hc'; cases hc') (by simp [Oper.about, ho]) ?_ h
  unfold execOp
  simp only [ho, hx, Instr.loadAt, Instr.sureAddr, Sem.run_bind, Sem.run_pure, Result.andThen_ok, run_loadVar_mid w b p ty cs d hc hu hd hi]
theorem listIn_store_mid (hg : o.guard = none) (ty : TypeId) (x y : Operand) (ho : o.op = .store ty x y)
    (b p : Nat) (cells : Array Value) (hx : a.eval x = .pointer (some ⟨b, p, none⟩)) (hy : a.eval y = .agg cells)
    (ht : w.there b p cells.size) (hi : (P.info? ty).map (·.size) = some cells.size) (h1 : cells.all (·.oneCell') = true)
    (h : wpListIn F n P ops Q rest (a.put o.dst undef) (w.setCells b p cells.toList)) : wpListIn F n P ops Q (o :: rest) a w := by
  refine listIn_skip hg (by rw [ho]; intro c hc'; cases hc') (by simp [Oper.about, ho]) ?_ h
  unfold execOp
  simp only [ho, hx, hy, Instr.storeAt, Instr.sureAddr, Sem.run_bind, Sem.run_pure, Result.andThen_ok, run_storeVar_mid w b p ty cells ht hi h1]
theorem gateIn_load {ty : TypeId} {x : Operand} (_ho : o.op = .load ty x) (h : wpListIn F n P ops Q (o :: rest) a w) : wpListIn F n P ops Q (o :: rest) a w := h
theorem gateIn_store {ty : TypeId} {x y : Operand} (_ho : o.op = .store ty x y) (h : wpListIn F n P ops Q (o :: rest) a w) : wpListIn F n P ops Q (o :: rest) a w := h
theorem gateIn_build {t : TypeId} {parts : Array (Nat × Operand)} (_ho : o.op = .build t parts) (h : wpListIn F n P ops Q (o :: rest) a w) : wpListIn F n P ops Q (o :: rest) a w := h
theorem gateIn_buildSlice {t : TypeId} {k : Nat} {parts : Array (Nat × Operand)} (_ho : o.op = .buildSlice t k parts) (h : wpListIn F n P ops Q (o :: rest) a w) : wpListIn F n P ops Q (o :: rest) a w := h
theorem gateIn_call {fn : Callee} {args : Array Operand} {ts : Array TypeId} (_ho : o.op = .call { callee := fn, args := args, argTypes := ts }) (h : wpListIn F n P ops Q (o :: rest) a w) : wpListIn F n P ops Q (o :: rest) a w := h
end
section
variable {F : Fence} {n : Nat} {ops : Array Oper} {rest : List Oper} {o : Oper} {act : Act} {w : World} {Q : Exit → Act → World → Prop}
theorem listIn_buildP (hg : o.guard = none) (x y z : Tmp) (ho : o.op = .build 44 #[(0, .tmp x), (1, .tmp y), (2, .tmp z)]) (a b : Int) (m : M)
    (hx : act.eval (.tmp x) = .int .i64 a) (hy : act.eval (.tmp y) = .int .i64 b) (hz : act.eval (.tmp z) = .agg (mL m).toArray)
    (h : wpListIn F n Tryd.prog ops Q rest (act.put o.dst (.agg (pV a b m))) w) : wpListIn F n Tryd.prog ops Q (o :: rest) act w := by
  refine listIn_exec hg (by rw [ho]; intro c hc'; cases hc') (by simp [Oper.about, ho]) ?_ h
  unfold execOp
  simp only [ho, List.map_toArray, List.map_cons, List.map_nil, hx, hy, hz, Sem.run_bind, run_buildP, Result.andThen_ok]
  rfl
theorem listIn_oneP (hg : o.guard = none) (x : Tmp) (ho : o.op = .buildSlice 38 1 #[(0, .tmp x)]) (a b : Int) (m : M) (hx : act.eval (.tmp x) = .agg (pV a b m))
    (h : wpListIn F n Tryd.prog ops Q rest (act.put o.dst (.slice (some ⟨w.heap.size, 0, none⟩) 1 1)) (w.alloc (.cells (pV a b m) 44))) : wpListIn F n Tryd.prog ops Q (o :: rest) act w := by
  refine listIn_exec hg (by rw [ho]; intro c hc'; cases hc') (by simp [Oper.about, ho]) ?_ h
  unfold execOp
  simp only [ho, List.map_toArray, List.map_cons, List.map_nil, hx, Sem.run_bind, run_oneP, Result.andThen_ok]
  rfl
end
end Go.Proofs.YtnifgokjagahfaaDoor.PcsIn

/- The frames of a stream as an iterator: pieces. -/
set_option linter.unusedVariables false
set_option linter.unusedSimpArgs false
namespace Go.Proofs.YtnifgokjagahfaaDoor.Pieces
open Go.RowKit Go.Shelf Go.Proofs.YtnifgokjagahfaaDoorW.PrintWords Go.Proofs.YtnifgokjagahfaaDoorW.PrintLast Go.Proofs.YtnifgokjagahfaaDoorW.PrintMore
open Go.Proofs.YtnifgokjagahfaaDoor.Base Go.Proofs.YtnifgokjagahfaaDoor.App Go.Proofs.YtnifgokjagahfaaDoor.Layouts Go.Proofs.YtnifgokjagahfaaDoor.Msg Go.Proofs.YtnifgokjagahfaaDoor.Mids Go.Proofs.YtnifgokjagahfaaDoor.SplitPure Go.Proofs.YtnifgokjagahfaaDoor.Pcs Go.Proofs.YtnifgokjagahfaaDoor.PcsIn Go.Proofs.YtnifgokjagahfaaDoor.Frm Go.Proofs.YtnifgokjagahfaaDoor.Next
open Go.Proofs.YtnifgokjagahfaaDoor.Dec (mL_one infoM)
open Go.Proofs.YtnifgokjagahfaaDoor.Zeros (zeros_new zeros_there zeros_below)
open Go.Proofs.YtnifgokjagahfaaDoor.Crc (Nibs)
attribute [local go_sem] Oper.semAt_some
theorem abides_below {β : Type} {B : Nat} {J : β → World → Prop} (h : AbidesFrom B J) {s : β} {A A' : World} (hs : J s A) (hb : Below A.heap.size A A') : J s A' :=
  h s A A' none hs ⟨hb.os, hb.tape, hb.output, hb.size, fun k hk _ => hb.block k hk⟩ (fun r e => by cases e)
theorem drawn_below {B : Nat} {w w' : World} (h : Drawn0 w w') : Below B w w' := by
  obtain ⟨⟨n, rfl⟩⟩ := h
  exact pw_below_drewN (Below.refl _ _) n
theorem begins_at (s : ByteArray) (i : Nat) (w : World) (hi : i ≤ s.size) (hmx : s.size ≤ 9223372036854775807) (hN : Nibs w) :
    (fr s i = none ∧ ∃ q n m, q ≠ 2 ∧ Calls Tryd.prog 63 #[.string (s.extract i s.size)] w (Beg.TellW q n m w)) ∨
    (∃ n m, fr s i = some (n, m) ∧ Calls Tryd.prog 63 #[.string (s.extract i s.size)] w (Beg.TellW 2 (n : Nat) m w)) := by
  have h := Beg.beg_any (s.extract i s.size) w (by rw [ByteArray.size_extract]; omega) hN
  have e := drop_bytesOf s i hi
  rw [e] at h
  cases hf : fr s i with
  | none =>
    have := begP_none _ (byt_at s i) hf
    exact .inl ⟨rfl, _, _, _, this, h⟩
  | some r =>
    obtain ⟨n, m⟩ := r
    have := begP_full _ (byt_at s i) n m hf
    rw [this] at h
    exact .inr ⟨n, m, rfl, h⟩
/-- what a round keeps: all that lies below n₀, and block Bn -/
def KB (n₀ Bn : Nat) (A B : World) : Prop := Below n₀ A B ∧ B.heap[Bn]? = A.heap[Bn]?
theorem KB.refl (n₀ Bn : Nat) (A : World) : KB n₀ Bn A A := ⟨Below.refl _ _, rfl⟩
theorem KB.trans {n₀ Bn : Nat} {A B C : World} (h : KB n₀ Bn A B) (k : KB n₀ Bn B C) : KB n₀ Bn A C := ⟨h.1.trans k.1, k.2.trans h.2⟩
theorem KB.of_below {n₀ Bn : Nat} {A B : World} (h : Below A.heap.size A B) (hn : n₀ ≤ A.heap.size) (hb : Bn < A.heap.size) : KB n₀ Bn A B := ⟨h.mono hn, h.block _ hb⟩
theorem KB.cell {n₀ Bn : Nat} {A B : World} {v : Value} (h : KB n₀ Bn A B) (hc : A.cell? ⟨Bn, 0, none⟩ = some v) : B.cell? ⟨Bn, 0, none⟩ = some v := (World.cell?_of_block (a := ⟨Bn, 0, none⟩) h.2).trans hc
theorem KB.put {n₀ Bn : Nat} {w : World} (hn : n₀ ≤ w.heap.size) (hb : Bn < w.heap.size) (W : World) (l : Nat) (o o' : Obj) (hl : w.heap.size ≤ l) (h : W.heap[l]? = some o) (h1 : o.isCells = false) (h2 : o.isWalk = false) : KB n₀ Bn W (W.putObj l o') :=
  ⟨belowK_b hn W l o o' hl h h1 h2, World.putObj_heap_other (by omega)⟩
theorem nibs_keep {w w1 : World} {B : Nat} (h : Nibs w) (hb : Below B w w1) (hB : 2 < B) : Nibs w1 :=
  ⟨fun i hi => (hb.cell (p := ⟨2, i, none⟩) hB).trans (h.cell i hi), Nat.lt_of_lt_of_le h.lt hb.size⟩
set_option maxRecDepth 100000 in
set_option maxHeartbeats 4000000 in
theorem pieces1_any (n l Bn n₀ : Nat) (s : ByteArray) (hmx : s.size ≤ 9223372036854775807) (J Jx : List Pc → World → Prop) (W : World) (hJa : AbidesFrom W.heap.size J)
    (hY : ∀ (pre : List Pc) (x : Pc) W1, J pre W1 → pre.length < (pcs s 0).length → YieldAt Fence.wide (n - 1) Tryd.prog l #[.agg (pV (x.1 : Nat) (x.2.1 : Nat) x.2.2)] W1 fun e W' =>
      (e = .returned (.bool true) ∧ J (pre ++ [x]) W' ∧ KB n₀ Bn W1 W') ∨ (e = .returned (.bool false) ∧ Jx (pre ++ [x]) W'))
    (hn₀ : n₀ ≤ W.heap.size) (hBn : Bn < W.heap.size) (hc : W.cell? ⟨Bn, 0, none⟩ = some (.string s)) (hN : Nibs W) (hN0 : 2 < n₀) (h0 : J [] W) :
    Calls Tryd.prog 75 #[.func (.yield l) #[] #[], .pointer (some ⟨Bn, 0, none⟩)] W fun e W' => (∃ v, e = .returned v) ∧
      ((∃ ys, ys = pcs s 0 ∧ J ys W') ∨ (∃ pre, pre <+: pcs s 0 ∧ Jx pre W')) := by
  have hnx := next_any s 0 W (Nat.zero_le _) hmx
  have hn0 := nxt_le s 0 (Nat.zero_le _)
  have HP0 : Aside0 (pcs s 0 = [] ++ pcs s (nxt s 0)) := ⟨(pcs_next s 0 (Nat.zero_le _)).symm⟩
  have HY := Aside0.mk hY
  have HJA := Aside0.mk hJa
  have HC := Aside0.mk hc
  have HN := Aside0.mk hN
  go_enter Tryd.func75, Tryd.ntmps75
  go_wp2_with fail
  refine hnx.mono ?_
  rintro e w1 ⟨rfl, hd⟩
  have HB1 := Aside0.mk (KB.of_below (n₀ := n₀) (Bn := Bn) (drawn_below hd) hn₀ hBn)
  have HJ1 := Aside0.mk (abides_below hJa h0 (drawn_below hd))
  have HZ1 := Aside0.mk (drawn_below (B := W.heap.size) hd).size
  clear hd hY hJa hN hc h0 hnx
  generalize nxt s 0 = i0 at HP0 hn0 ⊢
  go_wp2_with fail
  go_loopw [3, 4, 5, 6] (fun iv _ _ _ wr => ∃ (i : Nat) (pre : List Pc), i ≤ s.size ∧ iv = .int .i64 (i : Int) ∧ Aside0 (pcs s 0 = pre ++ pcs s i) ∧ Aside0 (J pre wr) ∧ Aside0 (KB n₀ Bn W wr)) (fun iv _ _ _ _ => s.size - (intOf iv).toNat)
  case atStart => exact ⟨i0, [], hn0.2, rfl, HP0, HJ1, HB1⟩
  case round =>
    clear HP0 HJ1 HB1 HZ1 hn0
    obtain ⟨i, pre, hi, rfl, HP, HJ, HB⟩ := hrel
    have hc1 : wr.cell? ⟨Bn, 0, none⟩ = some (.string s) := HB.out.cell HC.out
    have HN1 : Aside0 (Nibs wr) := ⟨nibs_keep HN.out HB.out.1 hN0⟩
    by_cases hlt : i < s.size
    · rcases begins_at s i wr hi hmx HN1.out with ⟨hf, q, k, m, hq, hbg⟩ | ⟨k, m, hf, hbg⟩
      · have HP1 : Aside0 (pcs s 0 = pre ++ pcs s (nxt s (i + 1))) := ⟨by rw [HP.out, pcs_none hlt hf, pcs_next s (i + 1) (by omega)]⟩
        clear HP hf
        have g0 : (0 : Int) ≤ (i : Int) := by omega
        have g1 : (i : Int) ≤ (s.size : Int) := by omega
        have hs1 := fun wx => run_slice_string_l (P := Tryd.prog) wx 9 s Tryd.underlying9 .i64 (i : Int) g0 g1
        rw [Int.toNat_natCast] at hs1
        generalize s.extract i s.size = S1 at hs1 hbg
        have HBG := Aside0.mk hbg
        clear hbg HN1
        go_wp2_with fail
        refine HBG.out.mono ?_
        rintro e w2 ⟨rfl, hb⟩
        have HB2 := Aside0.mk (KB.of_below (n₀ := n₀) (Bn := Bn) hb (by have := HB.out.1.size; omega) (by have := HB.out.1.size; omega))
        have HJ2 := Aside0.mk (abides_below HJA.out HJ.out hb)
        clear hb HBG hs1 HJ
        have hth := zeros_there w2
        have HM3 := Aside0.mk (zeros_new w2 m)
        have HB3 := Aside0.mk (HB2.out.trans (KB.of_below (zeros_below w2 m) (by have := HB.out.1.size; have := HB2.out.1.size; omega) (by have := HB.out.1.size; have := HB2.out.1.size; omega)))
        have HJ3 := Aside0.mk (abides_below HJA.out HJ2.out (zeros_below w2 m))
        go_upto_region 3 with ((with_reducible refine gate_store (ty := 24) (x := .tmp 6) (y := .tmp 20) rfl ?_); refine wpList_store_mid rfl 24 (.tmp 6) (.tmp 20) rfl w2.heap.size 0 (mL m).toArray rfl rfl hth infoM (mL_one m) ?_)
        clear hth HB2 HJ2 hc1
        generalize hw3 : (w2.alloc (.cells #[.int .i64 0, .int .i64 0, .int .i64 0, .int .i64 0, .int .i64 0, .int .i64 0, .int .i64 0, .int .i64 0, .int .i64 0, .string { data := #[] }, .string { data := #[] }] 24)).setCells w2.heap.size 0 (mL m) = w3 at HM3 HB3 HJ3 ⊢
        generalize w2.heap.size = g3 at HM3 hw3 ⊢
        clear hw3
        have HB4 := Aside0.mk (HB.out.trans HB3.out)
        have hc1 : w3.cell? ⟨Bn, 0, none⟩ = some (.string s) := HB4.out.cell HC.out
        clear HB HB3
        have hq2 : (q != 2) = true := bne_iff_ne.2 hq
        have hw1 : wrap64 ((i : Int) + 1) = ((i + 1 : Nat) : Int) := Zeros.wadd i 1 (by omega)
        have hnx := fun w => Lib.hid (next_any s (i + 1) w (by omega) hmx)
        have hnb := nxt_le s (i + 1) (by omega)
        generalize nxt s (i + 1) = i2 at hnx hnb HP1
        go_wp2_with fail
        refine (hnx _).out.mono ?_
        rintro e w5 ⟨rfl, hd⟩
        have HB5 := Aside0.mk (HB4.out.trans (KB.of_below (drawn_below hd) (by have := HB4.out.1.size; omega) (by have := HB4.out.1.size; omega)))
        have HJ5 := Aside0.mk (abides_below HJA.out HJ3.out (drawn_below hd))
        clear hd hnx HB4 HJ3
        go_wp2_with fail
        go_roundw
        case rel => exact ⟨i2, pre, hnb.2, rfl, HP1, HJ5, HB5⟩
        case measure => simp [intOf]; omega
      · have HF := Aside0.mk (fr_bounds hf)
        have HP1 : Aside0 (pcs s 0 = pre ++ (i, k, m) :: pcs s (nxt s (i + k))) := ⟨by rw [HP.out, pcs_some hf, pcs_next s (i + k) HF.out.2.2]⟩
        clear HP hf
        have g0 : (0 : Int) ≤ (i : Int) := by omega
        have g1 : (i : Int) ≤ (s.size : Int) := by omega
        have hs1 := fun wx => run_slice_string_l (P := Tryd.prog) wx 9 s Tryd.underlying9 .i64 (i : Int) g0 g1
        rw [Int.toNat_natCast] at hs1
        generalize s.extract i s.size = S1 at hs1 hbg
        have HBG := Aside0.mk hbg
        clear hbg HN1
        go_wp2_with fail
        refine HBG.out.mono ?_
        rintro e w2 ⟨rfl, hb⟩
        have HB2 := Aside0.mk (KB.of_below (n₀ := n₀) (Bn := Bn) hb (by have := HB.out.1.size; omega) (by have := HB.out.1.size; omega))
        have HJ2 := Aside0.mk (abides_below HJA.out HJ.out hb)
        clear hb HBG hs1 HJ
        have hth := zeros_there w2
        have HM3 := Aside0.mk (zeros_new w2 m)
        have HB3 := Aside0.mk (HB2.out.trans (KB.of_below (zeros_below w2 m) (by have := HB.out.1.size; have := HB2.out.1.size; omega) (by have := HB.out.1.size; have := HB2.out.1.size; omega)))
        have HJ3 := Aside0.mk (abides_below HJA.out HJ2.out (zeros_below w2 m))
        go_upto_region 3 with ((with_reducible refine gate_store (ty := 24) (x := .tmp 6) (y := .tmp 20) rfl ?_); refine wpList_store_mid rfl 24 (.tmp 6) (.tmp 20) rfl w2.heap.size 0 (mL m).toArray rfl rfl hth infoM (mL_one m) ?_)
        clear hth HB2 HJ2 hc1
        generalize hw3 : (w2.alloc (.cells #[.int .i64 0, .int .i64 0, .int .i64 0, .int .i64 0, .int .i64 0, .int .i64 0, .int .i64 0, .int .i64 0, .int .i64 0, .string { data := #[] }, .string { data := #[] }] 24)).setCells w2.heap.size 0 (mL m) = w3 at HM3 HB3 HJ3 ⊢
        generalize w2.heap.size = g3 at HM3 hw3 ⊢
        clear hw3
        have HB4 := Aside0.mk (HB.out.trans HB3.out)
        have hc1 : w3.cell? ⟨Bn, 0, none⟩ = some (.string s) := HB4.out.cell HC.out
        clear HB HB3
        have hrg := blk_range HM3.out.row
        have hlen : pre.length < (pcs s 0).length := by rw [HP1.out]; simp
        obtain ⟨fn, tmps, assign, body, hy, hR⟩ := HY.out pre (i, k, m) w3 HJ3.out hlen
        have HR := Aside0.mk hR
        clear hlen hR
        go_upto_region 5 with fail
        refine (wpIn_wide (n := n)).1 ?_
        dsimp only at hy
        gi_wp2_with (first | ((with_reducible refine gateIn_load (ty := 24) (x := .tmp 6) rfl ?_); refine listIn_load_mid rfl 24 (.tmp 6) rfl g3 0 rfl (mL m) _ hrg Tryd.underlying24 rfl infoM ?_) | ((with_reducible refine gateIn_build (t := 44) (parts := #[(0, .tmp 28), (1, .tmp 29), (2, .tmp 30)]) rfl ?_); go_loud (refine listIn_buildP rfl 28 29 30 rfl (i : Int) (k : Int) m rfl rfl rfl ?_)))
        refine ⟨fun h => (by cases h), HR.out.mono ?_⟩
        rintro e w4 (⟨rfl, hj4, hk4⟩ | ⟨rfl, hjx⟩)
        · have HJ4 := Aside0.mk hj4
          have HB5 := Aside0.mk (HB4.out.trans hk4)
          have hc2 : w4.cell? ⟨Bn, 0, none⟩ = some (.string s) := HB5.out.cell HC.out
          have hb0 := HF.out
          have hw1 : wrap64 ((i : Int) + (k : Int)) = ((i + k : Nat) : Int) := Zeros.wadd i k (by omega)
          have hnx := fun w => Lib.hid (next_any s (i + k) w hb0.2.2 hmx)
          have hnb := nxt_le s (i + k) hb0.2.2
          generalize nxt s (i + k) = i2 at hnx hnb HP1
          clear hj4 hk4 HR hrg hc1 HB4 HJ3 hy hb0
          gi_wp2
          go_wp2_with fail
          refine (hnx _).out.mono ?_
          rintro e w5 ⟨rfl, hd⟩
          have HB6 := Aside0.mk (HB5.out.trans (KB.of_below (drawn_below hd) (by have := HB5.out.1.size; omega) (by have := HB5.out.1.size; omega)))
          have HJ6 := Aside0.mk (abides_below HJA.out HJ4.out (drawn_below hd))
          clear hd hnx HB5 HJ4
          go_wp2_with fail
          go_roundw
          case rel => exact ⟨i2, pre ++ [(i, k, m)], hnb.2, rfl, ⟨by rw [HP1.out]; simp⟩, HJ6, HB6⟩
          case measure => have := HF.out; simp [intOf]; omega
        · have HJX := Aside0.mk hjx
          clear hjx HR hrg hc1 HB4 HJ3 hy
          gi_wp2
          go_wp2_with fail
          refine bodyPost_ret (results_none rfl _ _ _) rfl ?_
          exact ⟨⟨_, rfl⟩, .inr ⟨pre ++ [(i, k, m)], ⟨pcs s (nxt s (i + k)), by rw [HP1.out]; simp⟩, HJX.out⟩⟩
    · obtain rfl : i = s.size := by omega
      have HE : Aside0 (pre = pcs s 0) := ⟨by rw [HP.out, pcs_end (Nat.le_refl _), List.append_nil]⟩
      go_wp2_with fail
      go_end0
      exact ⟨⟨_, rfl⟩, .inl ⟨pre, HE.out, HJ.out⟩⟩
theorem pieces_any (s : ByteArray) (w : World) : Calls Tryd.prog 49 #[.string s] w fun e w' => e = .returned (.func (.func 75) #[] #[.pointer (some ⟨w.heap.size, 0, none⟩)]) ∧ w' = w.alloc (.cells #[.string s] 9) := by
  go_enter Tryd.func49, Tryd.ntmps49
  go_wp2
  go_ret
  exact ⟨rfl, rfl⟩
/-- a piece as an argument -/
abbrev pA (x : Pc) : Array Value := #[.agg (pV (x.1 : Nat) (x.2.1 : Nat) x.2.2)]
theorem pieces_stops (n Bn n₀ : Nat) (s : ByteArray) (hmx : s.size ≤ 9223372036854775807) (w : World) (hn₀ : n₀ ≤ w.heap.size) (hBn : Bn < w.heap.size) (hc : w.cell? ⟨Bn, 0, none⟩ = some (.string s)) (hN : Nibs w) (hN0 : 2 < n₀) :
    SeqStopsK Fence.wide n Tryd.prog 75 #[.pointer (some ⟨Bn, 0, none⟩)] pA (KB n₀ Bn) (fun ys => ys = pcs s 0) (fun pre => pre <+: pcs s 0) (pcs s 0).length w := by
  intro l J Jx W hW hJ _ hY h0
  exact callsIn_wide.2 (pieces1_any n l Bn n₀ s hmx J Jx W hJ hY (Nat.le_trans hn₀ hW.size) (Nat.lt_of_lt_of_le hBn hW.size) ((hW.cell (p := ⟨Bn, 0, none⟩) hBn).trans hc) (hN.below hW) hN0 h0)
/-! blocks kept by the law's book-keeping -/
theorem blk_own {β : Type} (B : Nat) (t : TypeId) (cs : Array Value) : Own (fun (_ : β) W => W.heap[B]? = some (.cells cs t (0, 0))) := fun s X Y row hs hg hrow =>
  (hg.block B (Array.getElem?_eq_some_iff.1 hs).1 (fun e => by obtain ⟨o, ho, hc⟩ := hrow B e.symm; rw [hs] at ho; cases ho; cases hc)).trans hs
theorem keeps_cells (W : World) (b : Nat) : ∀ (vs : List Value) (o : Nat), KeepsOthers W (W.setCells b o vs) := by
  intro vs
  induction vs generalizing W with
  | nil => intro o; exact KeepsOthers.refl W
  | cons v vs ih => intro o; exact (KeepsOthers.setCell W ⟨b, o, none⟩ v).trans (ih _ _)
end Go.Proofs.YtnifgokjagahfaaDoor.Pieces

/- litter, cutAt. -/
set_option linter.unusedVariables false
set_option linter.unusedSimpArgs false
namespace Go.Proofs.YtnifgokjagahfaaDoor.StreamKit
open Go.RowKit Go.Proofs.YtnifgokjagahfaaDoorW.PrintWords Go.Proofs.YtnifgokjagahfaaDoorW.PrintLast Go.Proofs.YtnifgokjagahfaaDoorW.PrintMore
open Go.Proofs.YtnifgokjagahfaaDoor.Base Go.Proofs.YtnifgokjagahfaaDoor.App Go.Proofs.YtnifgokjagahfaaDoor.Layouts Go.Proofs.YtnifgokjagahfaaDoor.Msg Go.Proofs.YtnifgokjagahfaaDoor.Put Go.Proofs.YtnifgokjagahfaaDoor.EncPure Go.Proofs.YtnifgokjagahfaaDoor.SplitPure Go.Proofs.YtnifgokjagahfaaDoor.Pcs Go.Proofs.YtnifgokjagahfaaDoor.StreamPure Go.Proofs.YtnifgokjagahfaaDoor.Proper
/-- the bytes but 71, of a text's first part -/
def ltl (s : ByteArray) (k : Nat) : List Int := ((bytesOf s).take k).filter (fun b => b != 71)
def lt (s : ByteArray) : ByteArray := strOfNums (ltl s s.size)
theorem ltl_next (s : ByteArray) (k : Nat) (h : k < s.size) : ltl s (k + 1) = if (s[k]'h).toNat = 71 then ltl s k else ltl s k ++ [((s[k]'h).toNat : Int)] := by
  unfold ltl
  have e : (bytesOf s)[k]? = some ((s[k]'h).toNat : Int) := by
    unfold bytesOf
    rw [List.getElem?_map, byte_at h]
    rfl
  rw [List.take_add_one, e, List.filter_append]
  simp only [Option.toList_some, List.filter_cons, List.filter_nil]
  by_cases hb : (s[k]'h).toNat = 71
  · have hb' : ((((s[k]'h).toNat : Nat) : Int) != 71) = false := by rw [hb]; rfl
    rw [if_pos hb]
    simp only [hb', Bool.false_eq_true, if_false, List.append_nil]
  · have hb' : ((((s[k]'h).toNat : Nat) : Int) != 71) = true := bne_iff_ne.2 (by omega)
    rw [if_neg hb]
    simp only [hb', if_true]
theorem ltl_len (s : ByteArray) (k : Nat) : (ltl s k).length ≤ s.size := by
  unfold ltl
  have h1 := List.length_filter_le (fun b : Int => b != 71) ((bytesOf s).take k)
  have h2 : ((bytesOf s).take k).length ≤ s.size := by rw [List.length_take, bytesOf_length]; omega
  omega
theorem lt_clear (s : ByteArray) : Clear (lt s) := by
  intro b hb
  have hby : Byt (ltl s s.size) := fun x hx => byt_bytesOf s x (List.mem_of_mem_take (List.mem_filter.1 hx).1)
  have h1 : bytesOf (lt s) = ltl s s.size := bytesOf_strOfNums _ hby
  have h2 : ((b.toNat : Nat) : Int) ∈ ltl s s.size := by
    rw [← h1]
    unfold bytesOf
    exact List.mem_map.2 ⟨b, hb, rfl⟩
  have h3 := (List.mem_filter.1 h2).2
  rintro rfl
  exact absurd h3 (by decide)
theorem lt_size (s : ByteArray) : (lt s).size ≤ s.size := by
  unfold lt
  rw [strOfNums_size]
  exact ltl_len s _
set_option maxHeartbeats 2000000 in
theorem litter_any (s : ByteArray) (w : World) (hs : s.size ≤ 1073741824) : Calls Tryd.prog 32 #[.string s] w fun e w' => e = .returned (.string (lt s)) ∧ Below w.heap.size w w' := by
  have HO0 := Aside0.mk (World.ownsRow_nil w w.heap.size 5 1)
  have HB0 := Aside0.mk (Below.refl w.heap.size w)
  go_enter Tryd.func32, Tryd.ntmps32
  go_wp2
  go_loopw [3, 4] (fun v i wr => ∃ k : Nat, k ≤ s.size ∧ i = .int .i64 k ∧ Aside0 (wr.ownsRow w.heap.size 5 1 v (ltl s k).length (nums .u8 (ltl s k))) ∧ Aside0 (Below w.heap.size w wr)) (fun _ i _ => s.size - (intOf i).toNat)
  case atStart => exact ⟨0, Nat.zero_le _, rfl, HO0, HB0⟩
  case round =>
    clear HO0 HB0
    obtain ⟨k, hk, rfl, HO, HB⟩ := hrel
    obtain ⟨wo, rfl⟩ : ∃ wo : World, wo = wr := ⟨_, rfl⟩
    by_cases hlt : k < s.size
    · have hnx := ltl_next s k hlt
      have hll := ltl_len s k
      have HNX := Aside0.mk hnx
      have HLL := Aside0.mk hll
      obtain ⟨q, hq⟩ : ∃ q : Nat, (s[k]'hlt).toNat = q := ⟨_, rfl⟩
      have hw1 : wrap64 ((k : Int) + 1) = ((k + 1 : Nat) : Int) := Zeros.wadd k 1 (by omega)
      clear hnx hll
      by_cases hb : q = 71
      · have HE : Aside0 (ltl s (k + 1) = ltl s k) := ⟨by rw [HNX.out, hq, if_pos hb]⟩
        have hbb : ((q : Int) != 71) = false := by subst hb; rfl
        clear HNX
        go_wp2_with fail
        go_roundw
        case rel => exact ⟨k + 1, by omega, by go_num, ⟨by rw [HE.out]; exact HO.out⟩, HB⟩
        case measure => simp [intOf]; omega
      · have HE : Aside0 (ltl s (k + 1) = ltl s k ++ [(q : Int)]) := ⟨by rw [HNX.out, hq, if_neg hb]⟩
        have hbb : ((q : Int) != 71) = true := bne_iff_ne.2 (by omega)
        have hnew := news wo [.int .u8 (q : Int)] 5
        have HNEW := Aside0.mk hnew
        have HBS := Aside0.mk HB.out.size
        clear HNX hnew
        go_wp2_with ((with_reducible refine gate_call (args := #[.tmp 15, .tmp 19]) rfl ?_); refine Hid.out ?_)
        refine Lib.hid ?_
        refine list_append_wide (P := Tryd.prog) (w0 := w) w.heap.size rfl (.tmp 15) (.tmp 19) 82 5 _ 1 1 rfl Tryd.underlying82 info8 rfl (by decide) (by decide) u3 (ltl s k).length (nums .u8 (ltl s k)) wo.heap.size 1 1 [.int .u8 (q : Int)] ?hs ?hx rfl (by simp [Value.oneCell']) HNEW.out (HO.out.alloc _) (HB.out.alloc HBS.out _) ?hz ?hl ?_
        case hs => rfl
        case hx => rfl
        case hz => have := HBS.out; simp; omega
        case hl => have := HLL.out; omega
        intro v1 w1 HO1 HB1 _
        have HO2 := Aside0.mk HO1
        have HB2 := Aside0.mk HB1
        clear HO1 HB1
        go_wp2_with fail
        go_roundw
        case rel => exact ⟨k + 1, by omega, by go_num, ⟨by rw [HE.out, nums_append, List.length_append]; exact HO2.out⟩, HB2⟩
        case measure => simp [intOf]; omega
    · obtain rfl : k = s.size := by omega
      have hcv := own_string (P := Tryd.prog) Tryd.underlying82 Tryd.underlying5 Tryd.underlying9 HO.out
      go_wp2
      go_ret
      exact ⟨rfl, HB.out⟩
set_option maxHeartbeats 2000000 in
theorem cutAt_any (A : Option Addr) (c : Nat) (l : List Int) (w : World) (hr : Kd.C (Kd.int .i64) w A l.length l) (hc : l.length ≤ c) (hl : l.length ≤ 10000000) (i n : Nat) (hi : i ≤ 1000000000) (hn : n ≤ 1000000000) :
    Calls Tryd.prog 66 #[.slice A l.length c, .int .i64 (i : Nat), .int .i64 (n : Nat)] w fun e w' => (∃ v : Nat, v ≤ n ∧ e = .returned (.int .i64 (v : Nat))) ∧ Drawn0 w w' := by
  by_cases h0 : l.length = 0
  · have h00 : ((l.length : Int) == 0) = true := beq_iff_eq.2 (by omega)
    go_enter Tryd.func66, Tryd.ntmps66
    go_wp2
    go_ret
    exact ⟨⟨n, Nat.le_refl _, rfl⟩, Drawn0.refl _⟩
  · have h00 : ((l.length : Int) == 0) = false := beq_eq_false_iff_ne.2 (by omega)
    have hm : (i : Int).tmod (l.length : Int) = ((i % l.length : Nat) : Int) := by
      rw [Int.tmod_eq_emod_of_nonneg (by omega)]
      omega
    have hj := Nat.mod_lt i (show 0 < l.length by omega)
    obtain ⟨ad, e1, hx⟩ := Kd.at_int hr ((i % l.length : Nat) : Int) (by omega) (by omega)
    cases e1
    rw [Int.toNat_natCast] at hx
    generalize rd l ((i % l.length : Nat) : Int) = x at hx
    have hrg := clip_range x (n : Int) (by omega)
    have KC := fun (w : World) => Lib.hid (clipped_any x (n : Int) w (by omega) (by omega))
    obtain ⟨v, hv⟩ : ∃ v : Nat, clip x (n : Int) = (v : Int) := ⟨(clip x (n : Int)).toNat, by omega⟩
    rw [hv] at KC hrg
    have HRG := Aside0.mk hrg
    have hln : (l.length : Int) ≠ 0 := by omega
    generalize hjj : i % l.length = j at hm hj hx
    clear hrg hv hjj
    go_enter Tryd.func66, Tryd.ntmps66
    go_wp2_with fail
    refine (KC w).out.mono ?_
    rintro e w1 ⟨rfl, hd⟩
    go_wp2
    go_ret
    exact ⟨⟨v, by have := HRG.out; omega, rfl⟩, hd⟩
end Go.Proofs.YtnifgokjagahfaaDoor.StreamKit

/- How long the stream of FrameStream is; plain. -/
set_option linter.unusedVariables false
set_option linter.unusedSimpArgs false
namespace Go.Proofs.YtnifgokjagahfaaDoor.StreamSize
open Go.RowKit Go.Proofs.YtnifgokjagahfaaDoorW.PrintWords Go.Proofs.YtnifgokjagahfaaDoorW.PrintLast Go.Proofs.YtnifgokjagahfaaDoorW.PrintMore
open Go.Proofs.YtnifgokjagahfaaDoor.Base Go.Proofs.YtnifgokjagahfaaDoor.Layouts Go.Proofs.YtnifgokjagahfaaDoor.Msg Go.Proofs.YtnifgokjagahfaaDoor.Put Go.Proofs.YtnifgokjagahfaaDoor.EncPure Go.Proofs.YtnifgokjagahfaaDoor.DecPure Go.Proofs.YtnifgokjagahfaaDoor.Mids Go.Proofs.YtnifgokjagahfaaDoor.SplitPure Go.Proofs.YtnifgokjagahfaaDoor.ReadPure Go.Proofs.YtnifgokjagahfaaDoor.ReadStream Go.Proofs.YtnifgokjagahfaaDoor.StreamPure Go.Proofs.YtnifgokjagahfaaDoor.StreamKit Go.Proofs.YtnifgokjagahfaaDoor.Proper
theorem cutS_le (s : ByteArray) (n : Nat) : (cutS s n).size ≤ s.size := by
  unfold cutS
  split
  · rw [ByteArray.size_extract]; omega
  · exact Nat.le_refl _
theorem setNum_text (m : M) (f : Nat) (n : Int) : (setNum m f n).key = m.key ∧ (setNum m f n).value = m.value := by
  unfold setNum
  split <;> exact ⟨rfl, rfl⟩
theorem propF_text (a m : M) (f : Nat) (h : m.key.size ≤ a.key.size ∧ m.value.size ≤ a.value.size) : (propF a m f).key.size ≤ a.key.size ∧ (propF a m f).value.size ≤ a.value.size := by
  unfold propF
  split
  · rw [(setNum_text _ _ _).1, (setNum_text _ _ _).2]; exact h
  · split
    · rw [(setNum_text _ _ _).1, (setNum_text _ _ _).2]; exact h
    · split
      · exact ⟨cutS_le _ _, h.2⟩
      · exact ⟨h.1, cutS_le _ _⟩
theorem fold_text (a : M) : ∀ (fs : List Nat) (m : M), (m.key.size ≤ a.key.size ∧ m.value.size ≤ a.value.size) → (fs.foldl (propF a) m).key.size ≤ a.key.size ∧ (fs.foldl (propF a) m).value.size ≤ a.value.size := by
  intro fs
  induction fs with
  | nil => intro m h; exact h
  | cons f fs ih => intro m h; exact ih _ (propF_text a m f h)
theorem proper_text (a : M) : (properM a).key.size ≤ a.key.size ∧ (properM a).value.size ≤ a.value.size :=
  fold_text a _ _ ⟨Nat.zero_le _, Nat.zero_le _⟩
theorem body_len (m : M) : ∀ fs : List Nat, (bodyB m fs).length = (fs.map wN).sum + fs.count 5 * m.key.size + fs.count 6 * m.value.size := by
  intro fs
  induction fs with
  | nil => simp [bodyB]
  | cons f fs ih =>
    have e : (bodyB m (f :: fs)).length = (fieldB m f).length + (bodyB m fs).length := by simp [bodyB]
    rw [e, ih, field_length]
    simp only [List.map_cons, List.sum_cons, List.count_cons]
    unfold textOf
    by_cases h5 : f = 5
    · subst h5
      simp [bytesOf_length, Nat.add_mul]
      omega
    · by_cases h6 : f = 6
      · subst h6
        simp [bytesOf_length, Nat.add_mul]
        omega
      · simp [h5, h6]
        omega
theorem frame_le (m : M) (hk : 1 ≤ m.kind ∧ m.kind < 17) : (frame m).size ≤ 64 + m.key.size + m.value.size := by
  have h1 : ∀ k, k < 17 → ((fieldsOf k).map wN).sum ≤ 40 ∧ (fieldsOf k).count 5 ≤ 1 ∧ (fieldsOf k).count 6 ≤ 1 := by decide
  obtain ⟨a, b, c⟩ := h1 m.kind.toNat (by omega)
  unfold frame
  rw [strOfNums_size, whole_length, body_len]
  have d := Nat.mul_le_mul_right m.key.size b
  have e := Nat.mul_le_mul_right m.value.size c
  rw [Nat.one_mul] at d e
  omega
/-- what is laid for an item -/
def itm (x : It) : It := (properM x.1, lt x.2)
theorem itm_good (x : It) : GoodIt (itm x) := by
  obtain ⟨h1, h2, _⟩ := proper_valid x.1
  exact ⟨⟨h1, h2⟩, lt_clear x.2⟩
/-- an item's bulk -/
def blk (x : It) : Nat := 14 + x.1.key.size + x.1.value.size + x.2.size
theorem itm_size (x : It) : (itm x).2.size + (frame (itm x).1).size ≤ 5 * blk x := by
  have h1 := frame_le (properM x.1) (proper_valid x.1).2.1
  have h2 := proper_text x.1
  have h3 := lt_size x.2
  unfold blk itm
  show (lt x.2).size + (frame (properM x.1)).size ≤ _
  omega
def bulkL (l : List It) : Nat := (l.map blk).sum
theorem stF_le : ∀ (l : List It) (W : ByteArray), (stF W (l.map itm)).size ≤ W.size + 5 * bulkL l := by
  intro l
  induction l with
  | nil => intro W; exact Nat.le_add_right _ _
  | cons x l ih =>
    intro W
    have h1 := ih (W ++ (itm x).2 ++ frame (itm x).1)
    have h2 := itm_size x
    have h3 : bulkL (x :: l) = blk x + bulkL l := by simp [bulkL]
    have h4 : (W ++ (itm x).2 ++ frame (itm x).1).size = W.size + (itm x).2.size + (frame (itm x).1).size := by rw [ByteArray.size_append, ByteArray.size_append]
    have h5 : stF W ((x :: l).map itm) = stF (W ++ (itm x).2 ++ frame (itm x).1) (l.map itm) := rfl
    rw [h5, h3]
    omega
theorem bulk_len (l : List It) : 14 * l.length ≤ bulkL l := by
  induction l with
  | nil => exact Nat.zero_le _
  | cons x l ih =>
    have h3 : bulkL (x :: l) = blk x + bulkL l := by simp [bulkL]
    rw [h3, List.length_cons]
    unfold blk
    omega
theorem bulk_mem (l : List It) (x : It) (h : x ∈ l) : blk x ≤ bulkL l := by
  induction l with
  | nil => cases h
  | cons y l ih =>
    have h3 : bulkL (y :: l) = blk y + bulkL l := by simp [bulkL]
    rcases List.mem_cons.1 h with e | e
    · subst e; omega
    · have := ih e; omega
theorem bulk_take (l : List It) (k : Nat) : bulkL (l.take k) ≤ bulkL l := by
  have h : bulkL (l.take k ++ l.drop k) = bulkL (l.take k) + bulkL (l.drop k) := by unfold bulkL; rw [List.map_append, List.sum_append]
  rw [List.take_append_drop] at h
  omega
/-- one more item -/
theorem stF_next (l : List It) (k : Nat) (x : It) (h : l[k]? = some x) : stF ByteArray.empty ((l.take (k + 1)).map itm) = stF ByteArray.empty ((l.take k).map itm) ++ lt x.2 ++ frame (properM x.1) := by
  rw [List.take_add_one, h, List.map_append]
  unfold stF
  rw [List.foldl_append]
  rfl
theorem ex_next (l : List It) (k : Nat) (x : It) (h : l[k]? = some x) : ex 0 ((l.take (k + 1)).map itm) = ex 0 ((l.take k).map itm) ++ ex (stF ByteArray.empty ((l.take k).map itm)).size [itm x] := by
  rw [List.take_add_one, h, List.map_append, ex_append _ 0 ByteArray.empty rfl]
  rfl
theorem was_next (l : List It) (k : Nat) (x : It) (h : l[k]? = some x) : was ((l.take (k + 1)).map itm) = was ((l.take k).map itm) + (lt x.2).size := by
  rw [List.take_add_one, h, List.map_append]
  simp [was, itm]
theorem ex_len (l : List It) : ∀ n, (ex n l).length = l.length := by
  induction l with
  | nil => intro n; rfl
  | cons x l ih => intro n; simp [ex, ih]
theorem was_le (l : List It) (W : ByteArray) : was l ≤ (stF W l).size := by
  have := stF_size l W
  omega
/-- the whole stream -/
theorem whole_stream (l : List It) (tl : ByteArray) (ht : Clear tl) : pcs (stF ByteArray.empty (l.map itm) ++ tl) 0 = ex 0 (l.map itm) ∧ Cl (stF ByteArray.empty (l.map itm) ++ tl) 0 ∧ was (l.map itm) + tl.size = (stF ByteArray.empty (l.map itm) ++ tl).size - szs (ex 0 (l.map itm)) := by
  have h1 := stF_all tl ht (l.map itm) ByteArray.empty (by
    intro x hx
    obtain ⟨y, _, rfl⟩ := List.mem_map.1 hx
    exact itm_good y)
  have h2 := stF_size (l.map itm) ByteArray.empty
  have h3 : ByteArray.empty.size = 0 := rfl
  rw [h3] at h1 h2
  refine ⟨h1.1, h1.2, ?_⟩
  rw [ByteArray.size_append]
  omega
end Go.Proofs.YtnifgokjagahfaaDoor.StreamSize

/- A list of messages with litter as an argument; a list of numbers as an argument. -/
set_option linter.unusedVariables false
set_option linter.unusedSimpArgs false
namespace Go.Proofs.YtnifgokjagahfaaDoor.OpenX
open Go.ChangeShapes Go.WideShapes Go.ChangeAt Go.RowKit Go.Joins Go.Deep
open Go.Proofs.YtnifgokjagahfaaDoorW.PrintWords
open Go.Proofs.YtnifgokjagahfaaDoor.Base Go.Proofs.YtnifgokjagahfaaDoor.Msg Go.Proofs.YtnifgokjagahfaaDoor.OpenM Go.Proofs.YtnifgokjagahfaaDoor.StreamPure Go.Proofs.YtnifgokjagahfaaDoor.StreamSize
instance : Inhabited M := ⟨⟨0, 0, 0, 0, 0, 0, 0, 0, 0, ⟨#[]⟩, ⟨#[]⟩⟩⟩
instance : Inhabited It := ⟨(default, ⟨#[]⟩)⟩
/-- an item's cells -/
def sL (x : It) : List Value := mL x.1 ++ [.string x.2]
def sLs (l : List It) : List Value := l.flatMap sL
theorem sL_len (x : It) : (sL x).length = 12 := rfl
theorem sLs_len (l : List It) : (sLs l).length = l.length * 12 := by
  induction l with
  | nil => rfl
  | cons p l ih => unfold sLs at ih ⊢; rw [List.flatMap_cons, List.length_append, ih, sL_len, List.length_cons]; omega
/-- the list's cells -/
def SAt (w : World) (A : Option Addr) (l : List It) : Prop := l = [] ∨ ∃ a, A = some a ∧ ∀ j u, (sLs l)[j]? = some u → w.cell? (a.add j) = some u
theorem sLs_at : ∀ (l : List It) (k : Nat) (x : It), l[k]? = some x → ∀ (i : Nat) (u : Value), (sL x)[i]? = some u → (sLs l)[k * 12 + i]? = some u := by
  intro l
  induction l with
  | nil => intro j p h; simp at h
  | cons q l ih =>
    intro k x h i u hu
    have hi : i < 12 := (List.getElem?_eq_some_iff.1 hu).1
    have e : sLs (q :: l) = sL q ++ sLs l := by simp [sLs]
    rw [e]
    cases k with
    | zero =>
      simp only [List.getElem?_cons_zero, Option.some.injEq] at h
      subst h
      rw [List.getElem?_append_left (by rw [sL_len]; omega), Nat.zero_mul, Nat.zero_add]
      exact hu
    | succ k =>
      rw [List.getElem?_cons_succ] at h
      rw [List.getElem?_append_right (by rw [sL_len]; omega), sL_len, ← ih k x h i u hu]
      congr 1
      omega
theorem sLs_get : ∀ (l : List It) (j : Nat) (u : Value), (sLs l)[j]? = some u → ∃ k x i, j = k * 12 + i ∧ l[k]? = some x ∧ (sL x)[i]? = some u := by
  intro l
  induction l with
  | nil => intro j u h; simp [sLs] at h
  | cons q l ih =>
    intro j u h
    have e : sLs (q :: l) = sL q ++ sLs l := by simp [sLs]
    rw [e] at h
    by_cases hj : j < 12
    · rw [List.getElem?_append_left (by rw [sL_len]; omega)] at h
      exact ⟨0, q, j, by omega, rfl, h⟩
    · rw [List.getElem?_append_right (by rw [sL_len]; omega), sL_len] at h
      obtain ⟨k, x, i, e1, e2, e3⟩ := ih (j - 12) u h
      exact ⟨k + 1, x, i, by omega, e2, e3⟩
set_option maxRecDepth 100000 in
set_option maxHeartbeats 1000000 in
theorem open_cells {H : Type} {enc : TypeId × Value → H} {W : World} {base fuel : Nat} {sp : Nat → Bool} {held : Bool} {l : List Value} {d : DataW H × List MemPlace}
    (hsz : l.length = 11) (hf : DataW.trod enc Tryd.prog W base sp held fuel 24 l = some d) : ∃ m : M, l = mL m ∧ (m.key.size ≤ 9223372036854775807 ∧ m.value.size ≤ 9223372036854775807) ∧ Rows.uptoBulk d.1 = 12 + m.key.size + m.value.size := by
  obtain ⟨x0, x1, x2, x3, x4, x5, x6, x7, x8, x9, x10, rfl⟩ := list11 (l := l) hsz
  obtain ⟨xs, n, _, hd, _, hxl, hg⟩ := DataW.trod_struct Tryd.underlying24 hf
  obtain ⟨u0, u1, u2, u3, u4, u5, u6, u7, u8, u9, u10, rfl⟩ := list11 (l := xs) hxl
  have g0 := hg 0 _ rfl
  have g1 := hg 1 _ rfl
  have g2 := hg 2 _ rfl
  have g3 := hg 3 _ rfl
  have g4 := hg 4 _ rfl
  have g5 := hg 5 _ rfl
  have g6 := hg 6 _ rfl
  have g7 := hg 7 _ rfl
  have g8 := hg 8 _ rfl
  have g9 := hg 9 _ rfl
  have g10 := hg 10 _ rfl
  simp only [c3, c9, cE, List.drop_succ_cons, List.drop_zero, List.take_succ_cons, List.take_zero, List.getElem_toArray, List.getElem_cons_zero, List.getElem_cons_succ, List.getElem?_cons_zero, List.getElem?_cons_succ] at g0 g1 g2 g3 g4 g5 g6 g7 g8 g9 g10
  obtain ⟨a0, e0, z0, _⟩ := DataW.trod_int Tryd.underlying3 g0
  obtain ⟨a1, e1, z1, _⟩ := DataW.trod_int Tryd.underlying3 g1
  obtain ⟨a2, e2, z2, _⟩ := DataW.trod_int Tryd.underlying3 g2
  obtain ⟨a3, e3, z3, _⟩ := DataW.trod_int Tryd.underlying3 g3
  obtain ⟨a4, e4, z4, _⟩ := DataW.trod_int Tryd.underlying3 g4
  obtain ⟨a5, e5, z5, _⟩ := DataW.trod_int Tryd.underlying3 g5
  obtain ⟨a6, e6, z6, _⟩ := DataW.trod_int Tryd.underlying3 g6
  obtain ⟨a7, e7, z7, _⟩ := DataW.trod_int Tryd.underlying3 g7
  obtain ⟨a8, e8, z8, _⟩ := DataW.trod_int Tryd.underlying22 g8
  obtain ⟨a9, e9, z9, w9⟩ := DataW.trod_string Tryd.underlying9 g9
  obtain ⟨a10, e10, z10, w10⟩ := DataW.trod_string Tryd.underlying9 g10
  simp only [List.cons.injEq, and_true] at e0 e1 e2 e3 e4 e5 e6 e7 e8 e9 e10
  subst e0 e1 e2 e3 e4 e5 e6 e7 e8 e9 e10
  subst z0 z1 z2 z3 z4 z5 z6 z7 z8 z9 z10
  refine ⟨⟨a0, a1, a2, a3, a4, a5, a6, a7, a8, a9, a10⟩, rfl, ⟨w9, w10⟩, ?_⟩
  rw [hd]
  simp only [List.map_cons, List.map_nil, Rows.uptoBulk, Rows.uptoBulkAll]
  rw [data_length, data_length]
  omega
theorem bulk_items {H : Type} (D : Nat → DataW H) (l : List It) : ∀ n, (∀ i x, l[i]? = some x → Rows.uptoBulk (D (n + i)) = blk x) → bulkL l ≤ Rows.uptoBulkAll ((List.range' n l.length).map D) := by
  induction l with
  | nil => intro n _; exact Nat.zero_le _
  | cons o l ih =>
    intro n h
    have h0 := h 0 o rfl
    have := ih (n + 1) (fun i x hi => by
      have e := h (i + 1) x (by simpa using hi)
      rw [← e]
      congr 2
      omega)
    have h3 : bulkL (o :: l) = blk o + bulkL l := by simp [bulkL]
    rw [h3]
    simp only [List.length_cons, List.range'_succ, List.map_cons, Rows.uptoBulkAll] at this ⊢
    rw [Nat.add_zero] at h0
    rw [h0]
    omega
theorem c76 : Tryd.prog.cellsOf 76 = 12 := by kernel_rfl
set_option maxRecDepth 100000 in
set_option maxHeartbeats 1000000 in
theorem open_strewn {H : Type} {enc : TypeId × Value → H} {W : World} {base : Nat} {sp : Nat → Bool} {held : Bool} {a0 : Option Addr} {len cap : Nat} {d : DataW H} {p : List MemPlace}
    (h : DataW.Trod enc Tryd.prog W base sp held 73 (.slice a0 len cap) d p) :
    ∃ l : List It, len = l.length ∧ SAt W a0 l ∧ l.length ≤ cap ∧ bulkL l ≤ Rows.uptoBulk d ∧ (l = [] → a0 = none ∧ cap = 0 ∨ ∃ a, a0 = some a) := by
  obtain ⟨fuel, hf⟩ := h
  rcases open_slice Tryd.underlying73 hf with ⟨hcs, hx⟩ | ⟨a, len', cap', m, n, D, Pl, hcs, hb, hl, hm, hmm, hx, hel⟩
  · simp [Value.cells] at hcs
    obtain ⟨rfl, rfl, rfl⟩ := hcs
    exact ⟨[], rfl, .inl rfl, Nat.zero_le _, Nat.zero_le _, fun _ => .inl ⟨rfl, rfl⟩⟩
  · simp [Value.cells] at hcs
    obtain ⟨rfl, rfl, rfl⟩ := hcs
    simp only [Prod.mk.injEq] at hx
    obtain ⟨rfl, _⟩ := hx
    have hlm : len ≤ m := by rw [hmm]; split <;> omega
    have each : ∀ i, i < len → ∃ x : It, (∀ j u, (sL x)[j]? = some u → W.cell? (a.add (i * 12 + j)) = some u) ∧ Rows.uptoBulk (D i) = blk x := by
      intro i hi
      obtain ⟨cs', h1, h2⟩ := hel i (by omega)
      rw [c76] at h1
      obtain ⟨_, hlen, hcell⟩ := World.cells?_some h1
      obtain ⟨y0, y1, k, hxy, _, g0, g1⟩ := trod_struct2 Tryd.underlying76 h2
      simp only [cM, c9, List.drop_zero] at g0 g1
      obtain ⟨mm, hm1, _, hb1⟩ := open_cells (by rw [List.length_take, hlen]; rfl) g0
      obtain ⟨s, hs1, hs2, _⟩ := DataW.trod_string Tryd.underlying9 g1
      have hcs : cs' = sL (mm, s) := by
        have e : cs' = cs'.take 11 ++ (cs'.drop 11).take 1 := by
          have e2 : (cs'.drop 11).take 1 = cs'.drop 11 := List.take_of_length_le (by rw [List.length_drop, hlen]; decide)
          rw [e2, List.take_append_drop]
        rw [e, hm1, hs1]
        rfl
      refine ⟨(mm, s), fun j u hu => ?_, ?_⟩
      · have hj : j < 12 := (List.getElem?_eq_some_iff.1 hu).1
        have := hcell j (by omega)
        rw [Deep.add_add, hcs, hu] at this
        exact this
      · have hD : D i = .agg [y0.1, y1.1] := by simpa using congrArg Prod.fst hxy
        rw [hD]
        subst hs2
        simp only [Rows.uptoBulk, Rows.uptoBulkAll, hb1]
        rw [data_length]
        show _ = 14 + mm.key.size + mm.value.size + s.size
        omega
    obtain ⟨f, hfo⟩ := choose_lt each
    have hget : ∀ i x, ((List.range len).map f)[i]? = some x → i < len ∧ f i = x := by
      intro i x hx
      simp only [List.getElem?_map, Option.map_eq_some_iff] at hx
      obtain ⟨q, hq, rfl⟩ := hx
      have hkl : i < len := by
        rcases Nat.lt_or_ge i len with h | h
        · exact h
        · rw [List.getElem?_eq_none (by simpa using h)] at hq; cases hq
      rw [List.getElem?_range hkl] at hq
      cases hq
      exact ⟨hkl, rfl⟩
    refine ⟨(List.range len).map f, by simp, .inr ⟨a, rfl, fun j u hu => ?_⟩, by simpa using hl, ?_, fun _ => .inr ⟨a, rfl⟩⟩
    · obtain ⟨k, x, i, rfl, e2, e3⟩ := sLs_get _ j u hu
      obtain ⟨hk, rfl⟩ := hget k x e2
      exact (hfo k hk).1 i u e3
    · simp only [Rows.uptoBulk]
      have := bulk_items (H := H) D ((List.range len).map f) 0 (fun i x hi => by
        obtain ⟨hk, rfl⟩ := hget i x hi
        rw [Nat.zero_add]
        exact (hfo i hk).2)
      simp only [List.length_map, List.length_range] at this
      rw [← List.range_eq_range'] at this
      omega
theorem bulk_lits {H : Type} (k : IntKind) (zs : List Int) : Rows.uptoBulkAll (lits (H := H) k zs) = zs.length := by
  induction zs with
  | nil => rfl
  | cons s l ih =>
    simp only [lits, List.map_cons, Rows.uptoBulkAll, Rows.uptoBulk, List.length_cons] at ih ⊢
    rw [ih]; omega
theorem open_nums {H : Type} {enc : TypeId × Value → H} {P : Program} {W : World} {base : Nat} {sp : Nat → Bool} {held : Bool} {t e : TypeId} {a0 : Option Addr} {len cap : Nat} {d : DataW H} {p : List MemPlace}
    (ht : P.underlying t = some (.slice e)) (he : P.underlying e = some (.int .i64)) (hc : P.cellsOf e = 1)
    (h : DataW.Trod enc P W base sp held t (.slice a0 len cap) d p) :
    ∃ l : List Int, len = l.length ∧ Kd.C (Kd.int .i64) W a0 l.length l ∧ l.length ≤ cap ∧ l.length ≤ Rows.uptoBulk d := by
  obtain ⟨fuel, hf⟩ := h
  rcases open_ints ht he hc hf with ⟨hcs, hx⟩ | ⟨x, l, c, zs, hcs, _, hl, hm, hss, hx, hcell, hws⟩
  · simp [Value.cells] at hcs
    obtain ⟨rfl, rfl, rfl⟩ := hcs
    exact ⟨[], rfl, Kd.C_of_reads (d := 0) ⟨rfl, by simp, fun h => by simp at h⟩, by simp, Nat.zero_le _⟩
  · simp [Value.cells] at hcs
    obtain ⟨rfl, rfl, rfl⟩ := hcs
    simp only [Prod.mk.injEq] at hx
    obtain ⟨rfl, _⟩ := hx
    have hge : len ≤ zs.length := by rw [hss]; split <;> omega
    have hlen : (zs.take len).length = len := by simp; omega
    refine ⟨zs.take len, hlen.symm, Kd.C_of_reads (d := 0) ⟨rfl, ?_, fun h => ⟨x, rfl, fun j hj => ?_⟩⟩, by omega, ?_⟩
    · have : cap ≤ 9223372036854775807 := by simpa [maxLen] using hm
      omega
    · rw [hcell j (by omega)]
      have : j < len := by omega
      simp [List.getD_eq_getElem?_getD, List.getElem?_take, this]
    · simp only [Rows.uptoBulk]
      rw [bulk_lits]; omega
end Go.Proofs.YtnifgokjagahfaaDoor.OpenX
