/- Maps from int to int, told as functions. -/
import Derived.Test.YtbheegamibdbhaaProg
import Derived.Test.YtbheegamibdbhaaWWords
import Derived.Test.YtbheegamibdbhaaWLast
import Derived.Test.YtbheegamibdbhaaWMore
import Derived.WalkKit
import Derived.WalkSpells
import Derived.WalkSmall
import Derived.Lib.Hide
import Derived.Deep.OwnRows
import Derived.Maps.OwnSet
import Derived.KernelRfl
set_option linter.unusedVariables false
set_option linter.unusedSimpArgs false
namespace Go.Proofs.Ytbheegamibdbhaa.MapK
open Go.RowKit Go.Maps Go.ChangeMaps Go.MapKept Go.WideShapes
abbrev D0 := DataW Unit
def kI (k : Int) : Lit := .int .i64 k
theorem law : Keyed Try.prog 3 := int_keyed Try.underlying3
theorem zero (w : World) : (zeroValue 3).run Try.prog w = .ok (.int .i64 0) w := by kernel_rfl
def upd (r : Int → Option Int) (k : Int) (v : Option Int) (j : Int) : Option Int := if j = k then v else r j
/-- block b of w is a map of at most n entries that tells r -/
def MapAs (w : World) (b n : Nat) (r : Int → Option Int) : Prop := ∃ D : D0, w.ownsMap Try.prog 3 (plainElem Try.prog 3) b n D ∧ (∀ k, Maps.has D (kI k) = (r k).isSome) ∧ (∀ k, D.atKey (kI k) (.lit (.int .i64 0)) = .lit (.int .i64 ((r k).getD 0)))
theorem MapAs.made (w : World) : MapAs (w.alloc (.map #[] 0)) w.heap.size 0 (fun _ => none) :=
  ⟨.map [], World.ownsMap_made w _ _ _, fun k => rfl, fun k => rfl⟩
theorem MapAs.lt {w : World} {b n : Nat} {r : Int → Option Int} (h : MapAs w b n r) : b < w.heap.size := by
  obtain ⟨D, h, _⟩ := h
  exact h.lt
theorem MapAs.of_block {w w1 : World} {b n : Nat} {r : Int → Option Int} (h : MapAs w b n r) (e : w1.heap[b]? = w.heap[b]?) : MapAs w1 b n r := by
  obtain ⟨D, ⟨es, clock, hb, F, hs, hD⟩, h1, h2⟩ := h
  exact ⟨D, ⟨es, clock, e.trans hb, F, hs, hD⟩, h1, h2⟩
theorem MapAs.mono {w : World} {b n m : Nat} {r : Int → Option Int} (h : MapAs w b n r) (hm : n ≤ m) : MapAs w b m r := by
  obtain ⟨D, h, h1, h2⟩ := h
  exact ⟨D, h.mono hm, h1, h2⟩
theorem kI_ne {a b : Int} (h : a ≠ b) : kI a ≠ kI b := fun e => h (by injection e)
theorem kI_wf {k : Int} (h0 : -9223372036854775808 ≤ k) (h1 : k ≤ 9223372036854775807) : (Lit.int .i64 k).wf = true := WalkArith.wf_i64 (by omega)
/-- a look-up -/
theorem MapAs.look {w : World} {b n : Nat} {r : Int → Option Int} (h : MapAs w b n r) (k : Int) (hk : (Lit.int .i64 k).wf = true) : (Instr.lookup 56 (.map (some b)) (.int .i64 k) false).run Try.prog w = .ok (.int .i64 ((r k).getD 0)) w := by
  obtain ⟨D, h, h1, h2⟩ := h
  obtain ⟨c, hrun, hat, _⟩ := h.lookup_int law Try.underlying56 Try.underlying3 (zero w) (keyOf_int_mk Try.underlying3 hk)
  have hat2 := (h2 k).symm.trans hat
  have e : (r k).getD 0 = c := by injection hat2 with e; injection e
  rw [e]; exact hrun
theorem size_one {D : D0} (hT : Tidy D) (hs : Maps.size D = 1) {a b : Lit} (ha : Maps.has D a = true) (hne : b ≠ a) : Maps.has D b = false := by
  obtain ⟨es, rfl, hp⟩ := hT
  match es, hs with
  | [p], _ =>
    simp only [Maps.has_eq, List.any_cons, List.any_nil, Bool.or_false] at ha ⊢
    cases hb : p.1.sameKey b with
    | false => rfl
    | true =>
      have ea : p.1 = a := Classical.byContradiction fun h => by rw [sameKey_ne h] at ha; cases ha
      have eb : p.1 = b := Classical.byContradiction fun h => by rw [sameKey_ne h] at hb; cases hb
      exact absurd (eb.symm.trans ea) hne
section
variable {w : World} {ops : Array Oper} {rest : List Oper} {o : Oper} {a : Act} {Q : Exit → Act → World → Prop}
theorem wp_put (hg : o.guard = none) (m x v : Operand) (hop : o.op = Op.mapUpdate 56 m x v) (b n : Nat) (r : Int → Option Int) (hm : a.eval m = .map (some b)) (h : MapAs w b n r) (hn : n < 1000000) (k c : Int) (hx : a.eval x = .int .i64 k) (hv : a.eval v = .int .i64 c)
    (hk : (Lit.int .i64 k).wf = true) (hc : (Lit.int .i64 c).wf = true) (hK : ∀ w', MapAs w' b (n + 1) (upd r k (some c)) → w.mapTurned w' b → wpList Try.prog ops Q rest (a.put o.dst undef) w') : wpList Try.prog ops Q (o :: rest) a w := by
  obtain ⟨D, h, h1, h2⟩ := h
  refine wpList_mapUpdate_in w hg m x v _ hop 3 3 law Try.underlying56 _ b n D hm h (by unfold maxLen; omega) _ _ _ hx hv (keyOf_int_mk Try.underlying3 hk) _ [] (plainElem_int Try.underlying3 hc) ?_
  intro w' hw ht
  refine hK w' ⟨_, hw, fun j => ?_, fun j => ?_⟩ ht
  · unfold upd
    by_cases e : j = k
    · subst e; rw [if_pos rfl]; exact has_put_same h.isMap (by trivial) _
    · rw [if_neg e, ← h1 j]; exact has_put_other (kI_ne e) _
  · unfold upd
    by_cases e : j = k
    · subst e; rw [if_pos rfl]; exact atKey_put_same h.isMap (by trivial) _ _
    · rw [if_neg e, ← h2 j]; exact atKey_put_other (kI_ne e) _ _
theorem wp_del (hg : o.guard = none) (m x : Operand) (hop : o.op = Op.call { callee := Callee.builtin Builtin.delete, args := #[m, x], argTypes := #[56, 3] }) (b n : Nat) (r : Int → Option Int) (hm : a.eval m = .map (some b)) (h : MapAs w b n r) (k : Int) (hx : a.eval x = .int .i64 k)
    (hk : (Lit.int .i64 k).wf = true) (hK : ∀ w', MapAs w' b n (upd r k none) → w.mapTurned w' b → wpList Try.prog ops Q rest (a.put o.dst (.tuple #[])) w') : wpList Try.prog ops Q (o :: rest) a w := by
  obtain ⟨D, h, h1, h2⟩ := h
  refine wpList_delete_own w hg m x _ _ hop 3 law Try.underlying56 _ b n D hm h _ _ hx (keyOf_int_mk Try.underlying3 hk) ?_
  intro w' hw ht
  refine hK w' ⟨_, hw, fun j => ?_, fun j => ?_⟩ ht
  · unfold upd
    by_cases e : j = k
    · subst e; rw [if_pos rfl]; exact has_del_same
    · rw [if_neg e, ← h1 j]; exact has_del_other (kI_ne e)
  · unfold upd
    by_cases e : j = k
    · subst e; rw [if_pos rfl]; exact atKey_del_same _
    · rw [if_neg e, ← h2 j]; exact atKey_del_other (kI_ne e) _
theorem MapAs.len {b n : Nat} {r : Int → Option Int} (h : MapAs w b n r) : ∃ s : Nat, s ≤ n ∧ (∀ ty, (Builtin.len_ #[56] ty #[.map (some b)]).run Try.prog w = .ok (.int .i64 (s : Nat)) w) ∧ (s = 1 → ∀ k j, (r k).isSome = true → j ≠ k → r j = none) := by
  obtain ⟨D, h, h1, h2⟩ := h
  refine ⟨Maps.size D, h.size_le, fun ty => h.len Try.underlying56 ty, fun hs k j hk hne => ?_⟩
  have := size_one (h.tidy law) hs (a := kI k) (b := kI j) (by rw [h1]; exact hk) (kI_ne hne)
  rw [h1] at this
  cases hj : r j with
  | none => rfl
  | some x => rw [hj] at this; cases this
theorem clear_run {b n : Nat} {r : Int → Option Int} (h : MapAs w b n r) (ty : TypeId) : ∃ w', (Builtin.clear_ #[56] ty #[.map (some b)]).run Try.prog w = .ok (.tuple #[]) w' ∧ MapAs w' b 0 (fun _ => none) ∧ w.mapTurned w' b := by
  obtain ⟨D, ⟨es, clock, hb, F, hs, hD⟩, h1, h2⟩ := h
  refine ⟨setBlock w b (.map #[] clock), ?_, ⟨.map [], ⟨#[], clock, heap_setBlock_same hb _, ⟨by simp, stamped_empty clock, by simp⟩, Nat.le_refl _, rfl⟩, fun k => rfl, fun k => rfl⟩, ⟨es, clock, #[], clock, hb, rfl⟩⟩
  simp [Builtin.clear_, run_underlying Try.underlying56, MapKept.run_getObj_map hb, MapKept.run_setObj_map _ hb, Result.andThen]
  rfl
theorem wp_len (hg : o.guard = none) (m : Operand) (hop : o.op = Op.call { callee := Callee.builtin Builtin.len, args := #[m], argTypes := #[56] }) (b s : Nat) (hm : a.eval m = .map (some b))
    (hl : ∀ ty, (Builtin.len_ #[56] ty #[.map (some b)]).run Try.prog w = .ok (.int .i64 (s : Nat)) w) (hK : wpList Try.prog ops Q rest (a.put o.dst (.int .i64 (s : Nat))) w) : wpList Try.prog ops Q (o :: rest) a w := by
  refine wpList_plain hg fun K' hK' => ?_
  unfold Oper.wp
  simp [execOp, hop, resolve, invoke, builtin, hm, hl o.type, Result.andThen]
  exact hK' _ _ hK
theorem wp_clear (hg : o.guard = none) (m : Operand) (hop : o.op = Op.call { callee := Callee.builtin Builtin.clear, args := #[m], argTypes := #[56] }) (b n : Nat) (r : Int → Option Int) (hm : a.eval m = .map (some b)) (h : MapAs w b n r)
    (hK : ∀ w', MapAs w' b 0 (fun _ => none) → w.mapTurned w' b → wpList Try.prog ops Q rest (a.put o.dst (.tuple #[])) w') : wpList Try.prog ops Q (o :: rest) a w := by
  refine wpList_plain hg fun K' hK' => ?_
  obtain ⟨w', hrun, r1, r2⟩ := clear_run h o.type
  unfold Oper.wp
  simp [execOp, hop, resolve, invoke, builtin, hm, hrun, Result.andThen]
  exact hK' _ _ (hK w' r1 r2)
theorem step_put {K : Act → World → Prop} {E : Prop} (hw : Region.wanted o (yielded ops a.tmps) = true) (m x v : Operand) (hop : o.op = Op.mapUpdate 56 m x v) (b n : Nat) (r : Int → Option Int) (hm : a.eval m = .map (some b)) (h : MapAs w b n r) (hn : n < 1000000) (k c : Int) (hx : a.eval x = .int .i64 k) (hv : a.eval v = .int .i64 c)
    (hk : (Lit.int .i64 k).wf = true) (hc : (Lit.int .i64 c).wf = true) (hK : ∀ w', MapAs w' b (n + 1) (upd r k (some c)) → w.mapTurned w' b → K (a.put o.dst undef) w') : if Region.wanted o (yielded ops a.tmps) = true then Oper.wp Try.prog o a w K Q else E := by
  rw [if_pos hw]
  obtain ⟨D, h, h1, h2⟩ := h
  obtain ⟨w', hrun, r1, r2⟩ := h.store law Try.underlying56 (by unfold maxLen; omega) (keyOf_int_mk Try.underlying3 hk) (plainElem_int Try.underlying3 hc)
  have hM : MapAs w' b (n + 1) (upd r k (some c)) := by
    refine ⟨_, r1, fun j => ?_, fun j => ?_⟩
    · unfold upd
      by_cases e : j = k
      · subst e; rw [if_pos rfl]; exact has_put_same h.isMap (by trivial) _
      · rw [if_neg e, ← h1 j]; exact has_put_other (kI_ne e) _
    · unfold upd
      by_cases e : j = k
      · subst e; rw [if_pos rfl]; exact atKey_put_same h.isMap (by trivial) _ _
      · rw [if_neg e, ← h2 j]; exact atKey_put_other (kI_ne e) _ _
  unfold Oper.wp
  simp [execOp, hop, hm, hx, hv, hrun, Result.andThen]
  exact hK w' hM r2
end
theorem gate_clear {P : Program} {ops : Array Oper} {rest : List Oper} {o : Oper} {a : Act} {w : World} {Q : Exit → Act → World → Prop} {x : Operand} (_ho : o.op = Op.call { callee := Callee.builtin Builtin.clear, args := #[x], argTypes := #[56] }) (h : wpList P ops Q (o :: rest) a w) : wpList P ops Q (o :: rest) a w := h
end Go.Proofs.Ytbheegamibdbhaa.MapK
