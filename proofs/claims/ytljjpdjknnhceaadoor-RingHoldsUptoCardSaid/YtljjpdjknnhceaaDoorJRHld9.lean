/- Joined texts of this claim: AppR -/
import Derived.Test.YtljjpdjknnhceaaDoorJRHld0
import Derived.Test.YtljjpdjknnhceaaDoorJRHld8
import Derived.Test.YtljjpdjknnhceaaDoorJRHld4
import Derived.Great.BuildSlice
import Derived.Deep.AppendLies
import Derived.Deep.RegionHeld3
import Derived.StillTailTactics
set_option linter.unusedVariables false
set_option linter.unusedSimpArgs false
/- append in a region that draws its order. -/
set_option linter.unusedVariables false
set_option linter.unusedSimpArgs false
namespace Go.Proofs.YtljjpdjknnhceaaDoor.AppR
open Go.RowKit Go.Proofs.YtljjpdjknnhceaaDoorW.PrintWords Go.Proofs.YtljjpdjknnhceaaDoorW.PrintLast Go.Proofs.YtljjpdjknnhceaaDoorW.PrintMore
open Go.Proofs.YtljjpdjknnhceaaDoor.Base Go.Proofs.YtljjpdjknnhceaaDoor.App
theorem own_form {w : World} {base : Nat} {e : TypeId} {size n : Nat} {v : Value} {xs : List Value} (h : w.ownsRow base e size v n xs) : ∃ A c, v = .slice A n c ∧ n ≤ c := by
  rcases h.2 with ⟨rfl, rfl⟩ | ⟨g, cap, cur, rfl, _, _, hnc, _⟩
  · exact ⟨none, 0, rfl, Nat.le_refl _⟩
  · exact ⟨some ⟨g, 0, none⟩, cap, rfl, hnc⟩
section
variable {P : Program} {ops : Array Oper} {rest : List Oper} {o : Oper} {a : Act} {Q : Exit → Act → World → Prop} {K : Act → World → Prop} {E : Prop}
/-- append(v, u...): v the call's own, u anywhere: one operation -/
theorem wp_append_any {W : World} (base : Nat) (s x : Operand) (t e : TypeId) (z : Value) (size bytes : Nat)
    (ho : o.op = .call { callee := .builtin .append, args := #[s, x], argTypes := #[t, t] })
    (ht : P.underlying t = some (.slice e)) (hinfo : (P.info? e).map (fun i => (i.zero, i.size, i.bytes)) = some (some z, size, bytes)) (hz : z.cells.size = size) (hs0 : 0 < size) (hb0 : 0 < bytes)
    (v : Value) (n : Nat) (xs : List Value) (A : Option Addr) (m c : Nat) (ys : List Value) (hs : a.eval s = v) (hx : a.eval x = .slice A m c) (hm : ys.length = m * size) (h1 : ∀ u ∈ ys, u.oneCell' = true)
    (hc : (A = none ∧ m = 0 ∧ c = 0) ∨ ∃ d, A = some d ∧ ∀ j u, ys[j]? = some u → W.cell? (d.add j) = some u)
    (HO : W.ownsRow base e size v n xs) (hbase : base ≤ W.heap.size) (hl : (n + m) * bytes ≤ 140737488355328) (L : Nat) (hL : n + m = L)
    (h : ∀ A1 c1 w1, L ≤ c1 → w1.ownsRow base e size (.slice A1 L c1) L (xs ++ ys) → W.grownBy w1 v.ownBlock → K (a.put o.dst (.slice A1 L c1)) w1) :
    Oper.wp P o a W K Q := by
  subst hL
  obtain ⟨i0, hi, hzz⟩ := Option.map_eq_some_iff.1 hinfo
  simp only [Prod.mk.injEq] at hzz
  obtain ⟨hz0, hz1, hz2⟩ := hzz
  rcases hc with ⟨rfl, rfl, rfl⟩ | ⟨d, rfl, hcell⟩
  · have hy : ys = [] := List.eq_nil_of_length_eq_zero (by simpa using hm)
    subst hy
    have hr : (Builtin.append_ #[t, t] o.type #[v, .slice none 0 0]).run P W = .ok v W := by
      rcases HO.2 with ⟨rfl, hn⟩ | ⟨g, cap, cur, rfl, _, _, hnc, _⟩
      · simp [Builtin.append_, run_underlying ht, sizeOf, typeInfo, hi, Builtin.lenOf, Builtin.firstCells]
      · simp [Builtin.append_, run_underlying ht, sizeOf, typeInfo, hi, Builtin.lenOf, Builtin.firstCells, hnc, storeCells]
    obtain ⟨A1, c1, rfl, hle⟩ := own_form HO
    unfold Oper.wp execOp
    simp only [ho, resolve, invoke, builtin, Sem.run_bind, Sem.run_pure, Result.andThen_ok, List.map_toArray, List.map_cons, List.map_nil, hs, hx, hr]
    exact h A1 c1 W (by simpa using hle) (by simpa using HO) ⟨rfl, rfl, rfl, Nat.le_refl _, fun _ _ _ => rfl⟩
  · have hlen : n + m ≤ 140737488355328 := Nat.le_trans (Nat.le_mul_of_pos_right _ hb0) hl
    obtain ⟨v1, w1, hr, hown, hg, _⟩ := run_append_own (P := P) W base t o.type e i0 z size bytes ht hi hz0 hz1 hz2 hz hs0 v n xs HO d m c ys hm hcell h1 (by simp only [maxLen]; omega) hl hbase
    obtain ⟨A1, c1, rfl, hle⟩ := own_form hown
    unfold Oper.wp execOp
    simp only [ho, resolve, invoke, builtin, Sem.run_bind, Sem.run_pure, Result.andThen_ok, List.map_toArray, List.map_cons, List.map_nil, hs, hx, hr]
    exact h A1 c1 w1 hle hown hg
/-- .. in a region that draws its order -/
theorem step_append_any {W : World} (hgd : o.guard = none) (base : Nat) (s x : Operand) (t e : TypeId) (z : Value) (size bytes : Nat)
    (ho : o.op = .call { callee := .builtin .append, args := #[s, x], argTypes := #[t, t] })
    (ht : P.underlying t = some (.slice e)) (hinfo : (P.info? e).map (fun i => (i.zero, i.size, i.bytes)) = some (some z, size, bytes)) (hz : z.cells.size = size) (hs0 : 0 < size) (hb0 : 0 < bytes)
    (v : Value) (n : Nat) (xs : List Value) (A : Option Addr) (m c : Nat) (ys : List Value) (hs : a.eval s = v) (hx : a.eval x = .slice A m c) (hm : ys.length = m * size) (h1 : ∀ u ∈ ys, u.oneCell' = true)
    (hc : (A = none ∧ m = 0 ∧ c = 0) ∨ ∃ d, A = some d ∧ ∀ j u, ys[j]? = some u → W.cell? (d.add j) = some u)
    (HO : W.ownsRow base e size v n xs) (hbase : base ≤ W.heap.size) (hl : (n + m) * bytes ≤ 140737488355328) (L : Nat) (hL : n + m = L)
    (h : ∀ A1 c1 w1, L ≤ c1 → w1.ownsRow base e size (.slice A1 L c1) L (xs ++ ys) → W.grownBy w1 v.ownBlock → K (a.put o.dst (.slice A1 L c1)) w1) :
    if Region.wanted o (yielded ops a.tmps) = true then Oper.wp P o a W K Q else E := by
  rw [if_pos (by simp [Region.wanted, hgd])]
  exact wp_append_any base s x t e z size bytes ho ht hinfo hz hs0 hb0 v n xs A m c ys hs hx hm h1 hc HO hbase hl L hL h
/-- .. in a region that draws nothing -/
theorem list_append_any {W : World} (hgd : o.guard = none) (base : Nat) (s x : Operand) (t e : TypeId) (z : Value) (size bytes : Nat)
    (ho : o.op = .call { callee := .builtin .append, args := #[s, x], argTypes := #[t, t] })
    (ht : P.underlying t = some (.slice e)) (hinfo : (P.info? e).map (fun i => (i.zero, i.size, i.bytes)) = some (some z, size, bytes)) (hz : z.cells.size = size) (hs0 : 0 < size) (hb0 : 0 < bytes)
    (v : Value) (n : Nat) (xs : List Value) (A : Option Addr) (m c : Nat) (ys : List Value) (hs : a.eval s = v) (hx : a.eval x = .slice A m c) (hm : ys.length = m * size) (h1 : ∀ u ∈ ys, u.oneCell' = true)
    (hc : (A = none ∧ m = 0 ∧ c = 0) ∨ ∃ d, A = some d ∧ ∀ j u, ys[j]? = some u → W.cell? (d.add j) = some u)
    (HO : W.ownsRow base e size v n xs) (hbase : base ≤ W.heap.size) (hl : (n + m) * bytes ≤ 140737488355328) (L : Nat) (hL : n + m = L)
    (h : ∀ A1 c1 w1, L ≤ c1 → w1.ownsRow base e size (.slice A1 L c1) L (xs ++ ys) → W.grownBy w1 v.ownBlock → wpList P ops Q rest (a.put o.dst (.slice A1 L c1)) w1) :
    wpList P ops Q (o :: rest) a W :=
  wpList_plain hgd fun _ hK => wp_append_any base s x t e z size bytes ho ht hinfo hz hs0 hb0 v n xs A m c ys hs hx hm h1 hc HO hbase hl L hL (fun A1 c1 w1 p q r => hK _ _ (h A1 c1 w1 p q r))
theorem gate_call {fn : Callee} {args : Array Operand} {ts : Array TypeId} {w : World} (_ho : o.op = .call { callee := fn, args := args, argTypes := ts }) (h : wpList P ops Q (o :: rest) a w) : wpList P ops Q (o :: rest) a w := h
end
end Go.Proofs.YtljjpdjknnhceaaDoor.AppR
