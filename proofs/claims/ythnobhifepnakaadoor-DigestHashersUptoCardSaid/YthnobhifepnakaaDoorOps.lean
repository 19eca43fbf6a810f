/- A script of steps as an argument: opened; place. -/
import Derived.Test.YthnobhifepnakaaDoorOpen
import Derived.Test.YthnobhifepnakaaDoorSteps
import Derived.Test.YthnobhifepnakaaDoorSum
import Derived.Deep.Slices
set_option linter.unusedVariables false
set_option linter.unusedSimpArgs false
namespace Go.Proofs.YthnobhifepnakaaDoor.Ops
open Go.ChangeShapes Go.WideShapes Go.ChangeAt Go.RowKit Go.Proofs.YthnobhifepnakaaDoorW.PrintWords Go.Deep
open Go.Proofs.YthnobhifepnakaaDoor.Base
/-- one step -/
structure Op3 where mk ::
  (kind at_ : Int) (s : ByteArray)
instance : Inhabited Op3 := ⟨⟨0, 0, ⟨#[]⟩⟩⟩
def opL (o : Op3) : List Value := [.int .i64 o.kind, .int .i64 o.at_, .string o.s]
/-- the script's cells -/
def OpsAt (w : World) (A : Option Addr) (l : List Op3) : Prop := ∀ k o, l[k]? = some o → ∃ b off, A = some ⟨b, off, none⟩ ∧ b < w.heap.size ∧ w.rangeAt b (off + k * 3) (opL o)
theorem OpsAt.below {w w1 : World} {A : Option Addr} {l : List Op3} (h : OpsAt w A l) (hb : Below w.heap.size w w1) : OpsAt w1 A l := by
  intro k o hk
  obtain ⟨b, off, hA, hlt, hr⟩ := h k o hk
  exact ⟨b, off, hA, Nat.lt_of_lt_of_le hlt hb.size, fun j v hv => (hb.cell (p := ⟨b, off + k * 3 + j, none⟩) hlt).trans (hr j v hv)⟩
def totalO (l : List Op3) : Nat := (l.map fun o => o.s.size + 1).sum
theorem bulk_parts {H : Type} (D : Nat → DataW H) (l : List Op3) : ∀ n, (∀ i, i < l.length → ∃ d0 d1, D (n + i) = .agg [d0, d1, .lit (.string (l.getD i default).s.data.toList)]) → totalO l ≤ Rows.uptoBulkAll ((List.range' n l.length).map D) := by
  induction l with
  | nil => intro n _; exact Nat.zero_le _
  | cons o l ih =>
    intro n h
    have h0 := h 0 (by simp)
    obtain ⟨d0, d1, h0⟩ := h0
    have := ih (n + 1) (fun i hi => by
      obtain ⟨d0, d1, e⟩ := h (i + 1) (by simpa using hi)
      exact ⟨d0, d1, by rw [show n + 1 + i = n + (i + 1) by omega, e]; simp⟩)
    simp only [totalO, List.map_cons, List.sum_cons, List.length_cons, List.range'_succ, Rows.uptoBulkAll] at this ⊢
    rw [Nat.add_zero] at h0
    rw [h0]
    simp only [Rows.uptoBulk, Rows.uptoBulkAll, List.getD_cons_zero]
    rw [data_length]
    omega
theorem open_ops {H : Type} {enc : TypeId × Value → H} {P : Program} {W : World} {base : Nat} {sp : Nat → Bool} {held : Bool} {t e : TypeId} {f0 f1 f2 : Field} {a0 : Option Addr} {len cap : Nat} {d : DataW H} {p : List MemPlace}
    (ht : P.underlying t = some (.slice e)) (he : P.underlying e = some (.struct #[f0, f1, f2])) (ce : P.cellsOf e = 3) (o0 : f0.offset = 0) (o1 : f1.offset = 1) (o2 : f2.offset = 2) (c0 : P.cellsOf f0.type = 1) (c1 : P.cellsOf f1.type = 1) (c2 : P.cellsOf f2.type = 1)
    (k0 : P.underlying f0.type = some (.int .i64)) (k1 : P.underlying f1.type = some (.int .i64)) (k2 : P.underlying f2.type = some .string)
    (h : DataW.Trod enc P W base sp held t (.slice a0 len cap) d p) :
    ∃ l : List Op3, len = l.length ∧ OpsAt W a0 l ∧ l.length ≤ cap ∧ totalO l ≤ Rows.uptoBulk d := by
  obtain ⟨fuel, hf⟩ := h
  rcases open_slice ht hf with ⟨hcs, hx⟩ | ⟨a, len', cap', m, n, D, Pl, hcs, hb, hl, hm, hmm, hx, hel⟩
  · simp [Value.cells] at hcs
    obtain ⟨rfl, rfl, rfl⟩ := hcs
    exact ⟨[], rfl, fun k o h => by simp at h, Nat.zero_le _, Nat.zero_le _⟩
  · simp [Value.cells] at hcs
    obtain ⟨rfl, rfl, rfl⟩ := hcs
    simp only [Prod.mk.injEq] at hx
    obtain ⟨rfl, _⟩ := hx
    have hlm : len ≤ m := by rw [hmm]; split <;> omega
    have hsp0 : 0 < len → a.spot = none ∧ a.block < W.heap.size := by
      intro h0
      obtain ⟨cs', h1, _⟩ := hel 0 (by omega)
      rw [ce] at h1
      obtain ⟨_, hlen, hcell⟩ := World.cells?_some h1
      match cs', hlen with
      | [v0, v1, v2], _ =>
        have e0 := hcell 0 (by omega)
        simp [Addr.add] at e0
        unfold World.cell? at e0
        constructor
        · cases hs : a.spot with
          | none => rfl
          | some x =>
            simp only [hs] at e0
            split at e0 <;> simp at e0
        · rcases Nat.lt_or_ge a.block W.heap.size with h | h
          · exact h
          · rw [Array.getElem?_eq_none h] at e0
            cases e0
    have each : ∀ i, i < len → ∃ o : Op3, (a.spot = none ∧ a.block < W.heap.size ∧ W.rangeAt a.block (a.off + i * 3) (opL o)) ∧ ∃ d0 d1, D i = .agg [d0, d1, .lit (.string o.s.data.toList)] := by
      intro i hi
      obtain ⟨cs', h1, h2⟩ := hel i (by omega)
      rw [ce] at h1
      obtain ⟨_, hlen, hcell⟩ := World.cells?_some h1
      obtain ⟨xs, k, hk, hxy, _, hxl, hfs⟩ := DataW.trod_struct he h2
      match xs, hxl, cs', hlen with
      | [y0, y1, y2], _, [v0, v1, v2], _ =>
        have g0 := hfs 0 f0 rfl
        have g1 := hfs 1 f1 rfl
        have g2 := hfs 2 f2 rfl
        simp [o0, o1, o2, c0, c1, c2] at g0 g1 g2
        obtain ⟨n0, hv0, hy0, _⟩ := DataW.trod_int k0 g0
        obtain ⟨n1, hv1, hy1, _⟩ := DataW.trod_int k1 g1
        obtain ⟨s2, hv2, hy2, _⟩ := DataW.trod_string k2 g2
        simp at hv0 hv1 hv2
        subst hv0 hv1 hv2
        have e0 := hcell 0 (by omega)
        have e1 := hcell 1 (by omega)
        have e2 := hcell 2 (by omega)
        simp only [Prod.mk.injEq] at hxy
        have hsp := hsp0 (by omega)
        refine ⟨⟨n0, n1, s2⟩, ⟨hsp.1, hsp.2, ?_⟩, y0.1, y1.1, ?_⟩
        · intro j v hv
          have ha : a = ⟨a.block, a.off, none⟩ := by cases a; simp only at hsp; simp [hsp.1]
          have key : ∀ j, j < 3 → W.cell? ⟨a.block, a.off + i * 3 + j, none⟩ = [Value.int .i64 n0, .int .i64 n1, .string s2][j]? := by
            intro j hj
            have := hcell j hj
            rw [ha, Deep.add_add, WideShapes.add_plain] at this
            rw [← this]
            congr 2
            omega
          have hj : j < 3 := by
            rcases Nat.lt_or_ge j 3 with h | h
            · exact h
            · rw [List.getElem?_eq_none (by exact h)] at hv; cases hv
          rw [key j hj]; exact hv
        · rw [hxy.1]; simp [hy2]
    obtain ⟨f, hfo⟩ := choose_lt each
    refine ⟨(List.range len).map f, by simp, ?_, by simpa using hl, ?_⟩
    · intro k o hk
      simp only [List.getElem?_map, Option.map_eq_some_iff] at hk
      obtain ⟨q, hq, rfl⟩ := hk
      have hkl : k < len := by
        rcases Nat.lt_or_ge k len with h | h
        · exact h
        · rw [List.getElem?_eq_none (by simpa using h)] at hq; cases hq
      rw [List.getElem?_range hkl] at hq
      cases hq
      obtain ⟨⟨hs, hlt, hr⟩, _⟩ := hfo k hkl
      refine ⟨a.block, a.off, ?_, hlt, hr⟩
      cases a; simp only at hs; simp [hs]
    · simp only [Rows.uptoBulk]
      have := bulk_parts (H := H) D ((List.range len).map f) 0 (fun i hi => by
        have hil : i < len := by simpa using hi
        obtain ⟨_, d0, d1, e⟩ := hfo i hil
        exact ⟨d0, d1, by rw [Nat.zero_add, e]; simp [List.getD, List.getElem?_range hil]⟩)
      simp only [List.length_map, List.length_range] at this
      rw [← List.range_eq_range'] at this
      omega
/-- which place a number means -/
def pl (n : Int) : Nat := ((n.tmod 4 + 4).tmod 4).toNat
theorem pl_lt (n : Int) : pl n < 4 ∧ (n.tmod 4 + 4).tmod 4 = (pl n : Int) ∧ -4 < n.tmod 4 ∧ n.tmod 4 < 4 := by
  have h1 := Int.tmod_lt_of_pos n (show (0 : Int) < 4 by decide)
  have h2 := Int.lt_tmod_of_pos n (show (0 : Int) < 4 by decide)
  have h3 := Int.tmod_nonneg 4 (show 0 ≤ n.tmod 4 + 4 by omega)
  have h4 := Int.tmod_lt_of_pos (n.tmod 4 + 4) (show (0 : Int) < 4 by decide)
  unfold pl
  omega
theorem place_any (n : Int) (w : World) : Calls Tryd.prog 46 #[.int .i64 n] w fun e w' => e = .returned (.int .i64 (pl n : Nat)) ∧ w = w' := by
  obtain ⟨h1, h2, h3, h4⟩ := pl_lt n
  generalize pl n = p at h1 h2
  go_enter Tryd.func46, Tryd.ntmps46
  go_wp2
  go_ret
  exact ⟨rfl, rfl⟩
end Go.Proofs.YthnobhifepnakaaDoor.Ops
