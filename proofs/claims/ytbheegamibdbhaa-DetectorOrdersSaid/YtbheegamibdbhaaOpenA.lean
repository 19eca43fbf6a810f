/- A script of steps as an argument. -/
import Derived.Test.YtbheegamibdbhaaOpenD
import Derived.Test.YtbheegamibdbhaaApart
import Derived.Deep.Slices
set_option linter.unusedVariables false
set_option linter.unusedSimpArgs false
namespace Go.Proofs.Ytbheegamibdbhaa.OpenA
open Go.ChangeShapes Go.WideShapes Go.ChangeAt Go.RowKit Go.Proofs.YtbheegamibdbhaaW.PrintWords Go.Deep
open Go.Proofs.Ytbheegamibdbhaa.Apart
instance : Inhabited S3 := ⟨⟨0, 0, none, 0, 0⟩⟩
theorem open_steps {H : Type} {enc : TypeId × Value → H} {P : Program} {W : World} {base : Nat} {sp : Nat → Bool} {held : Bool} {t e : TypeId} {f0 f1 f2 : Field} {a0 : Option Addr} {len cap : Nat} {d : DataW H} {p : List MemPlace}
    (ht : P.underlying t = some (.slice e)) (he : P.underlying e = some (.struct #[f0, f1, f2])) (ce : P.cellsOf e = 3) (o0 : f0.offset = 0) (o1 : f1.offset = 1) (o2 : f2.offset = 2) (c0 : P.cellsOf f0.type = 1) (c1 : P.cellsOf f1.type = 1) (c2 : P.cellsOf f2.type = 1)
    (k0 : P.underlying f0.type = some (.int .i64)) (k1 : P.underlying f1.type = some (.int .i64)) {q : TypeId} (k2 : P.underlying f2.type = some (.slice q))
    (h : DataW.Trod enc P W base sp held t (.slice a0 len cap) d p) :
    ∃ l : List S3, len = l.length ∧ StepsAt W a0 l ∧ l.length ≤ cap ∧ l.length ≤ 9223372036854775807 := by
  obtain ⟨fuel, hf⟩ := h
  rcases open_slice ht hf with ⟨hcs, hx⟩ | ⟨a, len', cap', m, n, D, Pl, hcs, hb, hl, hm, hmm, hx, hel⟩
  · simp [Value.cells] at hcs
    obtain ⟨rfl, rfl, rfl⟩ := hcs
    exact ⟨[], rfl, fun k o h => by simp at h, Nat.zero_le _, Nat.zero_le _⟩
  · simp [Value.cells] at hcs
    obtain ⟨rfl, rfl, rfl⟩ := hcs
    simp only [Prod.mk.injEq] at hx
    obtain ⟨rfl, _⟩ := hx
    have hlm : len ≤ m := by rw [hmm]; split <;> omega
    have hsp0 : 0 < len → a.spot = none ∧ a.block < W.heap.size := by
      intro h0
      obtain ⟨cs', h1, _⟩ := hel 0 (by omega)
      rw [ce] at h1
      obtain ⟨_, hlen, hcell⟩ := World.cells?_some h1
      match cs', hlen with
      | [v0, v1, v2], _ =>
        have e0 := hcell 0 (by omega)
        simp [Addr.add] at e0
        unfold World.cell? at e0
        constructor
        · cases hs : a.spot with
          | none => rfl
          | some x =>
            simp only [hs] at e0
            split at e0 <;> simp at e0
        · rcases Nat.lt_or_ge a.block W.heap.size with h | h
          · exact h
          · rw [Array.getElem?_eq_none h] at e0
            cases e0
    have each : ∀ i, i < len → ∃ o : S3, (a.spot = none ∧ a.block < W.heap.size ∧ W.rangeAt a.block (a.off + i * 3) o.L) := by
      intro i hi
      obtain ⟨cs', h1, h2⟩ := hel i (by omega)
      rw [ce] at h1
      obtain ⟨_, hlen, hcell⟩ := World.cells?_some h1
      obtain ⟨xs, k, hk, hxy, _, hxl, hfs⟩ := DataW.trod_struct he h2
      match xs, hxl, cs', hlen with
      | [y0, y1, y2], _, [v0, v1, v2], _ =>
        have g0 := hfs 0 f0 rfl
        have g1 := hfs 1 f1 rfl
        have g2 := hfs 2 f2 rfl
        simp [o0, o1, o2, c0, c1, c2] at g0 g1 g2
        obtain ⟨n0, hv0, hy0, _⟩ := DataW.trod_int k0 g0
        obtain ⟨n1, hv1, hy1, _⟩ := DataW.trod_int k1 g1
        have hv2 : ∃ a ln cp, v2 = .slice a ln cp := by
          rcases open_slice k2 g2 with ⟨hcs, _⟩ | ⟨a', len'', cap'', _, _, _, _, hcs, _⟩
          · simp at hcs; exact ⟨_, _, _, hcs⟩
          · simp at hcs; exact ⟨_, _, _, hcs⟩
        obtain ⟨sa, sl, sc, rfl⟩ := hv2
        simp at hv0 hv1
        subst hv0 hv1
        have e0 := hcell 0 (by omega)
        have e1 := hcell 1 (by omega)
        have e2 := hcell 2 (by omega)
        simp only [Prod.mk.injEq] at hxy
        have hsp := hsp0 (by omega)
        refine ⟨⟨n0, n1, sa, sl, sc⟩, hsp.1, hsp.2, ?_⟩
        · intro j v hv
          have ha : a = ⟨a.block, a.off, none⟩ := by cases a; simp only at hsp; simp [hsp.1]
          have key : ∀ j, j < 3 → W.cell? ⟨a.block, a.off + i * 3 + j, none⟩ = [Value.int .i64 n0, .int .i64 n1, .slice sa sl sc][j]? := by
            intro j hj
            have := hcell j hj
            rw [ha, Deep.add_add, WideShapes.add_plain] at this
            rw [← this]
            congr 2
            omega
          have hj : j < 3 := by
            rcases Nat.lt_or_ge j 3 with h | h
            · exact h
            · rw [List.getElem?_eq_none (by exact h)] at hv; cases hv
          rw [key j hj]; exact hv
    obtain ⟨f, hfo⟩ := choose_lt each
    refine ⟨(List.range len).map f, by simp, ?_, by simpa using hl, ?_⟩
    · intro k o hk
      simp only [List.getElem?_map, Option.map_eq_some_iff] at hk
      obtain ⟨q, hq, rfl⟩ := hk
      have hkl : k < len := by
        rcases Nat.lt_or_ge k len with h | h
        · exact h
        · rw [List.getElem?_eq_none (by simpa using h)] at hq; cases hq
      rw [List.getElem?_range hkl] at hq
      cases hq
      obtain ⟨hs, hlt, hr⟩ := hfo k hkl
      refine ⟨a.block, a.off, ?_, hlt, hr⟩
      cases a; simp only at hs; simp [hs]
    · simpa using (by have : maxLen = 9223372036854775807 := rfl; omega : len ≤ 9223372036854775807)
end Go.Proofs.Ytbheegamibdbhaa.OpenA
