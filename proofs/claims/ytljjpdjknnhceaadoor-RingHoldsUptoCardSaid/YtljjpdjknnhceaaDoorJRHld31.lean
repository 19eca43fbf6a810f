/- Joined texts of this claim: OpenC -/
import Derived.Test.YtljjpdjknnhceaaDoorRows
import Derived.Test.YtljjpdjknnhceaaDoorJRHld0
import Derived.Test.YtljjpdjknnhceaaDoorJRHld30
import Derived.ProofKit
import Derived.Lib.SmallJoins
import Derived.Deep.Slices
set_option linter.unusedVariables false
set_option linter.unusedSimpArgs false
/- A definition as an argument. -/
set_option linter.unusedVariables false
set_option linter.unusedSimpArgs false
namespace Go.Proofs.YtljjpdjknnhceaaDoor.OpenC
open Go.ChangeShapes Go.WideShapes Go.ChangeAt Go.RowKit Go.Joins Go.Deep
open Go.Proofs.YtljjpdjknnhceaaDoorW.PrintWords
open Go.Proofs.YtljjpdjknnhceaaDoor.Base Go.Proofs.YtljjpdjknnhceaaDoor.RingPure Go.Proofs.YtljjpdjknnhceaaDoor.ChkPure Go.Proofs.YtljjpdjknnhceaaDoor.Clus
theorem list23 {α : Type} {l : List α} (h : l.length = 23) : ∃ c0 c1 c2 c3 c4 c5 c6 c7 c8 c9 c10 c11 c12 c13 c14 c15 c16 c17 c18 c19 c20 c21 c22, l = [c0, c1, c2, c3, c4, c5, c6, c7, c8, c9, c10, c11, c12, c13, c14, c15, c16, c17, c18, c19, c20, c21, c22] := by
  match l, h with
  | [c0, c1, c2, c3, c4, c5, c6, c7, c8, c9, c10, c11, c12, c13, c14, c15, c16, c17, c18, c19, c20, c21, c22], _ => exact ⟨c0, c1, c2, c3, c4, c5, c6, c7, c8, c9, c10, c11, c12, c13, c14, c15, c16, c17, c18, c19, c20, c21, c22, rfl⟩
theorem c3 : Tryd.prog.cellsOf 3 = 1 := by kernel_rfl
theorem c9 : Tryd.prog.cellsOf 9 = 1 := by kernel_rfl
theorem cC : Tryd.prog.cellsOf 24 = 23 := by kernel_rfl
theorem cN : Tryd.prog.cellsOf 56 = 2 := by kernel_rfl
theorem cI : Tryd.prog.cellsOf 36 = 1 := by kernel_rfl
theorem cS : Tryd.prog.cellsOf 22 = 1 := by kernel_rfl
theorem spot_none {w : World} {a : Addr} {v : Value} (h : w.cell? a = some v) : a = ⟨a.block, a.off, none⟩ := by
  cases a with
  | mk b o s =>
    cases s with
    | none => rfl
    | some x =>
      unfold World.cell? at h
      split at h
      · simp at h
      · cases h
theorem add_none (b o j : Nat) : (⟨b, o, none⟩ : Addr).add j = ⟨b, o + j, none⟩ := by unfold Addr.add; split <;> simp_all
theorem add_zero (a : Addr) : a.add 0 = a := by unfold Addr.add; simp
theorem bulk_lits {H : Type} (k : IntKind) (zs : List Int) : Rows.uptoBulkAll (lits (H := H) k zs) = zs.length := by
  induction zs with
  | nil => rfl
  | cons s l ih =>
    simp only [lits, List.map_cons, Rows.uptoBulkAll, Rows.uptoBulk, List.length_cons] at ih ⊢
    rw [ih]; omega
theorem bulk_nodes {H : Type} (D : Nat → DataW H) (l : List Nd) : ∀ n, (∀ i x, l[i]? = some x → 1 + x.2.length ≤ Rows.uptoBulk (D (n + i))) → l.length + cnt l ≤ Rows.uptoBulkAll ((List.range' n l.length).map D) := by
  induction l with
  | nil => intro n _; exact Nat.zero_le _
  | cons o l ih =>
    intro n h
    have h0 := h 0 o rfl
    have := ih (n + 1) (fun i x hi => by
      have e := h (i + 1) x (by simpa using hi)
      rw [show n + 1 + i = n + (i + 1) by omega]
      exact e)
    have h3 : cnt (o :: l) = o.2.length + cnt l := by simp [cnt]
    rw [h3]
    simp only [List.length_cons, List.range'_succ, List.map_cons, Rows.uptoBulkAll] at this ⊢
    rw [Nat.add_zero] at h0
    omega
/-- a list of numbers in a cell -/
theorem open_list {H : Type} {enc : TypeId × Value → H} {W : World} {base fuel : Nat} {sp : Nat → Bool} {held : Bool} {cs : List Value} {d : DataW H × List MemPlace}
    (hf : DataW.trod enc Tryd.prog W base sp held fuel 36 cs = some d) : ∃ (l : List Int) (B : Option Addr) (c : Nat), cs = [.slice B l.length c] ∧ (l.length ≤ c ∧ SlOK B l.length c) ∧ NumsAt W B l ∧ l.length ≤ Rows.uptoBulk d.1 := by
  rcases open_ints Tryd.underlying36 Tryd.underlying3 c3 hf with ⟨hcs, hx⟩ | ⟨x, l, c, zs, hcs, _, hl, hm, hss, hx, hcell, hws⟩
  · exact ⟨[], none, 0, hcs, ⟨Nat.le_refl _, .inl ⟨rfl, rfl, rfl⟩⟩, .inl rfl, Nat.zero_le _⟩
  · have hge : l ≤ zs.length := by rw [hss]; split <;> omega
    have hlen : (zs.take l).length = l := by simp; omega
    refine ⟨zs.take l, some x, c, by rw [hlen]; exact hcs, ⟨by omega, .inr ⟨x, rfl⟩⟩, ?_, ?_⟩
    · by_cases h0 : l = 0
      · left; subst h0; rfl
      · right
        have h1 := hcell 0 (by omega)
        rw [add_zero] at h1
        have hx2 := spot_none h1
        refine ⟨x.block, x.off, by rw [← hx2], fun i y hy => ?_⟩
        have hil : i < l := by have := (List.getElem?_eq_some_iff.1 hy).1; omega
        have h2 := hcell i (by omega)
        rw [hx2, add_none] at h2
        rw [h2]
        rw [List.getElem?_take, if_pos hil] at hy
        simp [List.getD_eq_getElem?_getD, hy]
    · rw [hx]
      simp only [Rows.uptoBulk]
      rw [bulk_lits]; omega
/-- the list of the nodes in a cell -/
theorem open_nodes {H : Type} {enc : TypeId × Value → H} {W : World} {base fuel : Nat} {sp : Nat → Bool} {held : Bool} {cs : List Value} {d : DataW H × List MemPlace}
    (hf : DataW.trod enc Tryd.prog W base sp held fuel 22 cs = some d) : ∃ (ns : List Nd) (A : Option Addr) (cap : Nat), cs = [.slice A ns.length cap] ∧ ns.length ≤ cap ∧ NodesAt W A ns ∧ ns.length + cnt ns ≤ Rows.uptoBulk d.1 := by
  rcases open_slice Tryd.underlying22 hf with ⟨hcs, hx⟩ | ⟨a, len, cap, m, k, D, Pl, hcs, hb, hl, hm, hmm, hx, hel⟩
  · exact ⟨[], none, 0, hcs, Nat.le_refl _, .inl rfl, Nat.zero_le _⟩
  · have hlm : len ≤ m := by rw [hmm]; split <;> omega
    have each : ∀ i, i < len → ∃ x : Nd, (∃ B c, W.cell? (a.add (i * 2)) = some (.int .i64 x.1) ∧ W.cell? ((a.add (i * 2)).add 1) = some (.slice B x.2.length c) ∧ (x.2.length ≤ c ∧ SlOK B x.2.length c) ∧ NumsAt W B x.2) ∧ 1 + x.2.length ≤ Rows.uptoBulk (D i) := by
      intro i hi
      obtain ⟨cs', h1, h2⟩ := hel i (by omega)
      rw [cN] at h1
      obtain ⟨_, hlen, hcell⟩ := World.cells?_some h1
      obtain ⟨y0, y1, k2, hxy, _, g0, g1⟩ := trod_struct2 Tryd.underlying56 h2
      simp only [c3, cI, List.drop_zero] at g0 g1
      obtain ⟨z, hz1, _, _⟩ := DataW.trod_int Tryd.underlying3 g0
      obtain ⟨l, B, c, hl1, hl2, hl3, hl4⟩ := open_list g1
      have hcs' : cs' = [.int .i64 z, .slice B l.length c] := by
        have e : cs' = cs'.take 1 ++ (cs'.drop 1).take 1 := by
          have e2 : (cs'.drop 1).take 1 = cs'.drop 1 := List.take_of_length_le (by rw [List.length_drop, hlen]; decide)
          rw [e2, List.take_append_drop]
        rw [e, hz1, hl1]
        rfl
      refine ⟨(z, l), ⟨B, c, ?_, ?_, hl2, hl3⟩, ?_⟩
      · have := hcell 0 (by omega)
        rw [hcs', add_zero] at this
        exact this
      · have := hcell 1 (by omega)
        rw [hcs'] at this
        exact this
      · have hD : D i = .agg [y0.1, y1.1] := by simpa using congrArg Prod.fst hxy
        rw [hD]
        simp only [Rows.uptoBulk, Rows.uptoBulkAll]
        have := bulks.one_le y0.1
        show 1 + l.length ≤ _
        omega
    obtain ⟨f, hfo⟩ := choose_lt each
    have hget : ∀ i x, ((List.range len).map f)[i]? = some x → i < len ∧ f i = x := by
      intro i x hx
      simp only [List.getElem?_map, Option.map_eq_some_iff] at hx
      obtain ⟨q, hq, rfl⟩ := hx
      have hkl : i < len := by
        rcases Nat.lt_or_ge i len with h | h
        · exact h
        · rw [List.getElem?_eq_none (by simpa using h)] at hq; cases hq
      rw [List.getElem?_range hkl] at hq
      cases hq
      exact ⟨hkl, rfl⟩
    refine ⟨(List.range len).map f, some a, cap, by simpa using hcs, by simpa using hl, ?_, ?_⟩
    · by_cases h0 : len = 0
      · left; subst h0; rfl
      · right
        obtain ⟨⟨B0, c0, k0, _⟩, _⟩ := hfo 0 (by omega)
        rw [Nat.zero_mul, add_zero] at k0
        have ha := spot_none k0
        refine ⟨a.block, a.off, by rw [← ha], fun i x hi => ?_⟩
        obtain ⟨hil, rfl⟩ := hget i x hi
        obtain ⟨⟨B, c, k1, k2, k3, k4⟩, _⟩ := hfo i hil
        rw [ha, add_none] at k1 k2
        rw [add_none] at k2
        exact ⟨k1, B, c, k2, k3, k4⟩
    · rw [hx]
      simp only [Rows.uptoBulk]
      have := bulk_nodes (H := H) D ((List.range len).map f) 0 (fun i x hi => by
        obtain ⟨hk, rfl⟩ := hget i x hi
        rw [Nat.zero_add]
        exact (hfo i hk).2)
      simp only [List.length_map, List.length_range] at this ⊢
      rw [← List.range_eq_range'] at this
      omega
set_option maxRecDepth 100000 in
set_option maxHeartbeats 2000000 in
theorem open_cluster {H : Type} {enc : TypeId × Value → H} {W : World} {r : Reach} {b0 base : Nat} {sp : Nat → Bool} {held : Bool} {v : Value} {d : DataW H} {p : List MemPlace}
    (hv : Value.okWide Tryd.prog W r b0 24 v) (h : DataW.Trod enc Tryd.prog W base sp held 24 v d p) :
    ∃ (c : Cl) (A : Option Addr) (cap : Nat) (ns : List Nd), v = .agg (cL c (.slice A ns.length cap)).toArray ∧ NodesAt W A ns ∧ ns.length ≤ cap ∧ c.store.size + ns.length + cnt ns ≤ Rows.uptoBulk d := by
  obtain ⟨⟨l⟩, rfl, hsz⟩ := okWide_struct Tryd.underlying24 hv
  rw [cC] at hsz
  obtain ⟨x0, x1, x2, x3, x4, x5, x6, x7, x8, x9, x10, x11, x12, x13, x14, x15, x16, x17, x18, x19, x20, x21, x22, rfl⟩ := list23 (l := l) (by simpa using hsz)
  obtain ⟨fuel, hf⟩ := h
  obtain ⟨xs, n, _, hd, _, hxl, hg⟩ := DataW.trod_struct Tryd.underlying24 hf
  obtain ⟨u0, u1, u2, u3, u4, u5, u6, u7, u8, u9, u10, u11, u12, u13, u14, u15, u16, u17, u18, u19, u20, u21, u22, rfl⟩ := list23 (l := xs) hxl
  have g0 := hg 0 _ rfl
  have g1 := hg 1 _ rfl
  have g2 := hg 2 _ rfl
  have g3 := hg 3 _ rfl
  have g4 := hg 4 _ rfl
  have g5 := hg 5 _ rfl
  have g6 := hg 6 _ rfl
  have g7 := hg 7 _ rfl
  have g8 := hg 8 _ rfl
  have g9 := hg 9 _ rfl
  have g10 := hg 10 _ rfl
  have g11 := hg 11 _ rfl
  have g12 := hg 12 _ rfl
  have g13 := hg 13 _ rfl
  have g14 := hg 14 _ rfl
  have g15 := hg 15 _ rfl
  have g16 := hg 16 _ rfl
  have g17 := hg 17 _ rfl
  have g18 := hg 18 _ rfl
  have g19 := hg 19 _ rfl
  have g20 := hg 20 _ rfl
  have g21 := hg 21 _ rfl
  have g22 := hg 22 _ rfl
  simp only [c3, c9, cS, Value.cells, List.drop_succ_cons, List.drop_zero, List.take_succ_cons, List.take_zero, List.getElem_toArray, List.getElem_cons_zero, List.getElem_cons_succ, List.getElem?_cons_zero, List.getElem?_cons_succ] at g0 g1 g2 g3 g4 g5 g6 g7 g8 g9 g10 g11 g12 g13 g14 g15 g16 g17 g18 g19 g20 g21 g22
  obtain ⟨a0, e0, z0, _⟩ := DataW.trod_string Tryd.underlying9 g0
  obtain ⟨a1, e1, _, _⟩ := DataW.trod_int Tryd.underlying3 g1
  obtain ⟨a2, e2, _, _⟩ := DataW.trod_int Tryd.underlying3 g2
  obtain ⟨a3, e3, _, _⟩ := DataW.trod_int Tryd.underlying3 g3
  obtain ⟨a4, e4, _, _⟩ := DataW.trod_int Tryd.underlying3 g4
  obtain ⟨a5, e5, _, _⟩ := DataW.trod_int Tryd.underlying3 g5
  obtain ⟨a6, e6, _, _⟩ := DataW.trod_int Tryd.underlying3 g6
  obtain ⟨a7, e7, _, _⟩ := DataW.trod_int Tryd.underlying3 g7
  obtain ⟨a8, e8, _, _⟩ := DataW.trod_int Tryd.underlying3 g8
  obtain ⟨a9, e9, _, _⟩ := DataW.trod_int Tryd.underlying3 g9
  obtain ⟨a10, e10, _, _⟩ := DataW.trod_int Tryd.underlying3 g10
  obtain ⟨a11, e11, _, _⟩ := DataW.trod_int Tryd.underlying3 g11
  obtain ⟨a12, e12, _, _⟩ := DataW.trod_int Tryd.underlying3 g12
  obtain ⟨a13, e13, _, _⟩ := DataW.trod_int Tryd.underlying3 g13
  obtain ⟨a14, e14, _, _⟩ := DataW.trod_int Tryd.underlying3 g14
  obtain ⟨a15, e15, _, _⟩ := DataW.trod_int Tryd.underlying3 g15
  obtain ⟨a16, e16, _, _⟩ := DataW.trod_int Tryd.underlying3 g16
  obtain ⟨a17, e17, _, _⟩ := DataW.trod_int Tryd.underlying3 g17
  obtain ⟨a18, e18, _, _⟩ := DataW.trod_int Tryd.underlying3 g18
  obtain ⟨a19, e19, _, _⟩ := DataW.trod_int Tryd.underlying3 g19
  obtain ⟨a20, e20, _, _⟩ := DataW.trod_int Tryd.underlying3 g20
  obtain ⟨a21, e21, _, _⟩ := DataW.trod_int Tryd.underlying3 g21
  obtain ⟨ns, A, cap, e22, hcap, hN, hbk⟩ := open_nodes g22
  simp only [List.cons.injEq, and_true] at e0 e1 e2 e3 e4 e5 e6 e7 e8 e9 e10 e11 e12 e13 e14 e15 e16 e17 e18 e19 e20 e21 e22
  subst e0 e1 e2 e3 e4 e5 e6 e7 e8 e9 e10 e11 e12 e13 e14 e15 e16 e17 e18 e19 e20 e21 e22
  refine ⟨⟨a0, a1, a2, a3, a4, a5, a6, a7, a8, a9, a10, a11, a12, a13, a14, a15, a16, a17, a18, a19, a20, a21⟩, A, cap, ns, rfl, hN, hcap, ?_⟩
  have hd2 := congrArg Prod.fst hd
  simp only at hd2
  rw [hd2]
  have h0 : a0.size ≤ Rows.uptoBulk u0.1 := by
    rw [z0]
    simp only [Rows.uptoBulk, Array.length_toList]
    have : a0.data.size = a0.size := rfl
    omega
  simp only [List.map_cons, List.map_nil, Rows.uptoBulk, Rows.uptoBulkAll]
  show a0.size + _ + _ ≤ _
  omega
end Go.Proofs.YtljjpdjknnhceaaDoor.OpenC
