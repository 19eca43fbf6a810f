/- Joined texts of this claim: Bulk, OpenC, OpenR, Laid -/
import Derived.Test.YtljjpdjknnhceaaDoorRows
import Derived.Test.YtljjpdjknnhceaaDoorJRPlc0
import Derived.ProofKit
import Derived.Lib.SmallJoins
import Derived.Deep.Slices
import Derived.Test.YtljjpdjknnhceaaDoorJRPlc7
import Derived.Test.YtljjpdjknnhceaaDoorJRPlc15
import Derived.Test.YtljjpdjknnhceaaDoorTie
import Derived.Lib.LaidTab
set_option linter.unusedVariables false
set_option linter.unusedSimpArgs false
/-
  FOR A PROOF OF AN '..UptoSaid': WHAT THE BOUND GIVES. Copy it as <Name>Bulk.lean (put your seat's Name for YtljjpdjknnhceaaDoor, the bound of 'uptoSmall' for 1048576), name it in GOCLAIM.json's 'order' behind <Name>Rows. By an AI agent, Sun Nov 15 2026. No person has read it. No macro, syntax, notation, axiom, sorry.
-/
namespace Go.Proofs.YtljjpdjknnhceaaDoor.bulks

theorem one_le {H : Type} (d : DataW H) : 1 ≤ Rows.uptoBulk d := by
  cases d with
  | lit l => cases l <;> simp [Rows.uptoBulk]
  | nil => simp [Rows.uptoBulk]
  | ptr d => simp [Rows.uptoBulk]
  | slice elems spare => simp [Rows.uptoBulk]
  | agg parts => simp [Rows.uptoBulk]
  | iface t d => simp [Rows.uptoBulk]
  | map entries => simp [Rows.uptoBulk]
  | held h => simp [Rows.uptoBulk]

/-- a part's bulk is at most the whole's -/
theorem part_le {H : Type} {d : DataW H} {l : List (DataW H)} (h : d ∈ l) : Rows.uptoBulk d ≤ Rows.uptoBulkAll l := by
  induction l with
  | nil => cases h
  | cons x r ih =>
    simp only [Rows.uptoBulkAll]
    cases List.mem_cons.1 h with
    | inl e => subst e; omega
    | inr e => have := ih e; omega

theorem append {H : Type} (l r : List (DataW H)) : Rows.uptoBulkAll (l ++ r) = Rows.uptoBulkAll l + Rows.uptoBulkAll r := by
  induction l with
  | nil => simp [Rows.uptoBulkAll]
  | cons x l ih => simp only [List.cons_append, Rows.uptoBulkAll, ih]; omega

/-- so many values at the most -/
theorem length_le {H : Type} (l : List (DataW H)) : l.length ≤ Rows.uptoBulkAll l := by
  induction l with
  | nil => simp [Rows.uptoBulkAll]
  | cons x r ih => have := one_le x; simp only [Rows.uptoBulkAll, List.length_cons]; omega

/-- a slice's places, and what they hold -/
theorem slice_le {H : Type} (elems spare : List (DataW H)) : elems.length + spare.length + 1 ≤ Rows.uptoBulk (.slice elems spare) := by
  have h1 := length_le elems
  have h2 := length_le spare
  simp only [Rows.uptoBulk]
  omega
theorem slice_elems {H : Type} (elems spare : List (DataW H)) : Rows.uptoBulkAll elems + 1 ≤ Rows.uptoBulk (.slice elems spare) := by
  simp only [Rows.uptoBulk]
  omega

/-- a string's letters -/
theorem string_eq {H : Type} (bytes : List UInt8) : Rows.uptoBulk (DataW.lit (H := H) (.string bytes)) = bytes.length + 1 := by
  simp [Rows.uptoBulk]

/-- THE BOUND, as the builder hands it over ('hk') -/
theorem bound {H : Type} {l : List (DataW H)} (hk : Rows.uptoSmall H l = true) : Rows.uptoBulkAll l ≤ 1048576 := by
  simpa [Rows.uptoSmall] using hk

/-- ROOM: a slice of n elements of b bytes, grown by append: below the 2^48 bytes that append, make and a Builder bear. Here n up to 2^21, b up to 4,096: put your own numbers. -/
theorem room {n b : Nat} (hn : n ≤ 2097152) (hb : b ≤ 4096) : (n + n / 4 + 192) * b ≤ 281474976710656 := by
  have h : (n + n / 4 + 192) * b ≤ 2621632 * 4096 := Nat.mul_le_mul (by omega) hb
  omega

end Go.Proofs.YtljjpdjknnhceaaDoor.bulks

/- A definition as an argument. -/
set_option linter.unusedVariables false
set_option linter.unusedSimpArgs false
namespace Go.Proofs.YtljjpdjknnhceaaDoor.OpenC
open Go.ChangeShapes Go.WideShapes Go.ChangeAt Go.RowKit Go.Joins Go.Deep
open Go.Proofs.YtljjpdjknnhceaaDoorW.PrintWords
open Go.Proofs.YtljjpdjknnhceaaDoor.Base Go.Proofs.YtljjpdjknnhceaaDoor.RingPure Go.Proofs.YtljjpdjknnhceaaDoor.ChkPure Go.Proofs.YtljjpdjknnhceaaDoor.Clus
theorem list23 {α : Type} {l : List α} (h : l.length = 23) : ∃ c0 c1 c2 c3 c4 c5 c6 c7 c8 c9 c10 c11 c12 c13 c14 c15 c16 c17 c18 c19 c20 c21 c22, l = [c0, c1, c2, c3, c4, c5, c6, c7, c8, c9, c10, c11, c12, c13, c14, c15, c16, c17, c18, c19, c20, c21, c22] := by
  match l, h with
  | [c0, c1, c2, c3, c4, c5, c6, c7, c8, c9, c10, c11, c12, c13, c14, c15, c16, c17, c18, c19, c20, c21, c22], _ => exact ⟨c0, c1, c2, c3, c4, c5, c6, c7, c8, c9, c10, c11, c12, c13, c14, c15, c16, c17, c18, c19, c20, c21, c22, rfl⟩
theorem c3 : Tryd.prog.cellsOf 3 = 1 := by kernel_rfl
theorem c9 : Tryd.prog.cellsOf 9 = 1 := by kernel_rfl
theorem cC : Tryd.prog.cellsOf 24 = 23 := by kernel_rfl
theorem cN : Tryd.prog.cellsOf 56 = 2 := by kernel_rfl
theorem cI : Tryd.prog.cellsOf 36 = 1 := by kernel_rfl
theorem cS : Tryd.prog.cellsOf 22 = 1 := by kernel_rfl
theorem spot_none {w : World} {a : Addr} {v : Value} (h : w.cell? a = some v) : a = ⟨a.block, a.off, none⟩ := by
  cases a with
  | mk b o s =>
    cases s with
    | none => rfl
    | some x =>
      unfold World.cell? at h
      split at h
      · simp at h
      · cases h
theorem add_none (b o j : Nat) : (⟨b, o, none⟩ : Addr).add j = ⟨b, o + j, none⟩ := by unfold Addr.add; split <;> simp_all
theorem add_zero (a : Addr) : a.add 0 = a := by unfold Addr.add; simp
theorem bulk_lits {H : Type} (k : IntKind) (zs : List Int) : Rows.uptoBulkAll (lits (H := H) k zs) = zs.length := by
  induction zs with
  | nil => rfl
  | cons s l ih =>
    simp only [lits, List.map_cons, Rows.uptoBulkAll, Rows.uptoBulk, List.length_cons] at ih ⊢
    rw [ih]; omega
theorem bulk_nodes {H : Type} (D : Nat → DataW H) (l : List Nd) : ∀ n, (∀ i x, l[i]? = some x → 1 + x.2.length ≤ Rows.uptoBulk (D (n + i))) → l.length + cnt l ≤ Rows.uptoBulkAll ((List.range' n l.length).map D) := by
  induction l with
  | nil => intro n _; exact Nat.zero_le _
  | cons o l ih =>
    intro n h
    have h0 := h 0 o rfl
    have := ih (n + 1) (fun i x hi => by
      have e := h (i + 1) x (by simpa using hi)
      rw [show n + 1 + i = n + (i + 1) by omega]
      exact e)
    have h3 : cnt (o :: l) = o.2.length + cnt l := by simp [cnt]
    rw [h3]
    simp only [List.length_cons, List.range'_succ, List.map_cons, Rows.uptoBulkAll] at this ⊢
    rw [Nat.add_zero] at h0
    omega
/-- a list of numbers in a cell -/
theorem open_list {H : Type} {enc : TypeId × Value → H} {W : World} {base fuel : Nat} {sp : Nat → Bool} {held : Bool} {cs : List Value} {d : DataW H × List MemPlace}
    (hf : DataW.trod enc Tryd.prog W base sp held fuel 36 cs = some d) : ∃ (l : List Int) (B : Option Addr) (c : Nat), cs = [.slice B l.length c] ∧ (l.length ≤ c ∧ SlOK B l.length c) ∧ NumsAt W B l ∧ l.length ≤ Rows.uptoBulk d.1 := by
  rcases open_ints Tryd.underlying36 Tryd.underlying3 c3 hf with ⟨hcs, hx⟩ | ⟨x, l, c, zs, hcs, _, hl, hm, hss, hx, hcell, hws⟩
  · exact ⟨[], none, 0, hcs, ⟨Nat.le_refl _, .inl ⟨rfl, rfl, rfl⟩⟩, .inl rfl, Nat.zero_le _⟩
  · have hge : l ≤ zs.length := by rw [hss]; split <;> omega
    have hlen : (zs.take l).length = l := by simp; omega
    refine ⟨zs.take l, some x, c, by rw [hlen]; exact hcs, ⟨by omega, .inr ⟨x, rfl⟩⟩, ?_, ?_⟩
    · by_cases h0 : l = 0
      · left; subst h0; rfl
      · right
        have h1 := hcell 0 (by omega)
        rw [add_zero] at h1
        have hx2 := spot_none h1
        refine ⟨x.block, x.off, by rw [← hx2], fun i y hy => ?_⟩
        have hil : i < l := by have := (List.getElem?_eq_some_iff.1 hy).1; omega
        have h2 := hcell i (by omega)
        rw [hx2, add_none] at h2
        rw [h2]
        rw [List.getElem?_take, if_pos hil] at hy
        simp [List.getD_eq_getElem?_getD, hy]
    · rw [hx]
      simp only [Rows.uptoBulk]
      rw [bulk_lits]; omega
/-- the list of the nodes in a cell -/
theorem open_nodes {H : Type} {enc : TypeId × Value → H} {W : World} {base fuel : Nat} {sp : Nat → Bool} {held : Bool} {cs : List Value} {d : DataW H × List MemPlace}
    (hf : DataW.trod enc Tryd.prog W base sp held fuel 22 cs = some d) : ∃ (ns : List Nd) (A : Option Addr) (cap : Nat), cs = [.slice A ns.length cap] ∧ ns.length ≤ cap ∧ NodesAt W A ns ∧ ns.length + cnt ns ≤ Rows.uptoBulk d.1 := by
  rcases open_slice Tryd.underlying22 hf with ⟨hcs, hx⟩ | ⟨a, len, cap, m, k, D, Pl, hcs, hb, hl, hm, hmm, hx, hel⟩
  · exact ⟨[], none, 0, hcs, Nat.le_refl _, .inl rfl, Nat.zero_le _⟩
  · have hlm : len ≤ m := by rw [hmm]; split <;> omega
    have each : ∀ i, i < len → ∃ x : Nd, (∃ B c, W.cell? (a.add (i * 2)) = some (.int .i64 x.1) ∧ W.cell? ((a.add (i * 2)).add 1) = some (.slice B x.2.length c) ∧ (x.2.length ≤ c ∧ SlOK B x.2.length c) ∧ NumsAt W B x.2) ∧ 1 + x.2.length ≤ Rows.uptoBulk (D i) := by
      intro i hi
      obtain ⟨cs', h1, h2⟩ := hel i (by omega)
      rw [cN] at h1
      obtain ⟨_, hlen, hcell⟩ := World.cells?_some h1
      obtain ⟨y0, y1, k2, hxy, _, g0, g1⟩ := trod_struct2 Tryd.underlying56 h2
      simp only [c3, cI, List.drop_zero] at g0 g1
      obtain ⟨z, hz1, _, _⟩ := DataW.trod_int Tryd.underlying3 g0
      obtain ⟨l, B, c, hl1, hl2, hl3, hl4⟩ := open_list g1
      have hcs' : cs' = [.int .i64 z, .slice B l.length c] := by
        have e : cs' = cs'.take 1 ++ (cs'.drop 1).take 1 := by
          have e2 : (cs'.drop 1).take 1 = cs'.drop 1 := List.take_of_length_le (by rw [List.length_drop, hlen]; decide)
          rw [e2, List.take_append_drop]
        rw [e, hz1, hl1]
        rfl
      refine ⟨(z, l), ⟨B, c, ?_, ?_, hl2, hl3⟩, ?_⟩
      · have := hcell 0 (by omega)
        rw [hcs', add_zero] at this
        exact this
      · have := hcell 1 (by omega)
        rw [hcs'] at this
        exact this
      · have hD : D i = .agg [y0.1, y1.1] := by simpa using congrArg Prod.fst hxy
        rw [hD]
        simp only [Rows.uptoBulk, Rows.uptoBulkAll]
        have := bulks.one_le y0.1
        show 1 + l.length ≤ _
        omega
    obtain ⟨f, hfo⟩ := choose_lt each
    have hget : ∀ i x, ((List.range len).map f)[i]? = some x → i < len ∧ f i = x := by
      intro i x hx
      simp only [List.getElem?_map, Option.map_eq_some_iff] at hx
      obtain ⟨q, hq, rfl⟩ := hx
      have hkl : i < len := by
        rcases Nat.lt_or_ge i len with h | h
        · exact h
        · rw [List.getElem?_eq_none (by simpa using h)] at hq; cases hq
      rw [List.getElem?_range hkl] at hq
      cases hq
      exact ⟨hkl, rfl⟩
    refine ⟨(List.range len).map f, some a, cap, by simpa using hcs, by simpa using hl, ?_, ?_⟩
    · by_cases h0 : len = 0
      · left; subst h0; rfl
      · right
        obtain ⟨⟨B0, c0, k0, _⟩, _⟩ := hfo 0 (by omega)
        rw [Nat.zero_mul, add_zero] at k0
        have ha := spot_none k0
        refine ⟨a.block, a.off, by rw [← ha], fun i x hi => ?_⟩
        obtain ⟨hil, rfl⟩ := hget i x hi
        obtain ⟨⟨B, c, k1, k2, k3, k4⟩, _⟩ := hfo i hil
        rw [ha, add_none] at k1 k2
        rw [add_none] at k2
        exact ⟨k1, B, c, k2, k3, k4⟩
    · rw [hx]
      simp only [Rows.uptoBulk]
      have := bulk_nodes (H := H) D ((List.range len).map f) 0 (fun i x hi => by
        obtain ⟨hk, rfl⟩ := hget i x hi
        rw [Nat.zero_add]
        exact (hfo i hk).2)
      simp only [List.length_map, List.length_range] at this ⊢
      rw [← List.range_eq_range'] at this
      omega
set_option maxRecDepth 100000 in
set_option maxHeartbeats 2000000 in
theorem open_cluster {H : Type} {enc : TypeId × Value → H} {W : World} {r : Reach} {b0 base : Nat} {sp : Nat → Bool} {held : Bool} {v : Value} {d : DataW H} {p : List MemPlace}
    (hv : Value.okWide Tryd.prog W r b0 24 v) (h : DataW.Trod enc Tryd.prog W base sp held 24 v d p) :
    ∃ (c : Cl) (A : Option Addr) (cap : Nat) (ns : List Nd), v = .agg (cL c (.slice A ns.length cap)).toArray ∧ NodesAt W A ns ∧ ns.length ≤ cap ∧ c.store.size + ns.length + cnt ns ≤ Rows.uptoBulk d := by
  obtain ⟨⟨l⟩, rfl, hsz⟩ := okWide_struct Tryd.underlying24 hv
  rw [cC] at hsz
  obtain ⟨x0, x1, x2, x3, x4, x5, x6, x7, x8, x9, x10, x11, x12, x13, x14, x15, x16, x17, x18, x19, x20, x21, x22, rfl⟩ := list23 (l := l) (by simpa using hsz)
  obtain ⟨fuel, hf⟩ := h
  obtain ⟨xs, n, _, hd, _, hxl, hg⟩ := DataW.trod_struct Tryd.underlying24 hf
  obtain ⟨u0, u1, u2, u3, u4, u5, u6, u7, u8, u9, u10, u11, u12, u13, u14, u15, u16, u17, u18, u19, u20, u21, u22, rfl⟩ := list23 (l := xs) hxl
  have g0 := hg 0 _ rfl
  have g1 := hg 1 _ rfl
  have g2 := hg 2 _ rfl
  have g3 := hg 3 _ rfl
  have g4 := hg 4 _ rfl
  have g5 := hg 5 _ rfl
  have g6 := hg 6 _ rfl
  have g7 := hg 7 _ rfl
  have g8 := hg 8 _ rfl
  have g9 := hg 9 _ rfl
  have g10 := hg 10 _ rfl
  have g11 := hg 11 _ rfl
  have g12 := hg 12 _ rfl
  have g13 := hg 13 _ rfl
  have g14 := hg 14 _ rfl
  have g15 := hg 15 _ rfl
  have g16 := hg 16 _ rfl
  have g17 := hg 17 _ rfl
  have g18 := hg 18 _ rfl
  have g19 := hg 19 _ rfl
  have g20 := hg 20 _ rfl
  have g21 := hg 21 _ rfl
  have g22 := hg 22 _ rfl
  simp only [c3, c9, cS, Value.cells, List.drop_succ_cons, List.drop_zero, List.take_succ_cons, List.take_zero, List.getElem_toArray, List.getElem_cons_zero, List.getElem_cons_succ, List.getElem?_cons_zero, List.getElem?_cons_succ] at g0 g1 g2 g3 g4 g5 g6 g7 g8 g9 g10 g11 g12 g13 g14 g15 g16 g17 g18 g19 g20 g21 g22
  obtain ⟨a0, e0, z0, _⟩ := DataW.trod_string Tryd.underlying9 g0
  obtain ⟨a1, e1, _, _⟩ := DataW.trod_int Tryd.underlying3 g1
  obtain ⟨a2, e2, _, _⟩ := DataW.trod_int Tryd.underlying3 g2
  obtain ⟨a3, e3, _, _⟩ := DataW.trod_int Tryd.underlying3 g3
  obtain ⟨a4, e4, _, _⟩ := DataW.trod_int Tryd.underlying3 g4
  obtain ⟨a5, e5, _, _⟩ := DataW.trod_int Tryd.underlying3 g5
  obtain ⟨a6, e6, _, _⟩ := DataW.trod_int Tryd.underlying3 g6
  obtain ⟨a7, e7, _, _⟩ := DataW.trod_int Tryd.underlying3 g7
  obtain ⟨a8, e8, _, _⟩ := DataW.trod_int Tryd.underlying3 g8
  obtain ⟨a9, e9, _, _⟩ := DataW.trod_int Tryd.underlying3 g9
  obtain ⟨a10, e10, _, _⟩ := DataW.trod_int Tryd.underlying3 g10
  obtain ⟨a11, e11, _, _⟩ := DataW.trod_int Tryd.underlying3 g11
  obtain ⟨a12, e12, _, _⟩ := DataW.trod_int Tryd.underlying3 g12
  obtain ⟨a13, e13, _, _⟩ := DataW.trod_int Tryd.underlying3 g13
  obtain ⟨a14, e14, _, _⟩ := DataW.trod_int Tryd.underlying3 g14
  obtain ⟨a15, e15, _, _⟩ := DataW.trod_int Tryd.underlying3 g15
  obtain ⟨a16, e16, _, _⟩ := DataW.trod_int Tryd.underlying3 g16
  obtain ⟨a17, e17, _, _⟩ := DataW.trod_int Tryd.underlying3 g17
  obtain ⟨a18, e18, _, _⟩ := DataW.trod_int Tryd.underlying3 g18
  obtain ⟨a19, e19, _, _⟩ := DataW.trod_int Tryd.underlying3 g19
  obtain ⟨a20, e20, _, _⟩ := DataW.trod_int Tryd.underlying3 g20
  obtain ⟨a21, e21, _, _⟩ := DataW.trod_int Tryd.underlying3 g21
  obtain ⟨ns, A, cap, e22, hcap, hN, hbk⟩ := open_nodes g22
  simp only [List.cons.injEq, and_true] at e0 e1 e2 e3 e4 e5 e6 e7 e8 e9 e10 e11 e12 e13 e14 e15 e16 e17 e18 e19 e20 e21 e22
  subst e0 e1 e2 e3 e4 e5 e6 e7 e8 e9 e10 e11 e12 e13 e14 e15 e16 e17 e18 e19 e20 e21 e22
  refine ⟨⟨a0, a1, a2, a3, a4, a5, a6, a7, a8, a9, a10, a11, a12, a13, a14, a15, a16, a17, a18, a19, a20, a21⟩, A, cap, ns, rfl, hN, hcap, ?_⟩
  have hd2 := congrArg Prod.fst hd
  simp only at hd2
  rw [hd2]
  have h0 : a0.size ≤ Rows.uptoBulk u0.1 := by
    rw [z0]
    simp only [Rows.uptoBulk, Array.length_toList]
    have : a0.data.size = a0.size := rfl
    omega
  simp only [List.map_cons, List.map_nil, Rows.uptoBulk, Rows.uptoBulkAll]
  show a0.size + _ + _ ≤ _
  omega
end Go.Proofs.YtljjpdjknnhceaaDoor.OpenC

/- What a definition is made of, as an argument. -/
set_option linter.unusedVariables false
set_option linter.unusedSimpArgs false
namespace Go.Proofs.YtljjpdjknnhceaaDoor.OpenR
open Go.ChangeShapes Go.WideShapes Go.ChangeAt Go.RowKit Go.Joins Go.Deep
open Go.Proofs.YtljjpdjknnhceaaDoorW.PrintWords
open Go.Proofs.YtljjpdjknnhceaaDoor.Base Go.Proofs.YtljjpdjknnhceaaDoor.RingPure Go.Proofs.YtljjpdjknnhceaaDoor.ChkPure Go.Proofs.YtljjpdjknnhceaaDoor.Clus Go.Proofs.YtljjpdjknnhceaaDoor.OpenC Go.Proofs.YtljjpdjknnhceaaDoor.MadeV
theorem list7 {α : Type} {l : List α} (h : l.length = 7) : ∃ c0 c1 c2 c3 c4 c5 c6, l = [c0, c1, c2, c3, c4, c5, c6] := by
  match l, h with
  | [c0, c1, c2, c3, c4, c5, c6], _ => exact ⟨c0, c1, c2, c3, c4, c5, c6, rfl⟩
theorem cR : Tryd.prog.cellsOf 51 = 7 := by kernel_rfl
set_option maxRecDepth 100000 in
theorem open_raw {H : Type} {enc : TypeId × Value → H} {W : World} {r : Reach} {b0 base : Nat} {sp : Nat → Bool} {held : Bool} {v : Value} {d : DataW H} {p : List MemPlace}
    (hv : Value.okWide Tryd.prog W r b0 51 v) (h : DataW.Trod enc Tryd.prog W base sp held 51 v d p) :
    ∃ (nd rp wd ch : Int) (HA ZA NA : Option Addr) (hc zc nc : Nat) (Ho Z Nu : List Int), v = .agg (rawL nd rp wd ch HA ZA NA hc zc nc Ho Z Nu).toArray ∧ NumsAt W HA Ho ∧ NumsAt W ZA Z ∧ NumsAt W NA Nu ∧ Ho.length ≤ hc ∧ Z.length ≤ zc ∧ Nu.length ≤ nc ∧ Ho.length + Z.length + Nu.length ≤ Rows.uptoBulk d := by
  obtain ⟨⟨l⟩, rfl, hsz⟩ := okWide_struct Tryd.underlying51 hv
  rw [cR] at hsz
  obtain ⟨x0, x1, x2, x3, x4, x5, x6, rfl⟩ := list7 (l := l) (by simpa using hsz)
  obtain ⟨fuel, hf⟩ := h
  obtain ⟨xs, n, _, hd, _, hxl, hg⟩ := DataW.trod_struct Tryd.underlying51 hf
  obtain ⟨u0, u1, u2, u3, u4, u5, u6, rfl⟩ := list7 (l := xs) hxl
  have g0 := hg 0 _ rfl
  have g1 := hg 1 _ rfl
  have g2 := hg 2 _ rfl
  have g3 := hg 3 _ rfl
  have g4 := hg 4 _ rfl
  have g5 := hg 5 _ rfl
  have g6 := hg 6 _ rfl
  simp only [c3, cI, Value.cells, List.drop_succ_cons, List.drop_zero, List.take_succ_cons, List.take_zero, List.getElem_toArray, List.getElem_cons_zero, List.getElem_cons_succ, List.getElem?_cons_zero, List.getElem?_cons_succ] at g0 g1 g2 g3 g4 g5 g6
  obtain ⟨a0, e0, _, _⟩ := DataW.trod_int Tryd.underlying3 g0
  obtain ⟨a1, e1, _, _⟩ := DataW.trod_int Tryd.underlying3 g1
  obtain ⟨a2, e2, _, _⟩ := DataW.trod_int Tryd.underlying3 g2
  obtain ⟨a3, e3, _, _⟩ := DataW.trod_int Tryd.underlying3 g3
  obtain ⟨l4, B4, k4, e4, h4, n4, b4⟩ := open_list g4
  obtain ⟨l5, B5, k5, e5, h5, n5, b5⟩ := open_list g5
  obtain ⟨l6, B6, k6, e6, h6, n6, b6⟩ := open_list g6
  simp only [List.cons.injEq, and_true] at e0 e1 e2 e3 e4 e5 e6
  subst e0 e1 e2 e3 e4 e5 e6
  refine ⟨a0, a1, a2, a3, B4, B5, B6, k4, k5, k6, l4, l5, l6, rfl, n4, n5, n6, h4.1, h5.1, h6.1, ?_⟩
  have hd2 := congrArg Prod.fst hd
  simp only at hd2
  rw [hd2]
  simp only [List.map_cons, List.map_nil, Rows.uptoBulk, Rows.uptoBulkAll]
  show _ + _ + _ ≤ _
  omega
end Go.Proofs.YtljjpdjknnhceaaDoor.OpenR

/- The tables that a row lays down, as the walks ask them. -/
set_option linter.unusedVariables false
set_option linter.unusedSimpArgs false
namespace Go.Proofs.YtljjpdjknnhceaaDoor.Laid
open Go.RowKit
open Go.Proofs.YtljjpdjknnhceaaDoor.Base Go.Proofs.YtljjpdjknnhceaaDoor.Mix Go.Proofs.YtljjpdjknnhceaaDoor.Hasher Go.Proofs.YtljjpdjknnhceaaDoor.Take
theorem tail {P : Program} {x : String × DataW Unit} {r : List (String × DataW Unit)} {w : World} (h : laidMet P (x :: r) w) : laidMet P r w := by
  obtain ⟨ps, ⟨g, t, cs, fuel, p, q, _, _, _, _, hq, rfl⟩, hn, hc⟩ := h
  exact ⟨q, hq, (List.nodup_append.1 hn).2.1, fun b off hm => hc b off (List.mem_append_right _ hm)⟩
theorem cells_of_tab2 {H : Type} {enc : TypeId × Value → H} {P : Program} {w : World} {base : Nat} {sp : Nat → Bool} {held : Bool} {fuel : Nat} {t e e2 : TypeId} {n m : Nat} {k : IntKind} {cs : List Value} {rows : List (List Int)} {p : List MemPlace}
    (ht : P.underlying t = some (.array n e)) (he : P.underlying e = some (.array m e2)) (he2 : P.underlying e2 = some (.int k)) (hc2 : P.cellsOf e2 = 1) (hce : P.cellsOf e = m)
    (h : DataW.trod enc P w base sp held fuel t cs = some (.agg (rows.map (Lib.tabData k)), p)) (hr : rows.length = n) : ∀ i zs, rows[i]? = some zs → (cs.drop (i * m)).take m = zs.map fun z => Value.int k z := by
  cases fuel with
  | zero => simp [DataW.trod] at h
  | succ fuel =>
    simp only [DataW.trod, ht, hce] at h
    split at h
    · rename_i hl
      obtain ⟨xs, hm, hx⟩ := Option.map_eq_some_iff.1 h
      have hxs : xs.map (·.1) = rows.map (Lib.tabData (H := H) k) := by
        have := congrArg Prod.fst hx
        simpa using this
      intro i zs hi
      have hin : i < n := by
        rcases Nat.lt_or_ge i n with h | h
        · exact h
        · rw [List.getElem?_eq_none (by omega)] at hi; cases hi
      obtain ⟨b, hb, hf⟩ := Lib.mapM_at hm i i (by simp [hin])
      have h2 : (xs.map (·.1))[i]? = some (Lib.tabData k zs) := by rw [hxs, List.getElem?_map, hi]; rfl
      rw [List.getElem?_map, hb] at h2
      simp only [Option.map_some, Option.some.injEq] at h2
      obtain ⟨b1, b2⟩ := b
      simp only at h2
      subst h2
      exact Lib.cells_of_tab he he2 hc2 hce hf
    · cases h
def nibI : List Int := [0, 498536548, 997073096, 651767980, 1994146192, 1802195444, 1303535960, 1342533948, 3988292384, 4027552580, 3604390888, 3412177804, 2607071920, 2262029012, 2685067896, 3183342108]
def firstI : List Int := [1732584193, 4023233417, 2562383102, 271733878]
def sineI : List Int := [3614090360, 3905402710, 606105819, 3250441966, 4118548399, 1200080426, 2821735955, 4249261313, 1770035416, 2336552879, 4294925233, 2304563134, 1804603682, 4254626195, 2792965006, 1236535329, 4129170786, 3225465664, 643717713, 3921069994, 3593408605, 38016083, 3634488961, 3889429448, 568446438, 3275163606, 4107603335, 1163531501, 2850285829, 4243563512, 1735328473, 2368359562, 4294588738, 2272392833, 1839030562, 4259657740, 2763975236, 1272893353, 4139469664, 3200236656, 681279174, 3936430074, 3572445317, 76029189, 3654602809, 3873151461, 530742520, 3299628645, 4096336452, 1126891415, 2878612391, 4237533241, 1700485571, 2399980690, 4293915773, 2240044497, 1873313359, 4264355552, 2734768916, 1309151649, 4149444226, 3174756917, 718787259, 3951481745]
def turnI : List (List Int) := [[7, 12, 17, 22], [5, 9, 14, 20], [4, 11, 16, 23], [6, 10, 15, 21]]
theorem gFirst : Tryd.prog.globalNamed "granary/digest.first" = some 2 := by kernel_rfl
theorem gSine : Tryd.prog.globalNamed "granary/digest.sines" = some 3 := by kernel_rfl
theorem gTurn : Tryd.prog.globalNamed "granary/digest.turns" = some 4 := by kernel_rfl
theorem sines_of {W : World} {r : List (String × DataW Unit)} (h : laidMet Tryd.prog (("granary/digest.sines", Lib.tabData .u32 sineI) :: r) W) (i : Nat) (hi : i < 64) : W.cell? ⟨3, i, none⟩ = some (.int .u32 (Md5Pure.K i : Nat)) := by
  have hT := Lib.tabIs_of_head (t := 172) gSine (by kernel_rfl) Tryd.underlying172 Tryd.underlying153 (by kernel_rfl) (by kernel_rfl) h
  rw [hT.cell gSine i (by simpa [sineI] using hi)]
  have : ∀ i, i < 64 → sineI.getD i 0 = (Md5Pure.K i : Nat) := by decide
  rw [this i hi]
theorem first_of {W : World} {r : List (String × DataW Unit)} (h : laidMet Tryd.prog (("granary/digest.first", Lib.tabData .u32 firstI) :: r) W) : W.rangeAt 2 0 (stL Md5Pure.first) := by
  have hT := Lib.tabIs_of_head (t := 154) gFirst (by kernel_rfl) Tryd.underlying154 Tryd.underlying153 (by kernel_rfl) (by kernel_rfl) h
  intro j v hv
  have hj : j < 4 := by
    rcases Nat.lt_or_ge j 4 with h | h
    · exact h
    · rw [List.getElem?_eq_none (by exact h)] at hv; cases hv
  rw [Nat.zero_add, hT.cell gFirst j (by simpa [firstI] using hj), ← hv]
  have e : j = 0 ∨ j = 1 ∨ j = 2 ∨ j = 3 := by omega
  rcases e with e | e | e | e <;> subst e <;> rfl
theorem turns_of {W : World} {r : List (String × DataW Unit)} (h : laidMet Tryd.prog (("granary/digest.turns", .agg (turnI.map (Lib.tabData .i64))) :: r) W) (i : Nat) (hi : i < 16) : W.cell? ⟨4, i, none⟩ = some (.int .i64 (Md5Pure.turns.getD i 0 : Nat)) := by
  obtain ⟨ps, ⟨g', t', cs, fuel, p, q, hg', ht', hvar, hd, _, _⟩, _⟩ := h
  obtain rfl := Option.some.inj (gTurn.symm.trans hg')
  obtain rfl := Option.some.inj ((show (Tryd.prog.globals[4]?).map (·.type) = some 175 by kernel_rfl).symm.trans ht')
  have hc := cells_of_tab2 Tryd.underlying175 Tryd.underlying174 Tryd.underlying3 (by kernel_rfl) (by kernel_rfl) hd rfl
  rw [World.var?_cell gTurn hvar i, ← Array.getElem?_toList]
  have hq : i / 4 < 4 := by omega
  have hr : i % 4 < 4 := by omega
  have key : ∀ q, q < 4 → ∀ r, r < 4 → cs.toList[q * 4 + r]? = some (.int .i64 (Md5Pure.turns.getD (q * 4 + r) 0 : Nat)) := by
    intro q hq r hr
    have e : q = 0 ∨ q = 1 ∨ q = 2 ∨ q = 3 := by omega
    have hz : ∃ zs, turnI[q]? = some zs ∧ zs[r]? = some ((Md5Pure.turns.getD (q * 4 + r) 0 : Nat) : Int) := by
      have er : r = 0 ∨ r = 1 ∨ r = 2 ∨ r = 3 := by omega
      rcases e with e | e | e | e <;> subst e <;> rcases er with er | er | er | er <;> subst er <;> exact ⟨_, rfl, rfl⟩
    obtain ⟨zs, h1, h2⟩ := hz
    have h3 := congrArg (·[r]?) (hc q zs h1)
    simp only [List.getElem?_take, List.getElem?_drop, hr, if_true, List.getElem?_map, h2, Option.map_some] at h3
    exact h3
  have := key (i / 4) hq (i % 4) hr
  rwa [show i / 4 * 4 + i % 4 = i by omega] at this
theorem glob_of {W : World} {r : List (String × DataW Unit)}
    (h : laidMet Tryd.prog (("granary/digest.first", Lib.tabData .u32 firstI) :: ("granary/digest.sines", Lib.tabData .u32 sineI) :: ("granary/digest.turns", .agg (turnI.map (Lib.tabData .i64))) :: r) W) : Glob W := by
  have h1 := first_of h
  have h2 := sines_of (tail h)
  have h3 := turns_of (tail (tail h))
  exact ⟨⟨h2, h3, World.block_lt_of_cell? W ⟨3, 0, none⟩ (h2 0 (by decide)), World.block_lt_of_cell? W ⟨4, 0, none⟩ (h3 0 (by decide))⟩, h1⟩
end Go.Proofs.YtljjpdjknnhceaaDoor.Laid
