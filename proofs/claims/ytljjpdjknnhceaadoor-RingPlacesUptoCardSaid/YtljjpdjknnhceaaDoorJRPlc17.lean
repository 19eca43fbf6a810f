/- Joined texts of this claim: LocKit -/
import Derived.Test.YtljjpdjknnhceaaDoorJRPlc3
import Derived.Test.YtljjpdjknnhceaaDoorJRPlc4
import Derived.Test.YtljjpdjknnhceaaDoorJRPlc16
set_option linter.unusedVariables false
set_option linter.unusedSimpArgs false
/- A place: its cells. -/
set_option linter.unusedVariables false
set_option linter.unusedSimpArgs false
namespace Go.Proofs.YtljjpdjknnhceaaDoor.LocKit
open Go.RowKit Go.Proofs.YtljjpdjknnhceaaDoorW.PrintWords Go.Proofs.YtljjpdjknnhceaaDoorW.PrintLast Go.Proofs.YtljjpdjknnhceaaDoorW.PrintMore
open Go.Proofs.YtljjpdjknnhceaaDoor.Base Go.Proofs.YtljjpdjknnhceaaDoor.App Go.Proofs.YtljjpdjknnhceaaDoor.RingPure Go.Proofs.YtljjpdjknnhceaaDoor.ChkPure Go.Proofs.YtljjpdjknnhceaaDoor.Clus Go.Proofs.YtljjpdjknnhceaaDoor.Mids Go.Proofs.YtljjpdjknnhceaaDoor.Chkd Go.Proofs.YtljjpdjknnhceaaDoor.LocPure Go.Proofs.YtljjpdjknnhceaaDoor.TakeN Go.Proofs.YtljjpdjknnhceaaDoor.Sort Go.Proofs.YtljjpdjknnhceaaDoor.Name
open Go.Proofs.YtljjpdjknnhceaaDoor.Words (strOf strOf_size)
open Go.Proofs.YtljjpdjknnhceaaDoor.WithV (list_build)
def plL (r : Pl) : List Value := [.int .i64 r.part, .int .i64 r.chunk, .string (strOf r.hash)]
def plZ : List Value := [.int .i64 0, .int .i64 0, .string { data := #[] }]
def LocPost (r : Pl) (w : World) (e : Ending) (w' : World) : Prop := Below w.heap.size w w' ∧ e = .returned (.tuple #[.agg (plL r).toArray, .int .i64 r.err])
theorem infoP : (Tryd.prog.info? 44).map (·.size) = some 3 := by kernel_rfl
theorem plL_one (r : Pl) : (plL r).toArray.all (·.oneCell') = true := by simp [plL, Value.oneCell']
theorem plL_err (x : Int) : plL ⟨x, 0, 0, []⟩ = plZ := rfl
theorem plZ_one : plZ.toArray.all (·.oneCell') = true := by simp [plZ, Value.oneCell']
theorem built_z : Tryd.prog.built 44 [] = some plZ.toArray := by kernel_rfl
theorem built_pl (p c : Int) (h : ByteArray) : Tryd.prog.built 44 [(0, .int .i64 p), (1, .int .i64 c), (2, .string h)] = some #[.int .i64 p, .int .i64 c, .string h] := by kernel_rfl
/-- the world behind the boxes -/
structure LW (c : Cl) (nv : Value) (w w1 : World) : Prop where mk ::
  (box : w1.heap[w.heap.size]? = some (.cells (cL c nv).toArray 24 (0, 0))) (res : w1.heap[w.heap.size + 1]? = some (.cells plZ.toArray 44 (0, 0))) (bel : Below w.heap.size w w1)
theorem lw_of (c : Cl) (nv : Value) (w : World) : LW c nv w ((w.alloc (.cells (cL c nv).toArray 24)).alloc (.cells #[.int .i64 0, .int .i64 0, .string { data := #[] }] 44)) := by
  obtain ⟨w0, hw0⟩ : ∃ w0, w0 = w.alloc (.cells (cL c nv).toArray 24) := ⟨_, rfl⟩
  rw [← hw0]
  have hb0 : Below w.heap.size w w0 := by rw [hw0]; exact (Below.refl _ _).alloc (Nat.le_refl _) _
  have hs0 : w0.heap.size = w.heap.size + 1 := by rw [hw0]; simp
  have hb1 : Below w0.heap.size w0 (w0.alloc (.cells #[.int .i64 0, .int .i64 0, .string { data := #[] }] 44)) := (Below.refl _ _).alloc (Nat.le_refl _) _
  have hc : w0.heap[w.heap.size]? = some (.cells (cL c nv).toArray 24 (0, 0)) := by rw [hw0]; exact Go.heap_alloc_new w _
  exact ⟨(hb1.block _ (by omega)).trans hc, by rw [← hs0]; exact Go.heap_alloc_new w0 _, hb0.trans (hb1.mono hb0.size)⟩
theorem loc_results (tmps : Array Value) (W : World) (g : Nat) (cs : List Value) (x : Value) (hp : tmps.getD 4 undef = .pointer (some ⟨g, 0, none⟩)) (hx : tmps.getD 5 undef = x) (hl : cs.length = 3) (h : W.heap[g]? = some (.cells cs.toArray 44 (0, 0))) :
    (results Tryd.f22 tmps).run Tryd.prog W = .ok (.tuple #[.agg cs.toArray, x]) W := by
  subst hx
  exact results_ct_mid rfl tmps W g 0 cs _ hp (blk_range h) Tryd.underlying44 rfl (by rw [hl]; exact infoP)
theorem strs_new (w : World) (l : List ByteArray) (e : TypeId) (hl : l.length ≤ 9223372036854775807) : Kd.C Kd.string (w.alloc (.cells (l.map Value.string).toArray e)) (some ⟨w.heap.size, 0, none⟩) l.length l := by
  refine ⟨rfl, hl, fun _ => ⟨_, rfl, fun j p hj => ⟨[.string p], rfl, rfl, fun i u hu => ?_⟩⟩⟩
  have hi : i = 0 := by
    rcases i with _ | i
    · rfl
    · simp at hu
  subst hi
  have h0 : u = .string p := by simpa using hu.symm
  subst h0
  have e1 : (⟨w.heap.size, 0, none⟩ : Addr).add (j * Kd.string.sz + 0) = ⟨w.heap.size, j, none⟩ := by
    show (⟨w.heap.size, 0, none⟩ : Addr).add (j * 1 + 0) = _
    unfold Addr.add; split <;> simp_all
  rw [e1]
  exact news w (l.map Value.string) e j _ (by rw [List.getElem?_map, hj]; rfl)
theorem exec_store_mid {P : Program} {ρ : Operand → Value} {o : Oper} {w : World} (ty : TypeId) (x y : Operand) (ho : o.op = .store ty x y)
    (b p : Nat) (cells : Array Value) (hx : ρ x = .pointer (some ⟨b, p, none⟩)) (hy : ρ y = .agg cells)
    (ht : w.there b p cells.size) (hi : (P.info? ty).map (·.size) = some cells.size) (h1 : cells.all (·.oneCell') = true) : (execOp ρ o).run P w = .ok .skip (w.setCells b p cells.toList) := by
  unfold execOp
  simp only [ho, hx, hy, Instr.storeAt, Instr.sureAddr, Sem.run_bind, Sem.run_pure, Result.andThen_ok, run_storeVar_mid w b p ty cells ht hi h1]
theorem slice_end (M : List UInt8) (k : Nat) (hk : k ≤ M.length) (wx : World) : (Instr.slice 9 (.string (strOf M)) (some (.int .i64 ((k : Nat) : Int))) none none).run Tryd.prog wx = .ok (.string (strOf (M.drop k))) wx := by
  have h := run_slice_string_l (P := Tryd.prog) wx 9 (strOf M) Tryd.underlying9 .i64 ((k : Nat) : Int) (by omega) (by rw [strOf_size]; omega)
  have e : (strOf M).extract k (strOf M).size = strOf (M.drop k) := by
    rw [← Words.strOf_data ((strOf M).extract k (strOf M).size), Lib.extract_data, strOf_size, List.take_of_length_le (by rw [List.length_drop]; exact Nat.le_refl _)]; rfl
  rw [h, Int.toNat_natCast, e]
theorem slice_mid (M : List UInt8) (i j : Nat) (h1 : i ≤ j) (h2 : j ≤ M.length) (wx : World) : (Instr.slice 9 (.string (strOf M)) (some (.int .i64 ((i : Nat) : Int))) (some (.int .i64 ((j : Nat) : Int))) none).run Tryd.prog wx = .ok (.string (strOf ((M.drop i).take (j - i)))) wx := by
  have h := Go.run_slice_string (P := Tryd.prog) wx 9 (strOf M) .i64 .i64 ((i : Nat) : Int) ((j : Nat) : Int) Tryd.underlying9 (by omega) (by omega) (by rw [strOf_size]; omega)
  have e : (strOf M).extract i j = strOf ((M.drop i).take (j - i)) := by
    rw [← Words.strOf_data ((strOf M).extract i j), Lib.extract_data]; rfl
  rw [h, Int.toNat_natCast, Int.toNat_natCast, e]
theorem pboxed (r : Pl) (w : World) : (w.alloc (.cells #[.int .i64 0, .int .i64 0, .string { data := #[] }] 44)).there w.heap.size 0 plZ.length
    ∧ ((w.alloc (.cells #[.int .i64 0, .int .i64 0, .string { data := #[] }] 44)).setCells w.heap.size 0 (plL r)).heap[w.heap.size]? = some (.cells (plL r).toArray 44 (0, 0))
    ∧ Below w.heap.size w ((w.alloc (.cells #[.int .i64 0, .int .i64 0, .string { data := #[] }] 44)).setCells w.heap.size 0 (plL r)) := by
  have h : (w.alloc (.cells #[.int .i64 0, .int .i64 0, .string { data := #[] }] 44)).heap[w.heap.size]? = some (.cells plZ.toArray 44 (0, 0)) := Go.heap_alloc_new w _
  exact ⟨blk_there h, setCells_whole h rfl, Go.Proofs.YtljjpdjknnhceaaDoor.Mids.below_setCells ((Below.refl _ _).alloc (Nat.le_refl _) _) (Nat.le_refl _) _ _⟩
end Go.Proofs.YtljjpdjknnhceaaDoor.LocKit
