/- The call of sort.SliceStable in Order. -/
import Derived.Test.YtbheegamibdbhaaOrdLess
import Derived.Test.YtbheegamibdbhaaShf
import Derived.Test.YtbheegamibdbhaaStabUse
set_option linter.unusedVariables false
set_option linter.unusedSimpArgs false
namespace Go.Proofs.Ytbheegamibdbhaa.OrdSort
open Go.RowKit Go.Proofs.YtbheegamibdbhaaW.PrintWords Go.Proofs.YtbheegamibdbhaaW.PrintLast Go.Proofs.YtbheegamibdbhaaW.PrintMore
open Go.Sort Go.Lib Go.Proofs.Ytbheegamibdbhaa.Base Go.Proofs.Ytbheegamibdbhaa.MapK Go.Proofs.Ytbheegamibdbhaa.Det Go.Proofs.Ytbheegamibdbhaa.SymMerge Go.Proofs.Ytbheegamibdbhaa.StabPure Go.Proofs.Ytbheegamibdbhaa.StabWalk Go.Proofs.Ytbheegamibdbhaa.Stable Go.Proofs.Ytbheegamibdbhaa.OrdLess
/-- a node's number -/
abbrev N16 := {x : Int // 0 ≤ x ∧ x < 16}
instance : Inhabited N16 := ⟨⟨0, by omega⟩⟩
def eN (x : N16) : Value := .int .i64 x.val
def kN (u : Int → Option Int) (now : Int) (x : N16) : Int := rk u now x.val
noncomputable def siT : TypeInfo := (Try.prog.info? 38).get (by kernel_rfl)
noncomputable def siE : TypeInfo := (Try.prog.info? 3).get (by kernel_rfl)
theorem siK (n : Nat) (h2 : 2 ≤ n) : Lib.swapperK n siE 2 = 5 := by
  have a : siE.hasPointers = false := by kernel_rfl
  have b : siE.bytes = 8 := by kernel_rfl
  have c : (n == 0) = false := by simp; omega
  have d : (n == 1) = false := by simp; omega
  simp [Lib.swapperK, a, b, c, d]
theorem block_other (enc : N16 → Value) (w : World) (blk off n : Nat) (d : Array N16) (os : Array Obj) (k : Nat) (h1 : k ≠ blk) (h2 : k < w.heap.size) : (sortWorld enc w blk off n d os).heap[k]? = w.heap[k]? := by
  unfold sortWorld
  rw [heap_grow_old _ _ (by simpa using h2)]
  simp [putRow, mapBlock, Sort.ahead, Array.getElem?_modify, Ne.symm h1]
/-- the blocks that less reads lie apart from the row -/
structure Apart (w : World) (D R O B b2 g : Nat) : Prop where mk ::
  (d : D ≠ g ∧ D < w.heap.size) (r : R ≠ g ∧ R < w.heap.size) (o : O ≠ g ∧ O < w.heap.size) (b : B ≠ g ∧ B < w.heap.size) (m : b2 ≠ g) (g : g < w.heap.size)
theorem lw_sort {w : World} {D R O B b2 n : Nat} {u : Int → Option Int} {now : Int} {g c sz : Nat} (h : LW w D R O B b2 n u now g c sz) (ha : Apart w D R O B b2 g) (m : Nat) (dk : Array N16) (os : Array Obj) :
    LW (sortWorld eN w g 0 m dk os) D R O B b2 n u now g c sz :=
  ⟨(cell_other eN w g 0 m dk os ⟨D, 0, none⟩ ha.d.1 ha.d.2).trans h.d, (cell_other eN w g 0 m dk os ⟨R, 0, none⟩ ha.r.1 ha.r.2).trans h.r, (cell_other eN w g 0 m dk os ⟨O, 0, none⟩ ha.o.1 ha.o.2).trans h.o,
   (cell_other eN w g 0 m dk os ⟨B, 3, none⟩ ha.b.1 ha.b.2).trans h.t, (cell_other eN w g 0 m dk os ⟨B, 5, none⟩ ha.b.1 ha.b.2).trans h.m, h.u.of_block (block_other eN w g 0 m dk os b2 ha.m h.u.lt)⟩
theorem n_wf (x : N16) : (Lit.int .i64 x.val).wf = true := kI_wf (by have := x.property; omega) (by have := x.property; omega)
theorem less_reads {w : World} {D R O B b2 n : Nat} {u : Int → Option Int} {now : Int} {g c : Nat} (d : Array N16) (h : LW w D R O B b2 n u now g c d.size) (ha : Apart w D R O B b2 g) (hH : Holds eN w g 0 d) :
    LessReads Try.prog 32 #[.pointer (some ⟨R, 0, none⟩), .pointer (some ⟨O, 0, none⟩)] eN (ltk (kN u now)) g 0 d.size w := by
  intro m os dk hs i j hi hj
  have hh := holds_sortWorld eN w g 0 m d dk os ha.g hH hs
  have cx := (hh i (by omega)).1
  have cy := (hh j (by omega)).1
  rw [Nat.zero_add] at cx cy
  exact less_any _ (lw_sort h ha m dk os) i j hi hj _ _ cx cy (n_wf _) (n_wf _)
theorem sk_one {key : N16 → Int} (d : Array N16) (h : d.size ≤ 1) : SK key 0 d.size d := fun i j h0 h1 h3 => by
  obtain rfl : i = j := by omega
  exact Int.le_refl _
set_option maxRecDepth 100000 in
theorem sort_any {w : World} {D R O B b2 n : Nat} {u : Int → Option Int} {now : Int} {g c : Nat} (d : Array N16) (h : LW w D R O B b2 n u now g c d.size) (ha : Apart w D R O B b2 g) (hH : Holds eN w g 0 d) (hsz : d.size ≤ 1000000000000) :
    Calls Try.prog 31 #[.iface 38 (.slice (some ⟨g, 0, none⟩) d.size c), .func (.func 32) #[] #[.pointer (some ⟨R, 0, none⟩), .pointer (some ⟨O, 0, none⟩)]] w (SlPost eN (kN u now) w g 0 d) := by
  by_cases h2 : 2 ≤ d.size
  · exact sliceStable_any Try.laysGt8 38 3 siT siE (by kernel_rfl) (by kernel_rfl) (by kernel_rfl) (by kernel_rfl) 2 (fun _ => by kernel_rfl) (by kernel_rfl) (fun _ => by kernel_rfl) eN (fun _ => rfl) (kN u now) 32 _
      (enters_of Try.func32 (by kernel_rfl) rfl) g 0 c d h2 (by omega) 52 (by rw [siK _ h2]; kernel_rfl) true
      (fun args W => run_callFunc_extern Try.func52 (by kernel_rfl) (by kernel_rfl) (by kernel_rfl) (e := Extern.ReflectliteSwapper.swap true) (by kernel_rfl) args W) w (less_reads d h ha hH) hH ha.g
  · have hd : ∀ f, (Try.prog.funcs.findIdx? (·.name == "internal/reflectlite" ++ ".Swapper$" ++ toString (Lib.swapperK d.size siE 2)) = some f) → Calls Try.prog 31 #[.iface 38 (.slice (some ⟨g, 0, none⟩) d.size c), .func (.func 32) #[] #[.pointer (some ⟨R, 0, none⟩), .pointer (some ⟨O, 0, none⟩)]] w (SlPost eN (kN u now) w g 0 d) := fun f hf =>
      (Any.sort_SliceStable_tiny Try.laysGt8 38 3 siT siE (by kernel_rfl) (by kernel_rfl) (by kernel_rfl) (by kernel_rfl) 2 (fun _ => by kernel_rfl) (some ⟨g, 0, none⟩) d.size c (by omega) f hf (.func 32) #[] #[.pointer (some ⟨R, 0, none⟩), .pointer (some ⟨O, 0, none⟩)] w).mono fun e w' ⟨he, os, hw⟩ =>
        ⟨he, d, ⟨0, os, by rw [hw]; unfold sortWorld; rw [show Sort.ahead w 0 = w from rfl, putRow_self _ _ _ _ _ hH]⟩, rfl, sk_one d (by omega), SymMerge.Same.refl _⟩
    rcases (show d.size = 0 ∨ d.size = 1 by omega) with e | e
    · exact hd 48 (by rw [e]; kernel_rfl)
    · exact hd 49 (by rw [e]; kernel_rfl)
end Go.Proofs.Ytbheegamibdbhaa.OrdSort
