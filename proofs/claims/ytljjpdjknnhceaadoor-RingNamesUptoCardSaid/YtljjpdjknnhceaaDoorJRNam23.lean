/- Joined texts of this claim: OpenF -/
import Derived.Test.YtljjpdjknnhceaaDoorRows
import Derived.Test.YtljjpdjknnhceaaDoorJRNam22
import Derived.ProofKit
import Derived.Lib.SmallJoins
set_option linter.unusedVariables false
set_option linter.unusedSimpArgs false
/- A file as an argument. -/
set_option linter.unusedVariables false
set_option linter.unusedSimpArgs false
namespace Go.Proofs.YtljjpdjknnhceaaDoor.OpenF
open Go.ChangeShapes Go.WideShapes Go.ChangeAt Go.RowKit Go.Joins
set_option maxRecDepth 100000 in
theorem open_file {H : Type} {enc : TypeId × Value → H} {W : World} {r : Reach} {b0 base : Nat} {sp : Nat → Bool} {held : Bool} {v : Value} {d : DataW H} {p : List MemPlace}
    (hv : Value.okWide Tryd.prog W r b0 70 v) (h : DataW.Trod enc Tryd.prog W base sp held 70 v d p) : ∃ f : FileN.FI, v = FileN.fV f := by
  obtain ⟨v0, v1, v2, v3, y0, y1, y2, y3, n, rfl, rfl, rfl, t0, t1, t2, t3⟩ := open_agg4 Tryd.underlying70 (by kernel_rfl) (by kernel_rfl) hv h
  obtain ⟨a0, e0, _, _⟩ := DataW.trod_int Tryd.underlying3 t0
  obtain ⟨a1, e1, _, _⟩ := DataW.trod_int Tryd.underlying3 t1
  obtain ⟨a2, e2, _, _⟩ := DataW.trod_int Tryd.underlying3 t2
  obtain ⟨a3, e3, _, _⟩ := DataW.trod_bool Tryd.underlying4 t3
  simp only [List.cons.injEq, and_true] at e0 e1 e2 e3
  subst e0 e1 e2 e3
  exact ⟨⟨a0, a1, a2, a3⟩, rfl⟩
end Go.Proofs.YtljjpdjknnhceaaDoor.OpenF
