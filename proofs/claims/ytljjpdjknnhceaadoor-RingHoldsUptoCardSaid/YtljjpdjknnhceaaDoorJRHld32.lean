/- Joined texts of this claim: LaidR -/
import Derived.Test.YtljjpdjknnhceaaDoorJRHld5
import Derived.Test.YtljjpdjknnhceaaDoorTie
import Derived.Lib.LaidTab
set_option linter.unusedVariables false
set_option linter.unusedSimpArgs false
/- The table that the ring's rows lay down, as the walks ask it. -/
set_option linter.unusedVariables false
set_option linter.unusedSimpArgs false
namespace Go.Proofs.YtljjpdjknnhceaaDoor.LaidR
open Go.RowKit
open Go.Proofs.YtljjpdjknnhceaaDoor.Base Go.Proofs.YtljjpdjknnhceaaDoor.ChkPure Go.Proofs.YtljjpdjknnhceaaDoor.Ref6
theorem gGreat : Tryd.prog.globalNamed "granary/granaryref6.greatest" = some 1 := by kernel_rfl
theorem gtab_of {W : World} {r : List (String × DataW Unit)} (h : laidMet Tryd.prog (("granary/granaryref6.greatest", Lib.tabData .i64 most) :: r) W) : GTab W := by
  have hT := Lib.tabIs_of_head (t := 102) gGreat (by kernel_rfl) Tryd.underlying102 Tryd.underlying3 (by kernel_rfl) (by kernel_rfl) h
  intro i hi
  exact hT.cell gGreat i (by simpa [most] using hi)
theorem ltail {P : Program} {x : String × DataW Unit} {r : List (String × DataW Unit)} {w : World} (h : laidMet P (x :: r) w) : laidMet P r w := by
  obtain ⟨ps, ⟨g, t, cs, fuel, p, q, _, _, _, _, hq, rfl⟩, hn, hc⟩ := h
  exact ⟨q, hq, (List.nodup_append.1 hn).2.1, fun b off hm => hc b off (List.mem_append_right _ hm)⟩
end Go.Proofs.YtljjpdjknnhceaaDoor.LaidR
