/- The document's tables that a row lays down, as the walks ask them. -/
import Derived.Test.YthnobhifepnakaaDoorLaid
import Derived.Test.YthnobhifepnakaaDoorRefPure
set_option linter.unusedVariables false
set_option linter.unusedSimpArgs false
namespace Go.Proofs.YthnobhifepnakaaDoor.Laid
open Go.RowKit
open Go.Proofs.YthnobhifepnakaaDoor.Base Go.Proofs.YthnobhifepnakaaDoor.RefMD5 Go.Proofs.YthnobhifepnakaaDoor.StepsRef
def turnRI : List Int := [7, 12, 17, 22, 5, 9, 14, 20, 4, 11, 16, 23, 6, 10, 15, 21]
def powI : List Int := [1, 2, 4, 8, 16, 32, 64, 128, 256, 512, 1024, 2048, 4096, 8192, 16384, 32768, 65536, 131072, 262144, 524288, 1048576, 2097152, 4194304, 8388608, 16777216, 33554432, 67108864, 134217728, 268435456, 536870912, 1073741824, 2147483648]
theorem gRS : Tryd.prog.globalNamed "granary/granaryref2.sines" = some 5 := by kernel_rfl
theorem gRT : Tryd.prog.globalNamed "granary/granaryref2.turns" = some 6 := by kernel_rfl
theorem gRP : Tryd.prog.globalNamed "granary/granaryref2.powers" = some 0 := by kernel_rfl
theorem rsine_of {W : World} {r : List (String × DataW Unit)} (h : laidMet Tryd.prog (("granary/granaryref2.sines", Lib.tabData .i64 sineI) :: r) W) (i : Nat) (hi : i < 64) : W.cell? ⟨5, i, none⟩ = some (.int .i64 (Md5Pure.K i : Nat)) := by
  have hT := Lib.tabIs_of_head (t := 100) gRS (by kernel_rfl) Tryd.underlying100 Tryd.underlying3 (by kernel_rfl) (by kernel_rfl) h
  rw [hT.cell gRS i (by simpa [sineI] using hi)]
  have : ∀ i, i < 64 → sineI.getD i 0 = (Md5Pure.K i : Nat) := by decide
  rw [this i hi]
theorem rturn_of {W : World} {r : List (String × DataW Unit)} (h : laidMet Tryd.prog (("granary/granaryref2.turns", Lib.tabData .i64 turnRI) :: r) W) (i : Nat) (hi : i < 16) : W.cell? ⟨6, i, none⟩ = some (.int .i64 (Md5Pure.turns.getD i 0 : Nat)) := by
  have hT := Lib.tabIs_of_head (t := 101) gRT (by kernel_rfl) Tryd.underlying101 Tryd.underlying3 (by kernel_rfl) (by kernel_rfl) h
  rw [hT.cell gRT i (by simpa [turnRI] using hi)]
  have : ∀ i, i < 16 → turnRI.getD i 0 = (Md5Pure.turns.getD i 0 : Nat) := by decide
  rw [this i hi]
theorem rpow_of {W : World} {r : List (String × DataW Unit)} (h : laidMet Tryd.prog (("granary/granaryref2.powers", Lib.tabData .i64 powI) :: r) W) (i : Nat) (hi : i < 32) : W.cell? ⟨0, i, none⟩ = some (.int .i64 (pw i : Nat)) := by
  have hT := Lib.tabIs_of_head (t := 69) gRP (by kernel_rfl) Tryd.underlying69 Tryd.underlying3 (by kernel_rfl) (by kernel_rfl) h
  rw [hT.cell gRP i (by simpa [powI] using hi)]
  have : ∀ i, i < 32 → powI.getD i 0 = (pw i : Nat) := by decide
  rw [this i hi]
theorem rtabs_of {W : World} {r : List (String × DataW Unit)}
    (h : laidMet Tryd.prog (("granary/granaryref2.sines", Lib.tabData .i64 sineI) :: ("granary/granaryref2.turns", Lib.tabData .i64 turnRI) :: ("granary/granaryref2.powers", Lib.tabData .i64 powI) :: r) W) : RTabs W := by
  have h1 := rsine_of h
  have h2 := rturn_of (tail h)
  have h3 := rpow_of (tail (tail h))
  exact ⟨h1, h2, ⟨h3, World.block_lt_of_cell? W ⟨0, 0, none⟩ (h3 0 (by decide))⟩, World.block_lt_of_cell? W ⟨5, 0, none⟩ (h1 0 (by decide)), World.block_lt_of_cell? W ⟨6, 0, none⟩ (h2 0 (by decide))⟩
end Go.Proofs.YthnobhifepnakaaDoor.Laid
