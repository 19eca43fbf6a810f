/- Joined texts of this claim: SortW -/
import Derived.Test.YtljjpdjknnhceaaDoorJRHld27
import Derived.Test.YtljjpdjknnhceaaDoorJRHld26
import Derived.Shelf.Slices.In.SortNone2
import Derived.Sort.OwnSorted
set_option linter.unusedVariables false
set_option linter.unusedSimpArgs false
/- sort.Strings at a row of the call's own. -/
set_option linter.unusedVariables false
set_option linter.unusedSimpArgs false
namespace Go.Proofs.YtljjpdjknnhceaaDoor.SortW
open Go.RowKit Go.Sort Go.Proofs.YtljjpdjknnhceaaDoorW.PrintWords Go.Proofs.YtljjpdjknnhceaaDoorW.PrintLast Go.Proofs.YtljjpdjknnhceaaDoorW.PrintMore
open Go.Proofs.YtljjpdjknnhceaaDoor.Base Go.Proofs.YtljjpdjknnhceaaDoor.App Go.Proofs.YtljjpdjknnhceaaDoor.AppR Go.Proofs.YtljjpdjknnhceaaDoor.InsPure Go.Proofs.YtljjpdjknnhceaaDoor.NumR Go.Proofs.YtljjpdjknnhceaaDoor.HoldKit
theorem enc_is (l : List Str) : encL l = l.map encStr := rfl
theorem sortw_any {base : Nat} {v : Value} {l : List Str} {w : World} (ho : w.ownsRow base 9 1 v l.length (encL l)) (hl : l.length ≤ 60000) :
    Calls Tryd.prog 76 #[v] w fun e w' => e = .returned (.tuple #[]) ∧ w.grownBy w' v.ownBlock ∧ w'.ownsRow base 9 1 v (insAll l).length (encL (insAll l)) := by
  rcases ho.2 with ⟨rfl, h1⟩ | ⟨g, cap, cs, rfl, hg, hb, h1, h2, h3, h4⟩
  · have hl0 : l = [] := List.eq_nil_of_length_eq_zero h1
    subst hl0
    refine (Any.sort_Strings_none Tryd.lays192 none 0 w).mono ?_
    rintro e w' ⟨rfl, rfl⟩
    exact ⟨rfl, ⟨rfl, rfl, rfl, Nat.le_refl _, fun _ _ _ => rfl⟩, ho⟩
  · rw [Nat.mul_one] at h4
    refine (Tryd.sort_Strings g 0 cap l w (holds_of_block hb h4) (blk_lt hb) (by omega)).mono ?_
    rintro e w' ⟨rfl, n, os, rfl⟩
    rw [← ins_sort]
    refine ⟨rfl, grownBy_sorted _, ?_⟩
    have hq := ownsRow_sorted (n := n) (os := os) (ss := l) (ts := insAll l) (insAll_length l) hg hb h1 h2 h3
    rw [insAll_length]
    exact hq
end Go.Proofs.YtljjpdjknnhceaaDoor.SortW
