/-
  No cell of these rows narrows 'for every input' (looked for: loops, veiled, ifaces, maps, wideKeys, modest, calm, conditions, laid).
  DERIVED. THE GIVEN ROWS OF THIS SEAT. 6 by the template 'for every input the law returns true; each argument reads behind the call as it read before'; 0 by the template 'total and deterministic' (their statements: YtbheegamibdbhaaTotals.lean).
  GIVEN WITH THE SEED: the statements are not yours to turn. If you find one false, say at which input.
  Laid BY PROGRAM, IN A SANDBOX (cutbox-rows.mjs): the forced cells as the released guide's own fill.sh prints them over the translation fcf18d450754fa98… (all of the seat's roots in one cut). By AI agents, Wed Nov 11 2026. No macro, syntax, notation, axiom, sorry.
-/
import Derived.Test.YtbheegamibdbhaaChecked
import GoSem.Claim
import GoSem.ClaimJoined
import GoSem.ClaimMapViews
import Derived.JoinedTies
import Derived.KernelRfl
namespace Go.Proofs.Ytbheegamibdbhaa
/- THE CELL 'sum', in the pinned program and in every row, IS THE sha256 OF THE DUMP (.gsa) THAT YtbheegamibdbhaaProg.lean LOADS. Nothing in Lean hashes anything: it is a label: what it is worth is what the hold of that sum in a sandbox is worth. -/
noncomputable def Try.pinned : Pinned := { name := "ytbheegamibdbhaa", sum := "fcf18d450754fa98d07970e59b0c7ff9e0056f0a3527ca7832fa3bee2ddd0460", checked := Try.checked }
namespace Rows
def none {H : Type} : Left H := { results := [], args := [] }

/-- 'granarylaw16.DetectorBans': WHATEVER THE INPUT: true; the input reads as it did. -/
def detectorBansSpec : ChangeSpec := { name := "detectorBans", fn := fun _ => fun
  | [d1, d2] => { results := [.lit (.bool true)], args := [d1, d2] }
  | _ => none }
def detectorBansRow : OpenClaim := { program := "ytbheegamibdbhaa", sum := "fcf18d450754fa98d07970e59b0c7ff9e0056f0a3527ca7832fa3bee2ddd0460", func := "granary/granarylaw16.DetectorBans", spec := "detectorBans", apart := false }
def DetectorBansSaid : Prop := detectorBansRow.holds Try.pinned (OpenSpec.ofChange detectorBansSpec)

/-- ITS FALSE NEIGHBOUR: 'it returns false'. Refute it at one input. -/
def detectorBansWrong : ChangeSpec := { name := "detectorBans", fn := fun _ => fun
  | [d1, d2] => { results := [.lit (.bool false)], args := [d1, d2] }
  | _ => none }
def DetectorBansWrongFalsely : Prop := detectorBansRow.holds Try.pinned (OpenSpec.ofChange detectorBansWrong)

/-- 'granarylaw16.DetectorApart': WHATEVER THE INPUT: true; the input reads as it did. -/
def detectorApartSpec : ChangeSpec := { name := "detectorApart", fn := fun _ => fun
  | [d1, d2, d3] => { results := [.lit (.bool true)], args := [d1, d2, d3] }
  | _ => none }
def detectorApartRow : OpenClaim := { program := "ytbheegamibdbhaa", sum := "fcf18d450754fa98d07970e59b0c7ff9e0056f0a3527ca7832fa3bee2ddd0460", func := "granary/granarylaw16.DetectorApart", spec := "detectorApart", apart := false }
def DetectorApartSaid : Prop := detectorApartRow.holds Try.pinned (OpenSpec.ofChange detectorApartSpec)

/-- ITS FALSE NEIGHBOUR: 'it returns false'. Refute it at one input. -/
def detectorApartWrong : ChangeSpec := { name := "detectorApart", fn := fun _ => fun
  | [d1, d2, d3] => { results := [.lit (.bool false)], args := [d1, d2, d3] }
  | _ => none }
def DetectorApartWrongFalsely : Prop := detectorApartRow.holds Try.pinned (OpenSpec.ofChange detectorApartWrong)

/-- 'granarylaw16.DetectorNews': WHATEVER THE INPUT: true; the input reads as it did. -/
def detectorNewsSpec : ChangeSpec := { name := "detectorNews", fn := fun _ => fun
  | [d] => { results := [.lit (.bool true)], args := [d] }
  | _ => none }
def detectorNewsRow : OpenClaim := { program := "ytbheegamibdbhaa", sum := "fcf18d450754fa98d07970e59b0c7ff9e0056f0a3527ca7832fa3bee2ddd0460", func := "granary/granarylaw16.DetectorNews", spec := "detectorNews", inPlace := ["internal/reflectlite.ValueOf", "internal/reflectlite.Swapper", "(internal/reflectlite.Value).Len"], unfollowed := true, recurses := true, apart := false }
def DetectorNewsSaid : Prop := detectorNewsRow.holds Try.pinned (OpenSpec.ofChange detectorNewsSpec)

/-- ITS FALSE NEIGHBOUR: 'it returns false'. Refute it at one input. -/
def detectorNewsWrong : ChangeSpec := { name := "detectorNews", fn := fun _ => fun
  | [d] => { results := [.lit (.bool false)], args := [d] }
  | _ => none }
def DetectorNewsWrongFalsely : Prop := detectorNewsRow.holds Try.pinned (OpenSpec.ofChange detectorNewsWrong)

/-- 'granarylaw16.DetectorPlays': WHATEVER THE INPUT: true; the input reads as it did. -/
def detectorPlaysSpec : ChangeSpec := { name := "detectorPlays", fn := fun _ => fun
  | [d1, d2] => { results := [.lit (.bool true)], args := [d1, d2] }
  | _ => none }
def detectorPlaysRow : OpenClaim := { program := "ytbheegamibdbhaa", sum := "fcf18d450754fa98d07970e59b0c7ff9e0056f0a3527ca7832fa3bee2ddd0460", func := "granary/granarylaw16.DetectorPlays", spec := "detectorPlays", inPlace := ["internal/reflectlite.ValueOf", "internal/reflectlite.Swapper", "(internal/reflectlite.Value).Len"], unfollowed := true, recurses := true, apart := false }
def DetectorPlaysSaid : Prop := detectorPlaysRow.holds Try.pinned (OpenSpec.ofChange detectorPlaysSpec)

/-- ITS FALSE NEIGHBOUR: 'it returns false'. Refute it at one input. -/
def detectorPlaysWrong : ChangeSpec := { name := "detectorPlays", fn := fun _ => fun
  | [d1, d2] => { results := [.lit (.bool false)], args := [d1, d2] }
  | _ => none }
def DetectorPlaysWrongFalsely : Prop := detectorPlaysRow.holds Try.pinned (OpenSpec.ofChange detectorPlaysWrong)

/-- 'granarylaw16.DetectorOrders': WHATEVER THE INPUT: true; the input reads as it did. -/
def detectorOrdersSpec : ChangeSpec := { name := "detectorOrders", fn := fun _ => fun
  | [d1, d2, d3] => { results := [.lit (.bool true)], args := [d1, d2, d3] }
  | _ => none }
def detectorOrdersRow : OpenClaim := { program := "ytbheegamibdbhaa", sum := "fcf18d450754fa98d07970e59b0c7ff9e0056f0a3527ca7832fa3bee2ddd0460", func := "granary/granarylaw16.DetectorOrders", spec := "detectorOrders", inPlace := ["internal/reflectlite.ValueOf", "internal/reflectlite.Swapper", "(internal/reflectlite.Value).Len"], unfollowed := true, recurses := true, apart := false }
def DetectorOrdersSaid : Prop := detectorOrdersRow.holds Try.pinned (OpenSpec.ofChange detectorOrdersSpec)

/-- ITS FALSE NEIGHBOUR: 'it returns false'. Refute it at one input. -/
def detectorOrdersWrong : ChangeSpec := { name := "detectorOrders", fn := fun _ => fun
  | [d1, d2, d3] => { results := [.lit (.bool false)], args := [d1, d2, d3] }
  | _ => none }
def DetectorOrdersWrongFalsely : Prop := detectorOrdersRow.holds Try.pinned (OpenSpec.ofChange detectorOrdersWrong)

/-- 'granarylaw16.DetectorKeeps': WHATEVER THE INPUT: true; the input reads as it did. -/
def detectorKeepsSpec : ChangeSpec := { name := "detectorKeeps", fn := fun _ => fun
  | [d1, d2] => { results := [.lit (.bool true)], args := [d1, d2] }
  | _ => none }
def detectorKeepsRow : OpenClaim := { program := "ytbheegamibdbhaa", sum := "fcf18d450754fa98d07970e59b0c7ff9e0056f0a3527ca7832fa3bee2ddd0460", func := "granary/granarylaw16.DetectorKeeps", spec := "detectorKeeps", inPlace := ["internal/reflectlite.ValueOf", "internal/reflectlite.Swapper", "(internal/reflectlite.Value).Len"], unfollowed := true, recurses := true, apart := false }
def DetectorKeepsSaid : Prop := detectorKeepsRow.holds Try.pinned (OpenSpec.ofChange detectorKeepsSpec)

/-- ITS FALSE NEIGHBOUR: 'it returns false'. Refute it at one input. -/
def detectorKeepsWrong : ChangeSpec := { name := "detectorKeeps", fn := fun _ => fun
  | [d1, d2] => { results := [.lit (.bool false)], args := [d1, d2] }
  | _ => none }
def DetectorKeepsWrongFalsely : Prop := detectorKeepsRow.holds Try.pinned (OpenSpec.ofChange detectorKeepsWrong)

/- THE SECOND FORM. 'bulk': how many values and letters a reading holds, each counted each time it is reached (what is shared counts as often as it is met; a slice's spare places count too). A statement '..UptoSaid' is the law's where the arguments, and the package variables that the reading takes, are together of bulk at most 1048576: NARROWER than '..Said'. Prove '..Said' where nothing that the law and all that it calls make is longer than what came in: it says more and counts as full. Else prove '..UptoSaid'. A law counts once. -/
mutual
def uptoBulk {H : Type} : DataW H → Nat
  | .lit (.string bytes) => bytes.length + 1
  | .lit _ => 1
  | .nil => 1
  | .ptr d => uptoBulk d + 1
  | .slice elems spare => uptoBulkAll elems + uptoBulkAll spare + 1
  | .agg parts => uptoBulkAll parts + 1
  | .iface _ d => uptoBulk d + 1
  | .map entries => uptoBulkEntries entries + 1
  | .held _ => 1
def uptoBulkAll {H : Type} : List (DataW H) → Nat
  | [] => 0
  | d :: r => uptoBulk d + uptoBulkAll r
def uptoBulkEntries {H : Type} : List (Lit × DataW H) → Nat
  | [] => 0
  | x :: r => uptoBulkEntry x + uptoBulkEntries r
def uptoBulkEntry {H : Type} : Lit × DataW H → Nat
  | (.string bytes, d) => bytes.length + uptoBulk d + 1
  | (_, d) => uptoBulk d + 1
 end
def uptoSmall : (H : Type) → List (DataW H) → Bool := fun _ ds => decide (uptoBulkAll ds ≤ 1048576)
def OpenSpec.upto (s : _root_.Go.ChangeSpec) : _root_.Go.OpenSpec := { _root_.Go.OpenSpec.ofChange s with cond := some uptoSmall }

/-- 'granarylaw16.DetectorBans', WHERE WHAT IT READS IS OF BULK AT MOST 1048576: true; the input reads as it did. -/
def detectorBansUptoRow : OpenClaim := { program := "ytbheegamibdbhaa", sum := "fcf18d450754fa98d07970e59b0c7ff9e0056f0a3527ca7832fa3bee2ddd0460", func := "granary/granarylaw16.DetectorBans", spec := "detectorBans", apart := false, narrowed := true }
def DetectorBansUptoSaid : Prop := detectorBansUptoRow.holds Try.pinned (OpenSpec.upto detectorBansSpec)

/-- 'granarylaw16.DetectorApart', WHERE WHAT IT READS IS OF BULK AT MOST 1048576: true; the input reads as it did. -/
def detectorApartUptoRow : OpenClaim := { program := "ytbheegamibdbhaa", sum := "fcf18d450754fa98d07970e59b0c7ff9e0056f0a3527ca7832fa3bee2ddd0460", func := "granary/granarylaw16.DetectorApart", spec := "detectorApart", apart := false, narrowed := true }
def DetectorApartUptoSaid : Prop := detectorApartUptoRow.holds Try.pinned (OpenSpec.upto detectorApartSpec)

/-- 'granarylaw16.DetectorNews', WHERE WHAT IT READS IS OF BULK AT MOST 1048576: true; the input reads as it did. -/
def detectorNewsUptoRow : OpenClaim := { program := "ytbheegamibdbhaa", sum := "fcf18d450754fa98d07970e59b0c7ff9e0056f0a3527ca7832fa3bee2ddd0460", func := "granary/granarylaw16.DetectorNews", spec := "detectorNews", inPlace := ["internal/reflectlite.ValueOf", "internal/reflectlite.Swapper", "(internal/reflectlite.Value).Len"], unfollowed := true, recurses := true, apart := false, narrowed := true }
def DetectorNewsUptoSaid : Prop := detectorNewsUptoRow.holds Try.pinned (OpenSpec.upto detectorNewsSpec)

/-- 'granarylaw16.DetectorPlays', WHERE WHAT IT READS IS OF BULK AT MOST 1048576: true; the input reads as it did. -/
def detectorPlaysUptoRow : OpenClaim := { program := "ytbheegamibdbhaa", sum := "fcf18d450754fa98d07970e59b0c7ff9e0056f0a3527ca7832fa3bee2ddd0460", func := "granary/granarylaw16.DetectorPlays", spec := "detectorPlays", inPlace := ["internal/reflectlite.ValueOf", "internal/reflectlite.Swapper", "(internal/reflectlite.Value).Len"], unfollowed := true, recurses := true, apart := false, narrowed := true }
def DetectorPlaysUptoSaid : Prop := detectorPlaysUptoRow.holds Try.pinned (OpenSpec.upto detectorPlaysSpec)

/-- 'granarylaw16.DetectorOrders', WHERE WHAT IT READS IS OF BULK AT MOST 1048576: true; the input reads as it did. -/
def detectorOrdersUptoRow : OpenClaim := { program := "ytbheegamibdbhaa", sum := "fcf18d450754fa98d07970e59b0c7ff9e0056f0a3527ca7832fa3bee2ddd0460", func := "granary/granarylaw16.DetectorOrders", spec := "detectorOrders", inPlace := ["internal/reflectlite.ValueOf", "internal/reflectlite.Swapper", "(internal/reflectlite.Value).Len"], unfollowed := true, recurses := true, apart := false, narrowed := true }
def DetectorOrdersUptoSaid : Prop := detectorOrdersUptoRow.holds Try.pinned (OpenSpec.upto detectorOrdersSpec)

/-- 'granarylaw16.DetectorKeeps', WHERE WHAT IT READS IS OF BULK AT MOST 1048576: true; the input reads as it did. -/
def detectorKeepsUptoRow : OpenClaim := { program := "ytbheegamibdbhaa", sum := "fcf18d450754fa98d07970e59b0c7ff9e0056f0a3527ca7832fa3bee2ddd0460", func := "granary/granarylaw16.DetectorKeeps", spec := "detectorKeeps", inPlace := ["internal/reflectlite.ValueOf", "internal/reflectlite.Swapper", "(internal/reflectlite.Value).Len"], unfollowed := true, recurses := true, apart := false, narrowed := true }
def DetectorKeepsUptoSaid : Prop := detectorKeepsUptoRow.holds Try.pinned (OpenSpec.upto detectorKeepsSpec)

end Rows
end Go.Proofs.Ytbheegamibdbhaa
