/-
  DERIVED. GIVEN WITH THE SEED: THE PROGRAM's TIES (one call each: nine closed facts by the kernel) AND EACH ROW's TIE, after the 31st guide's Derived/Test/Toyas{Tie, Card}.lean. No idea stands in it: it is a product of the set-up. Laid BY PROGRAM, IN A SANDBOX (cutbox-door.mjs). By AI agents, Wed Nov 11 2026. No macro, syntax, notation, axiom, sorry.
-/
import Derived.Test.YthnobhifepnakaaDoorRows
import Derived.LaidByTextLater
import Derived.SevenTiedAt
import Derived.LaidSub
import Derived.LaidOnce
namespace Go.Proofs.YthnobhifepnakaaDoor
open Go
set_option maxRecDepth 100000
theorem seatTie1 : Tryd.prog.laidByTextLater [("granary/granaryref2.sines", Rows.laid_granary_granaryref2_sines), ("granary/granaryref2.turns", Rows.laid_granary_granaryref2_turns), ("granary/granaryref2.powers", Rows.laid_granary_granaryref2_powers), ("granary/digest.nibbles", Rows.laid_granary_digest_nibbles), ("granary/digest.first", Rows.laid_granary_digest_first), ("granary/digest.sines", Rows.laid_granary_digest_sines), ("granary/digest.turns", Rows.laid_granary_digest_turns)] [.data, .data, .data, .data, .data, .data, .data] true :=
  Program.laidByTextLater_by_one 48 8 65 (by kernel_rfl) (by kernel_rfl) (by kernel_rfl) (by kernel_rfl) (by kernel_rfl) (by kernel_rfl) (fun _ _ => by kernel_rfl)
theorem noOwnUnsafe : Tryd.pinned.checked.prog.headLifts.contains "ownunsafe" = false := by kernel_rfl
theorem tie : Tryd.prog.laidByTextLater [("granary/digest.nibbles", Rows.laid_granary_digest_nibbles)] [.data] true :=
  Program.laidByTextLater.sub seatTie1 ["granary/digest.nibbles"] (by kernel_rfl) (by kernel_rfl)
theorem digestCRCs_row_tie : Rows.digestCRCsRow.laidByTextAt .later Tryd.pinned [.data] true :=
  OpenClaim.laidByTextAt_later rfl rfl tie noOwnUnsafe
theorem tie2 : Tryd.prog.laidByTextLater [("granary/granaryref2.powers", Rows.laid_granary_granaryref2_powers)] [.data] true :=
  Program.laidByTextLater.sub seatTie1 ["granary/granaryref2.powers"] (by kernel_rfl) (by kernel_rfl)
theorem digestJoins_row_tie : Rows.digestJoinsRow.laidByTextAt .later Tryd.pinned [.data] true :=
  OpenClaim.laidByTextAt_later rfl rfl tie2 noOwnUnsafe
theorem tie3 : Tryd.prog.laidByTextLater [("granary/granaryref2.sines", Rows.laid_granary_granaryref2_sines), ("granary/granaryref2.turns", Rows.laid_granary_granaryref2_turns), ("granary/granaryref2.powers", Rows.laid_granary_granaryref2_powers), ("granary/digest.first", Rows.laid_granary_digest_first), ("granary/digest.sines", Rows.laid_granary_digest_sines), ("granary/digest.turns", Rows.laid_granary_digest_turns)] [.data, .data, .data, .data, .data, .data] true :=
  Program.laidByTextLater.sub seatTie1 ["granary/granaryref2.sines", "granary/granaryref2.turns", "granary/granaryref2.powers", "granary/digest.first", "granary/digest.sines", "granary/digest.turns"] (by kernel_rfl) (by kernel_rfl)
theorem digestMD5s_row_tie : Rows.digestMD5sRow.laidByTextAt .later Tryd.pinned [.data, .data, .data, .data, .data, .data] true :=
  OpenClaim.laidByTextAt_later rfl rfl tie3 noOwnUnsafe
theorem tie4 : Tryd.prog.laidByTextLater [("granary/granaryref2.sines", Rows.laid_granary_granaryref2_sines), ("granary/granaryref2.turns", Rows.laid_granary_granaryref2_turns), ("granary/granaryref2.powers", Rows.laid_granary_granaryref2_powers), ("granary/digest.nibbles", Rows.laid_granary_digest_nibbles), ("granary/digest.first", Rows.laid_granary_digest_first), ("granary/digest.sines", Rows.laid_granary_digest_sines), ("granary/digest.turns", Rows.laid_granary_digest_turns)] [.data, .data, .data, .data, .data, .data, .data] true :=
  Program.laidByTextLater.sub seatTie1 ["granary/granaryref2.sines", "granary/granaryref2.turns", "granary/granaryref2.powers", "granary/digest.nibbles", "granary/digest.first", "granary/digest.sines", "granary/digest.turns"] (by kernel_rfl) (by kernel_rfl)
theorem digestHashers_row_tie : Rows.digestHashersRow.laidByTextAt .later Tryd.pinned [.data, .data, .data, .data, .data, .data, .data] true :=
  OpenClaim.laidByTextAt_later rfl rfl tie4 noOwnUnsafe
theorem tie5 : Tryd.prog.laidByTextLater [("granary/digest.nibbles", Rows.laid_granary_digest_nibbles), ("granary/digest.first", Rows.laid_granary_digest_first), ("granary/digest.sines", Rows.laid_granary_digest_sines), ("granary/digest.turns", Rows.laid_granary_digest_turns)] [.data, .data, .data, .data] true :=
  Program.laidByTextLater.sub seatTie1 ["granary/digest.nibbles", "granary/digest.first", "granary/digest.sines", "granary/digest.turns"] (by kernel_rfl) (by kernel_rfl)
theorem digestKnown_row_tie : Rows.digestKnownRow.laidByTextAt .later Tryd.pinned [.data, .data, .data, .data] true :=
  OpenClaim.laidByTextAt_later rfl rfl tie5 noOwnUnsafe
theorem digestBurst_row_tie : Rows.digestBurstRow.laidByTextAt .later Tryd.pinned [.data, .data, .data, .data] true :=
  OpenClaim.laidByTextAt_later rfl rfl tie5 noOwnUnsafe
theorem digestCuts_row_tie : Rows.digestCutsRow.laidByTextAt .later Tryd.pinned [.data, .data, .data, .data] true :=
  OpenClaim.laidByTextAt_later rfl rfl tie5 noOwnUnsafe
theorem digestHexBack_row_tie : Rows.digestHexBackRow.laidByTextAt .later Tryd.pinned [.data, .data, .data, .data] true :=
  OpenClaim.laidByTextAt_later rfl rfl tie5 noOwnUnsafe
theorem digestJoined_row_tie : Rows.digestJoinedRow.laidByTextAt .later Tryd.pinned [.data, .data, .data, .data] true :=
  OpenClaim.laidByTextAt_later rfl rfl tie5 noOwnUnsafe
theorem digestCRCsUpto_row_tie : Rows.digestCRCsUptoRow.laidByTextAt .later Tryd.pinned [.data] true :=
  OpenClaim.laidByTextAt_later rfl rfl tie noOwnUnsafe
theorem digestJoinsUpto_row_tie : Rows.digestJoinsUptoRow.laidByTextAt .later Tryd.pinned [.data] true :=
  OpenClaim.laidByTextAt_later rfl rfl tie2 noOwnUnsafe
theorem digestMD5sUpto_row_tie : Rows.digestMD5sUptoRow.laidByTextAt .later Tryd.pinned [.data, .data, .data, .data, .data, .data] true :=
  OpenClaim.laidByTextAt_later rfl rfl tie3 noOwnUnsafe
theorem digestHashersUpto_row_tie : Rows.digestHashersUptoRow.laidByTextAt .later Tryd.pinned [.data, .data, .data, .data, .data, .data, .data] true :=
  OpenClaim.laidByTextAt_later rfl rfl tie4 noOwnUnsafe
theorem digestKnownUpto_row_tie : Rows.digestKnownUptoRow.laidByTextAt .later Tryd.pinned [.data, .data, .data, .data] true :=
  OpenClaim.laidByTextAt_later rfl rfl tie5 noOwnUnsafe
theorem digestBurstUpto_row_tie : Rows.digestBurstUptoRow.laidByTextAt .later Tryd.pinned [.data, .data, .data, .data] true :=
  OpenClaim.laidByTextAt_later rfl rfl tie5 noOwnUnsafe
theorem digestCutsUpto_row_tie : Rows.digestCutsUptoRow.laidByTextAt .later Tryd.pinned [.data, .data, .data, .data] true :=
  OpenClaim.laidByTextAt_later rfl rfl tie5 noOwnUnsafe
theorem digestHexBackUpto_row_tie : Rows.digestHexBackUptoRow.laidByTextAt .later Tryd.pinned [.data, .data, .data, .data] true :=
  OpenClaim.laidByTextAt_later rfl rfl tie5 noOwnUnsafe
theorem digestJoinedUpto_row_tie : Rows.digestJoinedUptoRow.laidByTextAt .later Tryd.pinned [.data, .data, .data, .data] true :=
  OpenClaim.laidByTextAt_later rfl rfl tie5 noOwnUnsafe
end Go.Proofs.YthnobhifepnakaaDoor
