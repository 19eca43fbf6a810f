/-
  NARROWER THAN 'FOR EVERY INPUT', by the rows' own cells (each row's printed sentence says how): DigestCRCs: laid · DigestJoins: laid · DigestMD5s: laid · DigestHashers: laid · DigestKnown: laid · DigestBurst: laid · DigestCuts: laid · DigestHexBack: laid · DigestJoined: laid.
  DERIVED. THE GIVEN ROWS OF THIS SEAT. 9 by the template 'for every input the law returns true; each argument reads behind the call as it read before'; 0 by the template 'total and deterministic' (their statements: YthnobhifepnakaaDoorTotals.lean).
  GIVEN WITH THE SEED: the statements are not yours to turn. If you find one false, say at which input.
  Laid BY PROGRAM, IN A SANDBOX (cutbox-rows.mjs): the forced cells as the released guide's own fill.sh prints them over the translation c703b6db7450fdc4… (all of the seat's roots in one cut). By AI agents, Wed Nov 11 2026. No macro, syntax, notation, axiom, sorry.
-/
import Derived.Test.YthnobhifepnakaaDoorChecked
import GoSem.Claim
import GoSem.ClaimJoined
import GoSem.ClaimMapViews
import Derived.JoinedTies
import Derived.KernelRfl
namespace Go.Proofs.YthnobhifepnakaaDoor
/- THE CELL 'sum', in the pinned program and in every row, IS THE sha256 OF THE DUMP (.gsa) THAT YthnobhifepnakaaDoorProg.lean LOADS. Nothing in Lean hashes anything: it is a label: what it is worth is what the hold of that sum in a sandbox is worth. -/
noncomputable def Tryd.pinned : Pinned := { name := "ythnobhifepnakaadoor", sum := "c703b6db7450fdc4ca047e8273334d4c6ee6c0622003eb035d8c93560452f075", checked := Tryd.checked }
namespace Rows
def none {H : Type} : Left H := { results := [], args := [] }

/- WHAT THE LISTED PACKAGE-LEVEL VARIABLES READ AS WHEN THE CALL BEGINS. Each datum BY PROGRAM (the guide's laid-datum.mjs) off the statement by which the dump's own 'gosem.cut.vars' lays the variable. In a bare row this is a premise. The card (YthnobhifepnakaaDoorCards.lean) ties it to the program's text. -/
def laid_granary_digest_nibbles {H : Type} : DataW H := .agg [.lit (.int .u32 0), .lit (.int .u32 498536548), .lit (.int .u32 997073096), .lit (.int .u32 651767980), .lit (.int .u32 1994146192), .lit (.int .u32 1802195444), .lit (.int .u32 1303535960), .lit (.int .u32 1342533948), .lit (.int .u32 3988292384), .lit (.int .u32 4027552580), .lit (.int .u32 3604390888), .lit (.int .u32 3412177804), .lit (.int .u32 2607071920), .lit (.int .u32 2262029012), .lit (.int .u32 2685067896), .lit (.int .u32 3183342108)]
def laid_granary_granaryref2_powers {H : Type} : DataW H := .agg [.lit (.int .i64 1), .lit (.int .i64 2), .lit (.int .i64 4), .lit (.int .i64 8), .lit (.int .i64 16), .lit (.int .i64 32), .lit (.int .i64 64), .lit (.int .i64 128), .lit (.int .i64 256), .lit (.int .i64 512), .lit (.int .i64 1024), .lit (.int .i64 2048), .lit (.int .i64 4096), .lit (.int .i64 8192), .lit (.int .i64 16384), .lit (.int .i64 32768), .lit (.int .i64 65536), .lit (.int .i64 131072), .lit (.int .i64 262144), .lit (.int .i64 524288), .lit (.int .i64 1048576), .lit (.int .i64 2097152), .lit (.int .i64 4194304), .lit (.int .i64 8388608), .lit (.int .i64 16777216), .lit (.int .i64 33554432), .lit (.int .i64 67108864), .lit (.int .i64 134217728), .lit (.int .i64 268435456), .lit (.int .i64 536870912), .lit (.int .i64 1073741824), .lit (.int .i64 2147483648)]
def laid_granary_granaryref2_sines {H : Type} : DataW H := .agg [.lit (.int .i64 3614090360), .lit (.int .i64 3905402710), .lit (.int .i64 606105819), .lit (.int .i64 3250441966), .lit (.int .i64 4118548399), .lit (.int .i64 1200080426), .lit (.int .i64 2821735955), .lit (.int .i64 4249261313), .lit (.int .i64 1770035416), .lit (.int .i64 2336552879), .lit (.int .i64 4294925233), .lit (.int .i64 2304563134), .lit (.int .i64 1804603682), .lit (.int .i64 4254626195), .lit (.int .i64 2792965006), .lit (.int .i64 1236535329), .lit (.int .i64 4129170786), .lit (.int .i64 3225465664), .lit (.int .i64 643717713), .lit (.int .i64 3921069994), .lit (.int .i64 3593408605), .lit (.int .i64 38016083), .lit (.int .i64 3634488961), .lit (.int .i64 3889429448), .lit (.int .i64 568446438), .lit (.int .i64 3275163606), .lit (.int .i64 4107603335), .lit (.int .i64 1163531501), .lit (.int .i64 2850285829), .lit (.int .i64 4243563512), .lit (.int .i64 1735328473), .lit (.int .i64 2368359562), .lit (.int .i64 4294588738), .lit (.int .i64 2272392833), .lit (.int .i64 1839030562), .lit (.int .i64 4259657740), .lit (.int .i64 2763975236), .lit (.int .i64 1272893353), .lit (.int .i64 4139469664), .lit (.int .i64 3200236656), .lit (.int .i64 681279174), .lit (.int .i64 3936430074), .lit (.int .i64 3572445317), .lit (.int .i64 76029189), .lit (.int .i64 3654602809), .lit (.int .i64 3873151461), .lit (.int .i64 530742520), .lit (.int .i64 3299628645), .lit (.int .i64 4096336452), .lit (.int .i64 1126891415), .lit (.int .i64 2878612391), .lit (.int .i64 4237533241), .lit (.int .i64 1700485571), .lit (.int .i64 2399980690), .lit (.int .i64 4293915773), .lit (.int .i64 2240044497), .lit (.int .i64 1873313359), .lit (.int .i64 4264355552), .lit (.int .i64 2734768916), .lit (.int .i64 1309151649), .lit (.int .i64 4149444226), .lit (.int .i64 3174756917), .lit (.int .i64 718787259), .lit (.int .i64 3951481745)]
def laid_granary_granaryref2_turns {H : Type} : DataW H := .agg [.lit (.int .i64 7), .lit (.int .i64 12), .lit (.int .i64 17), .lit (.int .i64 22), .lit (.int .i64 5), .lit (.int .i64 9), .lit (.int .i64 14), .lit (.int .i64 20), .lit (.int .i64 4), .lit (.int .i64 11), .lit (.int .i64 16), .lit (.int .i64 23), .lit (.int .i64 6), .lit (.int .i64 10), .lit (.int .i64 15), .lit (.int .i64 21)]
def laid_granary_digest_first {H : Type} : DataW H := .agg [.lit (.int .u32 1732584193), .lit (.int .u32 4023233417), .lit (.int .u32 2562383102), .lit (.int .u32 271733878)]
def laid_granary_digest_sines {H : Type} : DataW H := .agg [.lit (.int .u32 3614090360), .lit (.int .u32 3905402710), .lit (.int .u32 606105819), .lit (.int .u32 3250441966), .lit (.int .u32 4118548399), .lit (.int .u32 1200080426), .lit (.int .u32 2821735955), .lit (.int .u32 4249261313), .lit (.int .u32 1770035416), .lit (.int .u32 2336552879), .lit (.int .u32 4294925233), .lit (.int .u32 2304563134), .lit (.int .u32 1804603682), .lit (.int .u32 4254626195), .lit (.int .u32 2792965006), .lit (.int .u32 1236535329), .lit (.int .u32 4129170786), .lit (.int .u32 3225465664), .lit (.int .u32 643717713), .lit (.int .u32 3921069994), .lit (.int .u32 3593408605), .lit (.int .u32 38016083), .lit (.int .u32 3634488961), .lit (.int .u32 3889429448), .lit (.int .u32 568446438), .lit (.int .u32 3275163606), .lit (.int .u32 4107603335), .lit (.int .u32 1163531501), .lit (.int .u32 2850285829), .lit (.int .u32 4243563512), .lit (.int .u32 1735328473), .lit (.int .u32 2368359562), .lit (.int .u32 4294588738), .lit (.int .u32 2272392833), .lit (.int .u32 1839030562), .lit (.int .u32 4259657740), .lit (.int .u32 2763975236), .lit (.int .u32 1272893353), .lit (.int .u32 4139469664), .lit (.int .u32 3200236656), .lit (.int .u32 681279174), .lit (.int .u32 3936430074), .lit (.int .u32 3572445317), .lit (.int .u32 76029189), .lit (.int .u32 3654602809), .lit (.int .u32 3873151461), .lit (.int .u32 530742520), .lit (.int .u32 3299628645), .lit (.int .u32 4096336452), .lit (.int .u32 1126891415), .lit (.int .u32 2878612391), .lit (.int .u32 4237533241), .lit (.int .u32 1700485571), .lit (.int .u32 2399980690), .lit (.int .u32 4293915773), .lit (.int .u32 2240044497), .lit (.int .u32 1873313359), .lit (.int .u32 4264355552), .lit (.int .u32 2734768916), .lit (.int .u32 1309151649), .lit (.int .u32 4149444226), .lit (.int .u32 3174756917), .lit (.int .u32 718787259), .lit (.int .u32 3951481745)]
def laid_granary_digest_turns {H : Type} : DataW H := .agg [.agg [.lit (.int .i64 7), .lit (.int .i64 12), .lit (.int .i64 17), .lit (.int .i64 22)], .agg [.lit (.int .i64 5), .lit (.int .i64 9), .lit (.int .i64 14), .lit (.int .i64 20)], .agg [.lit (.int .i64 4), .lit (.int .i64 11), .lit (.int .i64 16), .lit (.int .i64 23)], .agg [.lit (.int .i64 6), .lit (.int .i64 10), .lit (.int .i64 15), .lit (.int .i64 21)]]

/-- 'granarylaw2.DigestCRCs': WHATEVER THE INPUT: true; the input reads as it did. -/
def digestCRCsSpec : ChangeSpec := { name := "digestCRCs", fn := fun _ => fun
  | [d] => { results := [.lit (.bool true)], args := [d] }
  | _ => none }
def digestCRCsRow : OpenClaim := { program := "ythnobhifepnakaadoor", sum := "c703b6db7450fdc4ca047e8273334d4c6ee6c0622003eb035d8c93560452f075", func := "granary/granarylaw2.DigestCRCs", spec := "digestCRCs", named := ["granary/digest.nibbles"], apart := false, laid := [("granary/digest.nibbles", laid_granary_digest_nibbles)] }
def DigestCRCsSaid : Prop := digestCRCsRow.holds Tryd.pinned (OpenSpec.ofChange digestCRCsSpec)

/-- ITS FALSE NEIGHBOUR: 'it returns false'. Refute it at one input. -/
def digestCRCsWrong : ChangeSpec := { name := "digestCRCs", fn := fun _ => fun
  | [d] => { results := [.lit (.bool false)], args := [d] }
  | _ => none }
def DigestCRCsWrongFalsely : Prop := digestCRCsRow.holds Tryd.pinned (OpenSpec.ofChange digestCRCsWrong)

/-- 'granarylaw2.DigestJoins': WHATEVER THE INPUT: true; the input reads as it did. -/
def digestJoinsSpec : ChangeSpec := { name := "digestJoins", fn := fun _ => fun
  | [d1, d2, d3] => { results := [.lit (.bool true)], args := [d1, d2, d3] }
  | _ => none }
def digestJoinsRow : OpenClaim := { program := "ythnobhifepnakaadoor", sum := "c703b6db7450fdc4ca047e8273334d4c6ee6c0622003eb035d8c93560452f075", func := "granary/granarylaw2.DigestJoins", spec := "digestJoins", named := ["granary/granaryref2.powers"], apart := false, laid := [("granary/granaryref2.powers", laid_granary_granaryref2_powers)] }
def DigestJoinsSaid : Prop := digestJoinsRow.holds Tryd.pinned (OpenSpec.ofChange digestJoinsSpec)

/-- ITS FALSE NEIGHBOUR: 'it returns false'. Refute it at one input. -/
def digestJoinsWrong : ChangeSpec := { name := "digestJoins", fn := fun _ => fun
  | [d1, d2, d3] => { results := [.lit (.bool false)], args := [d1, d2, d3] }
  | _ => none }
def DigestJoinsWrongFalsely : Prop := digestJoinsRow.holds Tryd.pinned (OpenSpec.ofChange digestJoinsWrong)

/-- 'granarylaw2.DigestMD5s': WHATEVER THE INPUT: true; the input reads as it did. -/
def digestMD5sSpec : ChangeSpec := { name := "digestMD5s", fn := fun _ => fun
  | [d] => { results := [.lit (.bool true)], args := [d] }
  | _ => none }
def digestMD5sRow : OpenClaim := { program := "ythnobhifepnakaadoor", sum := "c703b6db7450fdc4ca047e8273334d4c6ee6c0622003eb035d8c93560452f075", func := "granary/granarylaw2.DigestMD5s", spec := "digestMD5s", named := ["granary/digest.first", "granary/digest.sines", "granary/digest.turns", "granary/granaryref2.sines", "granary/granaryref2.turns", "granary/granaryref2.powers"], apart := false, laid := [("granary/granaryref2.sines", laid_granary_granaryref2_sines), ("granary/granaryref2.turns", laid_granary_granaryref2_turns), ("granary/granaryref2.powers", laid_granary_granaryref2_powers), ("granary/digest.first", laid_granary_digest_first), ("granary/digest.sines", laid_granary_digest_sines), ("granary/digest.turns", laid_granary_digest_turns)] }
def DigestMD5sSaid : Prop := digestMD5sRow.holds Tryd.pinned (OpenSpec.ofChange digestMD5sSpec)

/-- ITS FALSE NEIGHBOUR: 'it returns false'. Refute it at one input. -/
def digestMD5sWrong : ChangeSpec := { name := "digestMD5s", fn := fun _ => fun
  | [d] => { results := [.lit (.bool false)], args := [d] }
  | _ => none }
def DigestMD5sWrongFalsely : Prop := digestMD5sRow.holds Tryd.pinned (OpenSpec.ofChange digestMD5sWrong)

/-- 'granarylaw2.DigestHashers': WHATEVER THE INPUT: true; the input reads as it did. -/
def digestHashersSpec : ChangeSpec := { name := "digestHashers", fn := fun _ => fun
  | [d] => { results := [.lit (.bool true)], args := [d] }
  | _ => none }
def digestHashersRow : OpenClaim := { program := "ythnobhifepnakaadoor", sum := "c703b6db7450fdc4ca047e8273334d4c6ee6c0622003eb035d8c93560452f075", func := "granary/granarylaw2.DigestHashers", spec := "digestHashers", named := ["granary/digest.first", "granary/digest.nibbles", "granary/digest.sines", "granary/digest.turns", "granary/granaryref2.sines", "granary/granaryref2.turns", "granary/granaryref2.powers"], apart := false, laid := [("granary/granaryref2.sines", laid_granary_granaryref2_sines), ("granary/granaryref2.turns", laid_granary_granaryref2_turns), ("granary/granaryref2.powers", laid_granary_granaryref2_powers), ("granary/digest.nibbles", laid_granary_digest_nibbles), ("granary/digest.first", laid_granary_digest_first), ("granary/digest.sines", laid_granary_digest_sines), ("granary/digest.turns", laid_granary_digest_turns)] }
def DigestHashersSaid : Prop := digestHashersRow.holds Tryd.pinned (OpenSpec.ofChange digestHashersSpec)

/-- ITS FALSE NEIGHBOUR: 'it returns false'. Refute it at one input. -/
def digestHashersWrong : ChangeSpec := { name := "digestHashers", fn := fun _ => fun
  | [d] => { results := [.lit (.bool false)], args := [d] }
  | _ => none }
def DigestHashersWrongFalsely : Prop := digestHashersRow.holds Tryd.pinned (OpenSpec.ofChange digestHashersWrong)

/-- 'granarylaw2.DigestKnown': WHATEVER THE INPUT: true; the input reads as it did. -/
def digestKnownSpec : ChangeSpec := { name := "digestKnown", fn := fun _ => fun
  | [] => { results := [.lit (.bool true)], args := [] }
  | _ => none }
def digestKnownRow : OpenClaim := { program := "ythnobhifepnakaadoor", sum := "c703b6db7450fdc4ca047e8273334d4c6ee6c0622003eb035d8c93560452f075", func := "granary/granarylaw2.DigestKnown", spec := "digestKnown", named := ["granary/digest.first", "granary/digest.sines", "granary/digest.turns", "granary/digest.nibbles"], apart := false, laid := [("granary/digest.nibbles", laid_granary_digest_nibbles), ("granary/digest.first", laid_granary_digest_first), ("granary/digest.sines", laid_granary_digest_sines), ("granary/digest.turns", laid_granary_digest_turns)] }
def DigestKnownSaid : Prop := digestKnownRow.holds Tryd.pinned (OpenSpec.ofChange digestKnownSpec)

/-- ITS FALSE NEIGHBOUR: 'it returns false'. Refute it at one input. -/
def digestKnownWrong : ChangeSpec := { name := "digestKnown", fn := fun _ => fun
  | [] => { results := [.lit (.bool false)], args := [] }
  | _ => none }
def DigestKnownWrongFalsely : Prop := digestKnownRow.holds Tryd.pinned (OpenSpec.ofChange digestKnownWrong)

/-- 'granarylaw2.DigestBurst': WHATEVER THE INPUT: true; the input reads as it did. -/
def digestBurstSpec : ChangeSpec := { name := "digestBurst", fn := fun _ => fun
  | [d1, d2, d3] => { results := [.lit (.bool true)], args := [d1, d2, d3] }
  | _ => none }
def digestBurstRow : OpenClaim := { program := "ythnobhifepnakaadoor", sum := "c703b6db7450fdc4ca047e8273334d4c6ee6c0622003eb035d8c93560452f075", func := "granary/granarylaw2.DigestBurst", spec := "digestBurst", named := ["granary/digest.first", "granary/digest.sines", "granary/digest.turns", "granary/digest.nibbles"], apart := false, laid := [("granary/digest.nibbles", laid_granary_digest_nibbles), ("granary/digest.first", laid_granary_digest_first), ("granary/digest.sines", laid_granary_digest_sines), ("granary/digest.turns", laid_granary_digest_turns)] }
def DigestBurstSaid : Prop := digestBurstRow.holds Tryd.pinned (OpenSpec.ofChange digestBurstSpec)

/-- ITS FALSE NEIGHBOUR: 'it returns false'. Refute it at one input. -/
def digestBurstWrong : ChangeSpec := { name := "digestBurst", fn := fun _ => fun
  | [d1, d2, d3] => { results := [.lit (.bool false)], args := [d1, d2, d3] }
  | _ => none }
def DigestBurstWrongFalsely : Prop := digestBurstRow.holds Tryd.pinned (OpenSpec.ofChange digestBurstWrong)

/-- 'granarylaw2.DigestCuts': WHATEVER THE INPUT: true; the input reads as it did. -/
def digestCutsSpec : ChangeSpec := { name := "digestCuts", fn := fun _ => fun
  | [d] => { results := [.lit (.bool true)], args := [d] }
  | _ => none }
def digestCutsRow : OpenClaim := { program := "ythnobhifepnakaadoor", sum := "c703b6db7450fdc4ca047e8273334d4c6ee6c0622003eb035d8c93560452f075", func := "granary/granarylaw2.DigestCuts", spec := "digestCuts", named := ["granary/digest.first", "granary/digest.sines", "granary/digest.turns", "granary/digest.nibbles"], apart := false, laid := [("granary/digest.nibbles", laid_granary_digest_nibbles), ("granary/digest.first", laid_granary_digest_first), ("granary/digest.sines", laid_granary_digest_sines), ("granary/digest.turns", laid_granary_digest_turns)] }
def DigestCutsSaid : Prop := digestCutsRow.holds Tryd.pinned (OpenSpec.ofChange digestCutsSpec)

/-- ITS FALSE NEIGHBOUR: 'it returns false'. Refute it at one input. -/
def digestCutsWrong : ChangeSpec := { name := "digestCuts", fn := fun _ => fun
  | [d] => { results := [.lit (.bool false)], args := [d] }
  | _ => none }
def DigestCutsWrongFalsely : Prop := digestCutsRow.holds Tryd.pinned (OpenSpec.ofChange digestCutsWrong)

/-- 'granarylaw2.DigestHexBack': WHATEVER THE INPUT: true; the input reads as it did. -/
def digestHexBackSpec : ChangeSpec := { name := "digestHexBack", fn := fun _ => fun
  | [d] => { results := [.lit (.bool true)], args := [d] }
  | _ => none }
def digestHexBackRow : OpenClaim := { program := "ythnobhifepnakaadoor", sum := "c703b6db7450fdc4ca047e8273334d4c6ee6c0622003eb035d8c93560452f075", func := "granary/granarylaw2.DigestHexBack", spec := "digestHexBack", named := ["granary/digest.first", "granary/digest.sines", "granary/digest.turns", "granary/digest.nibbles"], apart := false, laid := [("granary/digest.nibbles", laid_granary_digest_nibbles), ("granary/digest.first", laid_granary_digest_first), ("granary/digest.sines", laid_granary_digest_sines), ("granary/digest.turns", laid_granary_digest_turns)] }
def DigestHexBackSaid : Prop := digestHexBackRow.holds Tryd.pinned (OpenSpec.ofChange digestHexBackSpec)

/-- ITS FALSE NEIGHBOUR: 'it returns false'. Refute it at one input. -/
def digestHexBackWrong : ChangeSpec := { name := "digestHexBack", fn := fun _ => fun
  | [d] => { results := [.lit (.bool false)], args := [d] }
  | _ => none }
def DigestHexBackWrongFalsely : Prop := digestHexBackRow.holds Tryd.pinned (OpenSpec.ofChange digestHexBackWrong)

/-- 'granarylaw2.DigestJoined': WHATEVER THE INPUT: true; the input reads as it did. -/
def digestJoinedSpec : ChangeSpec := { name := "digestJoined", fn := fun _ => fun
  | [d1, d2, d3] => { results := [.lit (.bool true)], args := [d1, d2, d3] }
  | _ => none }
def digestJoinedRow : OpenClaim := { program := "ythnobhifepnakaadoor", sum := "c703b6db7450fdc4ca047e8273334d4c6ee6c0622003eb035d8c93560452f075", func := "granary/granarylaw2.DigestJoined", spec := "digestJoined", named := ["granary/digest.first", "granary/digest.sines", "granary/digest.turns", "granary/digest.nibbles"], apart := false, laid := [("granary/digest.nibbles", laid_granary_digest_nibbles), ("granary/digest.first", laid_granary_digest_first), ("granary/digest.sines", laid_granary_digest_sines), ("granary/digest.turns", laid_granary_digest_turns)] }
def DigestJoinedSaid : Prop := digestJoinedRow.holds Tryd.pinned (OpenSpec.ofChange digestJoinedSpec)

/-- ITS FALSE NEIGHBOUR: 'it returns false'. Refute it at one input. -/
def digestJoinedWrong : ChangeSpec := { name := "digestJoined", fn := fun _ => fun
  | [d1, d2, d3] => { results := [.lit (.bool false)], args := [d1, d2, d3] }
  | _ => none }
def DigestJoinedWrongFalsely : Prop := digestJoinedRow.holds Tryd.pinned (OpenSpec.ofChange digestJoinedWrong)

/- THE SECOND FORM. 'bulk': how many values and letters a reading holds, each counted each time it is reached (what is shared counts as often as it is met; a slice's spare places count too). A statement '..UptoSaid' is the law's where the arguments, and the package variables that the reading takes, are together of bulk at most 1048576: NARROWER than '..Said'. Prove '..Said' where nothing that the law and all that it calls make is longer than what came in: it says more and counts as full. Else prove '..UptoSaid'. A law counts once. -/
mutual
def uptoBulk {H : Type} : DataW H → Nat
  | .lit (.string bytes) => bytes.length + 1
  | .lit _ => 1
  | .nil => 1
  | .ptr d => uptoBulk d + 1
  | .slice elems spare => uptoBulkAll elems + uptoBulkAll spare + 1
  | .agg parts => uptoBulkAll parts + 1
  | .iface _ d => uptoBulk d + 1
  | .map entries => uptoBulkEntries entries + 1
  | .held _ => 1
def uptoBulkAll {H : Type} : List (DataW H) → Nat
  | [] => 0
  | d :: r => uptoBulk d + uptoBulkAll r
def uptoBulkEntries {H : Type} : List (Lit × DataW H) → Nat
  | [] => 0
  | x :: r => uptoBulkEntry x + uptoBulkEntries r
def uptoBulkEntry {H : Type} : Lit × DataW H → Nat
  | (.string bytes, d) => bytes.length + uptoBulk d + 1
  | (_, d) => uptoBulk d + 1
 end
def uptoSmall : (H : Type) → List (DataW H) → Bool := fun _ ds => decide (uptoBulkAll ds ≤ 1048576)
def OpenSpec.upto (s : _root_.Go.ChangeSpec) : _root_.Go.OpenSpec := { _root_.Go.OpenSpec.ofChange s with cond := some uptoSmall }

/-- 'granarylaw2.DigestCRCs', WHERE WHAT IT READS IS OF BULK AT MOST 1048576: true; the input reads as it did. -/
def digestCRCsUptoRow : OpenClaim := { program := "ythnobhifepnakaadoor", sum := "c703b6db7450fdc4ca047e8273334d4c6ee6c0622003eb035d8c93560452f075", func := "granary/granarylaw2.DigestCRCs", spec := "digestCRCs", named := ["granary/digest.nibbles"], apart := false, laid := [("granary/digest.nibbles", laid_granary_digest_nibbles)], narrowed := true }
def DigestCRCsUptoSaid : Prop := digestCRCsUptoRow.holds Tryd.pinned (OpenSpec.upto digestCRCsSpec)

/-- 'granarylaw2.DigestJoins', WHERE WHAT IT READS IS OF BULK AT MOST 1048576: true; the input reads as it did. -/
def digestJoinsUptoRow : OpenClaim := { program := "ythnobhifepnakaadoor", sum := "c703b6db7450fdc4ca047e8273334d4c6ee6c0622003eb035d8c93560452f075", func := "granary/granarylaw2.DigestJoins", spec := "digestJoins", named := ["granary/granaryref2.powers"], apart := false, laid := [("granary/granaryref2.powers", laid_granary_granaryref2_powers)], narrowed := true }
def DigestJoinsUptoSaid : Prop := digestJoinsUptoRow.holds Tryd.pinned (OpenSpec.upto digestJoinsSpec)

/-- 'granarylaw2.DigestMD5s', WHERE WHAT IT READS IS OF BULK AT MOST 1048576: true; the input reads as it did. -/
def digestMD5sUptoRow : OpenClaim := { program := "ythnobhifepnakaadoor", sum := "c703b6db7450fdc4ca047e8273334d4c6ee6c0622003eb035d8c93560452f075", func := "granary/granarylaw2.DigestMD5s", spec := "digestMD5s", named := ["granary/digest.first", "granary/digest.sines", "granary/digest.turns", "granary/granaryref2.sines", "granary/granaryref2.turns", "granary/granaryref2.powers"], apart := false, laid := [("granary/granaryref2.sines", laid_granary_granaryref2_sines), ("granary/granaryref2.turns", laid_granary_granaryref2_turns), ("granary/granaryref2.powers", laid_granary_granaryref2_powers), ("granary/digest.first", laid_granary_digest_first), ("granary/digest.sines", laid_granary_digest_sines), ("granary/digest.turns", laid_granary_digest_turns)], narrowed := true }
def DigestMD5sUptoSaid : Prop := digestMD5sUptoRow.holds Tryd.pinned (OpenSpec.upto digestMD5sSpec)

/-- 'granarylaw2.DigestHashers', WHERE WHAT IT READS IS OF BULK AT MOST 1048576: true; the input reads as it did. -/
def digestHashersUptoRow : OpenClaim := { program := "ythnobhifepnakaadoor", sum := "c703b6db7450fdc4ca047e8273334d4c6ee6c0622003eb035d8c93560452f075", func := "granary/granarylaw2.DigestHashers", spec := "digestHashers", named := ["granary/digest.first", "granary/digest.nibbles", "granary/digest.sines", "granary/digest.turns", "granary/granaryref2.sines", "granary/granaryref2.turns", "granary/granaryref2.powers"], apart := false, laid := [("granary/granaryref2.sines", laid_granary_granaryref2_sines), ("granary/granaryref2.turns", laid_granary_granaryref2_turns), ("granary/granaryref2.powers", laid_granary_granaryref2_powers), ("granary/digest.nibbles", laid_granary_digest_nibbles), ("granary/digest.first", laid_granary_digest_first), ("granary/digest.sines", laid_granary_digest_sines), ("granary/digest.turns", laid_granary_digest_turns)], narrowed := true }
def DigestHashersUptoSaid : Prop := digestHashersUptoRow.holds Tryd.pinned (OpenSpec.upto digestHashersSpec)

/-- 'granarylaw2.DigestKnown', WHERE WHAT IT READS IS OF BULK AT MOST 1048576: true; the input reads as it did. -/
def digestKnownUptoRow : OpenClaim := { program := "ythnobhifepnakaadoor", sum := "c703b6db7450fdc4ca047e8273334d4c6ee6c0622003eb035d8c93560452f075", func := "granary/granarylaw2.DigestKnown", spec := "digestKnown", named := ["granary/digest.first", "granary/digest.sines", "granary/digest.turns", "granary/digest.nibbles"], apart := false, laid := [("granary/digest.nibbles", laid_granary_digest_nibbles), ("granary/digest.first", laid_granary_digest_first), ("granary/digest.sines", laid_granary_digest_sines), ("granary/digest.turns", laid_granary_digest_turns)], narrowed := true }
def DigestKnownUptoSaid : Prop := digestKnownUptoRow.holds Tryd.pinned (OpenSpec.upto digestKnownSpec)

/-- 'granarylaw2.DigestBurst', WHERE WHAT IT READS IS OF BULK AT MOST 1048576: true; the input reads as it did. -/
def digestBurstUptoRow : OpenClaim := { program := "ythnobhifepnakaadoor", sum := "c703b6db7450fdc4ca047e8273334d4c6ee6c0622003eb035d8c93560452f075", func := "granary/granarylaw2.DigestBurst", spec := "digestBurst", named := ["granary/digest.first", "granary/digest.sines", "granary/digest.turns", "granary/digest.nibbles"], apart := false, laid := [("granary/digest.nibbles", laid_granary_digest_nibbles), ("granary/digest.first", laid_granary_digest_first), ("granary/digest.sines", laid_granary_digest_sines), ("granary/digest.turns", laid_granary_digest_turns)], narrowed := true }
def DigestBurstUptoSaid : Prop := digestBurstUptoRow.holds Tryd.pinned (OpenSpec.upto digestBurstSpec)

/-- 'granarylaw2.DigestCuts', WHERE WHAT IT READS IS OF BULK AT MOST 1048576: true; the input reads as it did. -/
def digestCutsUptoRow : OpenClaim := { program := "ythnobhifepnakaadoor", sum := "c703b6db7450fdc4ca047e8273334d4c6ee6c0622003eb035d8c93560452f075", func := "granary/granarylaw2.DigestCuts", spec := "digestCuts", named := ["granary/digest.first", "granary/digest.sines", "granary/digest.turns", "granary/digest.nibbles"], apart := false, laid := [("granary/digest.nibbles", laid_granary_digest_nibbles), ("granary/digest.first", laid_granary_digest_first), ("granary/digest.sines", laid_granary_digest_sines), ("granary/digest.turns", laid_granary_digest_turns)], narrowed := true }
def DigestCutsUptoSaid : Prop := digestCutsUptoRow.holds Tryd.pinned (OpenSpec.upto digestCutsSpec)

/-- 'granarylaw2.DigestHexBack', WHERE WHAT IT READS IS OF BULK AT MOST 1048576: true; the input reads as it did. -/
def digestHexBackUptoRow : OpenClaim := { program := "ythnobhifepnakaadoor", sum := "c703b6db7450fdc4ca047e8273334d4c6ee6c0622003eb035d8c93560452f075", func := "granary/granarylaw2.DigestHexBack", spec := "digestHexBack", named := ["granary/digest.first", "granary/digest.sines", "granary/digest.turns", "granary/digest.nibbles"], apart := false, laid := [("granary/digest.nibbles", laid_granary_digest_nibbles), ("granary/digest.first", laid_granary_digest_first), ("granary/digest.sines", laid_granary_digest_sines), ("granary/digest.turns", laid_granary_digest_turns)], narrowed := true }
def DigestHexBackUptoSaid : Prop := digestHexBackUptoRow.holds Tryd.pinned (OpenSpec.upto digestHexBackSpec)

/-- 'granarylaw2.DigestJoined', WHERE WHAT IT READS IS OF BULK AT MOST 1048576: true; the input reads as it did. -/
def digestJoinedUptoRow : OpenClaim := { program := "ythnobhifepnakaadoor", sum := "c703b6db7450fdc4ca047e8273334d4c6ee6c0622003eb035d8c93560452f075", func := "granary/granarylaw2.DigestJoined", spec := "digestJoined", named := ["granary/digest.first", "granary/digest.sines", "granary/digest.turns", "granary/digest.nibbles"], apart := false, laid := [("granary/digest.nibbles", laid_granary_digest_nibbles), ("granary/digest.first", laid_granary_digest_first), ("granary/digest.sines", laid_granary_digest_sines), ("granary/digest.turns", laid_granary_digest_turns)], narrowed := true }
def DigestJoinedUptoSaid : Prop := digestJoinedUptoRow.holds Tryd.pinned (OpenSpec.upto digestJoinedSpec)

end Rows
end Go.Proofs.YthnobhifepnakaaDoor
