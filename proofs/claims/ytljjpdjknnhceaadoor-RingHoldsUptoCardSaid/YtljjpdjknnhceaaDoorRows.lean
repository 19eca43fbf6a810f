/-
  NARROWER THAN 'FOR EVERY INPUT', by the rows' own cells (each row's printed sentence says how): RingChecks: laid · RingWalks: laid · RingLocates: laid · RingPlaces: laid · RingPrints: laid · RingParses: laid · RingNames: laid · RingHolds: laid · RingTextBack: laid.
  DERIVED. THE GIVEN ROWS OF THIS SEAT. 9 by the template 'for every input the law returns true; each argument reads behind the call as it read before'; 0 by the template 'total and deterministic' (their statements: YtljjpdjknnhceaaDoorTotals.lean).
  GIVEN WITH THE SEED: the statements are not yours to turn. If you find one false, say at which input.
  Laid BY PROGRAM, IN A SANDBOX (cutbox-rows.mjs): the forced cells as the released guide's own fill.sh prints them over the translation 0c1c74adf99c0d22… (all of the seat's roots in one cut). By AI agents, Wed Nov 11 2026. No macro, syntax, notation, axiom, sorry.
-/
import Derived.Test.YtljjpdjknnhceaaDoorChecked
import GoSem.PinnedTables
import GoSem.Claim
import GoSem.ClaimJoined
import GoSem.ClaimMapViews
import Derived.JoinedTies
import Derived.KernelRfl
namespace Go.Proofs.YtljjpdjknnhceaaDoor
/- THE CELL 'sum', in the pinned program and in every row, IS THE sha256 OF THE DUMP (.gsa) THAT YtljjpdjknnhceaaDoorProg.lean LOADS. Nothing in Lean hashes anything: it is a label: what it is worth is what the hold of that sum in a sandbox is worth. -/
noncomputable def Tryd.pinned : Pinned := { name := "ytljjpdjknnhceaadoor", sum := "0c1c74adf99c0d22ae03729588d292cdd698b9b2783acf5f4dcca1616d3e54d7", checked := Tryd.checked }
namespace Rows
def none {H : Type} : Left H := { results := [], args := [] }

/- WHAT THE LISTED PACKAGE-LEVEL VARIABLES READ AS WHEN THE CALL BEGINS. Each datum BY PROGRAM (the guide's laid-datum.mjs) off the statement by which the dump's own 'gosem.cut.vars' lays the variable. In a bare row this is a premise. The card (YtljjpdjknnhceaaDoorCards.lean) ties it to the program's text. -/
def laid_granary_granaryref6_greatest {H : Type} : DataW H := .agg [.lit (.int .i64 16), .lit (.int .i64 16), .lit (.int .i64 16), .lit (.int .i64 8), .lit (.int .i64 4096), .lit (.int .i64 65536), .lit (.int .i64 1024), .lit (.int .i64 65536), .lit (.int .i64 64), .lit (.int .i64 1024), .lit (.int .i64 1024), .lit (.int .i64 1073741824), .lit (.int .i64 1073741824), .lit (.int .i64 1073741824), .lit (.int .i64 1024), .lit (.int .i64 64), .lit (.int .i64 65536), .lit (.int .i64 1024), .lit (.int .i64 64), .lit (.int .i64 1024), .lit (.int .i64 7)]
def laid_granary_granaryref2_sines {H : Type} : DataW H := .agg [.lit (.int .i64 3614090360), .lit (.int .i64 3905402710), .lit (.int .i64 606105819), .lit (.int .i64 3250441966), .lit (.int .i64 4118548399), .lit (.int .i64 1200080426), .lit (.int .i64 2821735955), .lit (.int .i64 4249261313), .lit (.int .i64 1770035416), .lit (.int .i64 2336552879), .lit (.int .i64 4294925233), .lit (.int .i64 2304563134), .lit (.int .i64 1804603682), .lit (.int .i64 4254626195), .lit (.int .i64 2792965006), .lit (.int .i64 1236535329), .lit (.int .i64 4129170786), .lit (.int .i64 3225465664), .lit (.int .i64 643717713), .lit (.int .i64 3921069994), .lit (.int .i64 3593408605), .lit (.int .i64 38016083), .lit (.int .i64 3634488961), .lit (.int .i64 3889429448), .lit (.int .i64 568446438), .lit (.int .i64 3275163606), .lit (.int .i64 4107603335), .lit (.int .i64 1163531501), .lit (.int .i64 2850285829), .lit (.int .i64 4243563512), .lit (.int .i64 1735328473), .lit (.int .i64 2368359562), .lit (.int .i64 4294588738), .lit (.int .i64 2272392833), .lit (.int .i64 1839030562), .lit (.int .i64 4259657740), .lit (.int .i64 2763975236), .lit (.int .i64 1272893353), .lit (.int .i64 4139469664), .lit (.int .i64 3200236656), .lit (.int .i64 681279174), .lit (.int .i64 3936430074), .lit (.int .i64 3572445317), .lit (.int .i64 76029189), .lit (.int .i64 3654602809), .lit (.int .i64 3873151461), .lit (.int .i64 530742520), .lit (.int .i64 3299628645), .lit (.int .i64 4096336452), .lit (.int .i64 1126891415), .lit (.int .i64 2878612391), .lit (.int .i64 4237533241), .lit (.int .i64 1700485571), .lit (.int .i64 2399980690), .lit (.int .i64 4293915773), .lit (.int .i64 2240044497), .lit (.int .i64 1873313359), .lit (.int .i64 4264355552), .lit (.int .i64 2734768916), .lit (.int .i64 1309151649), .lit (.int .i64 4149444226), .lit (.int .i64 3174756917), .lit (.int .i64 718787259), .lit (.int .i64 3951481745)]
def laid_granary_granaryref2_turns {H : Type} : DataW H := .agg [.lit (.int .i64 7), .lit (.int .i64 12), .lit (.int .i64 17), .lit (.int .i64 22), .lit (.int .i64 5), .lit (.int .i64 9), .lit (.int .i64 14), .lit (.int .i64 20), .lit (.int .i64 4), .lit (.int .i64 11), .lit (.int .i64 16), .lit (.int .i64 23), .lit (.int .i64 6), .lit (.int .i64 10), .lit (.int .i64 15), .lit (.int .i64 21)]
def laid_granary_granaryref2_powers {H : Type} : DataW H := .agg [.lit (.int .i64 1), .lit (.int .i64 2), .lit (.int .i64 4), .lit (.int .i64 8), .lit (.int .i64 16), .lit (.int .i64 32), .lit (.int .i64 64), .lit (.int .i64 128), .lit (.int .i64 256), .lit (.int .i64 512), .lit (.int .i64 1024), .lit (.int .i64 2048), .lit (.int .i64 4096), .lit (.int .i64 8192), .lit (.int .i64 16384), .lit (.int .i64 32768), .lit (.int .i64 65536), .lit (.int .i64 131072), .lit (.int .i64 262144), .lit (.int .i64 524288), .lit (.int .i64 1048576), .lit (.int .i64 2097152), .lit (.int .i64 4194304), .lit (.int .i64 8388608), .lit (.int .i64 16777216), .lit (.int .i64 33554432), .lit (.int .i64 67108864), .lit (.int .i64 134217728), .lit (.int .i64 268435456), .lit (.int .i64 536870912), .lit (.int .i64 1073741824), .lit (.int .i64 2147483648)]
def laid_granary_digest_first {H : Type} : DataW H := .agg [.lit (.int .u32 1732584193), .lit (.int .u32 4023233417), .lit (.int .u32 2562383102), .lit (.int .u32 271733878)]
def laid_granary_digest_sines {H : Type} : DataW H := .agg [.lit (.int .u32 3614090360), .lit (.int .u32 3905402710), .lit (.int .u32 606105819), .lit (.int .u32 3250441966), .lit (.int .u32 4118548399), .lit (.int .u32 1200080426), .lit (.int .u32 2821735955), .lit (.int .u32 4249261313), .lit (.int .u32 1770035416), .lit (.int .u32 2336552879), .lit (.int .u32 4294925233), .lit (.int .u32 2304563134), .lit (.int .u32 1804603682), .lit (.int .u32 4254626195), .lit (.int .u32 2792965006), .lit (.int .u32 1236535329), .lit (.int .u32 4129170786), .lit (.int .u32 3225465664), .lit (.int .u32 643717713), .lit (.int .u32 3921069994), .lit (.int .u32 3593408605), .lit (.int .u32 38016083), .lit (.int .u32 3634488961), .lit (.int .u32 3889429448), .lit (.int .u32 568446438), .lit (.int .u32 3275163606), .lit (.int .u32 4107603335), .lit (.int .u32 1163531501), .lit (.int .u32 2850285829), .lit (.int .u32 4243563512), .lit (.int .u32 1735328473), .lit (.int .u32 2368359562), .lit (.int .u32 4294588738), .lit (.int .u32 2272392833), .lit (.int .u32 1839030562), .lit (.int .u32 4259657740), .lit (.int .u32 2763975236), .lit (.int .u32 1272893353), .lit (.int .u32 4139469664), .lit (.int .u32 3200236656), .lit (.int .u32 681279174), .lit (.int .u32 3936430074), .lit (.int .u32 3572445317), .lit (.int .u32 76029189), .lit (.int .u32 3654602809), .lit (.int .u32 3873151461), .lit (.int .u32 530742520), .lit (.int .u32 3299628645), .lit (.int .u32 4096336452), .lit (.int .u32 1126891415), .lit (.int .u32 2878612391), .lit (.int .u32 4237533241), .lit (.int .u32 1700485571), .lit (.int .u32 2399980690), .lit (.int .u32 4293915773), .lit (.int .u32 2240044497), .lit (.int .u32 1873313359), .lit (.int .u32 4264355552), .lit (.int .u32 2734768916), .lit (.int .u32 1309151649), .lit (.int .u32 4149444226), .lit (.int .u32 3174756917), .lit (.int .u32 718787259), .lit (.int .u32 3951481745)]
def laid_granary_digest_turns {H : Type} : DataW H := .agg [.agg [.lit (.int .i64 7), .lit (.int .i64 12), .lit (.int .i64 17), .lit (.int .i64 22)], .agg [.lit (.int .i64 5), .lit (.int .i64 9), .lit (.int .i64 14), .lit (.int .i64 20)], .agg [.lit (.int .i64 4), .lit (.int .i64 11), .lit (.int .i64 16), .lit (.int .i64 23)], .agg [.lit (.int .i64 6), .lit (.int .i64 10), .lit (.int .i64 15), .lit (.int .i64 21)]]
def laid_math_bits_deBruijn32tab {H : Type} : DataW H := .agg [.lit (.int .u8 0), .lit (.int .u8 1), .lit (.int .u8 28), .lit (.int .u8 2), .lit (.int .u8 29), .lit (.int .u8 14), .lit (.int .u8 24), .lit (.int .u8 3), .lit (.int .u8 30), .lit (.int .u8 22), .lit (.int .u8 20), .lit (.int .u8 15), .lit (.int .u8 25), .lit (.int .u8 17), .lit (.int .u8 4), .lit (.int .u8 8), .lit (.int .u8 31), .lit (.int .u8 27), .lit (.int .u8 13), .lit (.int .u8 23), .lit (.int .u8 21), .lit (.int .u8 19), .lit (.int .u8 16), .lit (.int .u8 7), .lit (.int .u8 26), .lit (.int .u8 12), .lit (.int .u8 18), .lit (.int .u8 6), .lit (.int .u8 11), .lit (.int .u8 5), .lit (.int .u8 10), .lit (.int .u8 9)]
def laid_math_bits_deBruijn64tab {H : Type} : DataW H := .agg [.lit (.int .u8 0), .lit (.int .u8 1), .lit (.int .u8 56), .lit (.int .u8 2), .lit (.int .u8 57), .lit (.int .u8 49), .lit (.int .u8 28), .lit (.int .u8 3), .lit (.int .u8 61), .lit (.int .u8 58), .lit (.int .u8 42), .lit (.int .u8 50), .lit (.int .u8 38), .lit (.int .u8 29), .lit (.int .u8 17), .lit (.int .u8 4), .lit (.int .u8 62), .lit (.int .u8 47), .lit (.int .u8 59), .lit (.int .u8 36), .lit (.int .u8 45), .lit (.int .u8 43), .lit (.int .u8 51), .lit (.int .u8 22), .lit (.int .u8 53), .lit (.int .u8 39), .lit (.int .u8 33), .lit (.int .u8 30), .lit (.int .u8 24), .lit (.int .u8 18), .lit (.int .u8 12), .lit (.int .u8 5), .lit (.int .u8 63), .lit (.int .u8 55), .lit (.int .u8 48), .lit (.int .u8 27), .lit (.int .u8 60), .lit (.int .u8 41), .lit (.int .u8 37), .lit (.int .u8 16), .lit (.int .u8 46), .lit (.int .u8 35), .lit (.int .u8 44), .lit (.int .u8 21), .lit (.int .u8 52), .lit (.int .u8 32), .lit (.int .u8 23), .lit (.int .u8 11), .lit (.int .u8 54), .lit (.int .u8 26), .lit (.int .u8 40), .lit (.int .u8 15), .lit (.int .u8 34), .lit (.int .u8 20), .lit (.int .u8 31), .lit (.int .u8 10), .lit (.int .u8 25), .lit (.int .u8 14), .lit (.int .u8 19), .lit (.int .u8 9), .lit (.int .u8 13), .lit (.int .u8 8), .lit (.int .u8 7), .lit (.int .u8 6)]
def laid_internal_strconv_uint64pow10 {H : Type} : DataW H := .agg [.lit (.int .u64 1), .lit (.int .u64 10), .lit (.int .u64 100), .lit (.int .u64 1000), .lit (.int .u64 10000), .lit (.int .u64 100000), .lit (.int .u64 1000000), .lit (.int .u64 10000000), .lit (.int .u64 100000000), .lit (.int .u64 1000000000), .lit (.int .u64 10000000000), .lit (.int .u64 100000000000), .lit (.int .u64 1000000000000), .lit (.int .u64 10000000000000), .lit (.int .u64 100000000000000), .lit (.int .u64 1000000000000000), .lit (.int .u64 10000000000000000), .lit (.int .u64 100000000000000000), .lit (.int .u64 1000000000000000000), .lit (.int .u64 10000000000000000000)]
def laid_granary_granaryref6_words {H : Type} : DataW H := .agg [.lit (.string [114, 101, 112, 108, 105, 99, 97, 115]), .lit (.string [119, 105, 100, 116, 104]), .lit (.string [99, 104, 117, 110, 107, 115]), .lit (.string [114, 101, 116, 97, 105, 110]), .lit (.string [98, 108, 111, 99, 107]), .lit (.string [114, 97, 116, 101]), .lit (.string [112, 101, 114]), .lit (.string [98, 117, 114, 115, 116]), .lit (.string [116, 114, 105, 101, 115]), .lit (.string [98, 97, 115, 101]), .lit (.string [109, 111, 115, 116]), .lit (.string [113, 117, 111, 116, 97]), .lit (.string [114, 111, 111, 109]), .lit (.string [100, 101, 112, 111, 116]), .lit (.string [114, 101, 115, 101, 110, 100]), .lit (.string [108, 105, 109, 105, 116]), .lit (.string [112, 97, 116, 105, 101, 110, 99, 101]), .lit (.string [103, 101, 116, 119, 97, 105, 116]), .lit (.string [115, 116, 114, 105, 107, 101, 115]), .lit (.string [98, 97, 110]), .lit (.string [104, 111, 109, 101])]
def laid_unicode_utf8_acceptRanges {H : Type} : DataW H := .agg [.agg [.lit (.int .u8 128), .lit (.int .u8 191)], .agg [.lit (.int .u8 160), .lit (.int .u8 191)], .agg [.lit (.int .u8 128), .lit (.int .u8 159)], .agg [.lit (.int .u8 144), .lit (.int .u8 191)], .agg [.lit (.int .u8 128), .lit (.int .u8 143)], .agg [.lit (.int .u8 0), .lit (.int .u8 0)], .agg [.lit (.int .u8 0), .lit (.int .u8 0)], .agg [.lit (.int .u8 0), .lit (.int .u8 0)], .agg [.lit (.int .u8 0), .lit (.int .u8 0)], .agg [.lit (.int .u8 0), .lit (.int .u8 0)], .agg [.lit (.int .u8 0), .lit (.int .u8 0)], .agg [.lit (.int .u8 0), .lit (.int .u8 0)], .agg [.lit (.int .u8 0), .lit (.int .u8 0)], .agg [.lit (.int .u8 0), .lit (.int .u8 0)], .agg [.lit (.int .u8 0), .lit (.int .u8 0)], .agg [.lit (.int .u8 0), .lit (.int .u8 0)]]
/-- One of Go's own tables, pinned by name: the form's constant. -/
def laid_unicode_utf8_first : DataW Unit := Go.Pinned.utf8First

/-- 'granarylaw6.RingChecks': WHATEVER THE INPUT: true; the input reads as it did. -/
def ringChecksSpec : ChangeSpec := { name := "ringChecks", fn := fun _ => fun
  | [d] => { results := [.lit (.bool true)], args := [d] }
  | _ => none }
def ringChecksRow : OpenClaim := { program := "ytljjpdjknnhceaadoor", sum := "0c1c74adf99c0d22ae03729588d292cdd698b9b2783acf5f4dcca1616d3e54d7", func := "granary/granarylaw6.RingChecks", spec := "ringChecks", unfollowed := true, recurses := true, named := ["granary/granaryref6.greatest"], apart := false, laid := [("granary/granaryref6.greatest", laid_granary_granaryref6_greatest)] }
def RingChecksSaid : Prop := ringChecksRow.holds Tryd.pinned (OpenSpec.ofChange ringChecksSpec)

/-- ITS FALSE NEIGHBOUR: 'it returns false'. Refute it at one input. -/
def ringChecksWrong : ChangeSpec := { name := "ringChecks", fn := fun _ => fun
  | [d] => { results := [.lit (.bool false)], args := [d] }
  | _ => none }
def RingChecksWrongFalsely : Prop := ringChecksRow.holds Tryd.pinned (OpenSpec.ofChange ringChecksWrong)

/-- 'granarylaw6.RingWalks': WHATEVER THE INPUT: true; the input reads as it did. -/
def ringWalksSpec : ChangeSpec := { name := "ringWalks", fn := fun _ => fun
  | [d1, d2] => { results := [.lit (.bool true)], args := [d1, d2] }
  | _ => none }
def ringWalksRow : OpenClaim := { program := "ytljjpdjknnhceaadoor", sum := "0c1c74adf99c0d22ae03729588d292cdd698b9b2783acf5f4dcca1616d3e54d7", func := "granary/granarylaw6.RingWalks", spec := "ringWalks", unfollowed := true, recurses := true, named := ["granary/granaryref6.greatest"], apart := false, laid := [("granary/granaryref6.greatest", laid_granary_granaryref6_greatest)] }
def RingWalksSaid : Prop := ringWalksRow.holds Tryd.pinned (OpenSpec.ofChange ringWalksSpec)

/-- ITS FALSE NEIGHBOUR: 'it returns false'. Refute it at one input. -/
def ringWalksWrong : ChangeSpec := { name := "ringWalks", fn := fun _ => fun
  | [d1, d2] => { results := [.lit (.bool false)], args := [d1, d2] }
  | _ => none }
def RingWalksWrongFalsely : Prop := ringWalksRow.holds Tryd.pinned (OpenSpec.ofChange ringWalksWrong)

/-- 'granarylaw6.RingLocates': WHATEVER THE INPUT: true; the input reads as it did. -/
def ringLocatesSpec : ChangeSpec := { name := "ringLocates", fn := fun _ => fun
  | [d1, d2] => { results := [.lit (.bool true)], args := [d1, d2] }
  | _ => none }
def ringLocatesRow : OpenClaim := { program := "ytljjpdjknnhceaadoor", sum := "0c1c74adf99c0d22ae03729588d292cdd698b9b2783acf5f4dcca1616d3e54d7", func := "granary/granarylaw6.RingLocates", spec := "ringLocates", unfollowed := true, recurses := true, named := ["granary/digest.first", "granary/digest.sines", "granary/digest.turns", "granary/granaryref6.greatest", "granary/granaryref2.sines", "granary/granaryref2.turns", "granary/granaryref2.powers"], apart := false, laid := [("granary/granaryref2.sines", laid_granary_granaryref2_sines), ("granary/granaryref2.turns", laid_granary_granaryref2_turns), ("granary/granaryref2.powers", laid_granary_granaryref2_powers), ("granary/digest.first", laid_granary_digest_first), ("granary/digest.sines", laid_granary_digest_sines), ("granary/digest.turns", laid_granary_digest_turns), ("granary/granaryref6.greatest", laid_granary_granaryref6_greatest)] }
def RingLocatesSaid : Prop := ringLocatesRow.holds Tryd.pinned (OpenSpec.ofChange ringLocatesSpec)

/-- ITS FALSE NEIGHBOUR: 'it returns false'. Refute it at one input. -/
def ringLocatesWrong : ChangeSpec := { name := "ringLocates", fn := fun _ => fun
  | [d1, d2] => { results := [.lit (.bool false)], args := [d1, d2] }
  | _ => none }
def RingLocatesWrongFalsely : Prop := ringLocatesRow.holds Tryd.pinned (OpenSpec.ofChange ringLocatesWrong)

/-- 'granarylaw6.RingPlaces': WHATEVER THE INPUT: true; the input reads as it did. -/
def ringPlacesSpec : ChangeSpec := { name := "ringPlaces", fn := fun _ => fun
  | [d1, d2, d3, d4] => { results := [.lit (.bool true)], args := [d1, d2, d3, d4] }
  | _ => none }
def ringPlacesRow : OpenClaim := { program := "ytljjpdjknnhceaadoor", sum := "0c1c74adf99c0d22ae03729588d292cdd698b9b2783acf5f4dcca1616d3e54d7", func := "granary/granarylaw6.RingPlaces", spec := "ringPlaces", unfollowed := true, recurses := true, named := ["granary/digest.first", "granary/digest.sines", "granary/digest.turns"], apart := false, laid := [("granary/digest.first", laid_granary_digest_first), ("granary/digest.sines", laid_granary_digest_sines), ("granary/digest.turns", laid_granary_digest_turns)] }
def RingPlacesSaid : Prop := ringPlacesRow.holds Tryd.pinned (OpenSpec.ofChange ringPlacesSpec)

/-- ITS FALSE NEIGHBOUR: 'it returns false'. Refute it at one input. -/
def ringPlacesWrong : ChangeSpec := { name := "ringPlaces", fn := fun _ => fun
  | [d1, d2, d3, d4] => { results := [.lit (.bool false)], args := [d1, d2, d3, d4] }
  | _ => none }
def RingPlacesWrongFalsely : Prop := ringPlacesRow.holds Tryd.pinned (OpenSpec.ofChange ringPlacesWrong)

/-- 'granarylaw6.RingPrints': WHATEVER THE INPUT: true; the input reads as it did. -/
def ringPrintsSpec : ChangeSpec := { name := "ringPrints", fn := fun _ => fun
  | [d] => { results := [.lit (.bool true)], args := [d] }
  | _ => none }
def ringPrintsRow : OpenClaim := { program := "ytljjpdjknnhceaadoor", sum := "0c1c74adf99c0d22ae03729588d292cdd698b9b2783acf5f4dcca1616d3e54d7", func := "granary/granarylaw6.RingPrints", spec := "ringPrints", inPlace := ["internal/abi.NoEscape", "internal/bytealg.MakeNoZero"], unfollowed := true, recurses := true, named := ["internal/strconv.uint64pow10", "math/bits.deBruijn32tab", "math/bits.deBruijn64tab", "granary/granaryref6.words", "granary/granaryref6.greatest"], apart := false, laid := [("math/bits.deBruijn32tab", laid_math_bits_deBruijn32tab), ("math/bits.deBruijn64tab", laid_math_bits_deBruijn64tab), ("internal/strconv.uint64pow10", laid_internal_strconv_uint64pow10), ("granary/granaryref6.words", laid_granary_granaryref6_words), ("granary/granaryref6.greatest", laid_granary_granaryref6_greatest)] }
def RingPrintsSaid : Prop := ringPrintsRow.holds Tryd.pinned (OpenSpec.ofChange ringPrintsSpec)

/-- ITS FALSE NEIGHBOUR: 'it returns false'. Refute it at one input. -/
def ringPrintsWrong : ChangeSpec := { name := "ringPrints", fn := fun _ => fun
  | [d] => { results := [.lit (.bool false)], args := [d] }
  | _ => none }
def RingPrintsWrongFalsely : Prop := ringPrintsRow.holds Tryd.pinned (OpenSpec.ofChange ringPrintsWrong)

/-- 'granarylaw6.RingParses': WHATEVER THE INPUT: true; the input reads as it did. -/
def ringParsesSpec : ChangeSpec := { name := "ringParses", fn := fun _ => fun
  | [d] => { results := [.lit (.bool true)], args := [d] }
  | _ => none }
def ringParsesRow : OpenClaim := { program := "ytljjpdjknnhceaadoor", sum := "0c1c74adf99c0d22ae03729588d292cdd698b9b2783acf5f4dcca1616d3e54d7", func := "granary/granarylaw6.RingParses", spec := "ringParses", inPlace := ["internal/bytealg.CountString", "internal/bytealg.IndexByteString", "internal/bytealg.IndexString"], unfollowed := true, recurses := true, named := ["unicode/utf8.first", "unicode/utf8.acceptRanges", "internal/bytealg.MaxLen", "granary/granaryref6.words", "granary/granaryref6.greatest"], apart := false, laid := [("unicode/utf8.acceptRanges", laid_unicode_utf8_acceptRanges), ("granary/granaryref6.words", laid_granary_granaryref6_words), ("granary/granaryref6.greatest", laid_granary_granaryref6_greatest), ("unicode/utf8.first", laid_unicode_utf8_first)] }
def RingParsesSaid : Prop := ringParsesRow.holds Tryd.pinned (OpenSpec.ofChange ringParsesSpec)

/-- ITS FALSE NEIGHBOUR: 'it returns false'. Refute it at one input. -/
def ringParsesWrong : ChangeSpec := { name := "ringParses", fn := fun _ => fun
  | [d] => { results := [.lit (.bool false)], args := [d] }
  | _ => none }
def RingParsesWrongFalsely : Prop := ringParsesRow.holds Tryd.pinned (OpenSpec.ofChange ringParsesWrong)

/-- 'granarylaw6.RingNames': WHATEVER THE INPUT: true; the input reads as it did. -/
def ringNamesSpec : ChangeSpec := { name := "ringNames", fn := fun _ => fun
  | [d1, d2] => { results := [.lit (.bool true)], args := [d1, d2] }
  | _ => none }
def ringNamesRow : OpenClaim := { program := "ytljjpdjknnhceaadoor", sum := "0c1c74adf99c0d22ae03729588d292cdd698b9b2783acf5f4dcca1616d3e54d7", func := "granary/granarylaw6.RingNames", spec := "ringNames", inPlace := ["internal/bytealg.IndexByteString", "internal/bytealg.IndexString", "internal/bytealg.CountString"], named := ["internal/strconv.uint64pow10", "math/bits.deBruijn32tab", "math/bits.deBruijn64tab", "internal/bytealg.MaxLen", "unicode/utf8.first", "unicode/utf8.acceptRanges"], apart := false, laid := [("math/bits.deBruijn32tab", laid_math_bits_deBruijn32tab), ("math/bits.deBruijn64tab", laid_math_bits_deBruijn64tab), ("internal/strconv.uint64pow10", laid_internal_strconv_uint64pow10), ("unicode/utf8.acceptRanges", laid_unicode_utf8_acceptRanges), ("unicode/utf8.first", laid_unicode_utf8_first)] }
def RingNamesSaid : Prop := ringNamesRow.holds Tryd.pinned (OpenSpec.ofChange ringNamesSpec)

/-- ITS FALSE NEIGHBOUR: 'it returns false'. Refute it at one input. -/
def ringNamesWrong : ChangeSpec := { name := "ringNames", fn := fun _ => fun
  | [d1, d2] => { results := [.lit (.bool false)], args := [d1, d2] }
  | _ => none }
def RingNamesWrongFalsely : Prop := ringNamesRow.holds Tryd.pinned (OpenSpec.ofChange ringNamesWrong)

/-- 'granarylaw6.RingHolds': WHATEVER THE INPUT: true; the input reads as it did. -/
def ringHoldsSpec : ChangeSpec := { name := "ringHolds", fn := fun _ => fun
  | [d1, d2] => { results := [.lit (.bool true)], args := [d1, d2] }
  | _ => none }
def ringHoldsRow : OpenClaim := { program := "ytljjpdjknnhceaadoor", sum := "0c1c74adf99c0d22ae03729588d292cdd698b9b2783acf5f4dcca1616d3e54d7", func := "granary/granarylaw6.RingHolds", spec := "ringHolds", unfollowed := true, recurses := true, named := ["granary/granaryref6.greatest", "internal/strconv.uint64pow10", "math/bits.deBruijn32tab", "math/bits.deBruijn64tab"], apart := false, laid := [("math/bits.deBruijn32tab", laid_math_bits_deBruijn32tab), ("math/bits.deBruijn64tab", laid_math_bits_deBruijn64tab), ("internal/strconv.uint64pow10", laid_internal_strconv_uint64pow10), ("granary/granaryref6.greatest", laid_granary_granaryref6_greatest)] }
def RingHoldsSaid : Prop := ringHoldsRow.holds Tryd.pinned (OpenSpec.ofChange ringHoldsSpec)

/-- ITS FALSE NEIGHBOUR: 'it returns false'. Refute it at one input. -/
def ringHoldsWrong : ChangeSpec := { name := "ringHolds", fn := fun _ => fun
  | [d1, d2] => { results := [.lit (.bool false)], args := [d1, d2] }
  | _ => none }
def RingHoldsWrongFalsely : Prop := ringHoldsRow.holds Tryd.pinned (OpenSpec.ofChange ringHoldsWrong)

/-- 'granarylaw6.RingTextBack': WHATEVER THE INPUT: true; the input reads as it did. -/
def ringTextBackSpec : ChangeSpec := { name := "ringTextBack", fn := fun _ => fun
  | [d1, d2, d3] => { results := [.lit (.bool true)], args := [d1, d2, d3] }
  | _ => none }
def ringTextBackRow : OpenClaim := { program := "ytljjpdjknnhceaadoor", sum := "0c1c74adf99c0d22ae03729588d292cdd698b9b2783acf5f4dcca1616d3e54d7", func := "granary/granarylaw6.RingTextBack", spec := "ringTextBack", inPlace := ["internal/abi.NoEscape", "internal/bytealg.MakeNoZero", "internal/bytealg.CountString", "internal/bytealg.IndexByteString", "internal/bytealg.IndexString"], unfollowed := true, recurses := true, named := ["internal/strconv.uint64pow10", "math/bits.deBruijn32tab", "math/bits.deBruijn64tab", "unicode/utf8.first", "unicode/utf8.acceptRanges", "internal/bytealg.MaxLen"], apart := false, laid := [("math/bits.deBruijn32tab", laid_math_bits_deBruijn32tab), ("math/bits.deBruijn64tab", laid_math_bits_deBruijn64tab), ("internal/strconv.uint64pow10", laid_internal_strconv_uint64pow10), ("unicode/utf8.acceptRanges", laid_unicode_utf8_acceptRanges), ("unicode/utf8.first", laid_unicode_utf8_first)] }
def RingTextBackSaid : Prop := ringTextBackRow.holds Tryd.pinned (OpenSpec.ofChange ringTextBackSpec)

/-- ITS FALSE NEIGHBOUR: 'it returns false'. Refute it at one input. -/
def ringTextBackWrong : ChangeSpec := { name := "ringTextBack", fn := fun _ => fun
  | [d1, d2, d3] => { results := [.lit (.bool false)], args := [d1, d2, d3] }
  | _ => none }
def RingTextBackWrongFalsely : Prop := ringTextBackRow.holds Tryd.pinned (OpenSpec.ofChange ringTextBackWrong)

/- THE SECOND FORM. 'bulk': how many values and letters a reading holds, each counted each time it is reached (what is shared counts as often as it is met; a slice's spare places count too). A statement '..UptoSaid' is the law's where the arguments, and the package variables that the reading takes, are together of bulk at most 1048576: NARROWER than '..Said'. Prove '..Said' where nothing that the law and all that it calls make is longer than what came in: it says more and counts as full. Else prove '..UptoSaid'. A law counts once. -/
mutual
def uptoBulk {H : Type} : DataW H → Nat
  | .lit (.string bytes) => bytes.length + 1
  | .lit _ => 1
  | .nil => 1
  | .ptr d => uptoBulk d + 1
  | .slice elems spare => uptoBulkAll elems + uptoBulkAll spare + 1
  | .agg parts => uptoBulkAll parts + 1
  | .iface _ d => uptoBulk d + 1
  | .map entries => uptoBulkEntries entries + 1
  | .held _ => 1
def uptoBulkAll {H : Type} : List (DataW H) → Nat
  | [] => 0
  | d :: r => uptoBulk d + uptoBulkAll r
def uptoBulkEntries {H : Type} : List (Lit × DataW H) → Nat
  | [] => 0
  | x :: r => uptoBulkEntry x + uptoBulkEntries r
def uptoBulkEntry {H : Type} : Lit × DataW H → Nat
  | (.string bytes, d) => bytes.length + uptoBulk d + 1
  | (_, d) => uptoBulk d + 1
 end
def uptoSmall : (H : Type) → List (DataW H) → Bool := fun _ ds => decide (uptoBulkAll ds ≤ 1048576)
def OpenSpec.upto (s : _root_.Go.ChangeSpec) : _root_.Go.OpenSpec := { _root_.Go.OpenSpec.ofChange s with cond := some uptoSmall }

/-- 'granarylaw6.RingChecks', WHERE WHAT IT READS IS OF BULK AT MOST 1048576: true; the input reads as it did. -/
def ringChecksUptoRow : OpenClaim := { program := "ytljjpdjknnhceaadoor", sum := "0c1c74adf99c0d22ae03729588d292cdd698b9b2783acf5f4dcca1616d3e54d7", func := "granary/granarylaw6.RingChecks", spec := "ringChecks", unfollowed := true, recurses := true, named := ["granary/granaryref6.greatest"], apart := false, laid := [("granary/granaryref6.greatest", laid_granary_granaryref6_greatest)], narrowed := true }
def RingChecksUptoSaid : Prop := ringChecksUptoRow.holds Tryd.pinned (OpenSpec.upto ringChecksSpec)

/-- 'granarylaw6.RingWalks', WHERE WHAT IT READS IS OF BULK AT MOST 1048576: true; the input reads as it did. -/
def ringWalksUptoRow : OpenClaim := { program := "ytljjpdjknnhceaadoor", sum := "0c1c74adf99c0d22ae03729588d292cdd698b9b2783acf5f4dcca1616d3e54d7", func := "granary/granarylaw6.RingWalks", spec := "ringWalks", unfollowed := true, recurses := true, named := ["granary/granaryref6.greatest"], apart := false, laid := [("granary/granaryref6.greatest", laid_granary_granaryref6_greatest)], narrowed := true }
def RingWalksUptoSaid : Prop := ringWalksUptoRow.holds Tryd.pinned (OpenSpec.upto ringWalksSpec)

/-- 'granarylaw6.RingLocates', WHERE WHAT IT READS IS OF BULK AT MOST 1048576: true; the input reads as it did. -/
def ringLocatesUptoRow : OpenClaim := { program := "ytljjpdjknnhceaadoor", sum := "0c1c74adf99c0d22ae03729588d292cdd698b9b2783acf5f4dcca1616d3e54d7", func := "granary/granarylaw6.RingLocates", spec := "ringLocates", unfollowed := true, recurses := true, named := ["granary/digest.first", "granary/digest.sines", "granary/digest.turns", "granary/granaryref6.greatest", "granary/granaryref2.sines", "granary/granaryref2.turns", "granary/granaryref2.powers"], apart := false, laid := [("granary/granaryref2.sines", laid_granary_granaryref2_sines), ("granary/granaryref2.turns", laid_granary_granaryref2_turns), ("granary/granaryref2.powers", laid_granary_granaryref2_powers), ("granary/digest.first", laid_granary_digest_first), ("granary/digest.sines", laid_granary_digest_sines), ("granary/digest.turns", laid_granary_digest_turns), ("granary/granaryref6.greatest", laid_granary_granaryref6_greatest)], narrowed := true }
def RingLocatesUptoSaid : Prop := ringLocatesUptoRow.holds Tryd.pinned (OpenSpec.upto ringLocatesSpec)

/-- 'granarylaw6.RingPlaces', WHERE WHAT IT READS IS OF BULK AT MOST 1048576: true; the input reads as it did. -/
def ringPlacesUptoRow : OpenClaim := { program := "ytljjpdjknnhceaadoor", sum := "0c1c74adf99c0d22ae03729588d292cdd698b9b2783acf5f4dcca1616d3e54d7", func := "granary/granarylaw6.RingPlaces", spec := "ringPlaces", unfollowed := true, recurses := true, named := ["granary/digest.first", "granary/digest.sines", "granary/digest.turns"], apart := false, laid := [("granary/digest.first", laid_granary_digest_first), ("granary/digest.sines", laid_granary_digest_sines), ("granary/digest.turns", laid_granary_digest_turns)], narrowed := true }
def RingPlacesUptoSaid : Prop := ringPlacesUptoRow.holds Tryd.pinned (OpenSpec.upto ringPlacesSpec)

/-- 'granarylaw6.RingPrints', WHERE WHAT IT READS IS OF BULK AT MOST 1048576: true; the input reads as it did. -/
def ringPrintsUptoRow : OpenClaim := { program := "ytljjpdjknnhceaadoor", sum := "0c1c74adf99c0d22ae03729588d292cdd698b9b2783acf5f4dcca1616d3e54d7", func := "granary/granarylaw6.RingPrints", spec := "ringPrints", inPlace := ["internal/abi.NoEscape", "internal/bytealg.MakeNoZero"], unfollowed := true, recurses := true, named := ["internal/strconv.uint64pow10", "math/bits.deBruijn32tab", "math/bits.deBruijn64tab", "granary/granaryref6.words", "granary/granaryref6.greatest"], apart := false, laid := [("math/bits.deBruijn32tab", laid_math_bits_deBruijn32tab), ("math/bits.deBruijn64tab", laid_math_bits_deBruijn64tab), ("internal/strconv.uint64pow10", laid_internal_strconv_uint64pow10), ("granary/granaryref6.words", laid_granary_granaryref6_words), ("granary/granaryref6.greatest", laid_granary_granaryref6_greatest)], narrowed := true }
def RingPrintsUptoSaid : Prop := ringPrintsUptoRow.holds Tryd.pinned (OpenSpec.upto ringPrintsSpec)

/-- 'granarylaw6.RingParses', WHERE WHAT IT READS IS OF BULK AT MOST 1048576: true; the input reads as it did. -/
def ringParsesUptoRow : OpenClaim := { program := "ytljjpdjknnhceaadoor", sum := "0c1c74adf99c0d22ae03729588d292cdd698b9b2783acf5f4dcca1616d3e54d7", func := "granary/granarylaw6.RingParses", spec := "ringParses", inPlace := ["internal/bytealg.CountString", "internal/bytealg.IndexByteString", "internal/bytealg.IndexString"], unfollowed := true, recurses := true, named := ["unicode/utf8.first", "unicode/utf8.acceptRanges", "internal/bytealg.MaxLen", "granary/granaryref6.words", "granary/granaryref6.greatest"], apart := false, laid := [("unicode/utf8.acceptRanges", laid_unicode_utf8_acceptRanges), ("granary/granaryref6.words", laid_granary_granaryref6_words), ("granary/granaryref6.greatest", laid_granary_granaryref6_greatest), ("unicode/utf8.first", laid_unicode_utf8_first)], narrowed := true }
def RingParsesUptoSaid : Prop := ringParsesUptoRow.holds Tryd.pinned (OpenSpec.upto ringParsesSpec)

/-- 'granarylaw6.RingNames', WHERE WHAT IT READS IS OF BULK AT MOST 1048576: true; the input reads as it did. -/
def ringNamesUptoRow : OpenClaim := { program := "ytljjpdjknnhceaadoor", sum := "0c1c74adf99c0d22ae03729588d292cdd698b9b2783acf5f4dcca1616d3e54d7", func := "granary/granarylaw6.RingNames", spec := "ringNames", inPlace := ["internal/bytealg.IndexByteString", "internal/bytealg.IndexString", "internal/bytealg.CountString"], named := ["internal/strconv.uint64pow10", "math/bits.deBruijn32tab", "math/bits.deBruijn64tab", "internal/bytealg.MaxLen", "unicode/utf8.first", "unicode/utf8.acceptRanges"], apart := false, laid := [("math/bits.deBruijn32tab", laid_math_bits_deBruijn32tab), ("math/bits.deBruijn64tab", laid_math_bits_deBruijn64tab), ("internal/strconv.uint64pow10", laid_internal_strconv_uint64pow10), ("unicode/utf8.acceptRanges", laid_unicode_utf8_acceptRanges), ("unicode/utf8.first", laid_unicode_utf8_first)], narrowed := true }
def RingNamesUptoSaid : Prop := ringNamesUptoRow.holds Tryd.pinned (OpenSpec.upto ringNamesSpec)

/-- 'granarylaw6.RingHolds', WHERE WHAT IT READS IS OF BULK AT MOST 1048576: true; the input reads as it did. -/
def ringHoldsUptoRow : OpenClaim := { program := "ytljjpdjknnhceaadoor", sum := "0c1c74adf99c0d22ae03729588d292cdd698b9b2783acf5f4dcca1616d3e54d7", func := "granary/granarylaw6.RingHolds", spec := "ringHolds", unfollowed := true, recurses := true, named := ["granary/granaryref6.greatest", "internal/strconv.uint64pow10", "math/bits.deBruijn32tab", "math/bits.deBruijn64tab"], apart := false, laid := [("math/bits.deBruijn32tab", laid_math_bits_deBruijn32tab), ("math/bits.deBruijn64tab", laid_math_bits_deBruijn64tab), ("internal/strconv.uint64pow10", laid_internal_strconv_uint64pow10), ("granary/granaryref6.greatest", laid_granary_granaryref6_greatest)], narrowed := true }
def RingHoldsUptoSaid : Prop := ringHoldsUptoRow.holds Tryd.pinned (OpenSpec.upto ringHoldsSpec)

/-- 'granarylaw6.RingTextBack', WHERE WHAT IT READS IS OF BULK AT MOST 1048576: true; the input reads as it did. -/
def ringTextBackUptoRow : OpenClaim := { program := "ytljjpdjknnhceaadoor", sum := "0c1c74adf99c0d22ae03729588d292cdd698b9b2783acf5f4dcca1616d3e54d7", func := "granary/granarylaw6.RingTextBack", spec := "ringTextBack", inPlace := ["internal/abi.NoEscape", "internal/bytealg.MakeNoZero", "internal/bytealg.CountString", "internal/bytealg.IndexByteString", "internal/bytealg.IndexString"], unfollowed := true, recurses := true, named := ["internal/strconv.uint64pow10", "math/bits.deBruijn32tab", "math/bits.deBruijn64tab", "unicode/utf8.first", "unicode/utf8.acceptRanges", "internal/bytealg.MaxLen"], apart := false, laid := [("math/bits.deBruijn32tab", laid_math_bits_deBruijn32tab), ("math/bits.deBruijn64tab", laid_math_bits_deBruijn64tab), ("internal/strconv.uint64pow10", laid_internal_strconv_uint64pow10), ("unicode/utf8.acceptRanges", laid_unicode_utf8_acceptRanges), ("unicode/utf8.first", laid_unicode_utf8_first)], narrowed := true }
def RingTextBackUptoSaid : Prop := ringTextBackUptoRow.holds Tryd.pinned (OpenSpec.upto ringTextBackSpec)

end Rows
end Go.Proofs.YtljjpdjknnhceaaDoor
