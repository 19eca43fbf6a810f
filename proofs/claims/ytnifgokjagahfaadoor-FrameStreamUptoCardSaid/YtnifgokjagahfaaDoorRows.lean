/-
  NARROWER THAN 'FOR EVERY INPUT', by the rows' own cells (each row's printed sentence says how): FrameEncodes: laid · FrameDecodes: laid · FrameSplits: laid · FrameScans: laid · FrameBack: laid · FrameCanon: laid · FrameBurst: laid · FrameReaders: laid · FrameCuts: laid · FrameStream: laid.
  DERIVED. THE GIVEN ROWS OF THIS SEAT. 10 by the template 'for every input the law returns true; each argument reads behind the call as it read before'; 0 by the template 'total and deterministic' (their statements: YtnifgokjagahfaaDoorTotals.lean).
  GIVEN WITH THE SEED: the statements are not yours to turn. If you find one false, say at which input.
  Laid BY PROGRAM, IN A SANDBOX (cutbox-rows.mjs): the forced cells as the released guide's own fill.sh prints them over the translation 14ecd913ed87e8e1… (all of the seat's roots in one cut). By AI agents, Wed Nov 11 2026. No macro, syntax, notation, axiom, sorry.
-/
import Derived.Test.YtnifgokjagahfaaDoorChecked
import GoSem.Claim
import GoSem.ClaimJoined
import GoSem.ClaimMapViews
import Derived.JoinedTies
import Derived.KernelRfl
namespace Go.Proofs.YtnifgokjagahfaaDoor
/- THE CELL 'sum', in the pinned program and in every row, IS THE sha256 OF THE DUMP (.gsa) THAT YtnifgokjagahfaaDoorProg.lean LOADS. Nothing in Lean hashes anything: it is a label: what it is worth is what the hold of that sum in a sandbox is worth. -/
noncomputable def Tryd.pinned : Pinned := { name := "ytnifgokjagahfaadoor", sum := "14ecd913ed87e8e13855a407293ecb8dfdde6160552f1b5e02a59c772ad56685", checked := Tryd.checked }
namespace Rows
def none {H : Type} : Left H := { results := [], args := [] }

/- WHAT THE LISTED PACKAGE-LEVEL VARIABLES READ AS WHEN THE CALL BEGINS. Each datum BY PROGRAM (the guide's laid-datum.mjs) off the statement by which the dump's own 'gosem.cut.vars' lays the variable. In a bare row this is a premise. The card (YtnifgokjagahfaaDoorCards.lean) ties it to the program's text. -/
def laid_granary_granaryref5_fields {H : Type} : DataW H := .agg [.lit (.string []), .lit (.string []), .lit (.string []), .lit (.string [69, 86]), .lit (.string [69, 86, 67]), .lit (.string [69, 83, 86]), .lit (.string [69, 83, 86, 80, 67]), .lit (.string [69, 83]), .lit (.string [69, 83, 86, 80, 67]), .lit (.string []), .lit (.string [69, 83, 86, 80, 67]), .lit (.string [75]), .lit (.string [86, 67, 75, 87]), .lit (.string [83, 86]), .lit (.string [83, 86, 80, 67, 87]), .lit (.string [83, 86, 80]), .lit (.string [83, 86, 80, 67, 75, 87])]
def laid_granary_digest_nibbles {H : Type} : DataW H := .agg [.lit (.int .u32 0), .lit (.int .u32 498536548), .lit (.int .u32 997073096), .lit (.int .u32 651767980), .lit (.int .u32 1994146192), .lit (.int .u32 1802195444), .lit (.int .u32 1303535960), .lit (.int .u32 1342533948), .lit (.int .u32 3988292384), .lit (.int .u32 4027552580), .lit (.int .u32 3604390888), .lit (.int .u32 3412177804), .lit (.int .u32 2607071920), .lit (.int .u32 2262029012), .lit (.int .u32 2685067896), .lit (.int .u32 3183342108)]
def laid_granary_granarylaw5_kindHas {H : Type} : DataW H := .agg [.lit (.string []), .lit (.string []), .lit (.string []), .lit (.string [69, 86]), .lit (.string [69, 86, 67]), .lit (.string [69, 83, 86]), .lit (.string [69, 83, 86, 80, 67]), .lit (.string [69, 83]), .lit (.string [69, 83, 86, 80, 67]), .lit (.string []), .lit (.string [69, 83, 86, 80, 67]), .lit (.string [75]), .lit (.string [86, 67, 75, 87]), .lit (.string [83, 86]), .lit (.string [83, 86, 80, 67, 87]), .lit (.string [83, 86, 80]), .lit (.string [83, 86, 80, 67, 75, 87])]

/-- 'granarylaw5.FrameEncodes': WHATEVER THE INPUT: true; the input reads as it did. -/
def frameEncodesSpec : ChangeSpec := { name := "frameEncodes", fn := fun _ => fun
  | [d] => { results := [.lit (.bool true)], args := [d] }
  | _ => none }
def frameEncodesRow : OpenClaim := { program := "ytnifgokjagahfaadoor", sum := "14ecd913ed87e8e13855a407293ecb8dfdde6160552f1b5e02a59c772ad56685", func := "granary/granarylaw5.FrameEncodes", spec := "frameEncodes", named := ["granary/digest.nibbles", "granary/granaryref5.fields"], apart := false, laid := [("granary/granaryref5.fields", laid_granary_granaryref5_fields), ("granary/digest.nibbles", laid_granary_digest_nibbles)] }
def FrameEncodesSaid : Prop := frameEncodesRow.holds Tryd.pinned (OpenSpec.ofChange frameEncodesSpec)

/-- ITS FALSE NEIGHBOUR: 'it returns false'. Refute it at one input. -/
def frameEncodesWrong : ChangeSpec := { name := "frameEncodes", fn := fun _ => fun
  | [d] => { results := [.lit (.bool false)], args := [d] }
  | _ => none }
def FrameEncodesWrongFalsely : Prop := frameEncodesRow.holds Tryd.pinned (OpenSpec.ofChange frameEncodesWrong)

/-- 'granarylaw5.FrameDecodes': WHATEVER THE INPUT: true; the input reads as it did. -/
def frameDecodesSpec : ChangeSpec := { name := "frameDecodes", fn := fun _ => fun
  | [d] => { results := [.lit (.bool true)], args := [d] }
  | _ => none }
def frameDecodesRow : OpenClaim := { program := "ytnifgokjagahfaadoor", sum := "14ecd913ed87e8e13855a407293ecb8dfdde6160552f1b5e02a59c772ad56685", func := "granary/granarylaw5.FrameDecodes", spec := "frameDecodes", named := ["granary/granaryref5.fields", "granary/digest.nibbles"], apart := false, laid := [("granary/granaryref5.fields", laid_granary_granaryref5_fields), ("granary/digest.nibbles", laid_granary_digest_nibbles)] }
def FrameDecodesSaid : Prop := frameDecodesRow.holds Tryd.pinned (OpenSpec.ofChange frameDecodesSpec)

/-- ITS FALSE NEIGHBOUR: 'it returns false'. Refute it at one input. -/
def frameDecodesWrong : ChangeSpec := { name := "frameDecodes", fn := fun _ => fun
  | [d] => { results := [.lit (.bool false)], args := [d] }
  | _ => none }
def FrameDecodesWrongFalsely : Prop := frameDecodesRow.holds Tryd.pinned (OpenSpec.ofChange frameDecodesWrong)

/-- 'granarylaw5.FrameSplits': WHATEVER THE INPUT: true; the input reads as it did. -/
def frameSplitsSpec : ChangeSpec := { name := "frameSplits", fn := fun _ => fun
  | [d] => { results := [.lit (.bool true)], args := [d] }
  | _ => none }
def frameSplitsRow : OpenClaim := { program := "ytnifgokjagahfaadoor", sum := "14ecd913ed87e8e13855a407293ecb8dfdde6160552f1b5e02a59c772ad56685", func := "granary/granarylaw5.FrameSplits", spec := "frameSplits", inPlace := ["internal/bytealg.IndexByteString"], unfollowed := true, recurses := true, named := ["granary/granaryref5.fields", "granary/digest.nibbles"], apart := false, laid := [("granary/granaryref5.fields", laid_granary_granaryref5_fields), ("granary/digest.nibbles", laid_granary_digest_nibbles)] }
def FrameSplitsSaid : Prop := frameSplitsRow.holds Tryd.pinned (OpenSpec.ofChange frameSplitsSpec)

/-- ITS FALSE NEIGHBOUR: 'it returns false'. Refute it at one input. -/
def frameSplitsWrong : ChangeSpec := { name := "frameSplits", fn := fun _ => fun
  | [d] => { results := [.lit (.bool false)], args := [d] }
  | _ => none }
def FrameSplitsWrongFalsely : Prop := frameSplitsRow.holds Tryd.pinned (OpenSpec.ofChange frameSplitsWrong)

/-- 'granarylaw5.FrameScans': WHATEVER THE INPUT: true; the input reads as it did. -/
def frameScansSpec : ChangeSpec := { name := "frameScans", fn := fun _ => fun
  | [d1, d2] => { results := [.lit (.bool true)], args := [d1, d2] }
  | _ => none }
def frameScansRow : OpenClaim := { program := "ytnifgokjagahfaadoor", sum := "14ecd913ed87e8e13855a407293ecb8dfdde6160552f1b5e02a59c772ad56685", func := "granary/granarylaw5.FrameScans", spec := "frameScans", inPlace := ["internal/bytealg.IndexByteString"], unfollowed := true, recurses := true, named := ["granary/granaryref5.fields", "granary/digest.nibbles"], apart := false, laid := [("granary/granaryref5.fields", laid_granary_granaryref5_fields), ("granary/digest.nibbles", laid_granary_digest_nibbles)] }
def FrameScansSaid : Prop := frameScansRow.holds Tryd.pinned (OpenSpec.ofChange frameScansSpec)

/-- ITS FALSE NEIGHBOUR: 'it returns false'. Refute it at one input. -/
def frameScansWrong : ChangeSpec := { name := "frameScans", fn := fun _ => fun
  | [d1, d2] => { results := [.lit (.bool false)], args := [d1, d2] }
  | _ => none }
def FrameScansWrongFalsely : Prop := frameScansRow.holds Tryd.pinned (OpenSpec.ofChange frameScansWrong)

/-- 'granarylaw5.FrameBack': WHATEVER THE INPUT: true; the input reads as it did. -/
def frameBackSpec : ChangeSpec := { name := "frameBack", fn := fun _ => fun
  | [d1, d2] => { results := [.lit (.bool true)], args := [d1, d2] }
  | _ => none }
def frameBackRow : OpenClaim := { program := "ytnifgokjagahfaadoor", sum := "14ecd913ed87e8e13855a407293ecb8dfdde6160552f1b5e02a59c772ad56685", func := "granary/granarylaw5.FrameBack", spec := "frameBack", named := ["granary/granarylaw5.kindHas", "granary/digest.nibbles"], apart := false, laid := [("granary/digest.nibbles", laid_granary_digest_nibbles), ("granary/granarylaw5.kindHas", laid_granary_granarylaw5_kindHas)] }
def FrameBackSaid : Prop := frameBackRow.holds Tryd.pinned (OpenSpec.ofChange frameBackSpec)

/-- ITS FALSE NEIGHBOUR: 'it returns false'. Refute it at one input. -/
def frameBackWrong : ChangeSpec := { name := "frameBack", fn := fun _ => fun
  | [d1, d2] => { results := [.lit (.bool false)], args := [d1, d2] }
  | _ => none }
def FrameBackWrongFalsely : Prop := frameBackRow.holds Tryd.pinned (OpenSpec.ofChange frameBackWrong)

/-- 'granarylaw5.FrameCanon': WHATEVER THE INPUT: true; the input reads as it did. -/
def frameCanonSpec : ChangeSpec := { name := "frameCanon", fn := fun _ => fun
  | [d] => { results := [.lit (.bool true)], args := [d] }
  | _ => none }
def frameCanonRow : OpenClaim := { program := "ytnifgokjagahfaadoor", sum := "14ecd913ed87e8e13855a407293ecb8dfdde6160552f1b5e02a59c772ad56685", func := "granary/granarylaw5.FrameCanon", spec := "frameCanon", named := ["granary/digest.nibbles"], apart := false, laid := [("granary/digest.nibbles", laid_granary_digest_nibbles)] }
def FrameCanonSaid : Prop := frameCanonRow.holds Tryd.pinned (OpenSpec.ofChange frameCanonSpec)

/-- ITS FALSE NEIGHBOUR: 'it returns false'. Refute it at one input. -/
def frameCanonWrong : ChangeSpec := { name := "frameCanon", fn := fun _ => fun
  | [d] => { results := [.lit (.bool false)], args := [d] }
  | _ => none }
def FrameCanonWrongFalsely : Prop := frameCanonRow.holds Tryd.pinned (OpenSpec.ofChange frameCanonWrong)

/-- 'granarylaw5.FrameBurst': WHATEVER THE INPUT: true; the input reads as it did. -/
def frameBurstSpec : ChangeSpec := { name := "frameBurst", fn := fun _ => fun
  | [d1, d2, d3] => { results := [.lit (.bool true)], args := [d1, d2, d3] }
  | _ => none }
def frameBurstRow : OpenClaim := { program := "ytnifgokjagahfaadoor", sum := "14ecd913ed87e8e13855a407293ecb8dfdde6160552f1b5e02a59c772ad56685", func := "granary/granarylaw5.FrameBurst", spec := "frameBurst", named := ["granary/granarylaw5.kindHas", "granary/digest.nibbles"], apart := false, laid := [("granary/digest.nibbles", laid_granary_digest_nibbles), ("granary/granarylaw5.kindHas", laid_granary_granarylaw5_kindHas)] }
def FrameBurstSaid : Prop := frameBurstRow.holds Tryd.pinned (OpenSpec.ofChange frameBurstSpec)

/-- ITS FALSE NEIGHBOUR: 'it returns false'. Refute it at one input. -/
def frameBurstWrong : ChangeSpec := { name := "frameBurst", fn := fun _ => fun
  | [d1, d2, d3] => { results := [.lit (.bool false)], args := [d1, d2, d3] }
  | _ => none }
def FrameBurstWrongFalsely : Prop := frameBurstRow.holds Tryd.pinned (OpenSpec.ofChange frameBurstWrong)

/-- 'granarylaw5.FrameReaders': WHATEVER THE INPUT: true; the input reads as it did. -/
def frameReadersSpec : ChangeSpec := { name := "frameReaders", fn := fun _ => fun
  | [d] => { results := [.lit (.bool true)], args := [d] }
  | _ => none }
def frameReadersRow : OpenClaim := { program := "ytnifgokjagahfaadoor", sum := "14ecd913ed87e8e13855a407293ecb8dfdde6160552f1b5e02a59c772ad56685", func := "granary/granarylaw5.FrameReaders", spec := "frameReaders", inPlace := ["internal/bytealg.IndexByteString"], unfollowed := true, recurses := true, named := ["granary/granaryref5.fields", "granary/digest.nibbles"], apart := false, laid := [("granary/granaryref5.fields", laid_granary_granaryref5_fields), ("granary/digest.nibbles", laid_granary_digest_nibbles)] }
def FrameReadersSaid : Prop := frameReadersRow.holds Tryd.pinned (OpenSpec.ofChange frameReadersSpec)

/-- ITS FALSE NEIGHBOUR: 'it returns false'. Refute it at one input. -/
def frameReadersWrong : ChangeSpec := { name := "frameReaders", fn := fun _ => fun
  | [d] => { results := [.lit (.bool false)], args := [d] }
  | _ => none }
def FrameReadersWrongFalsely : Prop := frameReadersRow.holds Tryd.pinned (OpenSpec.ofChange frameReadersWrong)

/-- 'granarylaw5.FrameCuts': WHATEVER THE INPUT: true; the input reads as it did. -/
def frameCutsSpec : ChangeSpec := { name := "frameCuts", fn := fun _ => fun
  | [d] => { results := [.lit (.bool true)], args := [d] }
  | _ => none }
def frameCutsRow : OpenClaim := { program := "ytnifgokjagahfaadoor", sum := "14ecd913ed87e8e13855a407293ecb8dfdde6160552f1b5e02a59c772ad56685", func := "granary/granarylaw5.FrameCuts", spec := "frameCuts", inPlace := ["internal/bytealg.IndexByteString"], unfollowed := true, recurses := true, named := ["granary/digest.nibbles"], apart := false, laid := [("granary/digest.nibbles", laid_granary_digest_nibbles)] }
def FrameCutsSaid : Prop := frameCutsRow.holds Tryd.pinned (OpenSpec.ofChange frameCutsSpec)

/-- ITS FALSE NEIGHBOUR: 'it returns false'. Refute it at one input. -/
def frameCutsWrong : ChangeSpec := { name := "frameCuts", fn := fun _ => fun
  | [d] => { results := [.lit (.bool false)], args := [d] }
  | _ => none }
def FrameCutsWrongFalsely : Prop := frameCutsRow.holds Tryd.pinned (OpenSpec.ofChange frameCutsWrong)

/-- 'granarylaw5.FrameStream': WHATEVER THE INPUT: true; the input reads as it did. -/
def frameStreamSpec : ChangeSpec := { name := "frameStream", fn := fun _ => fun
  | [d1, d2, d3] => { results := [.lit (.bool true)], args := [d1, d2, d3] }
  | _ => none }
def frameStreamRow : OpenClaim := { program := "ytnifgokjagahfaadoor", sum := "14ecd913ed87e8e13855a407293ecb8dfdde6160552f1b5e02a59c772ad56685", func := "granary/granarylaw5.FrameStream", spec := "frameStream", inPlace := ["internal/bytealg.IndexByteString"], unfollowed := true, recurses := true, named := ["granary/granarylaw5.kindHas", "granary/digest.nibbles"], apart := false, laid := [("granary/digest.nibbles", laid_granary_digest_nibbles), ("granary/granarylaw5.kindHas", laid_granary_granarylaw5_kindHas)] }
def FrameStreamSaid : Prop := frameStreamRow.holds Tryd.pinned (OpenSpec.ofChange frameStreamSpec)

/-- ITS FALSE NEIGHBOUR: 'it returns false'. Refute it at one input. -/
def frameStreamWrong : ChangeSpec := { name := "frameStream", fn := fun _ => fun
  | [d1, d2, d3] => { results := [.lit (.bool false)], args := [d1, d2, d3] }
  | _ => none }
def FrameStreamWrongFalsely : Prop := frameStreamRow.holds Tryd.pinned (OpenSpec.ofChange frameStreamWrong)

/- THE SECOND FORM. 'bulk': how many values and letters a reading holds, each counted each time it is reached (what is shared counts as often as it is met; a slice's spare places count too). A statement '..UptoSaid' is the law's where the arguments, and the package variables that the reading takes, are together of bulk at most 1048576: NARROWER than '..Said'. Prove '..Said' where nothing that the law and all that it calls make is longer than what came in: it says more and counts as full. Else prove '..UptoSaid'. A law counts once. -/
mutual
def uptoBulk {H : Type} : DataW H → Nat
  | .lit (.string bytes) => bytes.length + 1
  | .lit _ => 1
  | .nil => 1
  | .ptr d => uptoBulk d + 1
  | .slice elems spare => uptoBulkAll elems + uptoBulkAll spare + 1
  | .agg parts => uptoBulkAll parts + 1
  | .iface _ d => uptoBulk d + 1
  | .map entries => uptoBulkEntries entries + 1
  | .held _ => 1
def uptoBulkAll {H : Type} : List (DataW H) → Nat
  | [] => 0
  | d :: r => uptoBulk d + uptoBulkAll r
def uptoBulkEntries {H : Type} : List (Lit × DataW H) → Nat
  | [] => 0
  | x :: r => uptoBulkEntry x + uptoBulkEntries r
def uptoBulkEntry {H : Type} : Lit × DataW H → Nat
  | (.string bytes, d) => bytes.length + uptoBulk d + 1
  | (_, d) => uptoBulk d + 1
 end
def uptoSmall : (H : Type) → List (DataW H) → Bool := fun _ ds => decide (uptoBulkAll ds ≤ 1048576)
def OpenSpec.upto (s : _root_.Go.ChangeSpec) : _root_.Go.OpenSpec := { _root_.Go.OpenSpec.ofChange s with cond := some uptoSmall }

/-- 'granarylaw5.FrameEncodes', WHERE WHAT IT READS IS OF BULK AT MOST 1048576: true; the input reads as it did. -/
def frameEncodesUptoRow : OpenClaim := { program := "ytnifgokjagahfaadoor", sum := "14ecd913ed87e8e13855a407293ecb8dfdde6160552f1b5e02a59c772ad56685", func := "granary/granarylaw5.FrameEncodes", spec := "frameEncodes", named := ["granary/digest.nibbles", "granary/granaryref5.fields"], apart := false, laid := [("granary/granaryref5.fields", laid_granary_granaryref5_fields), ("granary/digest.nibbles", laid_granary_digest_nibbles)], narrowed := true }
def FrameEncodesUptoSaid : Prop := frameEncodesUptoRow.holds Tryd.pinned (OpenSpec.upto frameEncodesSpec)

/-- 'granarylaw5.FrameDecodes', WHERE WHAT IT READS IS OF BULK AT MOST 1048576: true; the input reads as it did. -/
def frameDecodesUptoRow : OpenClaim := { program := "ytnifgokjagahfaadoor", sum := "14ecd913ed87e8e13855a407293ecb8dfdde6160552f1b5e02a59c772ad56685", func := "granary/granarylaw5.FrameDecodes", spec := "frameDecodes", named := ["granary/granaryref5.fields", "granary/digest.nibbles"], apart := false, laid := [("granary/granaryref5.fields", laid_granary_granaryref5_fields), ("granary/digest.nibbles", laid_granary_digest_nibbles)], narrowed := true }
def FrameDecodesUptoSaid : Prop := frameDecodesUptoRow.holds Tryd.pinned (OpenSpec.upto frameDecodesSpec)

/-- 'granarylaw5.FrameSplits', WHERE WHAT IT READS IS OF BULK AT MOST 1048576: true; the input reads as it did. -/
def frameSplitsUptoRow : OpenClaim := { program := "ytnifgokjagahfaadoor", sum := "14ecd913ed87e8e13855a407293ecb8dfdde6160552f1b5e02a59c772ad56685", func := "granary/granarylaw5.FrameSplits", spec := "frameSplits", inPlace := ["internal/bytealg.IndexByteString"], unfollowed := true, recurses := true, named := ["granary/granaryref5.fields", "granary/digest.nibbles"], apart := false, laid := [("granary/granaryref5.fields", laid_granary_granaryref5_fields), ("granary/digest.nibbles", laid_granary_digest_nibbles)], narrowed := true }
def FrameSplitsUptoSaid : Prop := frameSplitsUptoRow.holds Tryd.pinned (OpenSpec.upto frameSplitsSpec)

/-- 'granarylaw5.FrameScans', WHERE WHAT IT READS IS OF BULK AT MOST 1048576: true; the input reads as it did. -/
def frameScansUptoRow : OpenClaim := { program := "ytnifgokjagahfaadoor", sum := "14ecd913ed87e8e13855a407293ecb8dfdde6160552f1b5e02a59c772ad56685", func := "granary/granarylaw5.FrameScans", spec := "frameScans", inPlace := ["internal/bytealg.IndexByteString"], unfollowed := true, recurses := true, named := ["granary/granaryref5.fields", "granary/digest.nibbles"], apart := false, laid := [("granary/granaryref5.fields", laid_granary_granaryref5_fields), ("granary/digest.nibbles", laid_granary_digest_nibbles)], narrowed := true }
def FrameScansUptoSaid : Prop := frameScansUptoRow.holds Tryd.pinned (OpenSpec.upto frameScansSpec)

/-- 'granarylaw5.FrameBack', WHERE WHAT IT READS IS OF BULK AT MOST 1048576: true; the input reads as it did. -/
def frameBackUptoRow : OpenClaim := { program := "ytnifgokjagahfaadoor", sum := "14ecd913ed87e8e13855a407293ecb8dfdde6160552f1b5e02a59c772ad56685", func := "granary/granarylaw5.FrameBack", spec := "frameBack", named := ["granary/granarylaw5.kindHas", "granary/digest.nibbles"], apart := false, laid := [("granary/digest.nibbles", laid_granary_digest_nibbles), ("granary/granarylaw5.kindHas", laid_granary_granarylaw5_kindHas)], narrowed := true }
def FrameBackUptoSaid : Prop := frameBackUptoRow.holds Tryd.pinned (OpenSpec.upto frameBackSpec)

/-- 'granarylaw5.FrameCanon', WHERE WHAT IT READS IS OF BULK AT MOST 1048576: true; the input reads as it did. -/
def frameCanonUptoRow : OpenClaim := { program := "ytnifgokjagahfaadoor", sum := "14ecd913ed87e8e13855a407293ecb8dfdde6160552f1b5e02a59c772ad56685", func := "granary/granarylaw5.FrameCanon", spec := "frameCanon", named := ["granary/digest.nibbles"], apart := false, laid := [("granary/digest.nibbles", laid_granary_digest_nibbles)], narrowed := true }
def FrameCanonUptoSaid : Prop := frameCanonUptoRow.holds Tryd.pinned (OpenSpec.upto frameCanonSpec)

/-- 'granarylaw5.FrameBurst', WHERE WHAT IT READS IS OF BULK AT MOST 1048576: true; the input reads as it did. -/
def frameBurstUptoRow : OpenClaim := { program := "ytnifgokjagahfaadoor", sum := "14ecd913ed87e8e13855a407293ecb8dfdde6160552f1b5e02a59c772ad56685", func := "granary/granarylaw5.FrameBurst", spec := "frameBurst", named := ["granary/granarylaw5.kindHas", "granary/digest.nibbles"], apart := false, laid := [("granary/digest.nibbles", laid_granary_digest_nibbles), ("granary/granarylaw5.kindHas", laid_granary_granarylaw5_kindHas)], narrowed := true }
def FrameBurstUptoSaid : Prop := frameBurstUptoRow.holds Tryd.pinned (OpenSpec.upto frameBurstSpec)

/-- 'granarylaw5.FrameReaders', WHERE WHAT IT READS IS OF BULK AT MOST 1048576: true; the input reads as it did. -/
def frameReadersUptoRow : OpenClaim := { program := "ytnifgokjagahfaadoor", sum := "14ecd913ed87e8e13855a407293ecb8dfdde6160552f1b5e02a59c772ad56685", func := "granary/granarylaw5.FrameReaders", spec := "frameReaders", inPlace := ["internal/bytealg.IndexByteString"], unfollowed := true, recurses := true, named := ["granary/granaryref5.fields", "granary/digest.nibbles"], apart := false, laid := [("granary/granaryref5.fields", laid_granary_granaryref5_fields), ("granary/digest.nibbles", laid_granary_digest_nibbles)], narrowed := true }
def FrameReadersUptoSaid : Prop := frameReadersUptoRow.holds Tryd.pinned (OpenSpec.upto frameReadersSpec)

/-- 'granarylaw5.FrameCuts', WHERE WHAT IT READS IS OF BULK AT MOST 1048576: true; the input reads as it did. -/
def frameCutsUptoRow : OpenClaim := { program := "ytnifgokjagahfaadoor", sum := "14ecd913ed87e8e13855a407293ecb8dfdde6160552f1b5e02a59c772ad56685", func := "granary/granarylaw5.FrameCuts", spec := "frameCuts", inPlace := ["internal/bytealg.IndexByteString"], unfollowed := true, recurses := true, named := ["granary/digest.nibbles"], apart := false, laid := [("granary/digest.nibbles", laid_granary_digest_nibbles)], narrowed := true }
def FrameCutsUptoSaid : Prop := frameCutsUptoRow.holds Tryd.pinned (OpenSpec.upto frameCutsSpec)

/-- 'granarylaw5.FrameStream', WHERE WHAT IT READS IS OF BULK AT MOST 1048576: true; the input reads as it did. -/
def frameStreamUptoRow : OpenClaim := { program := "ytnifgokjagahfaadoor", sum := "14ecd913ed87e8e13855a407293ecb8dfdde6160552f1b5e02a59c772ad56685", func := "granary/granarylaw5.FrameStream", spec := "frameStream", inPlace := ["internal/bytealg.IndexByteString"], unfollowed := true, recurses := true, named := ["granary/granarylaw5.kindHas", "granary/digest.nibbles"], apart := false, laid := [("granary/digest.nibbles", laid_granary_digest_nibbles), ("granary/granarylaw5.kindHas", laid_granary_granarylaw5_kindHas)], narrowed := true }
def FrameStreamUptoSaid : Prop := frameStreamUptoRow.holds Tryd.pinned (OpenSpec.upto frameStreamSpec)

end Rows
end Go.Proofs.YtnifgokjagahfaaDoor
