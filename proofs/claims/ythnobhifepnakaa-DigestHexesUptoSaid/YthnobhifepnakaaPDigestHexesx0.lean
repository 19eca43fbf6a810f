-- PRINTED BY print.sh 35421559b90ae4d0a3588c463048766b98c2df88dd9212a6774a882060cdf62d: not written by this session
import Derived.Test.YthnobhifepnakaaProg
import Derived.Below
import Derived.Deep.Draws
import Derived.Deep.AppendLies
import Derived.Maps.AppendAt
import Derived.OwnWalk
import Derived.Laws.BytesArg
import Derived.Laws.MakeOwn
import Derived.Laws.OwnMore
import Derived.Deep.OwnRows
import Derived.Tactics
import Derived.Lib.ConvBytes
import Derived.Laws.Slices
import Derived.WalkKit
import Derived.KernelRfl
import Derived.RowKit3
import Derived.Deep.LoopGhost
import Derived.Deep.QuietTactic
import Derived.BigQuiet
import Derived.WideLaws
import Derived.Deep.DeepCutAuto
import Derived.Deep.CutBlock
import Derived.Deep.RegionHeld3
import Derived.Laws.Rows
import Derived.Lib.AppendStr
import Derived.ArgAppend
import Derived.Laws.IdiomCopy
import Derived.OrdersHeld
import Derived.Laws.BitsLemmas
import Derived.RowKit
import Derived.Test.YthnobhifepnakaaWWords
import Derived.Test.YthnobhifepnakaaWLast
import Derived.Test.YthnobhifepnakaaWTab
import Derived.Test.YthnobhifepnakaaWFour
import Derived.Test.YthnobhifepnakaaWQPut
import Derived.Test.YthnobhifepnakaaWApart
import Derived.Test.YthnobhifepnakaaWArr
import Derived.Test.YthnobhifepnakaaWZeros
import Derived.Test.YthnobhifepnakaaWFoot
import Derived.Test.YthnobhifepnakaaWKept
import Derived.Test.YthnobhifepnakaaWShare
import Derived.Test.YthnobhifepnakaaWN
import Derived.Test.YthnobhifepnakaaWFootNe
import Derived.Test.YthnobhifepnakaaWAt
import Derived.Test.YthnobhifepnakaaWEqStruct
import Derived.Test.YthnobhifepnakaaWRepsOne
import Derived.Test.YthnobhifepnakaaWInv
import Derived.Test.YthnobhifepnakaaWInvWords
import Derived.Test.YthnobhifepnakaaWGuard
import Derived.Test.YthnobhifepnakaaWNEv
import Derived.Test.YthnobhifepnakaaWMore
namespace Go.Proofs.Ythnobhifepnakaa.PDigestHexes
open Go.RowKit Go.Proofs.YthnobhifepnakaaW.PrintWords Go.Proofs.YthnobhifepnakaaW.PrintLast Go.Proofs.YthnobhifepnakaaW.PrintMore
attribute [local go_sem] max2_int min2_int max_two min_two max_three min_three max_four min_four   -- for this text's walks alone
set_option linter.unusedVariables false
set_option linter.unusedSimpArgs false



def errW : Option Int → Value
  | none => .nilIface
  | some c => .iface 0 (.int .i64 c)
theorem errW_none : errW none = .nilIface := rfl
theorem errW_some (c : Int) : errW (some c) = .iface 0 (.int .i64 c) := rfl

theorem info5 : (Try.prog.info? 5).map (fun i => (i.zero, i.size, i.bytes)) = some (some (.int .u8 0), 1, 1) := by kernel_rfl
-- the values' own types

end Go.Proofs.Ythnobhifepnakaa.PDigestHexes
