-- PRINTED BY print.sh 35421559b90ae4d0a3588c463048766b98c2df88dd9212a6774a882060cdf62d: not written by this session
import Derived.Test.YtlfhfomidkadiaaProg
import Derived.Below
import Derived.Deep.Draws
import Derived.Deep.AppendLies
import Derived.Maps.AppendAt
import Derived.OwnWalk
import Derived.Laws.BytesArg
import Derived.Laws.MakeOwn
import Derived.Laws.OwnMore
import Derived.Deep.OwnRows
import Derived.Tactics
import Derived.Lib.ConvBytes
import Derived.Laws.Slices
import Derived.WalkKit
import Derived.KernelRfl
import Derived.RowKit3
import Derived.Deep.LoopGhost
import Derived.Deep.QuietTactic
import Derived.BigQuiet
import Derived.WideLaws
import Derived.Deep.DeepCutAuto
import Derived.Deep.CutBlock
import Derived.Deep.RegionHeld3
import Derived.Laws.Rows
import Derived.Lib.AppendStr
import Derived.ArgAppend
import Derived.Laws.IdiomCopy
import Derived.OrdersHeld
import Derived.Laws.BitsLemmas
import Derived.RowKit
import Derived.Test.YtlfhfomidkadiaaWWords
import Derived.Test.YtlfhfomidkadiaaWLast
import Derived.Test.YtlfhfomidkadiaaWTab
import Derived.Test.YtlfhfomidkadiaaWFour
import Derived.Test.YtlfhfomidkadiaaWQPut
import Derived.Test.YtlfhfomidkadiaaWApart
import Derived.Test.YtlfhfomidkadiaaWArr
import Derived.Test.YtlfhfomidkadiaaWZeros
import Derived.Test.YtlfhfomidkadiaaWFoot
import Derived.Test.YtlfhfomidkadiaaWKept
import Derived.Test.YtlfhfomidkadiaaWShare
import Derived.Test.YtlfhfomidkadiaaWN
import Derived.Test.YtlfhfomidkadiaaWFootNe
import Derived.Test.YtlfhfomidkadiaaWAt
import Derived.Test.YtlfhfomidkadiaaWEqStruct
import Derived.Test.YtlfhfomidkadiaaWRepsOne
import Derived.Test.YtlfhfomidkadiaaWInv
import Derived.Test.YtlfhfomidkadiaaWInvWords
import Derived.Test.YtlfhfomidkadiaaWGuard
import Derived.Test.YtlfhfomidkadiaaWNEv
import Derived.Test.YtlfhfomidkadiaaWMore
namespace Go.Proofs.Ytlfhfomidkadiaa.PSpaceDoes
open Go.RowKit Go.Proofs.YtlfhfomidkadiaaW.PrintWords Go.Proofs.YtlfhfomidkadiaaW.PrintLast Go.Proofs.YtlfhfomidkadiaaW.PrintMore
attribute [local go_sem] max2_int min2_int max_two min_two max_three min_three max_four min_four   -- for this text's walks alone
set_option linter.unusedVariables false
set_option linter.unusedSimpArgs false



def errW : Option Int → Value
  | none => .nilIface
  | some c => .iface 0 (.int .i64 c)
theorem errW_none : errW none = .nilIface := rfl
theorem errW_some (c : Int) : errW (some c) = .iface 0 (.int .i64 c) := rfl

theorem info4 : (Try.prog.info? 4).map (fun i => (i.zero, i.size, i.bytes)) = some (some (.bool false), 1, 1) := by kernel_rfl
-- the values' own types

end Go.Proofs.Ytlfhfomidkadiaa.PSpaceDoes
