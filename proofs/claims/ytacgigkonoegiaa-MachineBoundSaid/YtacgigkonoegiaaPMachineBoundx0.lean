-- PRINTED BY print.sh 35421559b90ae4d0a3588c463048766b98c2df88dd9212a6774a882060cdf62d: not written by this session
import Derived.Test.YtacgigkonoegiaaProg
import Derived.Below
import Derived.Deep.Draws
import Derived.Deep.AppendLies
import Derived.Maps.AppendAt
import Derived.OwnWalk
import Derived.Laws.BytesArg
import Derived.Laws.MakeOwn
import Derived.Laws.OwnMore
import Derived.Deep.OwnRows
import Derived.Tactics
import Derived.Lib.ConvBytes
import Derived.Laws.Slices
import Derived.WalkKit
import Derived.KernelRfl
import Derived.RowKit3
import Derived.Deep.LoopGhost
import Derived.Deep.QuietTactic
import Derived.BigQuiet
import Derived.WideLaws
import Derived.Deep.DeepCutAuto
import Derived.Deep.CutBlock
import Derived.Deep.RegionHeld3
import Derived.Laws.Rows
import Derived.Lib.AppendStr
import Derived.ArgAppend
import Derived.Laws.IdiomCopy
import Derived.OrdersHeld
import Derived.Laws.BitsLemmas
import Derived.RowKit
import Derived.Test.YtacgigkonoegiaaWWords
import Derived.Test.YtacgigkonoegiaaWLast
import Derived.Test.YtacgigkonoegiaaWTab
import Derived.Test.YtacgigkonoegiaaWFour
import Derived.Test.YtacgigkonoegiaaWQPut
import Derived.Test.YtacgigkonoegiaaWApart
import Derived.Test.YtacgigkonoegiaaWArr
import Derived.Test.YtacgigkonoegiaaWZeros
import Derived.Test.YtacgigkonoegiaaWFoot
import Derived.Test.YtacgigkonoegiaaWKept
import Derived.Test.YtacgigkonoegiaaWShare
import Derived.Test.YtacgigkonoegiaaWN
import Derived.Test.YtacgigkonoegiaaWFootNe
import Derived.Test.YtacgigkonoegiaaWAt
import Derived.Test.YtacgigkonoegiaaWEqStruct
import Derived.Test.YtacgigkonoegiaaWRepsOne
import Derived.Test.YtacgigkonoegiaaWInv
import Derived.Test.YtacgigkonoegiaaWInvWords
import Derived.Test.YtacgigkonoegiaaWGuard
import Derived.Test.YtacgigkonoegiaaWNEv
import Derived.Test.YtacgigkonoegiaaWMore
namespace Go.Proofs.Ytacgigkonoegiaa.PMachineBound
open Go.RowKit Go.Proofs.YtacgigkonoegiaaW.PrintWords Go.Proofs.YtacgigkonoegiaaW.PrintLast Go.Proofs.YtacgigkonoegiaaW.PrintMore
attribute [local go_sem] max2_int min2_int max_two min_two max_three min_three max_four min_four   -- for this text's walks alone
set_option linter.unusedVariables false
set_option linter.unusedSimpArgs false



def errW : Option Int → Value
  | none => .nilIface
  | some c => .iface 0 (.int .i64 c)
theorem errW_none : errW none = .nilIface := rfl
theorem errW_some (c : Int) : errW (some c) = .iface 0 (.int .i64 c) := rfl

-- the values' own types

end Go.Proofs.Ytacgigkonoegiaa.PMachineBound
