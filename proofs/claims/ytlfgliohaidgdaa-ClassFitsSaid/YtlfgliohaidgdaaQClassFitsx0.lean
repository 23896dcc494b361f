import Derived.Test.YtlfgliohaidgdaaProg
import Derived.Below
import Derived.Deep.Draws
import Derived.Deep.AppendLies
import Derived.Maps.AppendAt
import Derived.OwnWalk
import Derived.Laws.BytesArg
import Derived.Laws.MakeOwn
import Derived.Laws.OwnMore
import Derived.Deep.OwnRows
import Derived.Tactics
import Derived.Lib.ConvBytes
import Derived.Laws.Slices
import Derived.WalkKit
import Derived.KernelRfl
import Derived.RowKit3
import Derived.Deep.LoopGhost
import Derived.Deep.QuietTactic
import Derived.BigQuiet
import Derived.WideLaws
import Derived.Deep.DeepCutAuto
import Derived.Deep.CutBlock
import Derived.Deep.RegionHeld3
import Derived.Laws.Rows
import Derived.Lib.AppendStr
import Derived.ArgAppend
import Derived.Laws.IdiomCopy
import Derived.OrdersHeld
import Derived.Laws.BitsLemmas
import Derived.RowKit
import Derived.Test.YtlfgliohaidgdaaWWords
import Derived.Test.YtlfgliohaidgdaaWLast
import Derived.Test.YtlfgliohaidgdaaWTab
import Derived.Test.YtlfgliohaidgdaaWFour
import Derived.Test.YtlfgliohaidgdaaWQPut
import Derived.Test.YtlfgliohaidgdaaWApart
import Derived.Test.YtlfgliohaidgdaaWArr
import Derived.Test.YtlfgliohaidgdaaWZeros
import Derived.Test.YtlfgliohaidgdaaWFoot
import Derived.Test.YtlfgliohaidgdaaWKept
import Derived.Test.YtlfgliohaidgdaaWShare
import Derived.Test.YtlfgliohaidgdaaWN
import Derived.Test.YtlfgliohaidgdaaWFootNe
import Derived.Test.YtlfgliohaidgdaaWAt
import Derived.Test.YtlfgliohaidgdaaWEqStruct
import Derived.Test.YtlfgliohaidgdaaWRepsOne
import Derived.Test.YtlfgliohaidgdaaWInv
import Derived.Test.YtlfgliohaidgdaaWInvWords
import Derived.Test.YtlfgliohaidgdaaWGuard
import Derived.Test.YtlfgliohaidgdaaWNEv
import Derived.Test.YtlfgliohaidgdaaWMore
namespace Go.Proofs.Ytlfgliohaidgdaa.PClassFits
open Go.RowKit Go.Proofs.YtlfgliohaidgdaaW.PrintWords Go.Proofs.YtlfgliohaidgdaaW.PrintLast Go.Proofs.YtlfgliohaidgdaaW.PrintMore
attribute [local go_sem] max2_int min2_int max_two min_two max_three min_three max_four min_four   -- for this text's walks alone
set_option linter.unusedVariables false
set_option linter.unusedSimpArgs false



def errW : Option Int → Value
  | none => .nilIface
  | some c => .iface 0 (.int .i64 c)
theorem errW_none : errW none = .nilIface := rfl
theorem errW_some (c : Int) : errW (some c) = .iface 0 (.int .i64 c) := rfl

-- the values' own types

end Go.Proofs.Ytlfgliohaidgdaa.PClassFits
