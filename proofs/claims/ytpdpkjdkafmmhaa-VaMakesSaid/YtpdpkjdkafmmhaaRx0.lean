-- written for this claim by a program (a patched print)
import Derived.Test.YtpdpkjdkafmmhaaProg
import Derived.Below
import Derived.Deep.Draws
import Derived.Deep.AppendLies
import Derived.Maps.AppendAt
import Derived.OwnWalk
import Derived.Laws.BytesArg
import Derived.Laws.MakeOwn
import Derived.Laws.OwnMore
import Derived.Deep.OwnRows
import Derived.Tactics
import Derived.Lib.ConvBytes
import Derived.Laws.Slices
import Derived.WalkKit
import Derived.KernelRfl
import Derived.RowKit3
import Derived.Deep.LoopGhost
import Derived.Deep.QuietTactic
import Derived.BigQuiet
import Derived.WideLaws
import Derived.Deep.DeepCutAuto
import Derived.Deep.CutBlock
import Derived.Deep.RegionHeld3
import Derived.Laws.Rows
import Derived.Lib.AppendStr
import Derived.ArgAppend
import Derived.Laws.IdiomCopy
import Derived.OrdersHeld
import Derived.Laws.BitsLemmas
import Derived.RowKit
import Derived.Test.YtpdpkjdkafmmhaaWWords
import Derived.Test.YtpdpkjdkafmmhaaWLast
import Derived.Test.YtpdpkjdkafmmhaaWTab
import Derived.Test.YtpdpkjdkafmmhaaWFour
import Derived.Test.YtpdpkjdkafmmhaaWQPut
import Derived.Test.YtpdpkjdkafmmhaaWApart
import Derived.Test.YtpdpkjdkafmmhaaWArr
import Derived.Test.YtpdpkjdkafmmhaaWZeros
import Derived.Test.YtpdpkjdkafmmhaaWFoot
import Derived.Test.YtpdpkjdkafmmhaaWKept
import Derived.Test.YtpdpkjdkafmmhaaWShare
import Derived.Test.YtpdpkjdkafmmhaaWN
import Derived.Test.YtpdpkjdkafmmhaaWFootNe
import Derived.Test.YtpdpkjdkafmmhaaWAt
import Derived.Test.YtpdpkjdkafmmhaaWEqStruct
import Derived.Test.YtpdpkjdkafmmhaaWRepsOne
import Derived.Test.YtpdpkjdkafmmhaaWInv
import Derived.Test.YtpdpkjdkafmmhaaWInvWords
import Derived.Test.YtpdpkjdkafmmhaaWGuard
import Derived.Test.YtpdpkjdkafmmhaaWNEv
import Derived.Test.YtpdpkjdkafmmhaaWMore
namespace Go.Proofs.Ytpdpkjdkafmmhaa.R
open Go.RowKit Go.Proofs.YtpdpkjdkafmmhaaW.PrintWords Go.Proofs.YtpdpkjdkafmmhaaW.PrintLast Go.Proofs.YtpdpkjdkafmmhaaW.PrintMore
attribute [local go_sem] max2_int min2_int max_two min_two max_three min_three max_four min_four   -- for this text's walks alone
set_option linter.unusedVariables false
set_option linter.unusedSimpArgs false



def errW : Option Int → Value
  | none => .nilIface
  | some c => .iface 0 (.int .i64 c)
theorem errW_none : errW none = .nilIface := rfl
theorem errW_some (c : Int) : errW (some c) = .iface 0 (.int .i64 c) := rfl

theorem info3 : (Try.prog.info? 3).map (fun i => (i.zero, i.size, i.bytes)) = some (some (.int .i64 0), 1, 8) := by kernel_rfl
theorem info25 : (Try.prog.info? 25).map (fun i => (i.zero, i.size, i.bytes)) = some (some (.int .u64 0), 1, 8) := by kernel_rfl
-- the values' own types

end Go.Proofs.Ytpdpkjdkafmmhaa.R
