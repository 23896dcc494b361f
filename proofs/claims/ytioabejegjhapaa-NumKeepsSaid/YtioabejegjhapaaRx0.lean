-- written for this claim by a program (a patched print)
import Derived.Test.YtioabejegjhapaaProg
import Derived.Below
import Derived.Deep.Draws
import Derived.Deep.AppendLies
import Derived.Maps.AppendAt
import Derived.OwnWalk
import Derived.Laws.BytesArg
import Derived.Laws.MakeOwn
import Derived.Laws.OwnMore
import Derived.Deep.OwnRows
import Derived.Tactics
import Derived.Lib.ConvBytes
import Derived.Laws.Slices
import Derived.WalkKit
import Derived.KernelRfl
import Derived.RowKit3
import Derived.Deep.LoopGhost
import Derived.Deep.QuietTactic
import Derived.BigQuiet
import Derived.WideLaws
import Derived.Deep.DeepCutAuto
import Derived.Deep.CutBlock
import Derived.Deep.RegionHeld3
import Derived.Laws.Rows
import Derived.Lib.AppendStr
import Derived.ArgAppend
import Derived.Laws.IdiomCopy
import Derived.OrdersHeld
import Derived.Laws.BitsLemmas
import Derived.RowKit
import Derived.Test.YtioabejegjhapaaWWords
import Derived.Test.YtioabejegjhapaaWLast
import Derived.Test.YtioabejegjhapaaWTab
import Derived.Test.YtioabejegjhapaaWFour
import Derived.Test.YtioabejegjhapaaWQPut
import Derived.Test.YtioabejegjhapaaWApart
import Derived.Test.YtioabejegjhapaaWArr
import Derived.Test.YtioabejegjhapaaWZeros
import Derived.Test.YtioabejegjhapaaWFoot
import Derived.Test.YtioabejegjhapaaWKept
import Derived.Test.YtioabejegjhapaaWShare
import Derived.Test.YtioabejegjhapaaWN
import Derived.Test.YtioabejegjhapaaWFootNe
import Derived.Test.YtioabejegjhapaaWAt
import Derived.Test.YtioabejegjhapaaWEqStruct
import Derived.Test.YtioabejegjhapaaWRepsOne
import Derived.Test.YtioabejegjhapaaWInv
import Derived.Test.YtioabejegjhapaaWInvWords
import Derived.Test.YtioabejegjhapaaWGuard
import Derived.Test.YtioabejegjhapaaWNEv
import Derived.Test.YtioabejegjhapaaWMore
namespace Go.Proofs.Ytioabejegjhapaa.R
open Go.RowKit Go.Proofs.YtioabejegjhapaaW.PrintWords Go.Proofs.YtioabejegjhapaaW.PrintLast Go.Proofs.YtioabejegjhapaaW.PrintMore
attribute [local go_sem] max2_int min2_int max_two min_two max_three min_three max_four min_four   -- for this text's walks alone
set_option linter.unusedVariables false
set_option linter.unusedSimpArgs false



def errW : Option Int → Value
  | none => .nilIface
  | some c => .iface 0 (.int .i64 c)
theorem errW_none : errW none = .nilIface := rfl
theorem errW_some (c : Int) : errW (some c) = .iface 0 (.int .i64 c) := rfl

theorem info5 : (Try.prog.info? 5).map (fun i => (i.zero, i.size, i.bytes)) = some (some (.int .u8 0), 1, 1) := by kernel_rfl
theorem info25 : (Try.prog.info? 25).map (fun i => (i.zero, i.size, i.bytes)) = some (some (.int .u64 0), 1, 8) := by kernel_rfl
-- the values' own types

end Go.Proofs.Ytioabejegjhapaa.R
