/- GroupHelps, as its row wants it. -/
import Derived.Test.YtoljebdicjiogaaH3
import Derived.Test.YtoljebdicjiogaaO
namespace Go.Proofs.Ytoljebdicjiogaa.Hand
set_option linter.unusedVariables false
open Go.RowKit Go.Maps Go.Proofs.Ytoljebdicjiogaa.R Go.Proofs.YtoljebdicjiogaaW.PrintWords Go.Proofs.YtoljebdicjiogaaW.PrintLast Go.Proofs.YtoljebdicjiogaaW.PrintMore
theorem helps_walk1 (W : World) (A : Option Addr) (c : Nat) (ls : List S30) (hC : Kd.C k30 W A ls.length ls) (hc : ls.length ≤ c) (hm : ls.length ≤ maxLen) (hwf : ∀ x ∈ ls, (Lit.int .i64 x.f0).wf = true) :
    Calls Try.prog 4 #[.slice A ls.length c] W fun e w' => e = .returned (.bool true) ∧ Below W.heap.size W w' :=
  helps_law A c ls W hC hc
end Go.Proofs.Ytoljebdicjiogaa.Hand
