/- GroupPlays, as its row wants it. -/
import Derived.Test.YtoljebdicjiogaaI3
import Derived.Test.YtoljebdicjiogaaO
namespace Go.Proofs.Ytoljebdicjiogaa.Hand
set_option linter.unusedVariables false
open Go.RowKit Go.Maps Go.Proofs.Ytoljebdicjiogaa.R Go.Proofs.YtoljebdicjiogaaW.PrintWords Go.Proofs.YtoljebdicjiogaaW.PrintLast Go.Proofs.YtoljebdicjiogaaW.PrintMore
theorem plays_walk (W : World) (A : Option Addr) (c : Nat) (ls : List S30) (hC : Kd.C k30 W A ls.length ls) (hc : ls.length ≤ c) (hm : ls.length ≤ maxLen) (hwf : ∀ x ∈ ls, (Lit.int .i64 x.f0).wf = true) (A1 : Option Addr) (c1 : Nat) (but : List Int) (hC1 : Kd.C (Kd.int .i64) W A1 but.length but) (hc1 : but.length ≤ c1) (hm1 : but.length ≤ maxLen) (hwf1 : ∀ x ∈ but, (Lit.int .i64 x).wf = true) :
    Calls Try.prog 5 #[.slice A ls.length c, .slice A1 but.length c1] W fun e w' => e = .returned (.bool true) ∧ Below W.heap.size W w' :=
  plays_law A c ls A1 c1 but W hC hc hwf hC1 hc1
end Go.Proofs.Ytoljebdicjiogaa.Hand
