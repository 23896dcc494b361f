/- RamPlays, as the row calls it. -/
import Derived.Test.YtoejchlelamhjaaN7
namespace Go.Proofs.Ytoejchlelamhjaa.Hand
set_option linter.unusedVariables false
open Go.RowKit Go.Proofs.Ytoejchlelamhjaa.R Go.Proofs.Ytoejchlelamhjaa.Byt Go.Proofs.YtoejchlelamhjaaW.PrintWords Go.Proofs.YtoejchlelamhjaaW.PrintLast Go.Proofs.YtoejchlelamhjaaW.PrintMore
theorem plays_walk (W : World) (many : Int) (wk : (Lit.int .i64 many).wf = true) (A : Option Addr) (c : Nat) (ls : List S26) (hC : Kd.C k26 W A ls.length ls) (hc : ls.length ≤ c) (hm : ls.length ≤ maxLen) (hwf : ∀ x ∈ ls, DeedWf x) :
    Calls Try.prog 5 #[.int .i64 many, .slice A ls.length c] W fun e w' => e = .returned (.bool true) ∧ Below W.heap.size W w' := plays_law W many A c ls hC hc hwf

end Go.Proofs.Ytoejchlelamhjaa.Hand
