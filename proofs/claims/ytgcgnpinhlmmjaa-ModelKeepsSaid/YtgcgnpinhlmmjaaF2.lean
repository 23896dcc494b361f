/- ModelKeeps, as its row wants it. -/
import Derived.Test.YtgcgnpinhlmmjaaF1
namespace Go.Proofs.Ytgcgnpinhlmmjaa.Hand
set_option linter.unusedVariables false
open Go.RowKit Go.Maps Go.Proofs.Ytgcgnpinhlmmjaa.R Go.Proofs.YtgcgnpinhlmmjaaW.PrintWords
theorem okO_of {x : S25} (h : OpWf x) : okO x := by
  obtain ⟨_, _, _, h3, _, h5⟩ := h
  have h4 := bounds_u64 h3
  refine ⟨by omega, by omega, fun b hb => ?_⟩
  have h6 := bounds_u8 (h5 b hb)
  omega
theorem keeps_walk (W : World) (A : Option Addr) (c : Nat) (ls : List S25) (hC : Kd.C k25 W A ls.length ls) (hc : ls.length ≤ c) (hm : ls.length ≤ maxLen) (hwf : ∀ x ∈ ls, OpWf x) (a : Array Value) (o : S25) (hK : k25.K W o a.toList) (hR : OpWf o) :
    Calls Try.prog 4 #[.slice A ls.length c, .agg a] W fun e w' => e = .returned (.bool true) ∧ Below W.heap.size W w' := by
  obtain ⟨A0, c0, e0, l0, C0⟩ := k25_open hK
  obtain rfl : a = #[.int .i64 o.f0, .int .i64 o.f1, .int .i64 o.f2, .int .u64 o.f3, .slice A0 o.f4.length c0] := Array.ext' e0
  exact keeps_law ls A c o A0 c0 W hC hc C0 l0 (fun x hx => okO_of (hwf x hx)) (okO_of hR)
end Go.Proofs.Ytgcgnpinhlmmjaa.Hand
