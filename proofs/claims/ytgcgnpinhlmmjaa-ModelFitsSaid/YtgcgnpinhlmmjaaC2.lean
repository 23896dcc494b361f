/- ModelFits, as its row wants it. -/
import Derived.Test.YtgcgnpinhlmmjaaC1
namespace Go.Proofs.Ytgcgnpinhlmmjaa.Hand
set_option linter.unusedVariables false
open Go.RowKit Go.Maps Go.Proofs.Ytgcgnpinhlmmjaa.R Go.Proofs.YtgcgnpinhlmmjaaW.PrintWords
theorem fits_walk (W : World) (a : Array Value) (o : S25) (hK : k25.K W o a.toList) (hR : OpWf o) (b : Array Value) (t : S28 × S28) (hK2 : (Kd.pair k28 k28).K W t b.toList) (hR2 : AnsWf t.1 ∧ AnsWf t.2) (c : Array Value) (l : List S35 × List S35) (hK3 : (Kd.pair (Kd.slice 35 k35) (Kd.slice 35 k35)).K W l c.toList)
    (hR3 : (l.1.length ≤ maxLen ∧ ∀ p ∈ l.1, PgWf p) ∧ (l.2.length ≤ maxLen ∧ ∀ p ∈ l.2, PgWf p)) :
    Calls Try.prog 3 #[.agg a, .agg b, .agg c] W fun e w' => e = .returned (.bool true) ∧ Below W.heap.size W w' := by
  obtain ⟨A0, c0, e0, _, _⟩ := k25_open hK
  obtain ⟨d0, d1, e1, g1, g2⟩ := hK2
  obtain ⟨A1, c1, rfl, l1, C1⟩ := k28_open g1
  obtain ⟨A2, c2, rfl, l2, C2⟩ := k28_open g2
  obtain ⟨f0, f1, e2, ⟨B0, m0, rfl, n0, D0⟩, ⟨B1, m1, rfl, n1, D1⟩⟩ := hK3
  obtain rfl : a = #[.int .i64 o.f0, .int .i64 o.f1, .int .i64 o.f2, .int .u64 o.f3, .slice A0 o.f4.length c0] := Array.ext' e0
  obtain rfl : b = #[.int .i64 t.1.f0, .int .i64 t.1.f1, .slice A1 t.1.f2.length c1, .int .i64 t.2.f0, .int .i64 t.2.f1, .slice A2 t.2.f2.length c2] := Array.ext' e1
  obtain rfl : c = #[.slice B0 l.1.length m0, .slice B1 l.2.length m1] := Array.ext' e2
  exact fits_law o A0 c0 t.1.f0 t.1.f1 A1 c1 t.1.f2 t.2.f0 t.2.f1 A2 c2 t.2.f2 B0 m0 l.1 B1 m1 l.2 W C1 l1 C2 l2 D0 n0 D1 n1
end Go.Proofs.Ytgcgnpinhlmmjaa.Hand
