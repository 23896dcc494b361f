/- ScriptPuts: a script as it came in, and the walk. -/
import Derived.Test.YtldoaddeaiappaaS7
import Derived.Test.YtldoaddeaiappaaS3
import Derived.Test.YtldoaddeaiappaaRx9
namespace Go.Proofs.Ytldoaddeaiappaa.Hand
set_option linter.unusedVariables false
set_option linter.unusedSimpArgs false
open Go.RowKit Go.Proofs.Ytldoaddeaiappaa.R Go.Proofs.YtldoaddeaiappaaW.PrintWords Go.Proofs.YtldoaddeaiappaaW.PrintLast Go.Proofs.YtldoaddeaiappaaW.PrintMore

abbrev kConf : Kd (Int × Int × Int × Int) := Kd.pair (Kd.int .i64) (Kd.pair (Kd.int .i64) (Kd.pair (Kd.int .i64) (Kd.int .i64)))
abbrev kScript : Kd ((Int × Int × Int × Int) × List Bool × List S39) := Kd.pair kConf (Kd.pair (Kd.slice 4 Kd.bool) (Kd.slice 39 k39))
theorem opens_conf : Opens.Opens Try.prog kConf 23 (fun c => (Lit.int .i64 c.1).wf = true ∧ (Lit.int .i64 c.2.1).wf = true ∧ (Lit.int .i64 c.2.2.1).wf = true ∧ (Lit.int .i64 c.2.2.2).wf = true) := by
  have h := Opens.opens_struct Try.underlying23 (by kernel_rfl) (Opens.opensF_cons rfl (Opens.opens_int Try.underlying3 (by kernel_rfl)) (Opens.opensF_cons rfl (Opens.opens_int Try.underlying3 (by kernel_rfl)) (Opens.opensF_cons rfl (Opens.opens_int Try.underlying3 (by kernel_rfl)) (Opens.opensF_one rfl (Opens.opens_int Try.underlying3 (by kernel_rfl))))))
  exact h
def ScriptWf (y : (Int × Int × Int × Int) × List Bool × List S39) : Prop :=
  ((Lit.int .i64 y.1.1).wf = true ∧ (Lit.int .i64 y.1.2.1).wf = true ∧ (Lit.int .i64 y.1.2.2.1).wf = true ∧ (Lit.int .i64 y.1.2.2.2).wf = true) ∧ (y.2.1.length ≤ maxLen ∧ ∀ x ∈ y.2.1, True) ∧ (y.2.2.length ≤ maxLen ∧ ∀ x ∈ y.2.2, OpWf x)
theorem opens_script : Opens.Opens Try.prog kScript 27 ScriptWf := by
  have h := Opens.opens_struct Try.underlying27 (by kernel_rfl) (Opens.opensF_cons rfl opens_conf (Opens.opensF_cons rfl (Opens.opens_slice Try.underlying24 (by kernel_rfl) (Opens.opens_bool Try.underlying4 (by kernel_rfl))) (Opens.opensF_one rfl (Opens.opens_slice Try.underlying25 (by kernel_rfl) opens_op))))
  exact h
theorem script_open {w : World} {a : Array Value} {y : (Int × Int × Int × Int) × List Bool × List S39} (h : kScript.K w y a.toList) :
    ∃ A c A2 c2, a = #[.int .i64 y.1.1, .int .i64 y.1.2.1, .int .i64 y.1.2.2.1, .int .i64 y.1.2.2.2, .slice A y.2.1.length c, .slice A2 y.2.2.length c2] ∧ y.2.1.length ≤ c ∧ Kd.C Kd.bool w A y.2.1.length y.2.1 ∧ y.2.2.length ≤ c2 ∧ Kd.C k39 w A2 y.2.2.length y.2.2 := by
  obtain ⟨_, _, e, ⟨_, _, e1, e2, _, _, e3, e4, _, _, e5, e6, e7⟩, _, _, e8, ⟨A, c, e9, hc, hC⟩, A2, c2, e10, hc2, hC2⟩ := h
  refine ⟨A, c, A2, c2, ?_, hc, hC, hc2, hC2⟩
  apply Array.ext'
  rw [e, e1, e2, e3, e4, e5, e6, e7, e8, e9, e10]
  rfl

theorem puts_walk (W : World) (a : Array Value) (y : (Int × Int × Int × Int) × List Bool × List S39) (hK : kScript.K W y a.toList) (hR : ScriptWf y) :
    Calls Try.prog 3 #[.agg a] W fun e w' => e = .returned (.bool true) ∧ Below W.heap.size W w' := by
  obtain ⟨A, c, A2, c2, rfl, hc, hC, hc2, hC2⟩ := script_open hK
  exact gunnylaw39_ScriptPuts.calls 20000 y.1.1 y.1.2.1 y.1.2.2.1 y.1.2.2.2 A c y.2.1 A2 c2 y.2.2 true W hC hc hC2 hc2 (puts_some _ _ _ _ _ _ (fun o ho => by have := (hR.2.2.2 o ho).2.2.2.1; have := bounds_u64 this; omega))

end Go.Proofs.Ytldoaddeaiappaa.Hand
