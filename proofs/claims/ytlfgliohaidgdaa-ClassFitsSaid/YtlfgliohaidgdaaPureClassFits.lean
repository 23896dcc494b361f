/- Proves ClassFits: bytes have room in their class's objects and in none of a smaller one; objects have room in their zspages, and one more has not. No condition. -/
import Derived.Test.YtlfgliohaidgdaaQClassFitsx1
import Derived.OpenShut
namespace Go.Proofs.Ytlfgliohaidgdaa.Pure
open Go.RowKit Go.Proofs.Ytlfgliohaidgdaa.PClassFits Go.Proofs.YtlfgliohaidgdaaW.PrintWords Go.Proofs.YtlfgliohaidgdaaW.PrintLast

theorem cf_all : ∀ c : Fin 64, gunnylaw15_ClassFits.j0 100 (c.val : Int) false = some true := by decide +kernel

theorem cf_size (c : Int) (h0 : 0 ≤ c) (h1 : c < 64) : class_Size.f c = some (64 * (c + 1)) := by
  unfold class_Size.f class_may.f
  rw [if_pos h0, decide_eq_true h1]
  have e : wrap64 (c + 1) = c + 1 := by unfold wrap64; omega
  have e2 : wrap64 (64 * (c + 1)) = 64 * (c + 1) := by unfold wrap64; omega
  simp only [Option.bind_some]
  rw [if_pos trivial, e, e2]

theorem ClassFits : gunnylaw15_ClassFits.Pure := by
  intro n hn
  have hb : 0 ≤ n ∧ n ≤ 65535 := bounds_u16 hn
  refine ⟨100, ?_⟩
  have e1 : wrap64 n = n := by unfold wrap64; omega
  have e2 : Int.tmod n 4096 = n % 4096 := Int.tmod_eq_emod_of_nonneg hb.1
  have e3 : wrap64 (1 + n % 4096) = 1 + n % 4096 := by unfold wrap64; omega
  unfold gunnylaw15_ClassFits.f
  rw [e1, e2, e3]
  obtain ⟨s, hs⟩ : ∃ s, s = 1 + n % 4096 := ⟨_, rfl⟩
  rw [← hs]
  have hs1 : 1 ≤ s := by omega
  have hs2 : s ≤ 4096 := by omega
  clear e1 e2 e3 hs hb hn
  unfold class_Of.f
  rw [if_neg (by omega), if_neg (by omega)]
  have e1 : wrap64 (s - 1) = s - 1 := by unfold wrap64; omega
  have e2 : Int.tdiv (s - 1) 64 = (s - 1) / 64 := Int.tdiv_eq_ediv_of_nonneg (by omega)
  have e3 : wrap64 ((s - 1) / 64) = (s - 1) / 64 := by unfold wrap64; omega
  rw [e1, e2, e3]
  obtain ⟨c, hc⟩ : ∃ c, c = (s - 1) / 64 := ⟨_, rfl⟩
  rw [← hc]
  have hc0 : 0 ≤ c := by omega
  have hc1 : c < 64 := by omega
  simp only [Option.bind_some, if_true]
  rw [cf_size c hc0 hc1]
  simp only [Option.bind_some]
  rw [if_neg (by omega)]
  have key : gunnylaw15_ClassFits.j0 100 c false = some true := by
    obtain ⟨m, rfl⟩ : ∃ m : Nat, c = m := ⟨c.toNat, by omega⟩
    exact cf_all ⟨m, by omega⟩
  by_cases h : c > 0
  · rw [if_pos h]
    have e4 : wrap64 (c - 1) = c - 1 := by unfold wrap64; omega
    rw [e4, cf_size (c - 1) (by omega) (by omega)]
    simp only [Option.bind_some]
    rw [decide_eq_false (by omega)]; exact key
  · rw [if_neg h]; exact key

end Go.Proofs.Ytlfgliohaidgdaa.Pure
