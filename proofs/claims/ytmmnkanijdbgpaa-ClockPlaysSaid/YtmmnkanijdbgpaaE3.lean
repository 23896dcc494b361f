/- Deeds: which are too great (plain); a deed as it came in. -/
import Derived.Test.YtmmnkanijdbgpaaE2
import Derived.Test.YtmmnkanijdbgpaaOpens
namespace Go.Proofs.Ytmmnkanijdbgpaa.Hand
set_option linter.unusedVariables false
set_option linter.unusedSimpArgs false
open Go.RowKit Go.Proofs.Ytmmnkanijdbgpaa.R Go.Proofs.YtmmnkanijdbgpaaW.PrintWords Go.Proofs.YtmmnkanijdbgpaaW.PrintLast Go.Proofs.YtmmnkanijdbgpaaW.PrintMore

theorem great_at (ls : List S44) : ∀ (d i k : Nat), i + d = ls.length → 2 * d + 2 ≤ k → ∃ b, gunnylaw35_great.l0 k ls (i : Int) = some b ∧ (b = false → ls.length ≤ 100 ∧ ∀ j : Nat, i ≤ j → j < ls.length → (rd_T44 ls (j : Int)).f3.length ≤ 300 ∧ (rd_T44 ls (j : Int)).f4.length ≤ 100)
  | 0, i, k, h, hk => by
    obtain ⟨k, rfl⟩ : ∃ k', k = k' + 1 + 1 := ⟨k - 2, by omega⟩
    refine ⟨decide ((ls.length : Int) > 100), ?_, fun hb => ?_⟩
    · unfold gunnylaw35_great.l0
      rw [if_neg (by omega)]
      unfold gunnylaw35_great.j1
      rw [if_neg (by decide)]
    · have := of_decide_eq_false hb
      exact ⟨by omega, fun j h1 h2 => absurd h2 (by omega)⟩
  | d + 1, i, k, h, hk => by
    obtain ⟨k, rfl⟩ : ∃ k', k = k' + 1 + 1 := ⟨k - 2, by omega⟩
    have e : gunnylaw35_great.l0 (k + 1 + 1) ls (i : Int) = gunnylaw35_great.j1 (k + 1) ls (i : Int) (decide ((i : Int) < 200)) := by
      conv => lhs; unfold gunnylaw35_great.l0
      rw [if_pos (by omega)]
    rw [e]
    by_cases h2 : (i : Int) < 200
    · rw [decide_eq_true h2]
      unfold gunnylaw35_great.j1
      rw [if_pos rfl, if_pos (by omega), if_pos (by omega)]
      by_cases h3 : ((rd_T44 ls (i : Int)).f3.length : Int) > 300
      · rw [if_pos h3]
        exact ⟨true, rfl, fun hb => by cases hb⟩
      · rw [if_neg h3]
        by_cases h4 : ((rd_T44 ls (i : Int)).f4.length : Int) > 100
        · rw [if_pos h4]
          exact ⟨true, rfl, fun hb => by cases hb⟩
        · rw [if_neg h4, w64s i (by omega)]
          obtain ⟨b, h5, h6⟩ := great_at ls d (i + 1) k (by omega) (by omega)
          refine ⟨b, h5, fun hb => ⟨(h6 hb).1, fun j h7 h8 => ?_⟩⟩
          by_cases hj : j = i
          · subst hj; exact ⟨by omega, by omega⟩
          · exact (h6 hb).2 j (by omega) h8
    · rw [decide_eq_false h2]
      unfold gunnylaw35_great.j1
      rw [if_neg (by decide)]
      exact ⟨_, rfl, fun hb => by have := of_decide_eq_false hb; omega⟩
theorem great_some (ls : List S44) : ∃ b, gunnylaw35_great.f (2 * ls.length + 2) ls = some b ∧ (b = false → ls.length ≤ 100 ∧ ∀ j : Nat, j < ls.length → (rd_T44 ls (j : Int)).f3.length ≤ 300 ∧ (rd_T44 ls (j : Int)).f4.length ≤ 100) := by
  obtain ⟨b, h1, h2⟩ := great_at ls ls.length 0 (2 * ls.length + 2) (by omega) (Nat.le_refl _)
  exact ⟨b, h1, fun hb => ⟨(h2 hb).1, fun j hj => (h2 hb).2 j (Nat.zero_le _) hj⟩⟩
/-! a deed as it came in -/
def DeedWf (x : S44) : Prop := (Lit.int .i64 x.f0).wf = true ∧ (Lit.int .i64 x.f1).wf = true ∧ (Lit.int .i64 x.f2).wf = true ∧ (x.f3.length ≤ maxLen ∧ ∀ b ∈ x.f3, True) ∧ x.f4.length ≤ maxLen ∧ ∀ b ∈ x.f4, (Lit.int .i64 b).wf = true
theorem opens_deed : Opens.Opens Try.prog k44 44 DeedWf := by
  have h := Opens.opens_iso (f := fun x : S44 => (x.f0, x.f1, x.f2, x.f3, x.f4)) (fun a => (⟨a.1, a.2.1, a.2.2.1, a.2.2.2.1, a.2.2.2.2⟩ : S44)) (fun a => rfl)
    (Opens.opens_struct Try.underlying44 (by kernel_rfl) (Opens.opensF_cons rfl (Opens.opens_int Try.underlying3 (by kernel_rfl)) (Opens.opensF_cons rfl (Opens.opens_int Try.underlying3 (by kernel_rfl)) (Opens.opensF_cons rfl (Opens.opens_int Try.underlying3 (by kernel_rfl)) (Opens.opensF_cons rfl (Opens.opens_slice Try.underlying32 (by kernel_rfl) (Opens.opens_bool Try.underlying4 (by kernel_rfl))) (Opens.opensF_one rfl (Opens.opens_slice Try.underlying26 (by kernel_rfl) (Opens.opens_int Try.underlying3 (by kernel_rfl)))))))))
  exact h
theorem rd44' (l : List S44) (i : Nat) (h : i < l.length) : rd_T44 l (i : Int) = l[i] := by unfold rd_T44; simp [h]
/-- The deed's box. -/
abbrev DB (d : S44) (A3 : Option Addr) (c3 : Nat) (A4 : Option Addr) (c4 : Nat) : Obj := .cells (boxD d A3 c3 A4 c4) 44 (0, 0)
end Go.Proofs.Ytmmnkanijdbgpaa.Hand
