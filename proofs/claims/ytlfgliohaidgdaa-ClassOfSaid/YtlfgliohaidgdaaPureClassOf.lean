/- Proves ClassOf: the class for any number of bytes is the document's. No condition. -/
import Derived.Test.YtlfgliohaidgdaaPClassOfx1
namespace Go.Proofs.Ytlfgliohaidgdaa.Pure
open Go.RowKit Go.Proofs.Ytlfgliohaidgdaa.PClassOf Go.Proofs.YtlfgliohaidgdaaW.PrintWords Go.Proofs.YtlfgliohaidgdaaW.PrintLast

theorem co_lives : gunnylaw15_lives.f 100 = some true := by decide +kernel

theorem co_none (n : Int) (hn : n < 1 ∨ 4096 < n) (d : Nat) : ∀ (k : Nat) (i : Int), 0 ≤ i → i ≤ 64 → 64 - i = d → d < k → gunnyref15_Of.l0 k n i = some (-1) := by
  induction d with
  | zero =>
    intro k i h0 h1 hd hk
    obtain ⟨k, rfl⟩ : ∃ m, k = m + 1 := ⟨k - 1, by omega⟩
    simp only [gunnyref15_Of.l0]
    rw [if_neg (by omega)]
  | succ d ih =>
    intro k i h0 h1 hd hk
    obtain ⟨k, rfl⟩ : ∃ m, k = m + 1 := ⟨k - 1, by omega⟩
    simp only [gunnyref15_Of.l0]
    have e : wrap64 (i + 1) = i + 1 := by unfold wrap64; omega
    have e2 : wrap64 (64 * (i + 1)) = 64 * (i + 1) := by unfold wrap64; omega
    rw [if_pos (by omega), e, e2]
    have := ih k (i + 1) (by omega) (by omega) (by omega) (by omega)
    by_cases h : n ≥ 1
    · rw [if_pos h, if_neg (by omega)]; exact this
    · rw [if_neg h]; exact this

theorem co_some (n : Int) (h1 : 1 ≤ n) (h2 : n ≤ 4096) (d : Nat) : ∀ (k : Nat) (i : Int), 0 ≤ i → i ≤ (n - 1) / 64 → (n - 1) / 64 - i = d → d < k → gunnyref15_Of.l0 k n i = some ((n - 1) / 64) := by
  induction d with
  | zero =>
    intro k i h0 h1 hd hk
    obtain ⟨k, rfl⟩ : ∃ m, k = m + 1 := ⟨k - 1, by omega⟩
    simp only [gunnyref15_Of.l0]
    have e : wrap64 (i + 1) = i + 1 := by unfold wrap64; omega
    have e2 : wrap64 (64 * (i + 1)) = 64 * (i + 1) := by unfold wrap64; omega
    rw [if_pos (by omega), e, e2, if_pos (by omega), if_pos (by omega)]
    congr 1; omega
  | succ d ih =>
    intro k i h0 h1 hd hk
    obtain ⟨k, rfl⟩ : ∃ m, k = m + 1 := ⟨k - 1, by omega⟩
    simp only [gunnyref15_Of.l0]
    have e : wrap64 (i + 1) = i + 1 := by unfold wrap64; omega
    have e2 : wrap64 (64 * (i + 1)) = 64 * (i + 1) := by unfold wrap64; omega
    rw [if_pos (by omega), e, e2, if_pos (by omega), if_neg (by omega)]
    exact ih k (i + 1) (by omega) (by omega) (by omega) (by omega)

theorem ClassOf : gunnylaw15_ClassOf.Pure := by
  intro n _
  refine ⟨100, ?_⟩
  unfold gunnylaw15_ClassOf.f class_Of.f gunnyref15_Of.f
  rw [co_lives]
  by_cases h : n < 1 ∨ 4096 < n
  · rw [co_none n h 64 100 0 (by omega) (by omega) (by omega) (by omega)]
    by_cases h1 : n < 1
    · rw [if_pos h1]; simp
    · rw [if_neg h1, if_pos (by omega)]; simp
  · have h1 : 1 ≤ n := by omega
    have h2 : n ≤ 4096 := by omega
    rw [co_some n h1 h2 ((n - 1) / 64).toNat 100 0 (by omega) (by omega) (by omega) (by omega), if_neg (by omega), if_neg (by omega)]
    have e1 : wrap64 (n - 1) = n - 1 := by unfold wrap64; omega
    have e2 : Int.tdiv (n - 1) 64 = (n - 1) / 64 := Int.tdiv_eq_ediv_of_nonneg (by omega)
    have e3 : wrap64 ((n - 1) / 64) = (n - 1) / 64 := by unfold wrap64; omega
    rw [e1, e2, e3]
    simp only [Option.bind_some]
    rw [if_neg (by omega)]; simp

end Go.Proofs.Ytlfgliohaidgdaa.Pure
