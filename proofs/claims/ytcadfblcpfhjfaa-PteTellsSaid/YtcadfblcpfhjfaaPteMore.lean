/- What pte's Number, Perm, Flags, Clear and Protect compute, by a word's kind. No program's memory. -/
import Derived.Test.YtcadfblcpfhjfaaPurePteTouches
import Derived.Test.YtcadfblcpfhjfaaRx8
namespace Go.Proofs.Ytcadfblcpfhjfaa.Pte
set_option linter.unusedVariables false
set_option linter.unusedSimpArgs false
open Go.RowKit Go.Proofs.Ytcadfblcpfhjfaa.R Go.Proofs.Ytcadfblcpfhjfaa.Bits Go.Proofs.Ytcadfblcpfhjfaa.Num Go.Proofs.Ytcadfblcpfhjfaa.Pure Go.Proofs.YtcadfblcpfhjfaaW.PrintWords Go.Proofs.YtcadfblcpfhjfaaW.PrintMore

theorem number_some (k w : Nat) (hw : w < 18446744073709551616) : pte_Number.f (k + 9) (w : Int) = some (if knd w = 0 ∨ knd w = 4 then 0 else ((nm w : Nat) : Int)) := by
  unfold pte_Number.f
  rw [bs (kind_some k w hw)]
  by_cases h0 : knd w = 0
  · rw [if_pos (by omega), if_pos (.inl h0)]
  · by_cases h4 : knd w = 4
    · rw [if_neg (by omega), if_pos (by omega), if_pos (.inr h4)]
    · rw [if_neg (by omega), if_neg (by omega), if_neg (by omega), bs (parts_some (k + 8) w hw)]
theorem perm_some (k w : Nat) (hw : w < 18446744073709551616) : pte_Perm.f (k + 9) (w : Int) = some (if knd w = 0 ∨ knd w = 4 then 0 else ((pm w : Nat) : Int)) := by
  unfold pte_Perm.f
  rw [bs (kind_some k w hw)]
  by_cases h0 : knd w = 0
  · rw [if_pos (by omega), if_pos (.inl h0)]
  · by_cases h4 : knd w = 4
    · rw [if_neg (by omega), if_pos (by omega), if_pos (.inr h4)]
    · rw [if_neg (by omega), if_neg (by omega), if_neg (by omega), bs (parts_some (k + 8) w hw)]
theorem flags_some (k w : Nat) (hw : w < 18446744073709551616) : pte_Flags.f (k + 9) (w : Int) = some (decide (knd w = 2) && (w / 64 % 2 == 1), decide (knd w = 2) && (w / 128 % 2 == 1)) := by
  have b6 : num_Bit.f (k + 9) (w : Int) 6 = some (w / 64 % 2 == 1) := bit_some (k + 8) w 6 hw (by omega)
  have b7 : num_Bit.f (k + 9) (w : Int) 7 = some (w / 128 % 2 == 1) := bit_some (k + 8) w 7 hw (by omega)
  unfold pte_Flags.f
  rw [bs (kind_some k w hw)]
  by_cases h : knd w = 2
  · rw [if_pos (by omega), bs b6, bs b7, decide_eq_true h, Bool.true_and, Bool.true_and]
  · rw [if_neg (by omega), decide_eq_false h, Bool.false_and, Bool.false_and]
theorem clear_leaf (k w : Nat) (hw : w < 18446744073709551616) (h : leafy w) : pte_Clear.f (k + 9) (w : Int) = some ((1024 * nm w + 2 * pm w + 17 : Nat) : Int) := by
  have s : num_Set.f (k + 9) (w : Int) 6 2 0 = some ((1024 * nm w + 2 * pm w + 17 : Nat) : Int) := by
    refine set_lit (k + 8) w 6 2 0 _ hw (by omega) (by omega) ?_
    show w + 0 % 4 * 64 = 1024 * nm w + 2 * pm w + 17 + w / 64 % 4 * 64
    have := h.2.2.1
    have := pm_lt w
    generalize nm w = M at *
    generalize pm w = P at *
    omega
  unfold pte_Clear.f
  rw [bs (kind_some k w hw), leafy_knd w h, if_pos (show ((2 : Nat) : Int) = 2 by decide), bs s]
theorem clear_not (k w : Nat) (hw : w < 18446744073709551616) (h : knd w ≠ 2) : pte_Clear.f (k + 9) (w : Int) = some (w : Int) := by
  unfold pte_Clear.f
  rw [bs (kind_some k w hw), if_neg (by omega)]
/-! words that are made -/
theorem nm_of (w M r : Nat) (h : w = 1024 * M + r) (hr : r < 1024) (hM : M < 17592186044416) : nm w = M := by unfold nm; omega
theorem pm_of (w P r s : Nat) (h : w = 16 * s + 2 * P + r) (hr : r < 2) (hP : P < 8) : pm w = P := by unfold pm; omega
theorem leafy_of (w M P a d : Nat) (h : w = 1024 * M + 2 * P + 17 + 64 * a + 128 * d) (hM : M < 96) (hP : mayN P = true) (ha : a < 2) (hd : d < 2) (hc : d = 1 → a = 1 ∧ P / 2 % 2 = 1) : leafy w ∧ nm w = M ∧ pm w = P := by
  have hp := may_range P ((may_nat P).trans hP)
  have e1 : nm w = M := by unfold nm; omega
  have e2 : pm w = P := by unfold pm; omega
  refine ⟨?_, e1, e2⟩
  unfold leafy
  rw [e1, e2]
  clear e1 e2
  exact ⟨hM, hP, by omega, by omega⟩
theorem soft_of (M P : Nat) (hM : M ≤ 512) (hP : mayN P = true) : knd (1024 * M + 2 * P + 16) = 3 ∧ nm (1024 * M + 2 * P + 16) = M ∧ pm (1024 * M + 2 * P + 16) = P := by
  have hp := may_range P ((may_nat P).trans hP)
  have e1 : nm (1024 * M + 2 * P + 16) = M := by unfold nm; omega
  have e2 : pm (1024 * M + 2 * P + 16) = P := by unfold pm; omega
  have c2 : ¬ leafy (1024 * M + 2 * P + 16) := by
    rintro ⟨_, _, c, _⟩
    rw [e1, e2] at c
    clear e1 e2
    omega
  refine ⟨?_, e1, e2⟩
  unfold knd
  rw [e1, e2, if_neg (by omega), if_neg (by omega), if_neg c2, if_pos ⟨hM, hP, rfl⟩]
theorem table_of (M : Nat) (hM : M < 96) : knd (1024 * M + 1) = 1 ∧ nm (1024 * M + 1) = M := by
  have e1 : nm (1024 * M + 1) = M := by unfold nm; omega
  refine ⟨?_, e1⟩
  unfold knd
  rw [e1, if_neg (by omega), if_pos ⟨hM, rfl⟩]

end Go.Proofs.Ytcadfblcpfhjfaa.Pte
