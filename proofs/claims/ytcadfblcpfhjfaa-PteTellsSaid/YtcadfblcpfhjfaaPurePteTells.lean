/- PteTells, pure: kind by kind, what is told of a word is what its parts say. -/
import Derived.Test.YtcadfblcpfhjfaaPteMore
import Derived.Test.YtcadfblcpfhjfaaRx9
namespace Go.Proofs.Ytcadfblcpfhjfaa.Pure
set_option linter.unusedVariables false
set_option linter.unusedSimpArgs false
open Go.RowKit Go.Proofs.Ytcadfblcpfhjfaa.R Go.Proofs.Ytcadfblcpfhjfaa.Bits Go.Proofs.Ytcadfblcpfhjfaa.Num Go.Proofs.Ytcadfblcpfhjfaa.Pte Go.Proofs.YtcadfblcpfhjfaaW.PrintWords Go.Proofs.YtcadfblcpfhjfaaW.PrintLast

theorem protect_not (w : Nat) (perm : Int) (hw : w < 18446744073709551616) (h : may perm = false ∨ (knd w ≠ 2 ∧ knd w ≠ 3)) : ∀ k, pte_Protect.f (k + 20) (w : Int) perm = some ((w : Int), false) := by
  intro k
  unfold pte_Protect.f
  rw [bs (may_some perm)]
  cases hm : may perm with
  | false => rw [if_neg Bool.false_ne_true]
  | true =>
    have h2 : knd w ≠ 2 ∧ knd w ≠ 3 := by
      rcases h with h | h
      · rw [hm] at h; exact absurd h (by decide)
      · exact h
    have kd : pte_Kind.f (k + 20) (w : Int) = some ((knd w : Nat) : Int) := kind_some (k + 11) w hw
    rw [if_pos rfl, bs kd, if_neg (by omega), if_neg (by omega)]
theorem protect_leaf (w q : Nat) (hw : w < 18446744073709551616) (hq : mayN q = true) (h : leafy w) : ∀ k, pte_Protect.f (k + 20) (w : Int) (q : Int) = some (((1024 * nm w + 2 * q + 17 : Nat) : Int), true) := by
  intro k
  have kd : pte_Kind.f (k + 20) (w : Int) = some 2 := by
    have := kind_some (k + 11) w hw
    rw [leafy_knd w h] at this
    exact this
  have nu : pte_Number.f (k + 20) (w : Int) = some ((nm w : Nat) : Int) := by
    have := number_some (k + 11) w hw
    rw [leafy_knd w h, if_neg (by omega)] at this
    exact this
  have pg : pte_Page.f (k + 20) ((nm w : Nat) : Int) (q : Int) = some (((1024 * nm w + 2 * q + 17 : Nat) : Int), true) := page_yes (k + 15) (nm w) q h.1 hq
  have hm : may (q : Int) = true := by rw [may_nat]; exact hq
  unfold pte_Protect.f
  rw [bs (may_some _), hm, if_pos rfl, bs kd, if_pos rfl, bs nu, bs pg]
theorem protect_soft (w q : Nat) (hw : w < 18446744073709551616) (hq : mayN q = true) (h : knd w = 3) (hn : nm w ≤ 512) : ∀ k, pte_Protect.f (k + 20) (w : Int) (q : Int) = some (((1024 * nm w + 2 * q + 16 : Nat) : Int), true) := by
  intro k
  have kd : pte_Kind.f (k + 20) (w : Int) = some 3 := by
    have := kind_some (k + 11) w hw
    rw [h] at this
    exact this
  have nu : pte_Number.f (k + 20) (w : Int) = some ((nm w : Nat) : Int) := by
    have := number_some (k + 11) w hw
    rw [h, if_neg (by omega)] at this
    exact this
  have aw : pte_Away.f (k + 20) ((nm w : Nat) : Int) (q : Int) = some (((1024 * nm w + 2 * q + 16 : Nat) : Int), true) := away_yes (k + 15) (nm w) q hn hq
  have hm : may (q : Int) = true := by rw [may_nat]; exact hq
  unfold pte_Protect.f
  rw [bs (may_some _), hm, if_pos rfl, bs kd, if_neg (show ¬ ((3 : Int) = 2) by decide), if_pos rfl, bs nu, bs aw]

theorem knd_cases (w : Nat) : (knd w = 0 ∨ knd w = 4) ∨ knd w = 1 ∨ leafy w ∨ (knd w = 3 ∧ nm w ≤ 512 ∧ mayN (pm w) = true ∧ w = 1024 * nm w + 2 * pm w + 16) := by
  unfold knd
  by_cases h0 : w = 0
  · rw [if_pos h0]; exact .inl (.inl rfl)
  rw [if_neg h0]
  by_cases h1 : nm w < 96 ∧ w = 1024 * nm w + 1
  · rw [if_pos h1]; exact .inr (.inl rfl)
  rw [if_neg h1]
  by_cases h2 : leafy w
  · exact .inr (.inr (.inl h2))
  rw [if_neg h2]
  by_cases h3 : nm w ≤ 512 ∧ mayN (pm w) = true ∧ w = 1024 * nm w + 2 * pm w + 16
  · rw [if_pos h3]; exact .inr (.inr (.inr ⟨rfl, h3⟩))
  · rw [if_neg h3]; exact .inl (.inr rfl)

/-- The law's tail where nothing is protected, and the word is cleared as it is. -/
theorem tail_not (w : Nat) (perm : Int) (x5 : Int) (V U : Bool) (P M : Int) (R : Bool) (hw : w < 18446744073709551616) (h : may perm = false ∨ (knd w ≠ 2 ∧ knd w ≠ 3)) (h5 : x5 = ((knd w : Nat) : Int)) (x10 : Int) (hc : pte_Clear.f 195 (w : Int) = some x10) :
    gunnylaw31_PteTells.j3 197 (w : Int) perm x5 x10 V U false false P M R = some true := by
  have pr : pte_Protect.f 196 (w : Int) perm = some ((w : Int), false) := protect_not w perm hw h 176
  have lv := lives_some 195 (by omega)
  have fin : gunnylaw31_PteTells.j4 196 (w : Int) perm x10 (w : Int) false false V U false false P M R = some true := by
    simp only [gunnylaw31_PteTells.j4, Bool.false_eq_true, if_false]
    rw [bs hc, if_pos rfl, if_pos (show (false == false) = true from rfl), if_pos trivial, bs lv]
  simp only [gunnylaw31_PteTells.j3]
  rw [bs pr, bs (rmay perm)]
  cases hm : may perm with
  | false => rw [if_neg Bool.false_ne_true]; exact fin
  | true =>
    have h2 : knd w ≠ 2 ∧ knd w ≠ 3 := by
      rcases h with h | h
      · rw [hm] at h; exact absurd h (by decide)
      · exact h
    have e3 : (x5 == 3) = false := by rw [beq_eq_false_iff_ne]; omega
    rw [if_pos rfl, if_neg (by omega), e3]
    exact fin

theorem PteTells : ∀ (a0 : Int) (a1 : Int), (Lit.int .u64 a0).wf = true → (Lit.int .i64 a1).wf = true → ∃ k, gunnylaw31_PteTells.f k a0 a1 = some true := by
  intro a0 a1 h0 _
  refine ⟨200, ?_⟩
  have hb := bounds_u64 h0
  obtain ⟨w, rfl⟩ : ∃ w : Nat, a0 = (w : Int) := ⟨a0.toNat, by omega⟩
  have hw : w < 18446744073709551616 := by omega
  have rk := rkind 200 w hw (by omega)
  have rr := rread 200 w hw (by omega)
  have fl := flags_some 189 w hw
  have kd := kind_some 189 w hw
  have nu := number_some 189 w hw
  have pe := perm_some 189 w hw
  unfold gunnylaw31_PteTells.f
  rw [bs rk, bs rr]
  rcases knd_cases w with hk | hk | hk | ⟨hk, hk2, hk3, hk4⟩
  · -- None, Bad
    have hne : knd w ≠ 2 ∧ knd w ≠ 3 := by omega
    have cl := clear_not 186 w hw hne.1
    rw [decide_eq_false hne.1, Bool.false_and, Bool.false_and] at fl
    rw [if_pos hk] at nu pe
    have main : gunnylaw31_PteTells.j0 200 (w : Int) a1 ((knd w : Nat) : Int) true (w % 2 == 1) (w / 16 % 2 == 1) (w / 64 % 2 == 1) (w / 128 % 2 == 1) ((pm w : Nat) : Int) ((nm w : Nat) : Int) (restB w) = some true := by
      simp only [gunnylaw31_PteTells.j0, if_true]
      simp only [gunnylaw31_PteTells.j1]
      rw [bs fl, bs kd, if_pos rfl, bs nu, if_pos rfl, bs pe, if_pos rfl, if_neg (by omega), if_neg (by decide)]
      show gunnylaw31_PteTells.j2 198 (w : Int) a1 ((knd w : Nat) : Int) false _ _ _ _ _ _ _ = some true
      simp only [gunnylaw31_PteTells.j2, Bool.false_eq_true, if_false]
      rw [if_neg (by omega)]
      exact tail_not w a1 _ _ _ _ _ _ hw (.inr hne) rfl _ cl
    by_cases hz : knd w = 0
    · rw [if_pos (by omega)]; exact main
    · rw [if_neg (by omega), show (((knd w : Nat) : Int) == 4) = true by rw [beq_iff_eq]; omega]; exact main
  · -- Table
    have hne : knd w ≠ 2 ∧ knd w ≠ 3 := by omega
    have cl := clear_not 186 w hw hne.1
    rw [decide_eq_false hne.1, Bool.false_and, Bool.false_and] at fl
    rw [if_neg (by omega)] at nu pe
    rw [if_neg (by omega), show (((knd w : Nat) : Int) == 4) = false by rw [beq_eq_false_iff_ne]; omega]
    simp only [gunnylaw31_PteTells.j0, Bool.false_eq_true, if_false]
    simp only [gunnylaw31_PteTells.j1]
    rw [bs fl, bs kd, if_pos rfl, bs nu, if_pos rfl, bs pe, if_pos rfl, if_neg (by omega), if_neg (by decide)]
    show gunnylaw31_PteTells.j2 198 (w : Int) a1 ((knd w : Nat) : Int) false _ _ _ _ _ _ _ = some true
    simp only [gunnylaw31_PteTells.j2, Bool.false_eq_true, if_false]
    rw [if_neg (by omega)]
    exact tail_not w a1 _ _ _ _ _ _ hw (.inr hne) rfl _ cl
  · -- Leaf
    have k2 := leafy_knd w hk
    have hp := pm_lt w
    have l1 := hk.2.2.1
    have l0 := hk.1
    rw [k2, decide_eq_true rfl, Bool.true_and, Bool.true_and] at fl
    rw [if_neg (by omega)] at nu pe
    rw [k2] at kd
    have v1 : (w % 2 == 1) = true := by rw [beq_iff_eq]; omega
    have v2 : (w / 16 % 2 == 1) = true := by rw [beq_iff_eq]; omega
    have cl : pte_Clear.f 195 (w : Int) = some ((1024 * nm w + 2 * pm w + 17 : Nat) : Int) := clear_leaf 186 w hw hk
    have put : ∀ (p : Nat), p < 1024 → gunnyref31_Put.f true true false false (p : Int) ((nm w : Nat) : Int) (restB w) = some ((1024 * nm w + 2 * p + 17 : Nat) : Int) := by
      intro p hp'
      rw [rput true true false false (restB w) p (nm w) hp' (by omega)]
      refine congrArg some (congrArg Nat.cast ?_)
      unfold bw
      simp only [Bool.false_eq_true, if_false, if_true]
      omega
    rw [k2, v1, v2, if_neg (show ¬ (((2 : Nat) : Int) = 0) by decide), show ((((2 : Nat) : Int)) == 4) = false by decide]
    simp only [gunnylaw31_PteTells.j0, Bool.false_eq_true, if_false]
    simp only [gunnylaw31_PteTells.j1]
    rw [bs fl, bs kd, if_pos rfl, bs nu, if_pos rfl, bs pe, if_pos rfl, if_pos (show ((2 : Nat) : Int) = 2 by decide)]
    have e1 : ((w / 64 % 2 == 1) != (w / 64 % 2 == 1)) = false := bne_self_eq_false _
    have e2 : ((w / 128 % 2 == 1) != (w / 128 % 2 == 1)) = false := bne_self_eq_false _
    simp only [e1, e2, Bool.false_eq_true, if_false]
    simp only [gunnylaw31_PteTells.j2, Bool.false_eq_true, if_false]
    rw [if_pos (show ((2 : Nat) : Int) = 2 by decide), bs (put (pm w) (by omega))]
    cases hm : may a1 with
    | false => exact tail_not w a1 _ _ _ _ _ _ hw (.inl hm) (by rw [k2]) _ cl
    | true =>
      have hr := may_range a1 hm
      obtain ⟨q, rfl⟩ : ∃ q : Nat, a1 = (q : Int) := ⟨a1.toNat, by omega⟩
      have hq : mayN q = true := by rw [← may_nat]; exact hm
      have pr := protect_leaf w q hw hq hk 176
      have lv := lives_some 195 (by omega)
      simp only [gunnylaw31_PteTells.j3]
      rw [bs pr, bs (rmay _), hm, if_pos rfl, if_pos (show ((2 : Nat) : Int) = 2 by decide)]
      simp only [gunnylaw31_PteTells.j4, if_true]
      rw [bs (put q (by omega)), bs cl, if_pos rfl, if_pos (show (true == true) = true from rfl), bs lv, if_pos rfl]
  · -- Soft
    have hp := pm_lt w
    have hne : knd w ≠ 2 := by omega
    have cl : pte_Clear.f 195 (w : Int) = some (w : Int) := clear_not 186 w hw hne
    rw [decide_eq_false hne, Bool.false_and, Bool.false_and] at fl
    rw [if_neg (by omega)] at nu pe
    have v1 : (w % 2 == 1) = false := by rw [beq_eq_false_iff_ne]; omega
    have v2 : (w / 16 % 2 == 1) = true := by rw [beq_iff_eq]; omega
    rw [v1, v2, if_neg (by omega), show (((knd w : Nat) : Int) == 4) = false by rw [beq_eq_false_iff_ne]; omega]
    simp only [gunnylaw31_PteTells.j0, Bool.false_eq_true, if_false]
    simp only [gunnylaw31_PteTells.j1]
    rw [bs fl, bs kd, if_pos rfl, bs nu, if_pos rfl, bs pe, if_pos rfl, if_neg (by omega), if_neg (by decide)]
    show gunnylaw31_PteTells.j2 198 (w : Int) a1 ((knd w : Nat) : Int) false _ _ _ _ _ _ _ = some true
    simp only [gunnylaw31_PteTells.j2, Bool.false_eq_true, if_false]
    rw [if_neg (by omega)]
    cases hm : may a1 with
    | false => exact tail_not w a1 _ _ _ _ _ _ hw (.inl hm) rfl _ cl
    | true =>
      have hr := may_range a1 hm
      obtain ⟨q, rfl⟩ : ∃ q : Nat, a1 = (q : Int) := ⟨a1.toNat, by omega⟩
      have hq : mayN q = true := by rw [← may_nat]; exact hm
      have pr := protect_soft w q hw hq hk hk2 176
      have lv := lives_some 195 (by omega)
      have put : gunnyref31_Put.f false true false false (q : Int) ((nm w : Nat) : Int) (restB w) = some ((1024 * nm w + 2 * q + 16 : Nat) : Int) := by
        rw [rput false true false false (restB w) q (nm w) (by omega) (by omega)]
        refine congrArg some (congrArg Nat.cast ?_)
        unfold bw
        simp only [Bool.false_eq_true, if_false, if_true]
        omega
      simp only [gunnylaw31_PteTells.j3]
      rw [bs pr, bs (rmay _), hm, if_pos rfl, if_neg (by omega), show (((knd w : Nat) : Int) == 3) = true by rw [beq_iff_eq]; omega]
      simp only [gunnylaw31_PteTells.j4, if_true]
      rw [bs put, bs cl, if_pos rfl, if_pos (show (true == true) = true from rfl), bs lv, if_pos rfl]

end Go.Proofs.Ytcadfblcpfhjfaa.Pure
