/- PteBack, pure: a page's word touched by one use is the same page, whose flags are told; a Soft's and a Table's word are others. -/
import Derived.Test.YtcadfblcpfhjfaaPteMore
import Derived.Test.YtcadfblcpfhjfaaRx10
namespace Go.Proofs.Ytcadfblcpfhjfaa.Pure
set_option linter.unusedVariables false
set_option linter.unusedSimpArgs false
open Go.RowKit Go.Proofs.Ytcadfblcpfhjfaa.R Go.Proofs.Ytcadfblcpfhjfaa.Bits Go.Proofs.Ytcadfblcpfhjfaa.Num Go.Proofs.Ytcadfblcpfhjfaa.Pte Go.Proofs.YtcadfblcpfhjfaaW.PrintWords Go.Proofs.YtcadfblcpfhjfaaW.PrintLast

theorem touch_one (w F P u : Nat) (h : w = 1024 * F + 2 * P + 17) (hF : F < 96) (hP : mayN P = true) (hu : u = 1 ∨ u = 2 ∨ u = 4) :
    ∃ (v : Nat) (b : Bool), pte_Touch.f 100 (w : Int) [(u : Int)] = some ((v : Int), b) ∧ leafy v ∧ nm v = F ∧ pm v = P ∧ v < 18446744073709551616
      ∧ b = !(Go.bits .and .i64 (P : Int) (u : Int) == 0) ∧ (v / 64 % 2 == 1) = b ∧ (v / 128 % 2 == 1) = (b && u == 2) ∧ (b = false → v = w) := by
  have hp := may_range P ((may_nat P).trans hP)
  obtain ⟨hl, e1, e2⟩ := leafy_of w F P 0 0 (by omega) hF hP (by omega) (by omega) (by omega)
  have hw : w < 18446744073709551616 := by omega
  have hV : ∀ D, V w D = 1024 * F + 2 * P + 81 + 128 * (if D = true then 1 else 0) := by intro D; unfold V; rw [e1, e2]
  have k1 : pte_Kind.f 100 (w : Int) = some 2 := by
    have := kind_some 91 w hw
    rw [leafy_knd w hl] at this
    exact this
  have s6 : num_Set.f 100 (w : Int) 6 1 1 = some ((V w false : Nat) : Int) := by
    refine set_lit 99 w 6 1 1 _ hw (by omega) (by omega) ?_
    rw [hV]
    show w + 1 % 2 * 64 = 1024 * F + 2 * P + 81 + 128 * 0 + w / 64 % 2 * 64
    omega
  have p := pstep 90 w false [(u : Int)] 0 u hw hl (by show 0 < 1; omega) rfl hu
  rw [e2, ← and_use P u (by omega) hu] at p
  have t : pte_Touch.f 100 (w : Int) [(u : Int)] = pte_Touch.j1 99 (w : Int) ((V w false : Nat) : Int) (u : Int) [(u : Int)] 1 0 (Go.bits .and .i64 (P : Int) (u : Int) == 0) := by
    unfold pte_Touch.f
    rw [bs k1, if_pos rfl, bs s6]
    exact p
  rw [t]
  by_cases hz : (Go.bits .and .i64 (P : Int) (u : Int) == 0) = true
  · rw [hz]
    refine ⟨w, false, j1_true 98 w _ _ _ _ _, hl, e1, e2, hw, rfl, ?_, ?_, fun _ => rfl⟩
    · rw [beq_eq_false_iff_ne]; omega
    · rw [Bool.false_and, beq_eq_false_iff_ne]; omega
  · rw [Bool.not_eq_true] at hz
    have hn : P / u % 2 = 1 := by
      have h8 : P < 8 := by omega
      have a := and_use P u h8 hu
      rw [hz] at a
      have a2 := of_decide_eq_false a.symm
      rw [Int.tdiv_eq_ediv_of_nonneg (by omega)] at a2
      have : (P : Int) / (u : Int) = ((P / u : Nat) : Int) := rfl
      rw [this] at a2
      have h9 : P / u < 8 := Nat.lt_of_le_of_lt (Nat.div_le_self _ _) h8
      generalize P / u = q at *
      have : wrap64 (q : Int) = (q : Int) := by unfold wrap64; omega
      rw [this, Int.tmod_eq_emod_of_nonneg (by omega)] at a2
      omega
    rw [hz]
    obtain ⟨hl', e1', e2'⟩ := leafy_of (V w (u == 2)) F P 1 (if (u == 2) = true then 1 else 0) (by rw [hV]) hF hP (by omega) (by split <;> omega) (by
      intro h1
      by_cases h2 : u = 2
      · subst h2; exact ⟨rfl, hn⟩
      · rw [if_neg (by rw [beq_iff_eq]; exact h2)] at h1; omega)
    have hb : (if (u == 2) = true then 1 else 0) < 2 := by split <;> omega
    refine ⟨V w (u == 2), true, ?_, hl', e1', e2', ?_, rfl, ?_, ?_, fun h => absurd h (by decide)⟩
    · have a := j1_false 97 w false [(u : Int)] 0 u (by omega) (by omega)
      rw [Bool.false_or] at a
      refine Eq.trans a ?_
      show pte_Touch.l0 98 (w : Int) ((V w (u == 2) : Nat) : Int) [(u : Int)] 1 1 = _
      simp only [pte_Touch.l0]
      rw [if_neg (by decide)]
    · rw [hV]; omega
    · rw [hV, beq_iff_eq]; generalize (if (u == 2) = true then 1 else 0) = x at *; omega
    · rw [hV, Bool.true_and]
      by_cases h2 : u = 2
      · rw [beq_iff_eq.mpr h2, if_pos rfl, beq_iff_eq]; omega
      · rw [beq_eq_false_iff_ne.mpr h2, if_neg (by decide), beq_eq_false_iff_ne]; omega

theorem back_j0 (k a0 F P n5 : Nat) (hF : F < 96) (hn : n5 ≤ 512) (hP : mayN P = true) (e5 : Int.tmod (wrap64 (a0 : Int)) 513 = (n5 : Int)) :
    gunnylaw31_PteBack.j0 (k + 60) (a0 : Int) (F : Int) (P : Int) ((1024 * F + 2 * P + 17 : Nat) : Int) false = some true := by
  have hp := may_range P ((may_nat P).trans hP)
  have lv : gunnylaw31_lives.f (k + 59) = some true := lives_some _ (by omega)
  obtain ⟨s1, s2, s3⟩ := soft_of n5 P hn hP
  obtain ⟨t1, t2⟩ := table_of F hF
  have aw : pte_Away.f (k + 59) (n5 : Int) (P : Int) = some (((1024 * n5 + 2 * P + 16 : Nat) : Int), true) := away_yes (k + 54) n5 P hn hP
  have dn : pte_Down.f (k + 59) (F : Int) = some (((1024 * F + 1 : Nat) : Int), true) := down_yes (k + 55) F hF
  have k1 : pte_Kind.f (k + 59) ((1024 * n5 + 2 * P + 16 : Nat) : Int) = some 3 := by
    have := kind_some (k + 50) (1024 * n5 + 2 * P + 16) (by omega)
    rw [s1] at this
    exact this
  have k2 : pte_Number.f (k + 59) ((1024 * n5 + 2 * P + 16 : Nat) : Int) = some (n5 : Int) := by
    have := number_some (k + 50) (1024 * n5 + 2 * P + 16) (by omega)
    rw [s1, s2, if_neg (by omega)] at this
    exact this
  have k3 : pte_Perm.f (k + 59) ((1024 * n5 + 2 * P + 16 : Nat) : Int) = some (P : Int) := by
    have := perm_some (k + 50) (1024 * n5 + 2 * P + 16) (by omega)
    rw [s1, s3, if_neg (by omega)] at this
    exact this
  have k4 : pte_Kind.f (k + 59) ((1024 * F + 1 : Nat) : Int) = some 1 := by
    have := kind_some (k + 50) (1024 * F + 1) (by omega)
    rw [t1] at this
    exact this
  have k5 : pte_Number.f (k + 59) ((1024 * F + 1 : Nat) : Int) = some (F : Int) := by
    have := number_some (k + 50) (1024 * F + 1) (by omega)
    rw [t1, t2, if_neg (by omega)] at this
    exact this
  simp only [gunnylaw31_PteBack.j0, Bool.false_eq_true, if_false]
  rw [e5, bs aw, bs dn, if_pos rfl, if_pos rfl, bs k1, if_pos rfl, bs k2, if_pos rfl, bs k3, if_pos rfl, bs k4, if_pos rfl, bs k5, if_pos rfl]
  rw [if_neg (by omega), if_neg (by omega), if_neg (by omega), bs lv]

theorem PteBack : gunnylaw31_PteBack.Pure := by
  intro a0 a1 a2 h0 h1 h2
  refine ⟨100, ?_⟩
  have b0 := bounds_u16 h0
  have b1 := bounds_u8 h1
  have b2 := bounds_u8 h2
  obtain ⟨n, rfl⟩ : ∃ n : Nat, a0 = (n : Int) := ⟨a0.toNat, by omega⟩
  obtain ⟨F, eF⟩ : ∃ F : Nat, Int.tmod (wrap64 (n : Int)) 96 = (F : Int) ∧ F < 96 := ⟨n % 96, by rw [show wrap64 (n : Int) = (n : Int) by unfold wrap64; omega, Int.tmod_eq_emod_of_nonneg (by omega)]; rfl, by omega⟩
  obtain ⟨n5, e5⟩ : ∃ F : Nat, Int.tmod (wrap64 (n : Int)) 513 = (F : Int) ∧ F ≤ 512 := ⟨n % 513, by rw [show wrap64 (n : Int) = (n : Int) by unfold wrap64; omega, Int.tmod_eq_emod_of_nonneg (by omega)]; rfl, by omega⟩
  obtain ⟨P, eP⟩ : ∃ F : Nat, wrap64 (Int.tmod a1 8) = (F : Int) ∧ F < 8 := by
    rw [Int.tmod_eq_emod_of_nonneg (by omega)]
    exact ⟨(a1 % 8).toNat, by unfold wrap64; omega, by omega⟩
  obtain ⟨u, eU⟩ : ∃ u : Nat, shl .i64 1 (Int.tmod a2 3) = (u : Int) ∧ (u = 1 ∨ u = 2 ∨ u = 4) := by
    rw [Int.tmod_eq_emod_of_nonneg (by omega)]
    have : a2 % 3 = 0 ∨ a2 % 3 = 1 ∨ a2 % 3 = 2 := by omega
    rcases this with h | h | h
    · exact ⟨1, by rw [h]; decide +kernel, .inl rfl⟩
    · exact ⟨2, by rw [h]; decide +kernel, .inr (.inl rfl)⟩
    · exact ⟨4, by rw [h]; decide +kernel, .inr (.inr rfl)⟩
  have e0 : 0 ≤ Int.tmod a2 3 := by rw [Int.tmod_eq_emod_of_nonneg (by omega)]; omega
  have lv := lives_some 100 (by omega)
  unfold gunnylaw31_PteBack.f
  rw [eF.1, eP.1, eU.1]
  cases hm : mayN P with
  | false =>
    have hm' : may (P : Int) = false := by rw [may_nat]; exact hm
    rw [bs (page_no 100 (F : Int) (P : Int) (.inr hm')), if_neg Bool.false_ne_true, bs (may_some _), hm', if_neg Bool.false_ne_true, if_pos rfl, bs lv]
  | true =>
    have pg : pte_Page.f 100 (F : Int) (P : Int) = _ := page_yes 95 F P eF.2 hm
    obtain ⟨v, b, t, hl, ev1, ev2, hv, eb, f6, f7, same⟩ := touch_one (1024 * F + 2 * P + 17) F P u rfl eF.2 hm eU.2
    have fin := back_j0 40 n F P n5 eF.2 e5.2 hm e5.1
    have fl := flags_some 91 v hv
    rw [leafy_knd v hl, f6, f7, decide_eq_true rfl, Bool.true_and, Bool.true_and] at fl
    have cl := clear_leaf 91 v hv hl
    rw [ev1, ev2] at cl
    have nu := number_some 91 v hv
    rw [leafy_knd v hl, ev1, if_neg (by omega)] at nu
    have pe := perm_some 91 v hv
    rw [leafy_knd v hl, ev2, if_neg (by omega)] at pe
    have ki := kind_some 91 v hv
    rw [leafy_knd v hl] at ki
    have eu2 : ((u : Int) == 2) = (u == 2) := by rw [Bool.eq_iff_iff, beq_iff_eq, beq_iff_eq]; omega
    have e1 : (Go.bits .and .i64 (P : Int) (u : Int) != 0) = b := by rw [eb]; rfl
    have lastly : (!(((2 : Nat) : Int) == 2)) = false := by decide
    rw [bs pg, if_pos rfl, if_pos e0, bs t, bs fl, e1, eu2]
    cases b with
    | true =>
      rw [if_neg (show ¬ ((((v : Int), true).2 != true) = true) from Bool.false_ne_true), if_neg (show ¬ (((true, true && u == 2).1 != ((v : Int), true).2) = true) from Bool.false_ne_true), if_pos rfl, Bool.true_and, if_neg (by cases (u == 2) <;> decide), bs cl, if_pos rfl, bs nu, if_pos rfl, bs pe, if_pos rfl, bs ki]
      exact fin
    | false =>
      rw [if_neg (show ¬ ((((v : Int), false).2 != false) = true) from Bool.false_ne_true), if_neg (show ¬ (((false, false && u == 2).1 != ((v : Int), false).2) = true) from Bool.false_ne_true), if_neg Bool.false_ne_true, Bool.false_and, if_neg (by decide), if_pos (by rw [same rfl]), bs cl, if_pos rfl, bs nu, if_pos rfl, bs pe, if_pos rfl, bs ki]
      exact fin

end Go.Proofs.Ytcadfblcpfhjfaa.Pure
