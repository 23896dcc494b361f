/- Fits, and the document's: one and the same. -/
import Derived.Test.YtgcgnpinhlmmjaaB1
namespace Go.Proofs.Ytgcgnpinhlmmjaa.Hand
set_option linter.unusedVariables false
set_option linter.unusedSimpArgs false
open Go.RowKit Go.Maps Go.Proofs.Ytgcgnpinhlmmjaa.R Go.Proofs.Ytgcgnpinhlmmjaa.Va Go.Proofs.YtgcgnpinhlmmjaaW.PrintWords Go.Proofs.YtgcgnpinhlmmjaaW.PrintLast Go.Proofs.YtgcgnpinhlmmjaaW.PrintMore

theorem refusal_true {ge : Int} (h : ge = 11 ∨ ge = 12) : gunnyref38_Refusal.f ge = some true := by
  unfold gunnyref38_Refusal.f
  rcases h with rfl | rfl
  · rfl
  · rfl
theorem refusal_false {ge : Int} (h : ¬ (ge = 11 ∨ ge = 12)) : gunnyref38_Refusal.f ge = some false := by
  unfold gunnyref38_Refusal.f
  rw [if_neg (fun e => h (.inl e)), beq_eq_false_iff_ne.mpr (fun e => h (.inr e))]
theorem fits_calls (k p n a : Int) (A : Option Addr) (l c : Nat) (we wn : Int) (A1 : Option Addr) (c1 : Nat) (wd : List Int) (ge gn : Int) (A2 : Option Addr) (c2 : Nat) (gd : List Int) (w : World) (h1 : Kd.C (Kd.int .u8) w A1 wd.length wd) (hc1 : wd.length ≤ c1) (h2 : Kd.C (Kd.int .u8) w A2 gd.length gd) (hc2 : gd.length ≤ c2) :
    Calls Try.prog 8 #[.agg #[.int .i64 k, .int .i64 p, .int .i64 n, .int .u64 a, .slice A l c], .agg #[.int .i64 we, .int .i64 wn, .slice A1 wd.length c1], .agg #[.int .i64 ge, .int .i64 gn, .slice A2 gd.length c2]] w fun e w' => e = .returned (.bool (fitsB k we wn wd ge gn gd)) ∧ Below w.heap.size w w' := by
  unfold fitsB
  by_cases hw : we = 0
  · have bw : (we == 0) = true := beq_iff_eq.mpr hw
    by_cases hg : ge = 11 ∨ ge = 12
    · rw [if_pos ⟨hw, hg⟩]
      cases hr : refusB k with
      | false =>
        rw [Bool.false_and]
        by_cases h11 : ge = 11
        · exact fits_ref_no_a k p n a A l c we wn A1 c1 wd ge gn A2 c2 gd true w h1 hc1 h2 hc2 bw (beq_iff_eq.mpr h11) hr
        · exact fits_ref_no_b k p n a A l c we wn A1 c1 wd ge gn A2 c2 gd true w h1 hc1 h2 hc2 bw (beq_eq_false_iff_ne.mpr h11) (beq_iff_eq.mpr (by omega)) hr
      | true =>
        rw [Bool.true_and]
        cases hl : decide (gd.length = 0) with
        | true =>
          by_cases h11 : ge = 11
          · exact fits_ref_true_a k p n a A l c we wn A1 c1 wd ge gn A2 c2 gd true w h1 hc1 h2 hc2 bw (beq_iff_eq.mpr h11) hr hl
          · exact fits_ref_true_b k p n a A l c we wn A1 c1 wd ge gn A2 c2 gd true w h1 hc1 h2 hc2 bw (beq_eq_false_iff_ne.mpr h11) (beq_iff_eq.mpr (by omega)) hr hl
        | false =>
          by_cases h11 : ge = 11
          · exact fits_ref_false_a k p n a A l c we wn A1 c1 wd ge gn A2 c2 gd true w h1 hc1 h2 hc2 bw (beq_iff_eq.mpr h11) hr hl
          · exact fits_ref_false_b k p n a A l c we wn A1 c1 wd ge gn A2 c2 gd true w h1 hc1 h2 hc2 bw (beq_eq_false_iff_ne.mpr h11) (beq_iff_eq.mpr (by omega)) hr hl
    · rw [if_neg (fun e => hg e.2)]
      have g1 : (ge == 11) = false := beq_eq_false_iff_ne.mpr (fun e => hg (.inl e))
      have g2 : (ge == 12) = false := beq_eq_false_iff_ne.mpr (fun e => hg (.inr e))
      cases h3 : (we == ge) with
      | false => exact fits_err_g k p n a A l c we wn A1 c1 wd ge gn A2 c2 gd true w h1 hc1 h2 hc2 bw g1 g2 h3
      | true => cases h4 : ((strOfNums wd).toList == (strOfNums gd).toList) with
        | false => exact fits_data_g k p n a A l c we wn A1 c1 wd ge gn A2 c2 gd true w h1 hc1 h2 hc2 bw g1 g2 h3 h4
        | true => cases h5 : (wn == gn) with
          | true => exact fits_n_g k p n a A l c we wn A1 c1 wd ge gn A2 c2 gd true w h1 hc1 h2 hc2 bw g1 g2 h3 h4 h5
          | false =>
            rw [Bool.true_and, Bool.true_and, Bool.false_or]
            exact fits_c_g k p n a A l c we wn A1 c1 wd ge gn A2 c2 gd _ w h1 hc1 h2 hc2 bw g1 g2 h3 h4 h5 rfl
  · have bw : (we == 0) = false := beq_eq_false_iff_ne.mpr hw
    rw [if_neg (fun e => hw e.1)]
    cases h3 : (we == ge) with
    | false => exact fits_err_w k p n a A l c we wn A1 c1 wd ge gn A2 c2 gd true w h1 hc1 h2 hc2 bw h3
    | true => cases h4 : ((strOfNums wd).toList == (strOfNums gd).toList) with
      | false => exact fits_data_w k p n a A l c we wn A1 c1 wd ge gn A2 c2 gd true w h1 hc1 h2 hc2 bw h3 h4
      | true => cases h5 : (wn == gn) with
        | true => exact fits_n_w k p n a A l c we wn A1 c1 wd ge gn A2 c2 gd true w h1 hc1 h2 hc2 bw h3 h4 h5
        | false =>
          rw [Bool.true_and, Bool.true_and, Bool.false_or]
          exact fits_c_w k p n a A l c we wn A1 c1 wd ge gn A2 c2 gd _ w h1 hc1 h2 hc2 bw h3 h4 h5 rfl
theorem rfits_calls (k p n a : Int) (A : Option Addr) (l c : Nat) (we wn : Int) (A1 : Option Addr) (c1 : Nat) (wd : List Int) (ge gn : Int) (A2 : Option Addr) (c2 : Nat) (gd : List Int) (w : World) (h1 : Kd.C (Kd.int .u8) w A1 wd.length wd) (hc1 : wd.length ≤ c1) (h2 : Kd.C (Kd.int .u8) w A2 gd.length gd) (hc2 : gd.length ≤ c2) :
    Calls Try.prog 9 #[.agg #[.int .i64 k, .int .i64 p, .int .i64 n, .int .u64 a, .slice A l c], .agg #[.int .i64 we, .int .i64 wn, .slice A1 wd.length c1], .agg #[.int .i64 ge, .int .i64 gn, .slice A2 gd.length c2]] w fun e w' => e = .returned (.bool (fitsB k we wn wd ge gn gd)) ∧ Below w.heap.size w w' := by
  unfold fitsB
  by_cases hc : we = 0 ∧ (ge = 11 ∨ ge = 12)
  · rw [if_pos hc]
    have bw : (we == 0) = true := beq_iff_eq.mpr hc.1
    have hg := refusal_true hc.2
    by_cases hk : k ≠ 0 ∧ k ≠ 3 ∧ k ≠ 5 ∧ k ≠ 4 ∧ k ≠ 6 ∧ k ≠ 8 ∧ k ≠ 9
    · have hr : refusB k = false := by unfold refusB; exact decide_eq_false (by omega)
      rw [hr, Bool.false_and]
      exact rfits_ref_none k p n a A l c we wn A1 c1 wd ge gn A2 c2 gd true w h1 hc1 h2 hc2 bw hg hk
    · have hr : refusB k = true := by unfold refusB; exact decide_eq_true (by omega)
      rw [hr, Bool.true_and]
      have hk' : k = 0 ∨ k = 3 ∨ k = 5 ∨ k = 4 ∨ k = 6 ∨ k = 8 ∨ k = 9 := by omega
      cases hl : decide (gd.length = 0) with
      | true =>
        rcases hk' with e | e | e | e | e | e | e
        · exact rfits_ref_0_true k p n a A l c we wn A1 c1 wd ge gn A2 c2 gd true w h1 hc1 h2 hc2 bw hg e hl
        · exact rfits_ref_3_true k p n a A l c we wn A1 c1 wd ge gn A2 c2 gd true w h1 hc1 h2 hc2 bw hg e hl
        · exact rfits_ref_5_true k p n a A l c we wn A1 c1 wd ge gn A2 c2 gd true w h1 hc1 h2 hc2 bw hg e hl
        · exact rfits_ref_4_true k p n a A l c we wn A1 c1 wd ge gn A2 c2 gd true w h1 hc1 h2 hc2 bw hg e hl
        · exact rfits_ref_6_true k p n a A l c we wn A1 c1 wd ge gn A2 c2 gd true w h1 hc1 h2 hc2 bw hg e hl
        · exact rfits_ref_8_true k p n a A l c we wn A1 c1 wd ge gn A2 c2 gd true w h1 hc1 h2 hc2 bw hg e hl
        · exact rfits_ref_9_true k p n a A l c we wn A1 c1 wd ge gn A2 c2 gd true w h1 hc1 h2 hc2 bw hg e hl
      | false =>
        rcases hk' with e | e | e | e | e | e | e
        · exact rfits_ref_0_false k p n a A l c we wn A1 c1 wd ge gn A2 c2 gd true w h1 hc1 h2 hc2 bw hg e hl
        · exact rfits_ref_3_false k p n a A l c we wn A1 c1 wd ge gn A2 c2 gd true w h1 hc1 h2 hc2 bw hg e hl
        · exact rfits_ref_5_false k p n a A l c we wn A1 c1 wd ge gn A2 c2 gd true w h1 hc1 h2 hc2 bw hg e hl
        · exact rfits_ref_4_false k p n a A l c we wn A1 c1 wd ge gn A2 c2 gd true w h1 hc1 h2 hc2 bw hg e hl
        · exact rfits_ref_6_false k p n a A l c we wn A1 c1 wd ge gn A2 c2 gd true w h1 hc1 h2 hc2 bw hg e hl
        · exact rfits_ref_8_false k p n a A l c we wn A1 c1 wd ge gn A2 c2 gd true w h1 hc1 h2 hc2 bw hg e hl
        · exact rfits_ref_9_false k p n a A l c we wn A1 c1 wd ge gn A2 c2 gd true w h1 hc1 h2 hc2 bw hg e hl
  · rw [if_neg hc]
    by_cases hk : k ≠ 6 ∧ k ≠ 7 ∧ k ≠ 8 ∧ k ≠ 9
    · have hr : countB k = false := by unfold countB; exact decide_eq_false (by omega)
      rw [hr, Bool.or_false]
      by_cases hw : we = 0
      · have bw : (we == 0) = true := beq_iff_eq.mpr hw
        have hg := refusal_false (fun e => hc ⟨hw, e⟩)
        cases h3 : (we == ge) with
        | false => exact rfits_g_none_err k p n a A l c we wn A1 c1 wd ge gn A2 c2 gd true w h1 hc1 h2 hc2 bw hg hk h3
        | true => cases h4 : ((strOfNums wd).toList == (strOfNums gd).toList) with
          | false => exact rfits_g_none_data k p n a A l c we wn A1 c1 wd ge gn A2 c2 gd true w h1 hc1 h2 hc2 bw hg hk h3 h4
          | true => cases h5 : (wn == gn) with
            | true => exact rfits_g_none_n k p n a A l c we wn A1 c1 wd ge gn A2 c2 gd true w h1 hc1 h2 hc2 bw hg hk h3 h4 h5
            | false => exact rfits_g_none_m k p n a A l c we wn A1 c1 wd ge gn A2 c2 gd true w h1 hc1 h2 hc2 bw hg hk h3 h4 h5
      · have bw : (we == 0) = false := beq_eq_false_iff_ne.mpr hw
        cases h3 : (we == ge) with
        | false => exact rfits_w_none_err k p n a A l c we wn A1 c1 wd ge gn A2 c2 gd true w h1 hc1 h2 hc2 bw hk h3
        | true => cases h4 : ((strOfNums wd).toList == (strOfNums gd).toList) with
          | false => exact rfits_w_none_data k p n a A l c we wn A1 c1 wd ge gn A2 c2 gd true w h1 hc1 h2 hc2 bw hk h3 h4
          | true => cases h5 : (wn == gn) with
            | true => exact rfits_w_none_n k p n a A l c we wn A1 c1 wd ge gn A2 c2 gd true w h1 hc1 h2 hc2 bw hk h3 h4 h5
            | false => exact rfits_w_none_m k p n a A l c we wn A1 c1 wd ge gn A2 c2 gd true w h1 hc1 h2 hc2 bw hk h3 h4 h5
    · have hr : countB k = true := by unfold countB; exact decide_eq_true (by omega)
      rw [hr, Bool.or_true, Bool.and_true]
      have hk' : k = 6 ∨ k = 7 ∨ k = 8 ∨ k = 9 := by omega
      by_cases hw : we = 0
      · have bw : (we == 0) = true := beq_iff_eq.mpr hw
        have hg := refusal_false (fun e => hc ⟨hw, e⟩)
        cases h3 : (we == ge) with
        | false =>
          rcases hk' with e | e | e | e
          · exact rfits_g_6_err k p n a A l c we wn A1 c1 wd ge gn A2 c2 gd true w h1 hc1 h2 hc2 bw hg e h3
          · exact rfits_g_7_err k p n a A l c we wn A1 c1 wd ge gn A2 c2 gd true w h1 hc1 h2 hc2 bw hg e h3
          · exact rfits_g_8_err k p n a A l c we wn A1 c1 wd ge gn A2 c2 gd true w h1 hc1 h2 hc2 bw hg e h3
          · exact rfits_g_9_err k p n a A l c we wn A1 c1 wd ge gn A2 c2 gd true w h1 hc1 h2 hc2 bw hg e h3
        | true => cases h4 : ((strOfNums wd).toList == (strOfNums gd).toList) with
          | false =>
            rcases hk' with e | e | e | e
            · exact rfits_g_6_data k p n a A l c we wn A1 c1 wd ge gn A2 c2 gd true w h1 hc1 h2 hc2 bw hg e h3 h4
            · exact rfits_g_7_data k p n a A l c we wn A1 c1 wd ge gn A2 c2 gd true w h1 hc1 h2 hc2 bw hg e h3 h4
            · exact rfits_g_8_data k p n a A l c we wn A1 c1 wd ge gn A2 c2 gd true w h1 hc1 h2 hc2 bw hg e h3 h4
            · exact rfits_g_9_data k p n a A l c we wn A1 c1 wd ge gn A2 c2 gd true w h1 hc1 h2 hc2 bw hg e h3 h4
          | true =>
            rcases hk' with e | e | e | e
            · exact rfits_g_6_yes k p n a A l c we wn A1 c1 wd ge gn A2 c2 gd true w h1 hc1 h2 hc2 bw hg e h3 h4
            · exact rfits_g_7_yes k p n a A l c we wn A1 c1 wd ge gn A2 c2 gd true w h1 hc1 h2 hc2 bw hg e h3 h4
            · exact rfits_g_8_yes k p n a A l c we wn A1 c1 wd ge gn A2 c2 gd true w h1 hc1 h2 hc2 bw hg e h3 h4
            · exact rfits_g_9_yes k p n a A l c we wn A1 c1 wd ge gn A2 c2 gd true w h1 hc1 h2 hc2 bw hg e h3 h4
      · have bw : (we == 0) = false := beq_eq_false_iff_ne.mpr hw
        cases h3 : (we == ge) with
        | false =>
          rcases hk' with e | e | e | e
          · exact rfits_w_6_err k p n a A l c we wn A1 c1 wd ge gn A2 c2 gd true w h1 hc1 h2 hc2 bw e h3
          · exact rfits_w_7_err k p n a A l c we wn A1 c1 wd ge gn A2 c2 gd true w h1 hc1 h2 hc2 bw e h3
          · exact rfits_w_8_err k p n a A l c we wn A1 c1 wd ge gn A2 c2 gd true w h1 hc1 h2 hc2 bw e h3
          · exact rfits_w_9_err k p n a A l c we wn A1 c1 wd ge gn A2 c2 gd true w h1 hc1 h2 hc2 bw e h3
        | true => cases h4 : ((strOfNums wd).toList == (strOfNums gd).toList) with
          | false =>
            rcases hk' with e | e | e | e
            · exact rfits_w_6_data k p n a A l c we wn A1 c1 wd ge gn A2 c2 gd true w h1 hc1 h2 hc2 bw e h3 h4
            · exact rfits_w_7_data k p n a A l c we wn A1 c1 wd ge gn A2 c2 gd true w h1 hc1 h2 hc2 bw e h3 h4
            · exact rfits_w_8_data k p n a A l c we wn A1 c1 wd ge gn A2 c2 gd true w h1 hc1 h2 hc2 bw e h3 h4
            · exact rfits_w_9_data k p n a A l c we wn A1 c1 wd ge gn A2 c2 gd true w h1 hc1 h2 hc2 bw e h3 h4
          | true =>
            rcases hk' with e | e | e | e
            · exact rfits_w_6_yes k p n a A l c we wn A1 c1 wd ge gn A2 c2 gd true w h1 hc1 h2 hc2 bw e h3 h4
            · exact rfits_w_7_yes k p n a A l c we wn A1 c1 wd ge gn A2 c2 gd true w h1 hc1 h2 hc2 bw e h3 h4
            · exact rfits_w_8_yes k p n a A l c we wn A1 c1 wd ge gn A2 c2 gd true w h1 hc1 h2 hc2 bw e h3 h4
            · exact rfits_w_9_yes k p n a A l c we wn A1 c1 wd ge gn A2 c2 gd true w h1 hc1 h2 hc2 bw e h3 h4
end Go.Proofs.Ytgcgnpinhlmmjaa.Hand
