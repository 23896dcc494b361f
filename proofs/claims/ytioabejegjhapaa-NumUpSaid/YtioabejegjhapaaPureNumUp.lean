/- Proves NumUp: the least multiple of a number that is not less than another one is the document's. No condition. -/
import Derived.Test.YtioabejegjhapaaQNumUpx2
import Derived.OpenShut
namespace Go.Proofs.Ytioabejegjhapaa.Pure
open Go.RowKit Go.Proofs.Ytioabejegjhapaa.PNumUp Go.Proofs.YtioabejegjhapaaW.PrintWords Go.Proofs.YtioabejegjhapaaW.PrintLast

theorem nu_lives : gunnylaw01_lives.f 20 = some true := by decide +kernel

theorem nu_div (n b q r : Int) (hb : 1 ≤ b) (h : n = b * q + r) (h0 : 0 ≤ r) (h1 : r < b) : n / b = q := by
  rw [h, Int.add_comm, Int.add_mul_ediv_left _ _ (by omega), Int.ediv_eq_zero_of_lt h0 h1]; omega

theorem nu_same (n b : Int) (hn : 1 ≤ n) (hb : 1 ≤ b) (hn2 : n ≤ 4611686018427387904) (hb2 : b ≤ 4611686018427387904) (k : Nat) :
    num_Up.j0 (k + 1) n b false = gunnyref01_Up.j0 (k + 1) n b false := by
  simp only [num_Up.j0, gunnyref01_Up.j0]
  have hb0 : ¬ b = 0 := by omega
  simp only [if_neg hb0, Bool.false_eq_true, if_false]
  obtain ⟨q, hq⟩ : ∃ q, q = n / b := ⟨_, rfl⟩
  obtain ⟨r, hr⟩ : ∃ r, r = n % b := ⟨_, rfl⟩
  have hnqr : n = b * q + r := by rw [hq, hr]; exact (Int.mul_ediv_add_emod n b).symm
  have hr0 : 0 ≤ r := by rw [hr]; exact Int.emod_nonneg _ (by omega)
  have hr1 : r < b := by rw [hr]; exact Int.emod_lt_of_pos _ (by omega)
  have hq0 : 0 ≤ q := by rw [hq]; exact Int.ediv_nonneg (by omega) (by omega)
  have hqn : q ≤ n := by rw [hq]; exact Int.ediv_le_self _ (by omega)
  have t1 : Int.tmod n b = r := by rw [hr]; exact Int.tmod_eq_emod_of_nonneg (by omega)
  have w1 : wrap64 (n - 1) = n - 1 := by unfold wrap64; omega
  have t2 : Int.tdiv (n - 1) b = (n - 1) / b := Int.tdiv_eq_ediv_of_nonneg (by omega)
  rw [t1, w1, t2]
  clear hq hr t1 w1 t2
  have tq : Int.tdiv 4611686018427387904 b = (4611686018427387904 : Int) / b := Int.tdiv_eq_ediv_of_nonneg (by omega)
  rw [tq]
  have gpos : 0 ≤ (4611686018427387904 : Int) / b := Int.ediv_nonneg (by omega) (by omega)
  have gle : (4611686018427387904 : Int) / b ≤ 4611686018427387904 := Int.ediv_le_self _ (by omega)
  have w3 : wrap64 ((4611686018427387904 : Int) / b) = (4611686018427387904 : Int) / b := by unfold wrap64; omega
  rw [w3]
  have dle : ∀ m : Int, m ≤ (4611686018427387904 : Int) / b ↔ m * b ≤ 4611686018427387904 := fun m => Int.le_ediv_iff_mul_le (by omega)
  by_cases h : r = 0
  · have hd : (n - 1) / b = q - 1 := nu_div (n - 1) b (q - 1) (b - 1) hb (by rw [hnqr, h, Int.mul_sub]; omega) (by omega) (by omega)
    have w4 : wrap64 (q - 1) = q - 1 := by unfold wrap64; omega
    have w5 : wrap64 (q - 1 + 1) = q := by unfold wrap64; omega
    have hqb : q * b = n := by rw [hnqr, h, Int.mul_comm]; omega
    have w6 : wrap64 (q * b) = n := by rw [hqb]; unfold wrap64; omega
    rw [hd, w4, w5, w6, if_pos h]
    split <;> rfl
  · have hd : (n - 1) / b = q := nu_div (n - 1) b q (r - 1) hb (by omega) (by omega) (by omega)
    have w4 : wrap64 q = q := by unfold wrap64; omega
    have w5 : wrap64 (q + 1) = q + 1 := by unfold wrap64; omega
    have w7 : wrap64 (n - r) = n - r := by unfold wrap64; omega
    have w8 : wrap64 (4611686018427387904 - b) = 4611686018427387904 - b := by unfold wrap64; omega
    have hm : (q + 1) * b = n - r + b := by rw [Int.add_mul, Int.mul_comm q b]; omega
    have d := dle (q + 1)
    rw [hm] at d
    rw [hd, w4, w5, w7, w8, if_neg h, hm]
    by_cases c : n - r > 4611686018427387904 - b
    · rw [if_pos c, if_pos (by omega)]
    · rw [if_neg c, if_neg (by omega)]

theorem NumUp : gunnylaw01_NumUp.Pure := by
  intro n b _ _
  refine ⟨20, ?_⟩
  have key : ∃ r, num_Up.f 20 n b = some r ∧ gunnyref01_Up.f 20 n b = some r := by
    have tr1 : num_Up.j0 20 n b true = some n := by simp only [num_Up.j0]; rfl
    have tr2 : gunnyref01_Up.j0 20 n b true = some n := by simp only [gunnyref01_Up.j0]; rfl
    unfold num_Up.f gunnyref01_Up.f
    by_cases h1 : n < 1
    · rw [if_pos h1, if_pos h1]; exact ⟨n, tr1, tr2⟩
    · rw [if_neg h1, if_neg h1]
      by_cases h2 : b < 1
      · rw [if_pos h2, if_pos h2]; exact ⟨n, tr1, tr2⟩
      · rw [if_neg h2, if_neg h2]
        by_cases h3 : n > 4611686018427387904
        · rw [if_pos h3, decide_eq_true h3]
          by_cases h4 : b > 4611686018427387904
          · rw [if_pos h4]; exact ⟨n, tr1, tr2⟩
          · rw [if_neg h4]; exact ⟨n, tr1, tr2⟩
        · rw [if_neg h3, decide_eq_false h3]
          by_cases h4 : b > 4611686018427387904
          · rw [if_pos h4, decide_eq_true h4]; exact ⟨n, tr1, tr2⟩
          · rw [if_neg h4, decide_eq_false h4, nu_same n b (by omega) (by omega) (by omega) (by omega) 19]
            have : ∃ r, gunnyref01_Up.j0 (19 + 1) n b false = some r := by
              simp only [gunnyref01_Up.j0]
              have hb0 : ¬ b = 0 := by omega
              simp only [if_neg hb0, Bool.false_eq_true, if_false]
              split
              · exact ⟨_, rfl⟩
              · split <;> exact ⟨_, rfl⟩
            obtain ⟨r, hr⟩ := this
            exact ⟨r, hr, hr⟩
  obtain ⟨r, e1, e2⟩ := key
  unfold gunnylaw01_NumUp.f
  rw [e1, e2, nu_lives]
  simp

end Go.Proofs.Ytioabejegjhapaa.Pure
