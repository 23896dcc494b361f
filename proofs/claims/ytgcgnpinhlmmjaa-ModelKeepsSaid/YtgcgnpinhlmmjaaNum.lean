/- What num's functions compute, on words as natural numbers: masks, parts, set parts, bits. No program's memory. -/
import Derived.Test.YtgcgnpinhlmmjaaBits
import Derived.Test.YtgcgnpinhlmmjaaRx1
namespace Go.Proofs.Ytgcgnpinhlmmjaa.Num
open Go.RowKit Go.Proofs.Ytgcgnpinhlmmjaa.R Go.Proofs.Ytgcgnpinhlmmjaa.Bits Go.Proofs.YtgcgnpinhlmmjaaW.PrintWords Go.Proofs.YtgcgnpinhlmmjaaW.PrintMore

theorem mask_none (k : Nat) (p w : Int) (h : p < 0 ∨ 64 ≤ p ∨ w < 1) : num_Mask.f (k + 1) p w = some 0 := by
  have t : num_Mask.j0 (k + 1) p w true = some 0 := by simp only [num_Mask.j0]; rfl
  unfold num_Mask.f
  by_cases h1 : p < 0
  · rw [if_pos h1]; exact t
  · rw [if_neg h1]
    by_cases h2 : p ≥ 64
    · rw [if_pos h2]; exact t
    · rw [if_neg h2, decide_eq_true (by omega)]; exact t

theorem mask_some (k p w : Nat) (hp : p < 64) (hw : 1 ≤ w) : num_Mask.f (k + 1) (p : Int) (w : Int) = some (((2 ^ (min w (64 - p)) - 1) * 2 ^ p : Nat) : Int) := by
  unfold num_Mask.f
  rw [if_neg (by omega), if_neg (by omega), decide_eq_false (by omega)]
  simp only [num_Mask.j0, Bool.false_eq_true, if_false]
  by_cases h : (w : Int) < 64
  · rw [if_pos h, if_pos (by omega), if_pos (by omega)]
    by_cases h2 : p + w ≤ 64
    · rw [mask_short p w (by omega) h2, Nat.min_eq_left (by omega)]
    · rw [mask_long p w (by omega) (by omega) (by omega), Nat.min_eq_right (by omega)]
  · rw [if_neg h, if_pos (by omega), mask_whole p (by omega), Nat.min_eq_right (by omega)]

theorem mask_pos (p w : Nat) (hw : 1 ≤ w) : 0 < (2 ^ w - 1) * 2 ^ p := by
  have h1 : 2 ^ 1 ≤ 2 ^ w := Nat.pow_le_pow_right (by decide) hw
  exact Nat.mul_pos (by omega) (Nat.two_pow_pos p)

theorem cut_some (k a p w : Nat) (ha : a < 18446744073709551616) (hp : p < 64) (hw : 1 ≤ w) : num_Cut.f (k + 1) (a : Int) (p : Int) (w : Int) = some ((a / 2 ^ p % 2 ^ (min w (64 - p)) : Nat) : Int) := by
  have hm := mask_pos p (min w (64 - p)) (by omega)
  unfold num_Cut.f
  rw [mask_some k p w hp hw]
  simp only [Option.bind_some]
  rw [if_neg (by omega), if_pos (by omega), cut_word a p (min w (64 - p)) ha (by omega)]

theorem cut_none (k : Nat) (a p w : Int) (h : p < 0 ∨ 64 ≤ p ∨ w < 1) : num_Cut.f (k + 1) a p w = some 0 := by
  unfold num_Cut.f
  rw [mask_none k p w h]
  simp

theorem bit_some (k a p : Nat) (ha : a < 18446744073709551616) (hp : p < 64) : num_Bit.f (k + 1) (a : Int) (p : Int) = some (a / 2 ^ p % 2 == 1) := by
  have e := cut_some k a p 1 ha hp (by omega)
  have e1 : min 1 (64 - p) = 1 := by omega
  rw [e1] at e
  unfold num_Bit.f
  have e2 : ((1 : Nat) : Int) = 1 := rfl
  rw [e2] at e
  rw [e]
  simp only [Option.bind_some]
  congr 1
  rw [Bool.eq_iff_iff, beq_iff_eq, beq_iff_eq]
  omega

end Go.Proofs.Ytgcgnpinhlmmjaa.Num
