/- What va's functions compute, on addresses as natural numbers. No program's memory. -/
import Derived.Test.YtgcgnpinhlmmjaaNum
import Derived.Test.YtgcgnpinhlmmjaaRx1
namespace Go.Proofs.Ytgcgnpinhlmmjaa.Va
open Go.RowKit Go.Proofs.Ytgcgnpinhlmmjaa.R Go.Proofs.Ytgcgnpinhlmmjaa.Bits Go.Proofs.Ytgcgnpinhlmmjaa.Num Go.Proofs.YtgcgnpinhlmmjaaW.PrintWords Go.Proofs.YtgcgnpinhlmmjaaW.PrintMore

/-- The canonical address with an address's lowest 48 bits. -/
def sp (a : Nat) : Nat := if a % 281474976710656 ≥ 140737488355328 then a % 281474976710656 + 18446462598732840960 else a % 281474976710656
theorem sp_lt (a : Nat) : sp a < 18446744073709551616 := by unfold sp; split <;> omega
theorem sp_low (a : Nat) : sp a % 281474976710656 = a % 281474976710656 := by unfold sp; split <;> omega
theorem sp_sp (a : Nat) : sp (sp a) = sp a := by unfold sp; split <;> split <;> omega

theorem or_high (a : Nat) (ha : a < 18446744073709551616) : a ||| 18446462598732840960 = a % 281474976710656 + 18446462598732840960 := by
  have e : a % 281474976710656 + 18446462598732840960 = 2 ^ 48 * 65535 + a % 2 ^ 48 := by
    show a % 281474976710656 + 18446462598732840960 = 281474976710656 * 65535 + a % 281474976710656; omega
  have e2 : (18446462598732840960 : Nat) = (2 ^ 16 - 1) * 2 ^ 48 := by decide
  have e3 : (65535 : Nat) = 2 ^ 16 - 1 := by decide
  rw [e, e2, e3]
  apply Nat.eq_of_testBit_eq
  intro j
  rw [Nat.testBit_or, mask_bit, Nat.testBit_two_pow_mul_add _ (Nat.mod_lt _ (Nat.two_pow_pos 48)), Nat.testBit_mod_two_pow, Nat.testBit_two_pow_sub_one]
  by_cases h : j < 48
  · have h1 : ¬ 48 ≤ j := by omega
    simp [h, h1]
  · have h1 : 48 ≤ j := by omega
    by_cases h2 : j - 48 < 16
    · simp [h, h1, h2]
    · have : a.testBit j = false := Nat.testBit_lt_two_pow (Nat.lt_of_lt_of_le ha (show 2 ^ 64 ≤ 2 ^ j from Nat.pow_le_pow_right (by decide) (by omega)))
      simp [h, h2, this]

theorem spread_some (k a : Nat) (ha : a < 18446744073709551616) : va_spread.f (k + 1) (a : Int) = some ((sp a : Nat) : Int) := by
  have e47 : num_Bit.f (k + 1) (a : Int) 47 = some (a / 140737488355328 % 2 == 1) := bit_some k a 47 ha (by omega)
  have em : num_Mask.f (k + 1) 0 48 = some 281474976710655 := mask_some k 0 48 (by omega) (by omega)
  unfold va_spread.f
  rw [e47, em]
  simp only [Option.bind_some]
  unfold sp
  by_cases h : a % 281474976710656 ≥ 140737488355328
  · have hb : (a / 140737488355328 % 2 == 1) = true := by rw [beq_iff_eq]; omega
    rw [hb, if_pos rfl, if_pos h]
    have x1 : Go.bits .xor .u64 18446744073709551615 281474976710655 = ((18446462598732840960 : Nat) : Int) := u64_xor_nat 18446744073709551615 281474976710655 (by decide) (by decide)
    rw [x1, u64_or_nat a _ ha (by decide), or_high a ha]
  · have hb : (a / 140737488355328 % 2 == 1) = false := by rw [beq_eq_false_iff_ne]; omega
    rw [hb, if_neg (by decide), if_neg h]
    have x1 : Go.bits .and .u64 (a : Int) 281474976710655 = ((a &&& 281474976710655 : Nat) : Int) := u64_and_nat a 281474976710655 ha (by decide)
    rw [x1]
    have : a &&& 281474976710655 = a % 281474976710656 := Nat.and_two_pow_sub_one_eq_mod a 48
    rw [this]

theorem canon_some (k a : Nat) (ha : a < 18446744073709551616) : va_Canon.f (k + 1) (a : Int) = some (decide (sp a = a)) := by
  unfold va_Canon.f
  rw [spread_some k a ha]
  simp only [Option.bind_some]
  congr 1
  rw [Bool.eq_iff_iff, beq_iff_eq, decide_eq_true_iff]
  omega

theorem page_some (k a : Nat) (ha : a < 18446744073709551616) : va_Page.f (k + 1) (a : Int) = some ((a % 281474976710656 / 4096 : Nat) : Int) := by
  have e : num_Cut.f (k + 1) (a : Int) 12 36 = some ((a / 4096 % 68719476736 : Nat) : Int) := cut_some k a 12 36 ha (by omega) (by omega)
  unfold va_Page.f
  rw [e]
  simp only [Option.bind_some]
  congr 1
  unfold wrap64
  omega

theorem offset_some (k a : Nat) (ha : a < 18446744073709551616) : va_Offset.f (k + 1) (a : Int) = some ((a % 4096 : Nat) : Int) := by
  have e : num_Cut.f (k + 1) (a : Int) 0 12 = some ((a / 1 % 4096 : Nat) : Int) := cut_some k a 0 12 ha (by omega) (by omega)
  unfold va_Offset.f
  rw [e]
  simp only [Option.bind_some]
  congr 1
  unfold wrap64
  omega

/-- The index of a level, of an address. -/
theorem at_some (k p : Nat) (hp : p < 68719476736) : va_At.f (k + 1) (p : Int) = some ((sp (4096 * p) : Nat) : Int) := by
  unfold va_At.f
  rw [if_neg (by omega), if_neg (by omega), u64w, u64w]
  have e : (p : Int) % 18446744073709551616 * 4096 % 18446744073709551616 = ((4096 * p : Nat) : Int) := by omega
  rw [e, spread_some k (4096 * p) (by omega)]
  rfl
theorem at_none (k : Nat) (p : Int) (hp : p < 0 ∨ 68719476736 ≤ p) : va_At.f k p = some 0 := by
  unfold va_At.f
  by_cases h : p < 0
  · rw [if_pos h]
  · rw [if_neg h, if_pos (by omega)]

end Go.Proofs.Ytgcgnpinhlmmjaa.Va
