/- Plain facts on parts of 64-bit words: a mask, a part, a word with a part set, as sums and quotients. No program in sight. -/
import Derived.Laws.BitsAllLaws
import Derived.Test.YtgcgnpinhlmmjaaWMore
namespace Go.Proofs.Ytgcgnpinhlmmjaa.Bits
open Go.RowKit Go.Proofs.YtgcgnpinhlmmjaaW.PrintWords Go.Proofs.YtgcgnpinhlmmjaaW.PrintMore

theorem bs {α β : Type} {x : Option α} {f : α → Option β} {a : α} (h : x = some a) : x.bind f = f a := by rw [h]; rfl

theorem mask_bit (p w j : Nat) : ((2 ^ w - 1) * 2 ^ p).testBit j = (decide (p ≤ j) && decide (j - p < w)) := by
  rw [Nat.testBit_mul_two_pow, Nat.testBit_two_pow_sub_one]

theorem mask_lt (p w : Nat) (h : p + w ≤ 64) : (2 ^ w - 1) * 2 ^ p < 18446744073709551616 := by
  have h1 : 2 ^ w * 2 ^ p = 2 ^ (p + w) := by rw [← Nat.pow_add, Nat.add_comm]
  have h2 : (2 : Nat) ^ (p + w) ≤ 2 ^ 64 := Nat.pow_le_pow_right (by decide) h
  have h3 : 0 < 2 ^ p := Nat.two_pow_pos p
  have h4 : (2 ^ w - 1) * 2 ^ p = 2 ^ w * 2 ^ p - 2 ^ p := by rw [Nat.sub_mul, Nat.one_mul]
  omega

theorem cut_nat (a p w : Nat) : (a &&& (2 ^ w - 1) * 2 ^ p) / 2 ^ p = a / 2 ^ p % 2 ^ w := by
  apply Nat.eq_of_testBit_eq
  intro j
  rw [Nat.testBit_div_two_pow, Nat.testBit_and, mask_bit, Nat.testBit_mod_two_pow, Nat.testBit_div_two_pow]
  have e : (decide (p ≤ j + p) && decide (j + p - p < w)) = decide (j < w) := by simp
  rw [e, Bool.and_comm]

theorem set_bits (a n p w : Nat) (ha : a < 18446744073709551616) (h : p + w ≤ 64) :
    (a &&& (18446744073709551615 - (2 ^ w - 1) * 2 ^ p)) ||| (n * 2 ^ p % 18446744073709551616 &&& (2 ^ w - 1) * 2 ^ p) = 2 ^ p * (2 ^ w * (a / 2 ^ (p + w)) + n % 2 ^ w) + a % 2 ^ p := by
  have hm := mask_lt p w h
  apply Nat.eq_of_testBit_eq
  intro j
  have e1 : 18446744073709551615 - (2 ^ w - 1) * 2 ^ p = 2 ^ 64 - ((2 ^ w - 1) * 2 ^ p + 1) := by omega
  have e2 : n * 2 ^ p % 18446744073709551616 = n * 2 ^ p % 2 ^ 64 := rfl
  rw [Nat.testBit_or, Nat.testBit_and, Nat.testBit_and, e1, Nat.testBit_two_pow_sub_succ hm, e2, Nat.testBit_mod_two_pow, mask_bit, Nat.testBit_mul_two_pow,
    Nat.testBit_two_pow_mul_add _ (Nat.mod_lt _ (Nat.two_pow_pos p))]
  by_cases h1 : j < p
  · rw [if_pos h1, Nat.testBit_mod_two_pow]
    have : ¬ p ≤ j := by omega
    have h64 : j < 64 := by omega
    simp [this, h1, h64]
  · rw [if_neg h1, Nat.testBit_two_pow_mul_add _ (Nat.mod_lt _ (Nat.two_pow_pos w))]
    have hp : p ≤ j := by omega
    by_cases h2 : j - p < w
    · rw [if_pos h2, Nat.testBit_mod_two_pow]
      have h64 : j < 64 := by omega
      simp [hp, h2, h64]
    · rw [if_neg h2, Nat.testBit_div_two_pow]
      have e3 : j - p - w + (p + w) = j := by omega
      rw [e3]
      by_cases h64 : j < 64
      · simp [hp, h2, h64]
      · have : a.testBit j = false := Nat.testBit_lt_two_pow (Nat.lt_of_lt_of_le ha (show 2 ^ 64 ≤ 2 ^ j from Nat.pow_le_pow_right (by decide) (by omega)))
        simp [hp, h2, h64, this]

theorem parts_nat (a p w : Nat) : a = 2 ^ p * (2 ^ w * (a / 2 ^ (p + w)) + a / 2 ^ p % 2 ^ w) + a % 2 ^ p := by
  have h1 := Nat.div_add_mod a (2 ^ p)
  have h2 := Nat.div_add_mod (a / 2 ^ p) (2 ^ w)
  rw [Nat.div_div_eq_div_mul, ← Nat.pow_add] at h2
  rw [h2]
  omega

theorem set_nat (a n p w : Nat) (ha : a < 18446744073709551616) (h : p + w ≤ 64) :
    ((a &&& (18446744073709551615 - (2 ^ w - 1) * 2 ^ p)) ||| (n * 2 ^ p % 18446744073709551616 &&& (2 ^ w - 1) * 2 ^ p)) + a / 2 ^ p % 2 ^ w * 2 ^ p = a + n % 2 ^ w * 2 ^ p := by
  rw [set_bits a n p w ha h]
  have h1 := parts_nat a p w
  rw [Nat.mul_add] at h1 ⊢
  rw [Nat.mul_comm (a / 2 ^ p % 2 ^ w), Nat.mul_comm (n % 2 ^ w)]
  omega

theorem set_lt (a n p w : Nat) (_ha : a < 18446744073709551616) (h : p + w ≤ 64) :
    ((a &&& (18446744073709551615 - (2 ^ w - 1) * 2 ^ p)) ||| (n * 2 ^ p % 18446744073709551616 &&& (2 ^ w - 1) * 2 ^ p)) < 18446744073709551616 := by
  have h1 : a &&& (18446744073709551615 - (2 ^ w - 1) * 2 ^ p) < 2 ^ 64 := Nat.and_lt_two_pow _ (by omega)
  have h2 : n * 2 ^ p % 18446744073709551616 &&& (2 ^ w - 1) * 2 ^ p < 2 ^ 64 := Nat.and_lt_two_pow _ (mask_lt p w h)
  exact Nat.or_lt_two_pow h1 h2

/-! Go's own words -/
theorem u64w (n : Int) : IntKind.u64.wrap n = n % 18446744073709551616 := IntKind.wrap_u64 n

theorem shl_one (w : Nat) (h : w < 64) : shl .u64 1 (w : Int) = ((2 ^ w : Nat) : Int) := by
  unfold shl
  have e : min (w : Int).toNat IntKind.u64.bits = w := by show min (w : Int).toNat 64 = w; omega
  have h2 : (2 : Nat) ^ w < 2 ^ 64 := Nat.pow_lt_pow_right (by decide) h
  have h3 : (2 : Int) ^ w = ((2 ^ w : Nat) : Int) := (Int.natCast_pow 2 w).symm
  rw [e, u64w, Int.one_mul, h3]
  have h4 : (2 : Nat) ^ w < 18446744073709551616 := h2
  generalize (2 : Nat) ^ w = x at h4 ⊢
  omega

theorem shl_nat (x p : Nat) (h : p ≤ 64) : shl .u64 (x : Int) (p : Int) = ((x * 2 ^ p % 18446744073709551616 : Nat) : Int) := by
  unfold shl
  have e : min (p : Int).toNat IntKind.u64.bits = p := by show min (p : Int).toNat 64 = p; omega
  rw [e, u64w, Int.natCast_emod, Int.natCast_mul, Int.natCast_pow]; rfl

theorem shr_nat (x p : Nat) (h : p ≤ 64) : shr .u64 (x : Int) (p : Int) = ((x / 2 ^ p : Nat) : Int) := by
  unfold shr
  have e : min (p : Int).toNat IntKind.u64.bits = p := by show min (p : Int).toNat 64 = p; omega
  rw [e, Int.natCast_ediv, Int.natCast_pow]; rfl

/-- A mask, where a part ends within the word .. -/
theorem mask_short (p w : Nat) (hw : w < 64) (h : p + w ≤ 64) : shl .u64 (IntKind.u64.wrap ((shl .u64 1 (w : Int)) - 1)) (p : Int) = (((2 ^ w - 1) * 2 ^ p : Nat) : Int) := by
  have h2 : (2 : Nat) ^ w < 2 ^ 64 := Nat.pow_lt_pow_right (by decide) hw
  have h3 : 0 < 2 ^ w := Nat.two_pow_pos w
  rw [shl_one w hw, u64w]
  have e : (((2 ^ w : Nat) : Int) - 1) % 18446744073709551616 = ((2 ^ w - 1 : Nat) : Int) := by omega
  rw [e, shl_nat _ _ (by omega), Nat.mod_eq_of_lt (mask_lt p w h)]
/-- .. and where it doesn't. -/
theorem mask_mod (p w : Nat) (hp : p ≤ 64) (h : 64 ≤ p + w) : (2 ^ w - 1) * 2 ^ p % 18446744073709551616 = (2 ^ (64 - p) - 1) * 2 ^ p := by
  apply Nat.eq_of_testBit_eq
  intro j
  have e2 : (2 ^ w - 1) * 2 ^ p % 18446744073709551616 = (2 ^ w - 1) * 2 ^ p % 2 ^ 64 := rfl
  rw [e2, Nat.testBit_mod_two_pow, mask_bit, mask_bit]
  by_cases h1 : p ≤ j
  · by_cases h2 : j < 64
    · have a1 : j - p < w := by omega
      have a2 : j - p < 64 - p := by omega
      simp [h1, h2, a1, a2]
    · have a2 : ¬ j - p < 64 - p := by omega
      simp [h1, h2, a2]
  · simp [h1]
theorem mask_long (p w : Nat) (hw : w < 64) (hp : p ≤ 64) (h : 64 ≤ p + w) : shl .u64 (IntKind.u64.wrap ((shl .u64 1 (w : Int)) - 1)) (p : Int) = (((2 ^ (64 - p) - 1) * 2 ^ p : Nat) : Int) := by
  have h2 : (2 : Nat) ^ w < 2 ^ 64 := Nat.pow_lt_pow_right (by decide) hw
  have h3 : 0 < 2 ^ w := Nat.two_pow_pos w
  rw [shl_one w hw, u64w]
  have e : (((2 ^ w : Nat) : Int) - 1) % 18446744073709551616 = ((2 ^ w - 1 : Nat) : Int) := by omega
  rw [e, shl_nat _ _ hp, mask_mod p w hp h]
theorem mask_whole (p : Nat) (hp : p ≤ 64) : shl .u64 18446744073709551615 (p : Int) = (((2 ^ (64 - p) - 1) * 2 ^ p : Nat) : Int) := by
  have e : (18446744073709551615 : Int) = ((2 ^ 64 - 1 : Nat) : Int) := rfl
  rw [e, shl_nat _ _ hp, mask_mod p 64 hp (by omega)]

theorem cut_word (a p w : Nat) (ha : a < 18446744073709551616) (h : p + w ≤ 64) :
    shr .u64 (Go.bits .and .u64 (a : Int) (((2 ^ w - 1) * 2 ^ p : Nat) : Int)) (p : Int) = ((a / 2 ^ p % 2 ^ w : Nat) : Int) := by
  rw [u64_and_nat a _ ha (mask_lt p w h), shr_nat _ _ (by omega), cut_nat]

theorem set_word (a n p w : Nat) (ha : a < 18446744073709551616) (h : p + w ≤ 64) :
    Go.bits .or .u64 (Go.bits .andNot .u64 (a : Int) (((2 ^ w - 1) * 2 ^ p : Nat) : Int)) (Go.bits .and .u64 (shl .u64 (n : Int) (p : Int)) (((2 ^ w - 1) * 2 ^ p : Nat) : Int)) = (a : Int) - ((a / 2 ^ p % 2 ^ w * 2 ^ p : Nat) : Int) + ((n % 2 ^ w * 2 ^ p : Nat) : Int) := by
  have hm := mask_lt p w h
  rw [shl_nat _ _ (by omega), u64_andNot_nat a _ ha hm, u64_and_nat _ _ (Nat.mod_lt _ (by decide)) hm,
    u64_or_nat _ _ (Nat.lt_of_le_of_lt Nat.and_le_left ha) (Nat.lt_of_le_of_lt Nat.and_le_right hm)]
  have := set_nat a n p w ha h
  omega

end Go.Proofs.Ytgcgnpinhlmmjaa.Bits
