/- What gunnyref30.Canon computes: is the address the one that its lowest 48 bits make? No program's memory. -/
import Derived.Test.YtpdpkjdkafmmhaaVa
import Derived.Test.YtpdpkjdkafmmhaaRx2
namespace Go.Proofs.Ytpdpkjdkafmmhaa.Va
open Go.RowKit Go.Proofs.Ytpdpkjdkafmmhaa.R Go.Proofs.Ytpdpkjdkafmmhaa.Bits Go.Proofs.Ytpdpkjdkafmmhaa.Num Go.Proofs.YtpdpkjdkafmmhaaW.PrintWords Go.Proofs.YtpdpkjdkafmmhaaW.PrintMore

theorem bs {α β : Type} {x : Option α} {f : α → Option β} {a : α} (h : x = some a) : x.bind f = f a := by rw [h]; rfl

theorem rbit_l0 (p : Nat) (hp : p < 64) (d : Nat) : ∀ (k a i : Nat), a < 18446744073709551616 → i ≤ p → p - i = d → d < k → gunnyref01_Bit.l0 k (a : Int) (p : Int) (i : Int) = some (a / 2 ^ d % 2 == 1) := by
  induction d with
  | zero =>
    intro k a i ha hi hd hk
    obtain ⟨k, rfl⟩ : ∃ m, k = m + 1 := ⟨k - 1, by omega⟩
    simp only [gunnyref01_Bit.l0]
    rw [if_neg (by omega), Int.tmod_eq_emod_of_nonneg (by omega)]
    congr 1
    rw [Bool.eq_iff_iff, beq_iff_eq, beq_iff_eq]
    omega
  | succ d ih =>
    intro k a i ha hi hd hk
    obtain ⟨k, rfl⟩ : ∃ m, k = m + 1 := ⟨k - 1, by omega⟩
    simp only [gunnyref01_Bit.l0]
    rw [if_pos (by omega), Int.tdiv_eq_ediv_of_nonneg (by omega), u64w]
    have e1 : (a : Int) / 2 % 18446744073709551616 = ((a / 2 : Nat) : Int) := by omega
    have e2 : wrap64 ((i : Int) + 1) = ((i + 1 : Nat) : Int) := by unfold wrap64; omega
    rw [e1, e2, ih k (a / 2) (i + 1) (by omega) (by omega) (by omega) (by omega), Nat.div_div_eq_div_mul, Nat.pow_succ, Nat.mul_comm 2]

theorem rbit (k a p : Nat) (ha : a < 18446744073709551616) (hp : p < 64) (hk : 65 < k) : gunnyref01_Bit.f k (a : Int) (p : Int) = some (a / 2 ^ p % 2 == 1) := by
  obtain ⟨k, rfl⟩ : ∃ m, k = m + 1 := ⟨k - 1, by omega⟩
  unfold gunnyref01_Bit.f
  rw [if_neg (by omega), decide_eq_false (by omega)]
  simp only [gunnyref01_Bit.j0, Bool.false_eq_true, if_false]
  exact rbit_l0 p hp p k a 0 ha (by omega) (by omega) (by omega)

/-- What all bits from i on must be, for the answer to be yes. -/
def high (a d : Nat) : Nat := if a / 140737488355328 % 2 = 1 then 2 ^ d - 1 else 0

theorem rcanon_l0 (a : Nat) (ha : a < 18446744073709551616) (d : Nat) : ∀ (k i : Nat), i + d = 64 → d + 66 < k → gunnyref30_Canon.l0 k (a : Int) (i : Int) = some (decide (a / 2 ^ i = high a d)) := by
  induction d with
  | zero =>
    intro k i hi hk
    obtain ⟨k, rfl⟩ : ∃ m, k = m + 1 := ⟨k - 1, by omega⟩
    simp only [gunnyref30_Canon.l0]
    rw [if_neg (by omega)]
    obtain rfl : i = 64 := by omega
    congr 1
    have h1 : a / 2 ^ 64 = 0 := Nat.div_eq_of_lt ha
    have h2 : high a 0 = 0 := by unfold high; split <;> rfl
    rw [h1, h2]; rfl
  | succ d ih =>
    intro k i hi hk
    obtain ⟨k, rfl⟩ : ∃ m, k = m + 1 := ⟨k - 1, by omega⟩
    simp only [gunnyref30_Canon.l0]
    have e47 : gunnyref01_Bit.f k (a : Int) 47 = some (a / 140737488355328 % 2 == 1) := rbit k a 47 ha (by omega) (by omega)
    have e2 : wrap64 ((i : Int) + 1) = ((i + 1 : Nat) : Int) := by unfold wrap64; omega
    rw [if_pos (by omega), rbit k a i ha (by omega) (by omega), e47, e2, ih k (i + 1) (by omega) (by omega)]
    simp only [Option.bind_some]
    have hs : a / 2 ^ (i + 1) = a / 2 ^ i / 2 := by rw [Nat.pow_succ, ← Nat.div_div_eq_div_mul]
    rw [hs]
    generalize a / 2 ^ i = x
    have hp : 2 ^ (d + 1) = 2 * 2 ^ d := by rw [Nat.pow_succ, Nat.mul_comm]
    have hp0 : 0 < 2 ^ d := Nat.two_pow_pos d
    unfold high
    rw [hp]
    generalize 2 ^ d = y at *
    by_cases hb : a / 140737488355328 % 2 = 1
    · have b1 : (a / 140737488355328 % 2 == 1) = true := by rw [beq_iff_eq]; exact hb
      rw [b1, if_pos hb, if_pos hb]
      by_cases hx : x % 2 = 1
      · have b2 : (x % 2 == 1) = true := by rw [beq_iff_eq]; exact hx
        rw [b2, if_neg (by decide)]
        congr 1
        rw [decide_eq_decide]
        omega
      · have b2 : (x % 2 == 1) = false := by rw [beq_eq_false_iff_ne]; exact hx
        rw [b2, if_pos (by decide), decide_eq_false (by omega)]
    · have b1 : (a / 140737488355328 % 2 == 1) = false := by rw [beq_eq_false_iff_ne]; exact hb
      rw [b1, if_neg hb, if_neg hb]
      by_cases hx : x % 2 = 1
      · have b2 : (x % 2 == 1) = true := by rw [beq_iff_eq]; exact hx
        rw [b2, if_pos (by decide), decide_eq_false (by omega)]
      · have b2 : (x % 2 == 1) = false := by rw [beq_eq_false_iff_ne]; exact hx
        rw [b2, if_neg (by decide)]
        congr 1
        rw [decide_eq_decide]
        omega

theorem rcanon (a : Nat) (ha : a < 18446744073709551616) (k : Nat) (hk : 90 < k) : gunnyref30_Canon.f k (a : Int) = some (decide (sp a = a)) := by
  have e : gunnyref30_Canon.l0 k (a : Int) 48 = some (decide (a / 281474976710656 = high a 16)) := rcanon_l0 a ha 16 k 48 (by omega) (by omega)
  unfold gunnyref30_Canon.f
  rw [e]
  congr 1
  rw [decide_eq_decide]
  have e16 : (2 : Nat) ^ 16 = 65536 := by decide
  unfold high sp
  rw [e16]
  split <;> split <;> omega

end Go.Proofs.Ytpdpkjdkafmmhaa.Va
