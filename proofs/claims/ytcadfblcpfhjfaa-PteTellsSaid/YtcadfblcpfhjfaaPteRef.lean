/- What gunnyref31's small functions compute: May, bit, Put; the chapter's example. No program's memory. -/
import Derived.Test.YtcadfblcpfhjfaaPte
import Derived.Test.YtcadfblcpfhjfaaRx3
namespace Go.Proofs.Ytcadfblcpfhjfaa.Pte
open Go.RowKit Go.Proofs.Ytcadfblcpfhjfaa.R Go.Proofs.Ytcadfblcpfhjfaa.Bits Go.Proofs.Ytcadfblcpfhjfaa.Num Go.Proofs.YtcadfblcpfhjfaaW.PrintWords Go.Proofs.YtcadfblcpfhjfaaW.PrintMore

theorem lives_some (k : Nat) (h : 40 ≤ k) : gunnylaw31_lives.f k = some true := by
  obtain ⟨m, rfl⟩ : ∃ m, k = m + 40 := ⟨k - 40, by omega⟩
  unfold gunnylaw31_lives.f
  have e : pte_Page.f (m + 40) 3 3 = some (3095, true) := page_yes (m + 35) 3 3 (by decide) (by decide)
  have e2 : pte_Kind.f (m + 40) 3095 = some 2 := by
    have h1 := kind_some (m + 31) 3095 (by decide)
    have h2 : knd 3095 = 2 := by decide +kernel
    rw [h2] at h1
    exact h1
  rw [bs e, if_pos rfl, if_pos rfl, bs e2]
  rfl

theorem rmay (p : Int) : gunnyref31_May.f p = some (may p) := by
  unfold gunnyref31_May.f may
  by_cases h1 : p = 1
  · subst h1; rfl
  by_cases h3 : p = 3
  · subst h3; rfl
  by_cases h4 : p = 4
  · subst h4; rfl
  by_cases h5 : p = 5
  · subst h5; rfl
  rw [if_neg h1, if_neg h3, if_neg h4, if_neg h5]
  refine congrArg some ?_
  rw [beq_eq_false_iff_ne.mpr h1, beq_eq_false_iff_ne.mpr h3, beq_eq_false_iff_ne.mpr h4, beq_eq_false_iff_ne.mpr h5]
  rfl

def bw (b : Bool) (n : Nat) : Nat := if b = true then n else 0
theorem bw_le (b : Bool) (n : Nat) : bw b n ≤ n := by unfold bw; split <;> omega
theorem rbitv (b : Bool) (n : Nat) : gunnyref31_bit.f b (n : Int) = some ((bw b n : Nat) : Int) := by
  unfold gunnyref31_bit.f bw
  cases b <;> rfl

theorem wr (x : Nat) (h : x < 18446744073709551616) : IntKind.u64.wrap (x : Int) = (x : Int) := by rw [u64w]; omega

theorem rput (v u a d r : Bool) (p n : Nat) (hp : p < 1024) (hn : n < 17592186044416) :
    gunnyref31_Put.f v u a d (p : Int) (n : Int) r = some ((bw v 1 + 2 * p + bw u 16 + bw a 64 + bw d 128 + 1024 * n : Nat) : Int) := by
  have h1 := bw_le v 1
  have h2 := bw_le u 16
  have h3 := bw_le a 64
  have h4 := bw_le d 128
  have e1 : gunnyref31_bit.f v 1 = some ((bw v 1 : Nat) : Int) := rbitv v 1
  have e2 : gunnyref31_bit.f u 16 = some ((bw u 16 : Nat) : Int) := rbitv u 16
  have e3 : gunnyref31_bit.f a 64 = some ((bw a 64 : Nat) : Int) := rbitv a 64
  have e4 : gunnyref31_bit.f d 128 = some ((bw d 128 : Nat) : Int) := rbitv d 128
  unfold gunnyref31_Put.f
  rw [bs e1, bs e2, bs e3, bs e4]
  refine congrArg some ?_
  generalize bw v 1 = V at *
  generalize bw u 16 = U at *
  generalize bw a 64 = A at *
  generalize bw d 128 = D at *
  clear e1 e2 e3 e4
  have c1 : IntKind.u64.wrap (p : Int) = (p : Int) := wr p (by omega)
  have c2 : IntKind.u64.wrap (n : Int) = (n : Int) := wr n (by omega)
  rw [c1, c2]
  have c3 : IntKind.u64.wrap (2 * (p : Int)) = ((2 * p : Nat) : Int) := wr (2 * p) (by omega)
  have c4 : IntKind.u64.wrap (1024 * (n : Int)) = ((1024 * n : Nat) : Int) := wr (1024 * n) (by omega)
  rw [c3, c4]
  have c5 : IntKind.u64.wrap ((V : Int) + ((2 * p : Nat) : Int)) = ((V + 2 * p : Nat) : Int) := wr (V + 2 * p) (by omega)
  rw [c5]
  have c6 : IntKind.u64.wrap (((V + 2 * p : Nat) : Int) + (U : Int)) = ((V + 2 * p + U : Nat) : Int) := wr (V + 2 * p + U) (by omega)
  rw [c6]
  have c7 : IntKind.u64.wrap (((V + 2 * p + U : Nat) : Int) + (A : Int)) = ((V + 2 * p + U + A : Nat) : Int) := wr (V + 2 * p + U + A) (by omega)
  rw [c7]
  have c8 : IntKind.u64.wrap (((V + 2 * p + U + A : Nat) : Int) + (D : Int)) = ((V + 2 * p + U + A + D : Nat) : Int) := wr (V + 2 * p + U + A + D) (by omega)
  rw [c8]
  exact wr (V + 2 * p + U + A + D + 1024 * n) (by omega)

end Go.Proofs.Ytcadfblcpfhjfaa.Pte
