/- What gunnyref01.Bit computes: is a bit 1? No program's memory. -/
import Derived.Test.YtcadfblcpfhjfaaBits
import Derived.Test.YtcadfblcpfhjfaaRx5
namespace Go.Proofs.Ytcadfblcpfhjfaa.RefBit
open Go.RowKit Go.Proofs.Ytcadfblcpfhjfaa.R Go.Proofs.Ytcadfblcpfhjfaa.Bits Go.Proofs.YtcadfblcpfhjfaaW.PrintWords Go.Proofs.YtcadfblcpfhjfaaW.PrintMore

theorem rbit_l0 (p : Nat) (hp : p < 64) (d : Nat) : ∀ (k a i : Nat), a < 18446744073709551616 → i ≤ p → p - i = d → d < k → gunnyref01_Bit.l0 k (a : Int) (p : Int) (i : Int) = some (a / 2 ^ d % 2 == 1) := by
  induction d with
  | zero =>
    intro k a i ha hi hd hk
    obtain ⟨k, rfl⟩ : ∃ m, k = m + 1 := ⟨k - 1, by omega⟩
    simp only [gunnyref01_Bit.l0]
    rw [if_neg (by omega), Int.tmod_eq_emod_of_nonneg (by omega)]
    congr 1
    rw [Bool.eq_iff_iff, beq_iff_eq, beq_iff_eq]
    omega
  | succ d ih =>
    intro k a i ha hi hd hk
    obtain ⟨k, rfl⟩ : ∃ m, k = m + 1 := ⟨k - 1, by omega⟩
    simp only [gunnyref01_Bit.l0]
    rw [if_pos (by omega), Int.tdiv_eq_ediv_of_nonneg (by omega), u64w]
    have e1 : (a : Int) / 2 % 18446744073709551616 = ((a / 2 : Nat) : Int) := by omega
    have e2 : wrap64 ((i : Int) + 1) = ((i + 1 : Nat) : Int) := by unfold wrap64; omega
    rw [e1, e2, ih k (a / 2) (i + 1) (by omega) (by omega) (by omega) (by omega), Nat.div_div_eq_div_mul, Nat.pow_succ, Nat.mul_comm 2]

theorem rbit (k a p : Nat) (ha : a < 18446744073709551616) (hp : p < 64) (hk : 65 < k) : gunnyref01_Bit.f k (a : Int) (p : Int) = some (a / 2 ^ p % 2 == 1) := by
  obtain ⟨k, rfl⟩ : ∃ m, k = m + 1 := ⟨k - 1, by omega⟩
  unfold gunnyref01_Bit.f
  rw [if_neg (by omega), decide_eq_false (by omega)]
  simp only [gunnyref01_Bit.j0, Bool.false_eq_true, if_false]
  exact rbit_l0 p hp p k a 0 ha (by omega) (by omega) (by omega)

end Go.Proofs.Ytcadfblcpfhjfaa.RefBit
