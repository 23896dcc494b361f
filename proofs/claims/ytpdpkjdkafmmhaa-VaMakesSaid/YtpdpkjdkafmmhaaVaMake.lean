/- What va.Make computes: the address of parts. No program's memory. -/
import Derived.Test.YtpdpkjdkafmmhaaVa
namespace Go.Proofs.Ytpdpkjdkafmmhaa.Va
open Go.RowKit Go.Proofs.Ytpdpkjdkafmmhaa.R Go.Proofs.Ytpdpkjdkafmmhaa.Bits Go.Proofs.Ytpdpkjdkafmmhaa.Num Go.Proofs.YtpdpkjdkafmmhaaW.PrintWords Go.Proofs.YtpdpkjdkafmmhaaW.PrintMore

/-- An offset and the first i parts, put together. -/
def packed (off : Nat) (l : List Int) : Nat → Nat
  | 0 => off
  | i + 1 => packed off l i + (rd l (i : Int)).toNat * 2 ^ (12 + 9 * i)

/-- Is each part an index? -/
def fine (l : List Int) : Prop := ∀ j : Nat, j < l.length → 0 ≤ rd l (j : Int) ∧ rd l (j : Int) < 512

theorem packed_lt (off : Nat) (l : List Int) (ho : off < 4096) (h : fine l) : ∀ i, i ≤ l.length → packed off l i < 2 ^ (12 + 9 * i) := by
  intro i
  induction i with
  | zero => intro _; exact ho
  | succ i ih =>
    intro hi
    have h1 := ih (by omega)
    have h2 := h i (by omega)
    have e : (2 : Nat) ^ (12 + 9 * (i + 1)) = 512 * 2 ^ (12 + 9 * i) := by
      rw [show 12 + 9 * (i + 1) = 9 + (12 + 9 * i) from by omega, Nat.pow_add]
    have h3 : ((rd l (i : Int)).toNat + 1) * 2 ^ (12 + 9 * i) ≤ 512 * 2 ^ (12 + 9 * i) := Nat.mul_le_mul_right _ (by omega)
    rw [Nat.add_mul, Nat.one_mul] at h3
    rw [e]
    show packed off l i + (rd l (i : Int)).toNat * 2 ^ (12 + 9 * i) < _
    omega

theorem make_l0 (off : Nat) (l : List Int) (ho : off < 4096) (h : fine l) (hl : l.length ≤ 4) (d : Nat) : ∀ (k i : Nat), i + d = l.length → d + 1 < k →
    va_Make.l0 k ((packed off l i : Nat) : Int) l (l.length : Int) (i : Int) = some (((sp (packed off l l.length) : Nat) : Int), true) := by
  induction d with
  | zero =>
    intro k i hi hk
    obtain ⟨k, rfl⟩ : ∃ m, k = m + 2 := ⟨k - 2, by omega⟩
    obtain rfl : i = l.length := by omega
    have hp := packed_lt off l ho h _ (Nat.le_refl _)
    have hp2 : (2 : Nat) ^ (12 + 9 * l.length) ≤ 2 ^ 48 := Nat.pow_le_pow_right (by decide) (by omega)
    have hp3 : (2 : Nat) ^ 48 < 18446744073709551616 := by decide
    simp only [va_Make.l0]
    rw [if_neg (by omega), spread_some k _ (by omega)]
    rfl
  | succ d ih =>
    intro k i hi hk
    obtain ⟨k, rfl⟩ : ∃ m, k = m + 2 := ⟨k - 2, by omega⟩
    have hr := h i (by omega)
    have hp := packed_lt off l ho h i (by omega)
    have hp2 : (2 : Nat) ^ (12 + 9 * i) ≤ 2 ^ 48 := Nat.pow_le_pow_right (by decide) (by omega)
    have hp3 : (2 : Nat) ^ 48 < 18446744073709551616 := by decide
    simp only [va_Make.l0]
    rw [if_pos (by omega), if_pos (by omega), if_pos (by omega), if_neg (by omega), if_neg (by omega)]
    have es : num_Set.f (k + 1) ((packed off l i : Nat) : Int) ((12 + 9 * i : Nat) : Int) 9 (((rd l (i : Int)).toNat : Nat) : Int) = some ((packed off l (i + 1) : Nat) : Int) := by
      have hq : packed off l i < 18446744073709551616 := by omega
      have s := set_some k (packed off l i) (12 + 9 * i) 9 (rd l (i : Int)).toNat hq (by omega) (by omega)
      have e5 : min 9 (64 - (12 + 9 * i)) = 9 := by omega
      rw [e5, Nat.div_eq_of_lt hp] at s
      have e6 : (rd l (i : Int)).toNat % 2 ^ 9 = (rd l (i : Int)).toNat := Nat.mod_eq_of_lt (by omega)
      rw [e6] at s
      refine s.trans (congrArg some ?_)
      show _ = ((packed off l i + (rd l (i : Int)).toNat * 2 ^ (12 + 9 * i) : Nat) : Int)
      simp
    have e1 : wrap64 (9 * (i : Int)) = 9 * (i : Int) := by unfold wrap64; omega
    have e2 : wrap64 (12 + 9 * (i : Int)) = ((12 + 9 * i : Nat) : Int) := by unfold wrap64; omega
    have e3 : IntKind.u64.wrap (rd l (i : Int)) = (((rd l (i : Int)).toNat : Nat) : Int) := by rw [u64w]; omega
    have e4 : wrap64 ((i : Int) + 1) = ((i + 1 : Nat) : Int) := by unfold wrap64; omega
    rw [e1, e2, e3, es, e4]
    simp only [Option.bind_some]
    exact ih (k + 1) (i + 1) (by omega) (by omega)

theorem make_some (k off : Nat) (l : List Int) (ho : off < 4096) (h : fine l) (hl : l.length ≤ 4) (hk : 8 ≤ k) : va_Make.f k (off : Int) l = some (((sp (packed off l l.length) : Nat) : Int), true) := by
  obtain ⟨k, rfl⟩ : ∃ m, k = m + 1 := ⟨k - 1, by omega⟩
  unfold va_Make.f
  rw [if_neg (by omega), if_neg (by omega), decide_eq_false (by omega)]
  simp only [va_Make.j0, Bool.false_eq_true, if_false]
  have e : IntKind.u64.wrap (off : Int) = ((packed off l 0 : Nat) : Int) := by rw [u64w]; show _ = (off : Int); omega
  rw [e]
  exact make_l0 off l ho h hl l.length k 0 (by omega) (by omega)

end Go.Proofs.Ytpdpkjdkafmmhaa.Va
