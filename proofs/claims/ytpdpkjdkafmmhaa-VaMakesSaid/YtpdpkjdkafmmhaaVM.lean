/- VaMakes, walked: gunnyref30.Make (an array by value), and the law, over va.Make's contract. -/
import Derived.Test.YtpdpkjdkafmmhaaVaMake
import Derived.Test.YtpdpkjdkafmmhaaFar
import Derived.Test.YtpdpkjdkafmmhaaOpens
import Derived.Handy
import Derived.OpenShut
namespace Go.Proofs.Ytpdpkjdkafmmhaa.VM
set_option linter.unusedVariables false
set_option linter.unusedSimpArgs false
open Go.RowKit Go.Proofs.Ytpdpkjdkafmmhaa.R Go.Proofs.Ytpdpkjdkafmmhaa.Bits Go.Proofs.Ytpdpkjdkafmmhaa.Num Go.Proofs.Ytpdpkjdkafmmhaa.Va Go.Proofs.Ytpdpkjdkafmmhaa.Hand Go.Proofs.YtpdpkjdkafmmhaaW.PrintWords Go.Proofs.YtpdpkjdkafmmhaaW.PrintLast Go.Proofs.YtpdpkjdkafmmhaaW.PrintMore

theorem lives99 : gunnylaw30_lives.f 99 = some true := by decide +kernel

theorem bad_l0 (off : Nat) (l : List Int) (ho : off < 4096) (hl : l.length ≤ 4) (d : Nat) : ∀ (k i : Nat), i + d = l.length → d + 2 < k → (∀ j : Nat, j < i → 0 ≤ rd l (j : Int) ∧ rd l (j : Int) < 512) → (∃ j : Nat, i ≤ j ∧ j < l.length ∧ ¬ (0 ≤ rd l (j : Int) ∧ rd l (j : Int) < 512)) →
    ∀ x : Nat, x < 2 ^ (12 + 9 * i) → va_Make.l0 k (x : Int) l (l.length : Int) (i : Int) = some (0, false) := by
  induction d with
  | zero =>
    intro k i hi hk _ ⟨j, h1, h2, _⟩
    omega
  | succ d ih =>
    intro k i hi hk hpre ⟨j, h1, h2, h3⟩ x hx
    obtain ⟨k, rfl⟩ : ∃ m, k = m + 2 := ⟨k - 2, by omega⟩
    obtain ⟨q, hq⟩ : ∃ q, q = k + 1 := ⟨_, rfl⟩
    rw [show k + 2 = q + 1 by omega]
    simp only [va_Make.l0]
    rw [if_pos (by omega), if_pos (by omega), if_pos (by omega)]
    by_cases hn : rd l (i : Int) < 0
    · rw [if_pos hn]
    rw [if_neg hn]
    by_cases hg : rd l (i : Int) ≥ 512
    · rw [if_pos hg]
    rw [if_neg hg]
    have hne : j ≠ i := by
      rintro rfl
      exact h3 ⟨by omega, by omega⟩
    have hp2 : (2 : Nat) ^ (12 + 9 * i) ≤ 2 ^ 48 := Nat.pow_le_pow_right (by decide) (by omega)
    have hp3 : (2 : Nat) ^ 48 < 18446744073709551616 := by decide
    have e5 : min 9 (64 - (12 + 9 * i)) = 9 := by omega
    have s := set_some k x (12 + 9 * i) 9 (rd l (i : Int)).toNat (by omega) (by omega) (by omega)
    rw [e5, Nat.div_eq_of_lt hx] at s
    have e6 : (rd l (i : Int)).toNat % 2 ^ 9 = (rd l (i : Int)).toNat := Nat.mod_eq_of_lt (by omega)
    rw [e6] at s
    have s2 : num_Set.f q (x : Int) ((12 + 9 * i : Nat) : Int) 9 (((rd l (i : Int)).toNat : Nat) : Int) = some ((x + (rd l (i : Int)).toNat * 2 ^ (12 + 9 * i) : Nat) : Int) := by
      rw [hq]
      refine s.trans (congrArg some ?_)
      simp
    have hx2 : x + (rd l (i : Int)).toNat * 2 ^ (12 + 9 * i) < 2 ^ (12 + 9 * (i + 1)) := by
      have e : (2 : Nat) ^ (12 + 9 * (i + 1)) = 512 * 2 ^ (12 + 9 * i) := by
        rw [show 12 + 9 * (i + 1) = 9 + (12 + 9 * i) from by omega, Nat.pow_add]
      have h3 : ((rd l (i : Int)).toNat + 1) * 2 ^ (12 + 9 * i) ≤ 512 * 2 ^ (12 + 9 * i) := Nat.mul_le_mul_right _ (by omega)
      rw [Nat.add_mul, Nat.one_mul] at h3
      rw [e]
      omega
    have r := ih q (i + 1) (by omega) (by omega) (fun j' hj' => by
      by_cases h : j' = i
      · subst h; omega
      · exact hpre j' (by omega)) ⟨j, by omega, h2, h3⟩ _ hx2
    have e1 : wrap64 (9 * (i : Int)) = 9 * (i : Int) := by clear s s2 r; unfold wrap64; omega
    have e2 : wrap64 (12 + 9 * (i : Int)) = ((12 + 9 * i : Nat) : Int) := by clear s s2 r e1; unfold wrap64; omega
    have e3 : IntKind.u64.wrap (rd l (i : Int)) = (((rd l (i : Int)).toNat : Nat) : Int) := by clear s s2 r e1 e2; rw [u64w]; omega
    have e4 : wrap64 ((i : Int) + 1) = ((i + 1 : Nat) : Int) := by clear s s2 r e1 e2 e3; unfold wrap64; omega
    rw [e1, e2, e3, s2, e4]
    exact r

def mayM (off : Int) (l : List Int) : Prop := 0 ≤ off ∧ off < 4096 ∧ l.length ≤ 4 ∧ fine l
theorem make_none (off : Int) (l : List Int) (h : ¬ mayM off l) : va_Make.f 40 off l = some (0, false) := by
  have t : ∀ x, va_Make.j0 40 x l true = some (0, false) := by intro x; simp only [va_Make.j0, if_true]
  unfold va_Make.f
  by_cases h0 : off < 0
  · rw [if_pos h0, t]
  rw [if_neg h0]
  by_cases h1 : off ≥ 4096
  · rw [if_pos h1, t]
  rw [if_neg h1]
  by_cases h2 : (l.length : Int) > 4
  · rw [decide_eq_true h2, t]
  rw [decide_eq_false h2]
  obtain ⟨o, rfl⟩ : ∃ o : Nat, off = (o : Int) := ⟨off.toNat, by omega⟩
  have hex : ∃ j : Nat, 0 ≤ j ∧ j < l.length ∧ ¬ (0 ≤ rd l (j : Int) ∧ rd l (j : Int) < 512) := by
    refine Classical.byContradiction fun hne => h ⟨by omega, by omega, by omega, fun j hj => ?_⟩
    exact Classical.byContradiction fun hn => hne ⟨j, Nat.zero_le _, hj, hn⟩
  simp only [va_Make.j0, Bool.false_eq_true, if_false]
  have e : IntKind.u64.wrap (o : Int) = (o : Int) := by rw [u64w]; omega
  rw [e]
  exact bad_l0 o l (by omega) (by omega) l.length 39 0 (by omega) (by omega) (fun j hj => absurd hj (Nat.not_lt_zero j)) hex o (by show o < 4096; omega)

/-- Four parts as a number; the last ones first. -/
def pa (a b c d : Nat) : Nat → Nat
  | 0 => 0
  | 1 => d
  | 2 => 512 * d + c
  | 3 => 512 * (512 * d + c) + b
  | _ => 512 * (512 * (512 * d + c) + b) + a

theorem up_some (x : Nat) (h : x < 18446744073709551616) : gunnyref30_Up.f (x : Int) = some ((sp x : Nat) : Int) := by
  unfold gunnyref30_Up.f
  have e : Int.tmod (x : Int) 281474976710656 = ((x % 281474976710656 : Nat) : Int) := by rw [Int.tmod_eq_emod_of_nonneg (by omega)]; rfl
  rw [e]
  unfold sp
  by_cases h1 : ((x % 281474976710656 : Nat) : Int) ≥ 140737488355328
  · rw [if_pos h1]
    clear e
    have e2 : IntKind.u64.wrap (((x % 281474976710656 : Nat) : Int) + 18446462598732840960) = ((x % 281474976710656 + 18446462598732840960 : Nat) : Int) := by rw [u64w]; omega
    rw [e2]
    refine congrArg some (congrArg Nat.cast ?_)
    clear e2
    split <;> omega
  · rw [if_neg h1]
    refine congrArg some (congrArg Nat.cast ?_)
    clear e
    split <;> omega

end Go.Proofs.Ytpdpkjdkafmmhaa.VM
