/- NumParts: the same words, bit by bit; the law, walked. -/
import Derived.Test.YtioabejegjhapaaNP2
namespace Go.Proofs.Ytioabejegjhapaa.NP
set_option linter.unusedVariables false
set_option linter.unusedSimpArgs false
open Go.RowKit Go.Proofs.Ytioabejegjhapaa.R Go.Proofs.Ytioabejegjhapaa.Bits Go.Proofs.Ytioabejegjhapaa.Num Go.Proofs.Ytioabejegjhapaa.RefBit Go.Proofs.Ytioabejegjhapaa.Hand Go.Proofs.YtioabejegjhapaaW.PrintWords Go.Proofs.YtioabejegjhapaaW.PrintLast Go.Proofs.YtioabejegjhapaaW.PrintMore

theorem sv_bit (x y : Nat) (at_ wide : Int) (j : Nat) : (ofB (setB x y at_ wide 64)).testBit j = if j < 64 then (if inP at_ wide j = true then y.testBit ((j : Int) - at_).toNat else x.testBit j) else false := by
  rw [ofB_bit, List.getD_eq_getElem?_getD, setB_get]
  by_cases h : j < 64
  · rw [if_pos h, if_pos h, decide_eq_true h]; simp
  · rw [if_neg h, if_neg h]; rfl
theorem cv_bit (x : Nat) (at_ wide : Int) (j : Nat) : (ofB (cutB x at_ wide 64)).testBit j = if j < 64 then (decide ((j : Int) + at_ < 64) && inP at_ wide ((j : Int) + at_).toNat && x.testBit ((j : Int) + at_).toNat) else false := by
  rw [ofB_bit, List.getD_eq_getElem?_getD, cutB_get]
  by_cases h : j < 64
  · rw [if_pos h, if_pos h]; rfl
  · rw [if_neg h, if_neg h]; rfl
theorem high (x j : Nat) (hx : x < 18446744073709551616) (h : ¬ j < 64) : x.testBit j = false :=
  Nat.testBit_lt_two_pow (Nat.lt_of_lt_of_le hx (show 2 ^ 64 ≤ 2 ^ j from Nat.pow_le_pow_right (by decide) (by omega)))
def bad (at_ wide : Int) : Prop := at_ < 0 ∨ 64 ≤ at_ ∨ wide < 1
theorem inP_bad {at_ wide : Int} (h : bad at_ wide) (j : Nat) : inP at_ wide j = false := by
  unfold inP; unfold bad at h; exact decide_eq_false (by omega)
theorem sv_bad (x y : Nat) (hx : x < 18446744073709551616) {at_ wide : Int} (h : bad at_ wide) : ofB (setB x y at_ wide 64) = x := by
  apply Nat.eq_of_testBit_eq
  intro j
  rw [sv_bit, inP_bad h]
  by_cases hj : j < 64
  · rw [if_pos hj]; rfl
  · rw [if_neg hj, high x j hx hj]
theorem cv_bad (x : Nat) {at_ wide : Int} (h : bad at_ wide) : ofB (cutB x at_ wide 64) = 0 := by
  apply Nat.eq_of_testBit_eq
  intro j
  rw [cv_bit, inP_bad h]
  simp
theorem inP_good (p W j : Nat) (hp : p < 64) (hW : 1 ≤ W) (hj : j < 64) : inP (p : Int) (W : Int) j = (decide (p ≤ j) && decide (j - p < min W (64 - p))) := by
  unfold inP
  rw [Bool.eq_iff_iff, decide_eq_true_iff, Bool.and_eq_true, decide_eq_true_iff, decide_eq_true_iff]
  omega
theorem max_bit (q : Nat) (h : q < 64) : (18446744073709551615 : Nat).testBit q = true := by
  have : (18446744073709551615 : Nat) = 2 ^ 64 - 1 := by decide +kernel
  rw [this, Nat.testBit_two_pow_sub_one]
  exact decide_eq_true h

theorem mask_eq (at_ wide : Int) : num_Mask.f 100 at_ wide = some ((ofB (setB 0 18446744073709551615 at_ wide 64) : Nat) : Int) := by
  by_cases h : bad at_ wide
  · rw [sv_bad 0 _ (by omega) h]; exact mask_none 99 at_ wide h
  · unfold bad at h
    obtain ⟨p, rfl⟩ : ∃ p : Nat, at_ = (p : Int) := ⟨at_.toNat, by omega⟩
    obtain ⟨W, rfl⟩ : ∃ W : Nat, wide = (W : Int) := ⟨wide.toNat, by omega⟩
    rw [mask_some 99 p W (by omega) (by omega)]
    refine congrArg some (congrArg Nat.cast ?_)
    apply Nat.eq_of_testBit_eq
    intro j
    rw [mask_bit, sv_bit]
    by_cases hj : j < 64
    · rw [if_pos hj, inP_good p W j (by omega) (by omega) hj]
      by_cases hin : (decide (p ≤ j) && decide (j - p < min W (64 - p))) = true
      · rw [if_pos hin, hin, max_bit _ (by omega)]
      · rw [if_neg hin, Nat.zero_testBit]; rw [Bool.not_eq_true] at hin; exact hin
    · rw [if_neg hj, Bool.and_eq_false_iff]
      right
      exact decide_eq_false (by omega)
theorem cut_eq (x : Nat) (hx : x < 18446744073709551616) (at_ wide : Int) : num_Cut.f 100 (x : Int) at_ wide = some ((ofB (cutB x at_ wide 64) : Nat) : Int) := by
  by_cases h : bad at_ wide
  · rw [cv_bad x h]; exact cut_none 99 _ at_ wide h
  · unfold bad at h
    obtain ⟨p, rfl⟩ : ∃ p : Nat, at_ = (p : Int) := ⟨at_.toNat, by omega⟩
    obtain ⟨W, rfl⟩ : ∃ W : Nat, wide = (W : Int) := ⟨wide.toNat, by omega⟩
    rw [cut_some 99 x p W hx (by omega) (by omega)]
    refine congrArg some (congrArg Nat.cast ?_)
    apply Nat.eq_of_testBit_eq
    intro j
    rw [Nat.testBit_mod_two_pow, Nat.testBit_div_two_pow, cv_bit]
    have ej : ((j : Int) + (p : Int)).toNat = j + p := by omega
    by_cases hj : j < 64
    · rw [if_pos hj, ej]
      by_cases hjp : j + p < 64
      · rw [inP_good p W (j + p) (by omega) (by omega) hjp, decide_eq_true (show (j : Int) + (p : Int) < 64 by omega)]
        have e1 : decide (p ≤ j + p) = true := decide_eq_true (by omega)
        have e2 : j + p - p = j := by omega
        rw [e1, e2, Bool.true_and, Bool.true_and]
      · rw [decide_eq_false (show ¬ ((j : Int) + (p : Int) < 64) by omega), decide_eq_false (show ¬ (j < min W (64 - p)) by omega)]
        simp
    · rw [if_neg hj, decide_eq_false (show ¬ (j < min W (64 - p)) by omega)]
      simp
theorem set_eq (x : Nat) (hx : x < 18446744073709551616) (at_ wide : Int) (y : Nat) (hy : y < 18446744073709551616) : num_Set.f 100 (x : Int) at_ wide (y : Int) = some ((ofB (setB x y at_ wide 64) : Nat) : Int) := by
  by_cases h : bad at_ wide
  · rw [sv_bad x y hx h]; exact set_none 99 _ at_ wide _ h
  · unfold bad at h
    obtain ⟨p, rfl⟩ : ∃ p : Nat, at_ = (p : Int) := ⟨at_.toNat, by omega⟩
    obtain ⟨W, rfl⟩ : ∃ W : Nat, wide = (W : Int) := ⟨wide.toNat, by omega⟩
    have hm := mask_pos p (min W (64 - p)) (by omega)
    have hlt := mask_lt p (min W (64 - p)) (by omega)
    have e : num_Set.f 100 (x : Int) (p : Int) (W : Int) (y : Int) = some (((x &&& (18446744073709551615 - (2 ^ (min W (64 - p)) - 1) * 2 ^ p)) ||| (y * 2 ^ p % 18446744073709551616 &&& (2 ^ (min W (64 - p)) - 1) * 2 ^ p) : Nat) : Int) := by
      unfold num_Set.f
      rw [mask_some 99 p W (by omega) (by omega)]
      simp only [Option.bind_some]
      rw [if_neg (by omega), if_pos (by omega), shl_nat _ _ (by omega), u64_andNot_nat x _ hx hlt, u64_and_nat _ _ (Nat.mod_lt _ (by decide)) hlt,
        u64_or_nat _ _ (Nat.lt_of_le_of_lt Nat.and_le_left hx) (Nat.lt_of_le_of_lt Nat.and_le_right hlt)]
    rw [e]
    refine congrArg some (congrArg Nat.cast ?_)
    apply Nat.eq_of_testBit_eq
    intro j
    have e1 : 18446744073709551615 - (2 ^ (min W (64 - p)) - 1) * 2 ^ p = 2 ^ 64 - ((2 ^ (min W (64 - p)) - 1) * 2 ^ p + 1) := by omega
    have e2 : y * 2 ^ p % 18446744073709551616 = y * 2 ^ p % 2 ^ 64 := rfl
    rw [Nat.testBit_or, Nat.testBit_and, Nat.testBit_and, e1, Nat.testBit_two_pow_sub_succ hlt, e2, Nat.testBit_mod_two_pow, mask_bit, Nat.testBit_mul_two_pow, sv_bit]
    clear e e1 e2
    by_cases hj : j < 64
    · rw [if_pos hj, inP_good p W j (by omega) (by omega) hj, decide_eq_true hj]
      have ej : ((j : Int) - (p : Int)).toNat = j - p := by omega
      rw [ej]
      by_cases h1 : p ≤ j
      · by_cases h2 : j - p < min W (64 - p)
        · rw [decide_eq_true h1, decide_eq_true h2]; simp
        · rw [decide_eq_true h1, decide_eq_false h2]; simp
      · rw [decide_eq_false h1]; simp
    · rw [if_neg hj, high x j hx hj, decide_eq_false hj]; simp
theorem bit_eq (x : Nat) (hx : x < 18446744073709551616) (at_ : Int) : ∃ b, num_Bit.f 100 (x : Int) at_ = some b ∧ gunnyref01_Bit.f 100 (x : Int) at_ = some b := by
  by_cases h : 0 ≤ at_ ∧ at_ < 64
  · obtain ⟨p, rfl⟩ : ∃ p : Nat, at_ = (p : Int) := ⟨at_.toNat, by omega⟩
    exact ⟨_, bit_some 99 x p hx (by omega), rbit 100 x p hx (by omega) (by omega)⟩
  · refine ⟨false, ?_, ?_⟩
    · unfold num_Bit.f
      rw [cut_none 99 _ at_ 1 (by omega)]
      rfl
    · have t : gunnyref01_Bit.j0 100 (x : Int) at_ true = some false := by simp only [gunnyref01_Bit.j0, if_true]
      unfold gunnyref01_Bit.f
      by_cases h1 : at_ < 0
      · rw [if_pos h1, t]
      · rw [if_neg h1, decide_eq_true (by omega), t]
theorem lives100 : gunnylaw01_lives.f 100 = some true := by decide +kernel

set_option maxHeartbeats 8000000 in
set_option maxRecDepth 100000 in
theorem parts_calls (x : Nat) (hx : x < 18446744073709551616) (at_ wide : Int) (y : Nat) (hy : y < 18446744073709551616) (w : World) :
    Calls Try.prog 4 #[.int .u64 (x : Int), .agg #[.int .i64 at_, .int .i64 wide], .int .u64 (y : Int)] w fun e w' => e = .returned (.bool true) ∧ Below w.heap.size w w' := by
  obtain ⟨b, hb1, hb2⟩ := bit_eq x hx at_
  have M1 := fun W => num_Mask.calls 100 at_ wide _ W (mask_eq at_ wide)
  have S0 : ∀ W, Calls Try.prog 11 #[.int .u64 0, .int .i64 at_, .int .i64 wide, .int .u64 18446744073709551615] W fun e w' => e = .returned (.int .u64 ((ofB (setB 0 18446744073709551615 at_ wide 64) : Nat) : Int)) ∧ Below W.heap.size W w' := fun W => rset_calls 0 (by omega) at_ wide 18446744073709551615 (by omega) W
  have C1 := fun W => num_Cut.calls 100 (x : Int) at_ wide _ W (cut_eq x hx at_ wide)
  have C2 := fun W => rcut_calls x hx at_ wide W
  have S1 := fun W => num_Set.calls 100 (x : Int) at_ wide (y : Int) _ W (set_eq x hx at_ wide y hy)
  have S2 := fun W => rset_calls x hx at_ wide y hy W
  have B1 := fun W => num_Bit.calls 100 (x : Int) at_ b W hb1
  have B2 := fun W => gunnyref01_Bit.calls 100 (x : Int) at_ b W hb2
  have HL := fun W => gunnylaw01_lives.calls 100 true W lives100
  obtain ⟨v0, e0⟩ : ∃ v : Int, ((ofB (setB 0 18446744073709551615 at_ wide 64) : Nat) : Int) = v := ⟨_, rfl⟩
  obtain ⟨v1, e1⟩ : ∃ v : Int, ((ofB (cutB x at_ wide 64) : Nat) : Int) = v := ⟨_, rfl⟩
  obtain ⟨v2, e2⟩ : ∃ v : Int, ((ofB (setB x y at_ wide 64) : Nat) : Int) = v := ⟨_, rfl⟩
  simp only [e0] at M1 S0
  simp only [e1] at C1 C2
  simp only [e2] at S1 S2
  replace M1 := Aside0.mk M1
  replace S0 := Aside0.mk S0
  replace C1 := Aside0.mk C1
  replace C2 := Aside0.mk C2
  replace S1 := Aside0.mk S1
  replace S2 := Aside0.mk S2
  replace B1 := Aside0.mk B1
  replace B2 := Aside0.mk B2
  replace HL := Aside0.mk HL
  clear hb1 hb2 e0 e1 e2 hx hy
  go_enter Try.func4, Try.ntmps4
  go_wp2_with fail
  repeat (go_quiet (fail); try go_wp2_with fail)
  go_wp2_with (first | (go_at_call 10; refine (M1.out _).mono ?_; rintro e w1 ⟨rfl, ⟨n1, rfl⟩⟩) | (go_at_call 11; with_reducible refine (S0.out _).mono ?_; rintro e w2 ⟨rfl, b2⟩; replace b2 := Aside0.mk b2) | (go_at_call 12; refine (C1.out _).mono ?_; rintro e w3 ⟨rfl, ⟨n3, rfl⟩⟩) | (go_at_call 13; refine (C2.out _).mono ?_; rintro e w4 ⟨rfl, b4⟩; replace b4 := Aside0.mk b4) | (go_at_call 14; refine (S1.out _).mono ?_; rintro e w5 ⟨rfl, ⟨n5, rfl⟩⟩) | (go_at_call 11; refine (S2.out _).mono ?_; rintro e w6 ⟨rfl, b6⟩; replace b6 := Aside0.mk b6) | (go_at_call 15; refine (B1.out _).mono ?_; rintro e w7 ⟨rfl, ⟨n7, rfl⟩⟩) | (go_at_call 16; refine (B2.out _).mono ?_; rintro e w8 ⟨rfl, ⟨n8, rfl⟩⟩) | (go_at_call 9; refine (HL.out _).mono ?_; rintro e w9 ⟨rfl, b9⟩; replace b9 := Aside0.mk b9))
  go_returns
  refine ⟨rfl, ?_⟩
  repeat (with_reducible first | exact Below.refl _ _ | refine below_step ?_ b9.out | refine below_step ?_ b6.out | refine below_step ?_ b4.out | refine below_step ?_ b2.out | refine pw_below_drewN ?_ _ | refine below_alloc ?_ _)

theorem parts_walk (W : World) (a : Int) (wa : (Lit.int .u64 a).wf = true) (xs : List Int) (hl : xs.length = 2) (hR : ∀ x ∈ xs, (Lit.int .i64 x).wf = true) (n : Int) (wn : (Lit.int .u64 n).wf = true) :
    Calls Try.prog 4 #[.int .u64 a, .agg (xs.map (Value.int .i64)).toArray, .int .u64 n] W fun e w' => e = .returned (.bool true) ∧ Below W.heap.size W w' := by
  have ha := bounds_u64 wa
  have hn := bounds_u64 wn
  obtain ⟨x, rfl⟩ : ∃ x : Nat, a = (x : Int) := ⟨a.toNat, by omega⟩
  obtain ⟨y, rfl⟩ : ∃ x : Nat, n = (x : Int) := ⟨n.toNat, by omega⟩
  match xs, hl with
  | [p, q], _ => exact parts_calls x (by omega) p q y (by omega) W

end Go.Proofs.Ytioabejegjhapaa.NP
