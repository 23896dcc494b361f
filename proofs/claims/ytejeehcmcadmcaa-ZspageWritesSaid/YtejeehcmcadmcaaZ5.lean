/- ZspagePieces, the plain law: byte by byte it is the same. No walk. -/
import Derived.Test.YtejeehcmcadmcaaZ1
namespace Go.Proofs.Ytejeehcmcadmcaa.Hand
set_option linter.unusedVariables false
set_option linter.unusedSimpArgs false
open Go.RowKit Go.Proofs.Ytejeehcmcadmcaa.R Go.Proofs.YtejeehcmcadmcaaW.PrintWords Go.Proofs.YtejeehcmcadmcaaW.PrintLast Go.Proofs.YtejeehcmcadmcaaW.PrintMore

theorem wrap_id {x : Int} (h : -9223372036854775808 ≤ x) (h2 : x < 9223372036854775808) : wrap64 x = x := by unfold wrap64; omega
theorem wnat (x : Int) (y : Nat) (h : x = (y : Int)) (h2 : y < 9223372036854775808) : wrap64 x = (y : Int) := by rw [h]; exact wrap_id (by omega) (by omega)
def mayB (a0 a1 a2 a3 : Int) : Bool := decide (64 ≤ a0 ∧ a0 ≤ 4096 ∧ Int.tmod a0 64 = 0 ∧ 0 ≤ a1 ∧ a1 ≤ 255 ∧ 0 ≤ a2 ∧ 0 ≤ a3 ∧ a2 + a3 ≤ a0)
theorem ite_some {c : Prop} [Decidable c] {a b : Option Bool} {r : Bool} (h1 : c → a = some r) (h2 : ¬ c → b = some r) : (if c then a else b) = some r := by
  by_cases h : c
  · rw [if_pos h, h1 h]
  · rw [if_neg h, h2 h]
theorem may_eq (a0 a1 a2 a3 : Int) (b2 : -9223372036854775808 ≤ a2) (b2' : a2 < 9223372036854775808) : zspage_may.f a0 a1 a2 a3 = some (mayB a0 a1 a2 a3) := by
  unfold zspage_may.f
  refine ite_some (fun h => ?_) (fun h => ?_)
  · unfold mayB; rw [decide_eq_false (by omega)]
  refine ite_some (fun h => ?_) (fun h => ?_)
  · unfold mayB; rw [decide_eq_false (by omega)]
  refine ite_some (fun h => ?_) (fun h => ?_)
  · refine ite_some (fun h => ?_) (fun h => ?_)
    · unfold mayB; rw [decide_eq_false (by omega)]
    refine ite_some (fun h => ?_) (fun h => ?_)
    · unfold mayB; rw [decide_eq_false (by omega)]
    refine ite_some (fun h => ?_) (fun h => ?_)
    · refine ite_some (fun h => ?_) (fun h => ?_)
      · refine ite_some (fun h => ?_) (fun h => ?_)
        · rw [wrap_id (by omega) (by omega)]
          unfold mayB
          rw [decide_eq_decide.2]
          omega
        · unfold mayB; rw [decide_eq_false (by omega)]
      · unfold mayB; rw [decide_eq_false (by omega)]
    · unfold mayB; rw [decide_eq_false (by omega)]
  · unfold mayB; rw [decide_eq_false (by omega)]
theorem May_eq (a0 a1 a2 a3 : Int) : gunnyref16_May.f a0 a1 a2 a3 = some (mayB a0 a1 a2 a3) := by
  unfold gunnyref16_May.f
  repeat' (refine ite_some (fun h => ?_) (fun h => ?_))
  all_goals first | (unfold mayB; rw [decide_eq_false (by omega)]) | (rw [wrap_id (by omega) (by omega)]; unfold mayB; rw [decide_eq_decide.2]; omega)

/-- The pieces, as they are meant. -/
def want (a0 a1 a2 a3 : Int) : List S28 := if mayB a0 a1 a2 a3 then pcs ((a0 * a1 + a2).toNat) a3.toNat else []
theorem pcs_one (a : Nat) : pcs a 1 = [one a 1] := by
  unfold pcs
  rw [if_neg (by omega), if_pos (by omega)]
theorem l0_law (size n from_ many : Nat) (b1 : size ≤ 4096) (b2 : n ≤ 255) (b3 : from_ ≤ 4096) (b4 : many ≤ 4096) :
    ∀ (j i k : Nat), i + j = many → j < k → gunnyref16_Pieces.l0 k (size : Int) (n : Int) (from_ : Int) (many : Int) (pcs (size * n + from_) i) (i : Int) = some (pcs (size * n + from_) many) := by
  have hsn : size * n ≤ 1044480 := Nat.mul_le_mul b1 b2
  have e0 : Aside0 (wrap64 ((size : Int) * (n : Int)) = ((size * n : Nat) : Int)) := ⟨wnat _ _ (Int.natCast_mul _ _).symm (by omega)⟩
  intro j
  induction j with
  | zero =>
    intro i k h1 h2
    obtain rfl : i = many := by omega
    cases k with
    | zero => omega
    | succ k =>
      unfold gunnyref16_Pieces.l0
      rw [if_neg (by omega)]
  | succ j ih =>
    intro i k h1 h2
    cases k with
    | zero => omega
    | succ k =>
      have hi := ih (i + 1) k (by omega) (by omega)
      have e3 : Aside0 (wrap64 ((i : Int) + 1) = ((i + 1 : Nat) : Int)) := ⟨wnat _ _ (by omega) (by omega)⟩
      obtain ⟨a, ha⟩ : ∃ a, a = size * n + from_ := ⟨_, rfl⟩
      rw [← ha] at hi ⊢
      have e1 : Aside0 (wrap64 (((size * n : Nat) : Int) + (from_ : Int)) = (a : Int)) := ⟨wnat _ _ (by omega) (by omega)⟩
      have e2 : Aside0 (wrap64 ((a : Int) + (i : Int)) = ((a + i : Nat) : Int)) := ⟨wnat _ _ (by omega) (by omega)⟩
      have e4 : Aside0 (wrap64 (Int.tdiv ((a + i : Nat) : Int) 4096) = (((a + i) / 4096 : Nat) : Int)) := ⟨wnat _ _ (by rw [Int.tdiv_eq_ediv_of_nonneg (by omega)]; omega) (by omega)⟩
      have e5 : Int.tmod ((a + i : Nat) : Int) 4096 = (((a + i) % 4096 : Nat) : Int) := by rw [Int.tmod_eq_emod_of_nonneg (by omega)]; omega
      unfold gunnyref16_Pieces.l0
      rw [if_pos (by omega), e0.out, e1.out, e2.out, e4.out, e5, e3.out]
      by_cases hi0 : i = 0
      · subst hi0
        have wn : wrap64 ((([] : List S28).length : Int) - 1) = -1 := wrap_id (by decide) (by decide)
        rw [pcs_zero, wn, if_pos (by decide), if_pos (by decide)]
        rw [pcs_one] at hi
        exact hi
      · by_cases c : i ≤ 4096 - a % 4096
        · have hp : pcs a i = [one a i] := by unfold pcs; rw [if_neg hi0, if_pos c]
          rw [hp]
          have w0 : Aside0 (wrap64 ((([one a i] : List S28).length : Int) - 1) = 0) := ⟨wnat _ 0 (by simp) (by decide)⟩
          rw [w0.out, if_neg (by decide), if_pos (by decide), if_pos (by simp)]
          have r0 : rd_T28 [one a i] 0 = one a i := rfl
          rw [r0]
          by_cases c2 : i + 1 ≤ 4096 - a % 4096
          · have q1 : (a + i) / 4096 = a / 4096 := by omega
            rw [if_pos (by rw [q1]; rfl)]
            have hn : pcs a (i + 1) = [one a (i + 1)] := by unfold pcs; rw [if_neg (by omega), if_pos c2]
            rw [hn] at hi
            have hset : ([one a i] : List S28).set (0 : Int).toNat ⟨(one a i).f0, (one a i).f1, wrap64 ((one a i).f2 + 1)⟩ = [one a (i + 1)] := by
              show [_] = [_]
              unfold one
              rw [wnat _ (i + 1) (by simp) (by omega)]
            rw [hset]
            exact hi
          · have q1 : (a + i) / 4096 = a / 4096 + 1 := by omega
            have q2 : (a + i) % 4096 = 0 := by omega
            rw [if_neg (by rw [q1]; unfold one; simp; omega), if_pos (by simp)]
            have hn : pcs a (i + 1) = [one a i, one (a + i) 1] := by
              unfold pcs
              have : 4096 - a % 4096 = i := by omega
              rw [if_neg (by omega), if_neg c2, this]
              rw [show i + 1 - i = 1 by omega]
            rw [hn] at hi
            exact hi
        · obtain ⟨h, hh⟩ : ∃ h, h = 4096 - a % 4096 := ⟨_, rfl⟩
          have hp : pcs a i = [one a h, one (a + h) (i - h)] := by unfold pcs; rw [if_neg hi0, if_neg c, hh]
          have hn : pcs a (i + 1) = [one a h, one (a + h) (i + 1 - h)] := by unfold pcs; rw [if_neg (by omega), if_neg (by omega), hh]
          rw [hp]
          rw [hn] at hi
          have w0 : Aside0 (wrap64 ((([one a h, one (a + h) (i - h)] : List S28).length : Int) - 1) = 1) := ⟨wnat _ 1 (by simp) (by decide)⟩
          rw [w0.out, if_neg (by decide), if_pos (by decide), if_pos (by simp)]
          have r0 : rd_T28 [one a h, one (a + h) (i - h)] 1 = one (a + h) (i - h) := rfl
          rw [r0]
          have q1 : (a + i) / 4096 = (a + h) / 4096 := by omega
          rw [if_pos (by rw [q1]; rfl)]
          have hset : ([one a h, one (a + h) (i - h)] : List S28).set (1 : Int).toNat ⟨(one (a + h) (i - h)).f0, (one (a + h) (i - h)).f1, wrap64 ((one (a + h) (i - h)).f2 + 1)⟩ = [one a h, one (a + h) (i + 1 - h)] := by
            show [_, _] = [_, _]
            have : wrap64 ((one (a + h) (i - h)).f2 + 1) = ((i + 1 - h : Nat) : Int) := by
              unfold one
              exact wnat _ _ (by simp; omega) (by omega)
            rw [this]
            rfl
          rw [hset]
          exact hi
theorem ref_law (a0 a1 a2 a3 : Int) : gunnyref16_Pieces.f 5000 a0 a1 a2 a3 = some (want a0 a1 a2 a3) := by
  unfold gunnyref16_Pieces.f want
  rw [May_eq, Option.bind_some]
  cases hm : mayB a0 a1 a2 a3 with
  | false => rfl
  | true =>
    have h := of_decide_eq_true hm
    rw [if_pos rfl, if_pos rfl]
    obtain ⟨s, rfl⟩ : ∃ s : Nat, a0 = (s : Int) := ⟨a0.toNat, by omega⟩
    obtain ⟨n, rfl⟩ : ∃ s : Nat, a1 = (s : Int) := ⟨a1.toNat, by omega⟩
    obtain ⟨f, rfl⟩ : ∃ s : Nat, a2 = (s : Int) := ⟨a2.toNat, by omega⟩
    obtain ⟨m, rfl⟩ : ∃ s : Nat, a3 = (s : Int) := ⟨a3.toNat, by omega⟩
    have := l0_law s n f m (by omega) (by omega) (by omega) (by omega) m 0 5000 (by omega) (by omega)
    rw [pcs_zero] at this
    rw [show ((s : Int) * (n : Int) + (f : Int)).toNat = s * n + f by rw [← Int.natCast_mul]; omega, Int.toNat_natCast]
    exact this

end Go.Proofs.Ytejeehcmcadmcaa.Hand
