/- Scripts, plain: lives, great. No walk. -/
import Derived.Test.YtldoaddeaiappaaRx6
import Derived.KernelRfl
namespace Go.Proofs.Ytldoaddeaiappaa.Hand
set_option linter.unusedVariables false
set_option linter.unusedSimpArgs false
open Go.RowKit Go.Proofs.Ytldoaddeaiappaa.R Go.Proofs.YtldoaddeaiappaaW.PrintWords Go.Proofs.YtldoaddeaiappaaW.PrintLast Go.Proofs.YtldoaddeaiappaaW.PrintMore

theorem bs {α β : Type} {x : Option α} {f : α → Option β} {a : α} (h : x = some a) : x.bind f = f a := by rw [h]; rfl
theorem wrap_id {x : Int} (h : -9223372036854775808 ≤ x) (h2 : x < 9223372036854775808) : wrap64 x = x := by unfold wrap64; omega
theorem wnat (x : Int) (y : Nat) (h : x = (y : Int)) (h2 : y < 9223372036854775808) : wrap64 x = (y : Int) := by rw [h]; exact wrap_id (by omega) (by omega)
theorem w64s (x : Nat) (h : x < 9223372036854775807) : wrap64 ((x : Int) + 1) = ((x + 1 : Nat) : Int) := by unfold wrap64; omega
theorem lives_some (k : Nat) (hk : 60 ≤ k) : gunnylaw39_lives.f k = some true := by
  have h : gunnylaw39_lives.f 60 = some true := by kernel_rfl
  exact at_rounds gunnylaw39_lives.mono hk h
theorem rd39 (xs : List S39) (i : Nat) (h : i < xs.length) : rd_T39 xs (i : Int) = xs[i] := by
  unfold rd_T39
  rw [Int.toNat_natCast, List.getD_eq_getElem?_getD, List.getElem?_eq_getElem h]
  rfl
/-- Whether scripts are more than is gone through. -/
def greatB (n : Nat) (l : List S39) : Bool := (l.take 600).any (fun o => decide (300 < o.f4.length)) || (decide (500 < l.length) || decide (4100 < n))
theorem any_drop (l : List S39) (p : S39 → Bool) (i : Nat) (h : i < l.length) : (l.drop i).any p = (p l[i] || (l.drop (i + 1)).any p) := by
  rw [List.drop_eq_getElem_cons h, List.any_cons]
theorem great_l0 (a0 a1 a2 a3 : Int) (c : List Bool) (l : List S39) : ∀ (d k i : Nat), i + d = (l.take 600).length → 2 * d + 2 ≤ k →
    gunnylaw39_Great.l0 k (i : Int) a0 a1 a2 a3 c l = some (((l.take 600).drop i).any (fun o => decide (300 < o.f4.length)) || (decide (500 < l.length) || decide (4100 < c.length))) := by
  have hfin : ∀ (k i : Nat), gunnylaw39_Great.j1 (k + 1) (i : Int) false a0 a1 a2 a3 c l = some (decide (500 < l.length) || decide (4100 < c.length)) := by
    intro k i
    simp only [gunnylaw39_Great.j1]
    rw [if_neg (by decide)]
    by_cases h5 : 500 < l.length
    · rw [if_pos (by omega), decide_eq_true h5, Bool.true_or]
    · rw [if_neg (by omega), decide_eq_false h5, Bool.false_or]
      congr 1
      rw [decide_eq_decide]
      omega
  intro d
  induction d with
  | zero =>
    intro k i h1 h2
    obtain ⟨k, rfl⟩ : ∃ m, k = m + 2 := ⟨k - 2, by omega⟩
    rw [List.length_take] at h1
    rw [List.drop_eq_nil_of_le (by rw [List.length_take]; omega)]
    simp only [gunnylaw39_Great.l0, List.any_nil, Bool.false_or]
    by_cases hlt : (i : Int) < (l.length : Int)
    · rw [if_pos hlt, decide_eq_false (by omega)]
      exact hfin k i
    · rw [if_neg hlt]
      exact hfin k i
  | succ d ih =>
    intro k i h1 h2
    obtain ⟨k, rfl⟩ : ∃ m, k = m + 2 := ⟨k - 2, by omega⟩
    have hn := ih k (i + 1) (by omega) (by omega)
    have hi : i < (l.take 600).length := by omega
    rw [List.length_take] at hi h1
    rw [any_drop _ _ i (by rw [List.length_take]; omega)]
    have e := rd39 l i (by omega)
    have ex : (l.take 600)[i]'(by rw [List.length_take]; omega) = l[i] := List.getElem_take ..
    rw [ex]
    simp only [gunnylaw39_Great.l0]
    rw [if_pos (by omega), decide_eq_true (by omega)]
    simp only [gunnylaw39_Great.j1]
    rw [if_pos trivial, if_pos (by omega), if_pos (by omega), e]
    by_cases h3 : 300 < l[i].f4.length
    · rw [if_pos (by omega), decide_eq_true h3]
      rfl
    · rw [if_neg (by omega), decide_eq_false h3, Bool.false_or, w64s i (by omega)]
      exact hn
theorem great_some (k : Nat) (a0 a1 a2 a3 : Int) (c : List Bool) (l : List S39) (hk : 1300 ≤ k) : gunnylaw39_Great.f k a0 a1 a2 a3 c l = some (greatB c.length l) := by
  unfold gunnylaw39_Great.f
  have := great_l0 a0 a1 a2 a3 c l (l.take 600).length k 0 (by omega) (by rw [List.length_take]; omega)
  rw [List.drop_zero] at this
  exact this
theorem great_no {n : Nat} {l : List S39} (h : greatB n l = false) : l.length ≤ 500 ∧ n ≤ 4100 ∧ ∀ o ∈ l, o.f4.length ≤ 300 := by
  unfold greatB at h
  simp only [Bool.or_eq_false_iff, decide_eq_false_iff_not, List.any_eq_false, Nat.not_lt] at h
  refine ⟨h.2.1, h.2.2, fun o ho => ?_⟩
  have := h.1 o (by rw [List.take_of_length_le (by omega)]; exact ho)
  simpa using this
theorem Has.eta (o : S39) : (⟨o.f0, o.f1, o.f2, o.f3, o.f4⟩ : S39) = o := rfl

end Go.Proofs.Ytldoaddeaiappaa.Hand
