/- Ops' fields and bytes, whether scripts may be, plain. -/
import Derived.Test.YtldoaddeaiappaaS5
namespace Go.Proofs.Ytldoaddeaiappaa.Hand
set_option linter.unusedVariables false
set_option linter.unusedSimpArgs false
open Go.RowKit Go.Proofs.Ytldoaddeaiappaa.R Go.Proofs.Ytldoaddeaiappaa.Bits Go.Proofs.YtldoaddeaiappaaW.PrintWords Go.Proofs.YtldoaddeaiappaaW.PrintLast Go.Proofs.YtldoaddeaiappaaW.PrintMore

/-- Which fields a kind has. -/
def hasK (a : Int) : Bool × Bool × Bool × Bool :=
  if a = 0 then (true, true, false, false) else if a = 2 then (true, true, false, false) else if a = 1 then (false, true, false, false) else if a = 3 then (false, true, true, false) else if a = 5 then (false, true, true, false)
  else if a = 6 then (false, false, true, false) else if a = 8 then (false, false, true, false) else if a = 10 then (false, false, true, false) else if a = 4 then (false, true, false, true) else (false, false, false, false)
theorem fields_some (k : Nat) (a : Int) (hk : 4 ≤ k) : script_fields.f k a = some (hasK a) := by
  obtain ⟨k, rfl⟩ : ∃ m, k = m + 4 := ⟨k - 4, by omega⟩
  by_cases h0 : a = 0
  · subst h0; simp [script_fields.f, script_fields.j0, hasK]
  by_cases h2 : a = 2
  · subst h2; simp [script_fields.f, script_fields.j0, hasK]
  by_cases h1 : a = 1
  · subst h1; simp [script_fields.f, script_fields.j0, hasK]
  by_cases h3 : a = 3
  · subst h3; simp [script_fields.f, script_fields.j0, script_fields.j1, hasK]
  by_cases h5 : a = 5
  · subst h5; simp [script_fields.f, script_fields.j0, script_fields.j1, hasK]
  by_cases h6 : a = 6
  · subst h6; simp [script_fields.f, script_fields.j0, script_fields.j1, script_fields.j2, hasK]
  by_cases h8 : a = 8
  · subst h8; simp [script_fields.f, script_fields.j0, script_fields.j1, script_fields.j2, hasK]
  by_cases h10 : a = 10
  · subst h10; simp [script_fields.f, script_fields.j0, script_fields.j1, script_fields.j2, hasK]
  by_cases h4 : a = 4
  · subst h4; simp [script_fields.f, script_fields.j0, script_fields.j1, script_fields.j2, hasK]
  simp [script_fields.f, script_fields.j0, script_fields.j1, script_fields.j2, hasK, h0, h1, h2, h3, h4, h5, h6, h8, h10]
theorem Has_some (k : Nat) (a : Int) (hk : 4 ≤ k) : gunnyref39_Has.f k a = some (hasK a) := by
  obtain ⟨k, rfl⟩ : ∃ m, k = m + 4 := ⟨k - 4, by omega⟩
  by_cases h0 : a = 0
  · subst h0; simp [gunnyref39_Has.f, gunnyref39_Has.j0, hasK]
  by_cases h2 : a = 2
  · subst h2; simp [gunnyref39_Has.f, gunnyref39_Has.j0, hasK]
  by_cases h1 : a = 1
  · subst h1; simp [gunnyref39_Has.f, gunnyref39_Has.j0, hasK]
  by_cases h3 : a = 3
  · subst h3; simp [gunnyref39_Has.f, gunnyref39_Has.j0, gunnyref39_Has.j1, hasK]
  by_cases h5 : a = 5
  · subst h5; simp [gunnyref39_Has.f, gunnyref39_Has.j0, gunnyref39_Has.j1, hasK]
  by_cases h6 : a = 6
  · subst h6; simp [gunnyref39_Has.f, gunnyref39_Has.j0, gunnyref39_Has.j1, hasK]
  by_cases h8 : a = 8
  · subst h8; simp [gunnyref39_Has.f, gunnyref39_Has.j0, gunnyref39_Has.j1, hasK]
  by_cases h10 : a = 10
  · subst h10; simp [gunnyref39_Has.f, gunnyref39_Has.j0, gunnyref39_Has.j1, hasK]
  by_cases h4 : a = 4
  · subst h4; simp [gunnyref39_Has.f, gunnyref39_Has.j0, gunnyref39_Has.j1, hasK]
  simp [gunnyref39_Has.f, gunnyref39_Has.j0, gunnyref39_Has.j1, hasK, h0, h1, h2, h3, h4, h5, h6, h8, h10]
/-- A byte's number, or 0, if there is none. -/
def wB (n : Int) (is : Bool) : Bool := if is then decide (0 ≤ n ∧ n ≤ 255) else decide (n = 0)
theorem within_some (n : Int) (is : Bool) : script_within.f n is = some (wB n is) := by
  unfold script_within.f wB
  cases is with
  | true =>
    rw [if_pos rfl, if_pos rfl]
    by_cases h : n ≥ 0
    · rw [if_pos h]; congr 1; rw [decide_eq_decide]; omega
    · rw [if_neg h, decide_eq_false (by omega)]
  | false =>
    rw [if_neg (by decide), if_neg (by decide)]
    by_cases h : n = 0 <;> simp [h]
theorem rmay_some (n : Int) (is : Bool) : gunnyref39_may.f n is = some (wB n is) := by
  unfold gunnyref39_may.f wB
  by_cases h0 : n = 0
  · subst h0; cases is <;> rfl
  · rw [if_neg h0]
    cases is with
    | true =>
      rw [if_pos rfl, if_pos rfl]
      by_cases h : n ≥ 0
      · rw [if_pos h]; congr 1; rw [decide_eq_decide]; omega
      · rw [if_neg h, decide_eq_false (by omega)]
    | false =>
      rw [if_neg (by decide), if_neg (by decide), decide_eq_false h0]
/-- May an op be? -/
def mayB (o : S39) : Bool := decide (0 ≤ o.f0 ∧ o.f0 ≤ 10) && (wB o.f1 (hasK o.f0).1 && (wB o.f2 (hasK o.f0).2.2.1 && (wB (o.f4.length : Int) (hasK o.f0).2.2.2 && ((hasK o.f0).2.1 || decide (o.f3 = 0)))))
theorem May_some (k : Nat) (o : S39) (hk : 4 ≤ k) : script_May.f k o.f0 o.f1 o.f2 o.f3 o.f4 = some (mayB o) := by
  unfold script_May.f mayB
  rw [bs (fields_some k o.f0 hk)]
  by_cases h0 : o.f0 < 0
  · rw [if_pos h0, decide_eq_false (by omega), Bool.false_and]
  rw [if_neg h0]
  by_cases h1 : o.f0 ≥ 11
  · rw [if_pos h1, decide_eq_false (by omega), Bool.false_and]
  rw [if_neg h1, decide_eq_true (by omega), Bool.true_and, bs (within_some _ _)]
  cases w1 : wB o.f1 (hasK o.f0).1 with
  | false => rw [if_neg (by decide), Bool.false_and]
  | true =>
    rw [if_pos rfl, Bool.true_and, bs (within_some _ _)]
    cases w2 : wB o.f2 (hasK o.f0).2.2.1 with
    | false => rw [if_neg (by decide), Bool.false_and]
    | true =>
      rw [if_pos rfl, Bool.true_and, bs (within_some _ _)]
      cases w3 : wB (o.f4.length : Int) (hasK o.f0).2.2.2 with
      | false => rw [if_neg (by decide), Bool.false_and]
      | true =>
        rw [if_pos rfl, Bool.true_and]
        cases hh : (hasK o.f0).2.1 with
        | true => rw [if_pos rfl, Bool.true_or]
        | false =>
          rw [if_neg (by decide), Bool.false_or]
          by_cases h3 : o.f3 = 0 <;> simp [h3]
theorem RMay_some (k : Nat) (o : S39) (hk : 4 ≤ k) : gunnyref39_May.f k o.f0 o.f1 o.f2 o.f3 o.f4 = some (mayB o) := by
  unfold gunnyref39_May.f mayB
  rw [bs (Has_some k o.f0 hk)]
  by_cases h0 : o.f0 ≥ 0
  · rw [if_pos h0]
    by_cases h1 : o.f0 ≤ 10
    · rw [if_pos h1, decide_eq_true ⟨h0, h1⟩, Bool.true_and, bs (rmay_some _ _)]
      cases w1 : wB o.f1 (hasK o.f0).1 with
      | false => rw [if_neg (by decide), Bool.false_and]
      | true =>
        rw [if_pos rfl, Bool.true_and]
        cases hh : (hasK o.f0).2.1 with
        | true =>
          rw [if_pos rfl, bs (rmay_some _ _), Bool.true_or, Bool.and_true]
          cases w2 : wB o.f2 (hasK o.f0).2.2.1 with
          | false => rw [if_neg (by decide), Bool.false_and]
          | true => rw [if_pos rfl, Bool.true_and, bs (rmay_some _ _)]
        | false =>
          rw [if_neg (by decide), Bool.false_or]
          by_cases h3 : o.f3 = 0
          · rw [if_pos h3, bs (rmay_some _ _), decide_eq_true h3, Bool.and_true]
            cases w2 : wB o.f2 (hasK o.f0).2.2.1 with
            | false => rw [if_neg (by decide), Bool.false_and]
            | true => rw [if_pos rfl, Bool.true_and, bs (rmay_some _ _)]
          · rw [if_neg h3, decide_eq_false h3, Bool.and_false, Bool.and_false]
    · rw [if_neg h1, decide_eq_false (by omega), Bool.false_and]
  · rw [if_neg h0, decide_eq_false (by omega), Bool.false_and]
theorem index_l0 (l : List S39) (hl : l.length ≤ 500) : ∀ (d k i : Nat), i + d = l.length → d + 5 ≤ k → ∃ r : Int, api_Op_41.l0 k l (l.length : Int) (i : Int) = some r ∧ decide (r ≥ 0) = (l.drop i).any (fun o => !mayB o) := by
  intro d
  induction d with
  | zero =>
    intro k i h1 h2
    obtain ⟨k, rfl⟩ : ∃ m, k = m + 1 := ⟨k - 1, by omega⟩
    refine ⟨-1, ?_, ?_⟩
    · simp only [api_Op_41.l0]
      rw [if_neg (by omega)]
    · rw [List.drop_eq_nil_of_le (by omega)]; rfl
  | succ d ih =>
    intro k i h1 h2
    obtain ⟨k, rfl⟩ : ∃ m, k = m + 1 := ⟨k - 1, by omega⟩
    have hi : i < l.length := by omega
    obtain ⟨r, hr, hb⟩ := ih k (i + 1) (by omega) (by omega)
    rw [any_drop l _ i hi]
    cases hm : mayB l[i] with
    | true =>
      refine ⟨r, ?_, by rw [hb]; rfl⟩
      simp only [api_Op_41.l0]
      rw [if_pos (by omega), if_pos (by omega), if_pos (by omega), rd39 l i hi, bs (May_some k _ (by omega)), hm, if_pos rfl, w64s i (by omega)]
      exact hr
    | false =>
      refine ⟨(i : Int), ?_, by rw [decide_eq_true (by omega)]; rfl⟩
      simp only [api_Op_41.l0]
      rw [if_pos (by omega), if_pos (by omega), if_pos (by omega), rd39 l i hi, bs (May_some k _ (by omega)), hm, if_neg (by decide)]
theorem any_some (k : Nat) (l : List S39) (hl : l.length ≤ 500) (hk : 510 ≤ k) : api_Op_25.f k l = some (l.any (fun o => !mayB o)) := by
  obtain ⟨r, h1, h2⟩ := index_l0 l hl l.length k 0 (by omega) (by omega)
  unfold api_Op_25.f api_Op_41.f
  rw [show ((0 : Nat) : Int) = 0 from rfl] at h1
  rw [bs h1, h2, List.drop_zero]
/-- Why a script may not be. -/
def rightI (a0 a1 a2 a3 : Int) (c : List Bool) (l : List S39) : Int :=
  if 8 ≤ a0 ∧ a0 ≤ 96 ∧ 0 ≤ a1 ∧ a1 ≤ 128 ∧ 4 ≤ a2 ∧ a2 ≤ 96 ∧ 1 ≤ a3 ∧ a3 ≤ 100 then (if 4000 < c.length ∨ 400 < l.length then 5 else if l.any (fun o => !mayB o) = true then 3 else 0) else 1
theorem Right_some (k : Nat) (a0 a1 a2 a3 : Int) (c : List Bool) (l : List S39) (hl : l.length ≤ 500) (hk : 512 ≤ k) : script_Right.f k a0 a1 a2 a3 c l = some (rightI a0 a1 a2 a3 c l) := by
  obtain ⟨k, rfl⟩ : ∃ m, k = m + 1 := ⟨k - 1, by omega⟩
  unfold script_Right.f script_conf.f rightI
  rw [bs rfl]
  by_cases hc : 8 ≤ a0 ∧ a0 ≤ 96 ∧ 0 ≤ a1 ∧ a1 ≤ 128 ∧ 4 ≤ a2 ∧ a2 ≤ 96 ∧ 1 ≤ a3 ∧ a3 ≤ 100
  · rw [decide_eq_true hc, if_pos rfl, if_pos hc]
    by_cases h1 : 4000 < c.length
    · rw [if_pos (by omega), if_pos (.inl h1)]
      simp only [script_Right.j0]
      rw [if_pos trivial]
    · rw [if_neg (by omega)]
      by_cases h2 : 400 < l.length
      · rw [decide_eq_true (by omega), if_pos (.inr h2)]
        simp only [script_Right.j0]
        rw [if_pos trivial]
      · rw [decide_eq_false (by omega), if_neg (by omega)]
        simp only [script_Right.j0]
        rw [if_neg (by decide), bs (any_some k l hl (by omega))]
        split <;> rfl
  · rw [decide_eq_false hc, if_neg (by decide), if_neg hc]
theorem rright_l0 (a0 a1 a2 a3 : Int) (c : List Bool) (l : List S39) (hl : l.length ≤ 500) : ∀ (d k i : Nat), i + d = l.length → d + 5 ≤ k → gunnyref39_Right.l0 k (i : Int) a0 a1 a2 a3 c l = some (if (l.drop i).any (fun o => !mayB o) = true then 3 else 0) := by
  intro d
  induction d with
  | zero =>
    intro k i h1 h2
    obtain ⟨k, rfl⟩ : ∃ m, k = m + 1 := ⟨k - 1, by omega⟩
    simp only [gunnyref39_Right.l0]
    rw [if_neg (by omega), List.drop_eq_nil_of_le (by omega)]
    rfl
  | succ d ih =>
    intro k i h1 h2
    obtain ⟨k, rfl⟩ : ∃ m, k = m + 1 := ⟨k - 1, by omega⟩
    have hi : i < l.length := by omega
    have hn := ih k (i + 1) (by omega) (by omega)
    rw [any_drop l _ i hi]
    simp only [gunnyref39_Right.l0]
    rw [if_pos (by omega), if_pos (by omega), rd39 l i hi, bs (RMay_some k _ (by omega)), w64s i (by omega)]
    cases hm : mayB l[i] with
    | true =>
      rw [if_pos rfl, hn]
      rfl
    | false =>
      rw [if_neg (by decide)]
      rfl
theorem rconf_some (a0 a1 a2 a3 : Int) : gunnyref39_Conf.f a0 a1 a2 a3 = some (decide (8 ≤ a0 ∧ a0 ≤ 96 ∧ 0 ≤ a1 ∧ a1 ≤ 128 ∧ 4 ≤ a2 ∧ a2 ≤ 96 ∧ 1 ≤ a3 ∧ a3 ≤ 100)) := by
  unfold gunnyref39_Conf.f
  by_cases h1 : a0 ≥ 8
  · rw [if_pos h1]
    by_cases h2 : a0 ≤ 96
    · rw [if_pos h2]
      by_cases h3 : a1 ≥ 0
      · rw [if_pos h3]
        by_cases h4 : a1 ≤ 128
        · rw [if_pos h4]
          by_cases h5 : a2 ≥ 4
          · rw [if_pos h5]
            by_cases h6 : a2 ≤ 96
            · rw [if_pos h6]
              by_cases h7 : a3 ≥ 1
              · rw [if_pos h7]; congr 1; rw [decide_eq_decide]; omega
              · rw [if_neg h7, decide_eq_false (by omega)]
            · rw [if_neg h6, decide_eq_false (by omega)]
          · rw [if_neg h5, decide_eq_false (by omega)]
        · rw [if_neg h4, decide_eq_false (by omega)]
      · rw [if_neg h3, decide_eq_false (by omega)]
    · rw [if_neg h2, decide_eq_false (by omega)]
  · rw [if_neg h1, decide_eq_false (by omega)]
theorem RRight_some (k : Nat) (a0 a1 a2 a3 : Int) (c : List Bool) (l : List S39) (hl : l.length ≤ 500) (hk : 512 ≤ k) : gunnyref39_Right.f k a0 a1 a2 a3 c l = some (rightI a0 a1 a2 a3 c l) := by
  obtain ⟨k, rfl⟩ : ∃ m, k = m + 1 := ⟨k - 1, by omega⟩
  unfold gunnyref39_Right.f rightI
  rw [bs (rconf_some a0 a1 a2 a3)]
  by_cases hc : 8 ≤ a0 ∧ a0 ≤ 96 ∧ 0 ≤ a1 ∧ a1 ≤ 128 ∧ 4 ≤ a2 ∧ a2 ≤ 96 ∧ 1 ≤ a3 ∧ a3 ≤ 100
  · rw [decide_eq_true hc, if_pos rfl, if_pos hc]
    by_cases h1 : 4000 < c.length
    · rw [if_pos (by omega), if_pos (.inl h1)]
      simp only [gunnyref39_Right.j0]
      rw [if_pos trivial]
    · rw [if_neg (by omega)]
      by_cases h2 : 400 < l.length
      · rw [decide_eq_true (by omega), if_pos (.inr h2)]
        simp only [gunnyref39_Right.j0]
        rw [if_pos trivial]
      · rw [decide_eq_false (by omega), if_neg (by omega)]
        simp only [gunnyref39_Right.j0]
        rw [if_neg (by decide)]
        exact rright_l0 a0 a1 a2 a3 c l hl l.length k 0 (by omega) (by omega)
  · rw [decide_eq_false hc, if_neg (by decide), if_neg hc]

end Go.Proofs.Ytldoaddeaiappaa.Hand
