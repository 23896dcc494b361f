/- GroupPlays: plain. -/
import Derived.Test.YtoljebdicjiogaaH2
namespace Go.Proofs.Ytoljebdicjiogaa.Hand
set_option linter.unusedVariables false
set_option linter.unusedSimpArgs false
open Go.RowKit Go.Maps Go.Proofs.Ytoljebdicjiogaa.R Go.Proofs.YtoljebdicjiogaaW.PrintWords Go.Proofs.YtoljebdicjiogaaW.PrintLast Go.Proofs.YtoljebdicjiogaaW.PrintMore

theorem rd30 {l : List S30} {i : Nat} (hi : i < l.length) : rd_T30 l (i : Int) = l[i] := by unfold rd_T30; simp [hi]
theorem rdI {l : List Int} {i : Nat} (hi : i < l.length) : rd l (i : Int) = l[i] := by unfold rd; simp [hi]

/-! all but some -/
def butL (l : List S30) (but : List Int) : List S30 := l.filter (fun h => !but.contains h.f0)
theorem mem_butL {l : List S30} {but : List Int} {y : S30} : y ∈ butL l but ↔ y ∈ l ∧ y.f0 ∉ but := by
  unfold butL
  rw [List.mem_filter]
  simp
theorem butL_nil (l : List S30) : butL l [] = l := List.filter_eq_self.2 (fun a _ => by simp)
theorem butL_length (l : List S30) (but : List Int) : (butL l but).length ≤ l.length := List.length_filter_le _ _
theorem but_l1 (l : List S30) (but : List Int) (acc : List S30) (i : Nat) (hi : i < l.length) (hb : but.length ≤ 1000000) (hac : acc.length ≤ 1000000) (hl : l.length ≤ 1000000) (K : Nat) : ∀ (d j : Nat) (b : Bool), j + d = but.length → gunnyref18_But.l1 (K + d + 1) l but acc (i : Int) b (j : Int) = gunnyref18_But.l0 K l but (if (b || (but.drop j).contains l[i].f0) = true then acc else acc ++ [l[i]]) ((i + 1 : Nat) : Int)
  | 0, j, b, h => by
    have hj : but.drop j = [] := List.drop_eq_nil_of_le (by omega)
    rw [Nat.add_zero]
    simp only [gunnyref18_But.l1]
    rw [if_neg (by omega), w64s i (by omega), hj]
    cases b with
    | true => rw [if_pos rfl]; rfl
    | false =>
      rw [if_neg (by decide), if_pos (by omega), if_pos (by omega), if_pos (by omega), rd30 hi]
      rfl
  | d + 1, j, b, h => by
    have hj : j < but.length := by omega
    have ih := but_l1 l but acc i hi hb hac hl K d (j + 1)
    obtain ⟨M, hM⟩ : ∃ M, M = K + d + 1 := ⟨_, rfl⟩
    have e : K + (d + 1) + 1 = M + 1 := by omega
    rw [← hM] at ih
    rw [e]
    simp only [gunnyref18_But.l1]
    rw [if_pos (by omega), w64s j (by omega)]
    cases b with
    | true => rw [if_pos rfl, ih true (by omega)]; rfl
    | false =>
      rw [if_neg (by decide), if_pos (by omega), if_pos (by omega), if_pos (by omega), rdI hj, rd30 hi, ih _ (by omega), List.drop_eq_getElem_cons hj, List.contains_cons, Bool.false_or]
      have e2 : (but[j] == l[i].f0) = (l[i].f0 == but[j]) := by rw [Bool.eq_iff_iff, beq_iff_eq, beq_iff_eq]; exact ⟨Eq.symm, Eq.symm⟩
      rw [e2]
theorem but_l0 (l : List S30) (but : List Int) (hb : but.length ≤ 1000000) (hl : l.length ≤ 1000000) : ∀ (d i : Nat) (acc : List S30), i + d = l.length → acc.length ≤ i → gunnyref18_But.l0 (d * (but.length + 2) + 1) l but acc (i : Int) = some (acc ++ butL (l.drop i) but)
  | 0, i, acc, h, ha => by
    have hj : l.drop i = [] := List.drop_eq_nil_of_le (by omega)
    rw [Nat.zero_mul, Nat.zero_add]
    simp only [gunnyref18_But.l0]
    rw [if_neg (by omega), hj]
    simp [butL]
  | d + 1, i, acc, h, ha => by
    have hi : i < l.length := by omega
    have e : (d + 1) * (but.length + 2) + 1 = ((d * (but.length + 2) + 1) + but.length + 1) + 1 := by rw [Nat.succ_mul]; omega
    rw [e]
    simp only [gunnyref18_But.l0]
    rw [if_pos (by omega)]
    have h1 := but_l1 l but acc i hi hb (by omega) hl (d * (but.length + 2) + 1) but.length 0 false (by omega)
    rw [show ((0 : Nat) : Int) = 0 from rfl] at h1
    rw [h1, List.drop_zero, Bool.false_or, List.drop_eq_getElem_cons hi]
    by_cases hc : but.contains l[i].f0 = true
    · rw [if_pos hc, but_l0 l but hb hl d (i + 1) acc (by omega) (by omega)]
      unfold butL
      rw [List.filter_cons, hc]
      rfl
    · rw [if_neg hc, but_l0 l but hb hl d (i + 1) _ (by omega) (by rw [List.length_append, List.length_singleton]; omega)]
      unfold butL
      rw [List.filter_cons, Bool.eq_false_iff.2 hc, if_pos (by rfl), List.append_assoc]
      rfl
theorem but_some (l : List S30) (but : List Int) (hb : but.length ≤ 1000000) (hl : l.length ≤ 1000000) : gunnyref18_But.f (l.length * (but.length + 2) + 1) l but = some (butL l but) := by
  have h := but_l0 l but hb hl l.length 0 [] (by omega) (Nat.le_refl _)
  rw [show ((0 : Nat) : Int) = 0 from rfl] at h
  exact h

/-! who is best, who is worst, as the document has it -/
def okB (h : S30) : Prop := ofR h.f1 h.f2 ≠ 4
def okW (h : S30) : Prop := ofR h.f1 h.f2 ≠ 4 ∧ ofR h.f1 h.f2 ≠ 0
def leB (a b : S30) : Prop := a.f2 - a.f1 < b.f2 - b.f1 ∨ (a.f2 - a.f1 = b.f2 - b.f1 ∧ a.f0 ≤ b.f0)
def leW (a b : S30) : Prop := a.f1 < b.f1 ∨ (a.f1 = b.f1 ∧ b.f0 ≤ a.f0)
def OptI (ok : S30 → Prop) (le : S30 → S30 → Prop) (l : List S30) (i : Nat) (b : Int) : Prop :=
  (b = -1 ∧ ∀ (k : Nat) (hk : k < l.length), k < i → ¬ ok l[k]) ∨ ∃ (j : Nat) (hj : j < l.length), b = (j : Int) ∧ ok l[j] ∧ ∀ (k : Nat) (hk : k < l.length), k < i → ok l[k] → le l[j] l[k]
def OptR (ok : S30 → Prop) (le : S30 → S30 → Prop) (l : List S30) (r : Int) : Prop :=
  (r = -1 ∧ ∀ y ∈ l, ¬ ok y) ∨ ∃ y ∈ l, r = y.f0 ∧ ok y ∧ ∀ z ∈ l, ok z → le y z
theorem OptI.skip {ok : S30 → Prop} {le : S30 → S30 → Prop} {l : List S30} {i : Nat} {b : Int} (h : OptI ok le l i b) (hi : i < l.length) (hn : ¬ ok l[i]) : OptI ok le l (i + 1) b := by
  rcases h with ⟨h1, h2⟩ | ⟨j, hj, h1, h2, h3⟩
  · refine .inl ⟨h1, fun k hk hki => ?_⟩
    rcases Nat.lt_or_eq_of_le (Nat.le_of_lt_succ hki) with e | e
    · exact h2 k hk e
    · subst e; exact hn
  · refine .inr ⟨j, hj, h1, h2, fun k hk hki ho => ?_⟩
    rcases Nat.lt_or_eq_of_le (Nat.le_of_lt_succ hki) with e | e
    · exact h3 k hk e ho
    · subst e; exact absurd ho hn
theorem OptI.first {ok : S30 → Prop} {le : S30 → S30 → Prop} {l : List S30} {i : Nat} (h : ∀ (k : Nat) (hk : k < l.length), k < i → ¬ ok l[k]) (hi : i < l.length) (hn : ok l[i]) (hr : le l[i] l[i]) : OptI ok le l (i + 1) (i : Int) := by
  refine .inr ⟨i, hi, rfl, hn, fun k hk hki ho => ?_⟩
  rcases Nat.lt_or_eq_of_le (Nat.le_of_lt_succ hki) with e | e
  · exact absurd ho (h k hk e)
  · subst e; exact hr
theorem OptI.take {ok : S30 → Prop} {le : S30 → S30 → Prop} {l : List S30} {i j : Nat} (hj : j < l.length) (h : ∀ (k : Nat) (hk : k < l.length), k < i → ok l[k] → le l[j] l[k]) (hi : i < l.length) (hn : ok l[i]) (hr : le l[i] l[i]) (ht : ∀ z, le l[j] z → le l[i] z) : OptI ok le l (i + 1) (i : Int) := by
  refine .inr ⟨i, hi, rfl, hn, fun k hk hki ho => ?_⟩
  rcases Nat.lt_or_eq_of_le (Nat.le_of_lt_succ hki) with e | e
  · exact ht _ (h k hk e ho)
  · subst e; exact hr
theorem OptI.stay {ok : S30 → Prop} {le : S30 → S30 → Prop} {l : List S30} {i j : Nat} (hj : j < l.length) (ho : ok l[j]) (h : ∀ (k : Nat) (hk : k < l.length), k < i → ok l[k] → le l[j] l[k]) (hi : i < l.length) (hr : le l[j] l[i]) : OptI ok le l (i + 1) (j : Int) := by
  refine .inr ⟨j, hj, rfl, ho, fun k hk hki ho => ?_⟩
  rcases Nat.lt_or_eq_of_le (Nat.le_of_lt_succ hki) with e | e
  · exact h k hk e ho
  · subst e; exact hr
theorem OptI.fin {ok : S30 → Prop} {le : S30 → S30 → Prop} {l : List S30} {i : Nat} {b : Int} (h : OptI ok le l i b) (hi : l.length ≤ i) : ∃ r, (if b < 0 then (some (-1) : Option Int) else (if 0 ≤ b then (if b < (l.length : Int) then (some ((rd_T30 l b).f0)) else (none)) else (none))) = some r ∧ OptR ok le l r := by
  rcases h with ⟨rfl, h2⟩ | ⟨j, hj, rfl, h2, h3⟩
  · refine ⟨-1, rfl, .inl ⟨rfl, fun y hy => ?_⟩⟩
    obtain ⟨k, hk, rfl⟩ := List.mem_iff_getElem.1 hy
    exact h2 k hk (by omega)
  · refine ⟨l[j].f0, ?_, .inr ⟨_, List.getElem_mem hj, rfl, h2, fun z hz ho => ?_⟩⟩
    · rw [if_neg (by omega), if_pos (by omega), if_pos (by omega), rd30 hj]
    · obtain ⟨k, hk, rfl⟩ := List.mem_iff_getElem.1 hz
      exact h3 k hk (by omega) ho
theorem refof_ge (u m : Int) (h : small u m) : ∀ d : Nat, gunnyref18_Of.f (4 + d) u m = some (ofR u m)
  | 0 => refof_some u m h
  | d + 1 => gunnyref18_Of.mono u m (4 + d) _ (refof_ge u m h d)
def okL (l : List S30) : Prop := ∀ y ∈ l, 0 ≤ y.f0 ∧ y.f0 ≤ 4095 ∧ 0 ≤ y.f1 ∧ y.f1 ≤ y.f2 ∧ y.f2 ≤ 100000000
theorem best_l0 (l : List S30) (hl : l.length ≤ 1000000) (hok : okL l) : ∀ (d k i : Nat) (b : Int), i + d = l.length → d + 4 < k → OptI okB leB l i b → ∃ r, gunnyref18_Best.l0 k l b (i : Int) = some r ∧ OptR okB leB l r
  | 0, k, i, b, h, hk, hI => by
    obtain ⟨k, rfl⟩ : ∃ n, k = n + 1 := ⟨k - 1, by omega⟩
    simp only [gunnyref18_Best.l0]
    rw [if_neg (by omega)]
    exact hI.fin (by omega)
  | d + 1, k, i, b, h, hk, hI => by
    obtain ⟨k, rfl⟩ : ∃ n, k = 4 + n + 1 := ⟨k - 5, by omega⟩
    have hi : i < l.length := by omega
    have hx := hok _ (List.getElem_mem hi)
    have hle : ∀ a : S30, leB a a := fun a => .inr ⟨rfl, Int.le_refl _⟩
    simp only [gunnyref18_Best.l0]
    rw [if_pos (by omega), if_pos (by omega), rd30 hi, refof_ge _ _ (by unfold small; omega) k, w64s i (by omega)]
    simp only [Option.bind_some]
    by_cases c4 : ofR l[i].f1 l[i].f2 = 4
    · rw [if_pos c4]
      exact best_l0 l hl hok d _ (i + 1) b (by omega) (by omega) (hI.skip hi (fun h => h c4))
    · rw [if_neg c4]
      rcases hI with ⟨rfl, h1⟩ | ⟨j, hj, rfl, h2, h3⟩
      · rw [if_pos (by decide)]
        exact best_l0 l hl hok d _ (i + 1) _ (by omega) (by omega) (OptI.first h1 hi c4 (hle _))
      · have hy := hok _ (List.getElem_mem hj)
        rw [if_neg (by omega), if_pos (by omega), if_pos (by omega), rd30 hj, w64r (l[i].f2 - l[i].f1) (by omega) (by omega), w64r (l[j].f2 - l[j].f1) (by omega) (by omega)]
        by_cases c5 : l[i].f2 - l[i].f1 < l[j].f2 - l[j].f1
        · rw [if_pos c5]
          exact best_l0 l hl hok d _ (i + 1) _ (by omega) (by omega) (OptI.take hj h3 hi c4 (hle _) (fun z hz => by unfold leB at hz ⊢; omega))
        · rw [if_neg c5]
          by_cases c6 : l[i].f2 - l[i].f1 = l[j].f2 - l[j].f1
          · rw [if_pos c6]
            by_cases c7 : l[i].f0 < l[j].f0
            · rw [if_pos c7]
              exact best_l0 l hl hok d _ (i + 1) _ (by omega) (by omega) (OptI.take hj h3 hi c4 (hle _) (fun z hz => by unfold leB at hz ⊢; omega))
            · rw [if_neg c7]
              exact best_l0 l hl hok d _ (i + 1) _ (by omega) (by omega) (OptI.stay hj h2 h3 hi (by unfold leB; omega))
          · rw [if_neg c6]
            exact best_l0 l hl hok d _ (i + 1) _ (by omega) (by omega) (OptI.stay hj h2 h3 hi (by unfold leB; omega))
theorem refbest_some (l : List S30) (hl : l.length ≤ 1000000) (hok : okL l) : ∃ r, gunnyref18_Best.f (l.length + 5) l = some r ∧ OptR okB leB l r :=
  best_l0 l hl hok l.length (l.length + 5) 0 (-1) (by omega) (by omega) (.inl ⟨rfl, fun k hk h => absurd h (Nat.not_lt_zero _)⟩)
theorem worst_l0 (l : List S30) (hl : l.length ≤ 1000000) (hok : okL l) : ∀ (d k i : Nat) (b : Int), i + d = l.length → 2 * d + 4 < k → OptI okW leW l i b → ∃ r, gunnyref18_Worst.l0 k l b (i : Int) = some r ∧ OptR okW leW l r
  | 0, k, i, b, h, hk, hI => by
    obtain ⟨k, rfl⟩ : ∃ n, k = n + 1 := ⟨k - 1, by omega⟩
    simp only [gunnyref18_Worst.l0]
    rw [if_neg (by omega)]
    exact hI.fin (by omega)
  | d + 1, k, i, b, h, hk, hI => by
    obtain ⟨k, rfl⟩ : ∃ n, k = 4 + (n + 1) + 1 := ⟨k - 6, by omega⟩
    have hi : i < l.length := by omega
    have hx := hok _ (List.getElem_mem hi)
    have hle : ∀ a : S30, leW a a := fun a => .inr ⟨rfl, Int.le_refl _⟩
    simp only [gunnyref18_Worst.l0]
    rw [if_pos (by omega), if_pos (by omega), rd30 hi, refof_ge _ _ (by unfold small; omega) (k + 1)]
    simp only [Option.bind_some]
    have ek : 4 + (k + 1) = (4 + k) + 1 := by omega
    rw [ek]
    by_cases c0 : okW l[i]
    · have c1 : ¬ ofR l[i].f1 l[i].f2 = 0 := c0.2
      have c2 : (ofR l[i].f1 l[i].f2 == 4) = false := beq_eq_false_iff_ne.mpr c0.1
      rw [if_neg c1, c2]
      simp only [gunnyref18_Worst.j1]
      rw [if_neg (by decide), w64s i (by omega)]
      rcases hI with ⟨rfl, h1⟩ | ⟨j, hj, rfl, h2, h3⟩
      · rw [if_pos (by decide)]
        exact worst_l0 l hl hok d _ (i + 1) _ (by omega) (by omega) (OptI.first h1 hi c0 (hle _))
      · have hy := hok _ (List.getElem_mem hj)
        rw [if_neg (by omega), if_pos (by omega), if_pos (by omega), if_pos (by omega), if_pos (by omega), rd30 hi, rd30 hj]
        by_cases c5 : l[i].f1 < l[j].f1
        · rw [if_pos c5]
          exact worst_l0 l hl hok d _ (i + 1) _ (by omega) (by omega) (OptI.take hj h3 hi c0 (hle _) (fun z hz => by unfold leW at hz ⊢; omega))
        · rw [if_neg c5]
          by_cases c6 : l[i].f1 = l[j].f1
          · rw [if_pos c6]
            by_cases c7 : l[i].f0 > l[j].f0
            · rw [if_pos c7]
              exact worst_l0 l hl hok d _ (i + 1) _ (by omega) (by omega) (OptI.take hj h3 hi c0 (hle _) (fun z hz => by unfold leW at hz ⊢; omega))
            · rw [if_neg c7]
              exact worst_l0 l hl hok d _ (i + 1) _ (by omega) (by omega) (OptI.stay hj h2 h3 hi (by unfold leW; omega))
          · rw [if_neg c6]
            exact worst_l0 l hl hok d _ (i + 1) _ (by omega) (by omega) (OptI.stay hj h2 h3 hi (by unfold leW; omega))
    · have e : (if ofR l[i].f1 l[i].f2 = 0 then gunnyref18_Worst.j1 (4 + k + 1) l b (i : Int) true else gunnyref18_Worst.j1 (4 + k + 1) l b (i : Int) (ofR l[i].f1 l[i].f2 == 4)) = gunnyref18_Worst.j1 (4 + k + 1) l b (i : Int) true := by
        by_cases c1 : ofR l[i].f1 l[i].f2 = 0
        · rw [if_pos c1]
        · have c2 : ofR l[i].f1 l[i].f2 = 4 := Classical.not_not.1 (fun h => c0 ⟨h, c1⟩)
          rw [if_neg c1, beq_iff_eq.mpr c2]
      rw [e]
      simp only [gunnyref18_Worst.j1]
      rw [if_pos (by trivial), w64s i (by omega)]
      exact worst_l0 l hl hok d _ (i + 1) b (by omega) (by omega) (hI.skip hi c0)
theorem refworst_some (l : List S30) (hl : l.length ≤ 1000000) (hok : okL l) : ∃ r, gunnyref18_Worst.f (2 * l.length + 5) l = some r ∧ OptR okW leW l r :=
  worst_l0 l hl hok l.length (2 * l.length + 5) 0 (-1) (by omega) (by omega) (.inl ⟨rfl, fun k hk h => absurd h (Nat.not_lt_zero _)⟩)
/-! the book's answers are told as the document has them -/
theorem told_yes {a : Int} {b : Bool} {r : Int} (h : (r = -1 ∧ a = 0 ∧ b = false) ∨ (0 ≤ r ∧ a = r ∧ b = true)) : gunnylaw18_told.f a b r = some true := by
  unfold gunnylaw18_told.f
  rcases h with ⟨rfl, rfl, rfl⟩ | ⟨h1, rfl, rfl⟩
  · rfl
  · rw [if_neg (by omega), if_pos rfl]
theorem told_best {D : DataW Unit} {l : List S30} (h : RelD D l) (but : List Int) (s : Int × Bool) (hs : BestN l (numL l but) s) (r : Int) (hr : OptR okB leB (butL l but) r) : gunnylaw18_told.f s.1 s.2 r = some true := by
  have key : ∀ y ∈ l, ofU l y.f0 = ofR y.f1 y.f2 ∧ fr l y.f0 = y.f2 - y.f1 := fun y hy => by
    unfold ofU fr
    rw [U_mem h.nd hy]
    exact ⟨ofG_ofR _ _, rfl⟩
  refine told_yes ?_
  rcases hr with ⟨rfl, h1⟩ | ⟨y, hy, rfl, h2, h3⟩
  · have hs2 : s.2 = false := by
      cases hc : s.2 with
      | false => rfl
      | true =>
        obtain ⟨h4, h5, _⟩ := hs.yes hc
        obtain ⟨⟨y, hy, ey⟩, hb⟩ := mem_numL.1 h4
        refine absurd ?_ (h1 y (mem_butL.2 ⟨hy, by rw [ey]; exact hb⟩))
        unfold okB
        rw [← (key y hy).1, ey]
        exact h5
    exact .inl ⟨rfl, (hs.no hs2).1, hs2⟩
  · obtain ⟨hyl, hyb⟩ := mem_butL.1 hy
    have hn : y.f0 ∈ numL l but := mem_numL.2 ⟨⟨y, hyl, rfl⟩, hyb⟩
    have h4 : ofU l y.f0 ≠ 4 := by rw [(key y hyl).1]; exact h2
    have hs2 : s.2 = true := by
      cases hc : s.2 with
      | true => rfl
      | false => exact absurd ((hs.no hc).2 _ hn) h4
    obtain ⟨h5, h6, h7⟩ := hs.yes hs2
    obtain ⟨⟨z, hz, ez⟩, hb⟩ := mem_numL.1 h5
    have h8 := h7 _ hn h4
    have h9 := h3 z (mem_butL.2 ⟨hz, by rw [ez]; exact hb⟩) (by unfold okB; rw [← (key z hz).1, ez]; exact h6)
    rw [← ez, (key y hyl).2, (key z hz).2] at h8
    unfold leB at h9
    exact .inr ⟨(h.ok y hyl).1, by rw [← ez]; omega, hs2⟩
theorem told_worst {D : DataW Unit} {l : List S30} (h : RelD D l) (s : Int × Bool) (hs : WorstN l (numL l []) s) (r : Int) (hr : OptR okW leW l r) : gunnylaw18_told.f s.1 s.2 r = some true := by
  have key : ∀ y ∈ l, (mayW l y.f0 ↔ okW y) ∧ (U l y.f0).1 = y.f1 := fun y hy => by
    unfold mayW okW ofU
    rw [U_mem h.nd hy, ofG_ofR]
    exact ⟨Iff.rfl, rfl⟩
  refine told_yes ?_
  rcases hr with ⟨rfl, h1⟩ | ⟨y, hyl, rfl, h2, h3⟩
  · have hs2 : s.2 = false := by
      cases hc : s.2 with
      | false => rfl
      | true =>
        obtain ⟨h4, h5, _⟩ := hs.yes hc
        obtain ⟨⟨y, hy, ey⟩, hb⟩ := mem_numL.1 h4
        refine absurd ?_ (h1 y hy)
        rw [← (key y hy).1, ey]
        exact h5
    exact .inl ⟨rfl, (hs.no hs2).1, hs2⟩
  · have hn : y.f0 ∈ numL l [] := mem_numL.2 ⟨⟨y, hyl, rfl⟩, by simp⟩
    have h4 : mayW l y.f0 := (key y hyl).1.2 h2
    have hs2 : s.2 = true := by
      cases hc : s.2 with
      | true => rfl
      | false => exact absurd h4 ((hs.no hc).2 _ hn)
    obtain ⟨h5, h6, h7⟩ := hs.yes hs2
    obtain ⟨⟨z, hz, ez⟩, hb⟩ := mem_numL.1 h5
    have h8 := h7 _ hn h4
    have h9 := h3 z hz ((key z hz).1.1 (by rw [ez]; exact h6))
    rw [← ez, (key y hyl).2, (key z hz).2] at h8
    unfold leW at h9
    exact .inr ⟨(h.ok y hyl).1, by rw [← ez]; omega, hs2⟩
/-! room, counts -/
theorem numL_perm (l : List S30) (but : List Int) : (numL l but).Perm ((butL l but).map (·.f0)) := by
  unfold numL butL sortI
  have h := (List.mergeSort_perm (l.map (·.f0)) (fun x y => decide (x ≤ y))).filter (fun n => !but.contains n)
  rw [List.filter_map] at h
  exact h
def isum (f : Int → Int) : List Int → Int
  | [] => 0
  | n :: l => f n + isum f l
theorem isum_perm (f : Int → Int) {a b : List Int} (h : a.Perm b) : isum f a = isum f b := by
  induction h with
  | nil => rfl
  | cons x _ ih => unfold isum; rw [ih]
  | swap x y l => unfold isum isum; omega
  | trans _ _ h1 h2 => exact h1.trans h2
def rsum : List S30 → Int
  | [] => 0
  | h :: l => (h.f2 - h.f1) + rsum l
theorem rsum_one (x : S30) : ∀ l, rsum (l ++ [x]) = rsum l + (x.f2 - x.f1)
  | [] => by show x.f2 - x.f1 + 0 = 0 + (x.f2 - x.f1); omega
  | h :: l => by
    show h.f2 - h.f1 + rsum (l ++ [x]) = h.f2 - h.f1 + rsum l + (x.f2 - x.f1)
    rw [rsum_one x l]
    omega
theorem rsum_range : ∀ (l : List S30), okL l → 0 ≤ rsum l ∧ rsum l ≤ 100000000 * (l.length : Int)
  | [], _ => by exact ⟨Int.le_refl _, Int.le_refl _⟩
  | h :: l, hok => by
    have h1 := hok h (List.mem_cons_self ..)
    have h2 := rsum_range l (fun y hy => hok y (List.mem_cons_of_mem _ hy))
    show 0 ≤ h.f2 - h.f1 + rsum l ∧ h.f2 - h.f1 + rsum l ≤ 100000000 * ((l.length + 1 : Nat) : Int)
    omega
theorem roomF_isum (l : List S30) : ∀ (ns : List Int) (a : Int), roomF l ns a = a + isum (fr l) ns
  | [], a => by show a = a + 0; omega
  | n :: ns, a => by
    have e : roomF l (n :: ns) a = roomF l ns (a + ((U l n).2 - (U l n).1)) := rfl
    rw [e, roomF_isum l ns]
    show a + ((U l n).2 - (U l n).1) + isum (fr l) ns = a + (((U l n).2 - (U l n).1) + isum (fr l) ns)
    omega
theorem isum_rsum {l : List S30} (hnd : (l.map (·.f0)).Nodup) : ∀ (bl : List S30), (∀ y ∈ bl, y ∈ l) → isum (fr l) (bl.map (·.f0)) = rsum bl
  | [], _ => rfl
  | h :: bl, hs => by
    show fr l h.f0 + isum (fr l) (bl.map (·.f0)) = h.f2 - h.f1 + rsum bl
    rw [isum_rsum hnd bl (fun y hy => hs y (List.mem_cons_of_mem _ hy))]
    unfold fr
    rw [U_mem hnd (hs h (List.mem_cons_self ..))]
theorem room_eq {l : List S30} (hnd : (l.map (·.f0)).Nodup) (but : List Int) : roomF l (numL l but) 0 = rsum (butL l but) := by
  rw [roomF_isum, isum_perm _ (numL_perm l but), isum_rsum hnd _ (fun y hy => (mem_butL.1 hy).1)]
  omega
/-- How many are as full. -/
def gcnt (l : List S30) (g : Int) : Nat := l.countP (fun h => ofR h.f1 h.f2 == g)
theorem cnt_eq {l : List S30} (hnd : (l.map (·.f0)).Nodup) (g : Int) : cntF l g (numL l []) 0 = gcnt l g := by
  have h := numL_perm l []
  rw [butL_nil] at h
  rw [cntF_countP, Nat.zero_add, h.countP_eq, List.countP_map]
  unfold gcnt
  refine List.countP_congr (fun y hy => ?_)
  show (ofU l y.f0 == g) = true ↔ (ofR y.f1 y.f2 == g) = true
  unfold ofU
  rw [U_mem hnd hy, ofG_ofR]
theorem gcnt_step (l : List S30) (g : Int) (i : Nat) (hi : i < l.length) : gcnt (l.take (i + 1)) g = if ofR l[i].f1 l[i].f2 = g then gcnt (l.take i) g + 1 else gcnt (l.take i) g := by
  unfold gcnt
  rw [← List.take_append_getElem hi, List.countP_append, List.countP_singleton]
  by_cases h : ofR l[i].f1 l[i].f2 = g
  · rw [if_pos h, beq_iff_eq.mpr h, if_pos rfl]
  · rw [if_neg h, beq_eq_false_iff_ne.mpr h, if_neg (by decide), Nat.add_zero]
theorem rsum_step (l : List S30) (i : Nat) (hi : i < l.length) : rsum (l.take (i + 1)) = rsum (l.take i) + (l[i].f2 - l[i].f1) := by
  rw [← List.take_append_getElem hi, rsum_one]
end Go.Proofs.Ytoljebdicjiogaa.Hand
