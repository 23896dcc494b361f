/- Who is best, who is worst, how many are as full: plain. -/
import Derived.Test.YtoljebdicjiogaaG9
namespace Go.Proofs.Ytoljebdicjiogaa.Hand
set_option linter.unusedVariables false
set_option linter.unusedSimpArgs false
open Go.RowKit Go.Maps Go.Proofs.Ytoljebdicjiogaa.R Go.Proofs.YtoljebdicjiogaaW.PrintWords Go.Proofs.YtoljebdicjiogaaW.PrintLast Go.Proofs.YtoljebdicjiogaaW.PrintMore

theorem one_num : ∀ {l : List S30}, (l.map (·.f0)).Nodup → ∀ a ∈ l, ∀ b ∈ l, a.f0 = b.f0 → a = b
  | [], _, a, ha, _, _, _ => by cases ha
  | x :: l, h, a, ha, b, hb, e => by
    rw [List.map_cons, List.nodup_cons] at h
    rcases List.mem_cons.1 ha with ea | ha
    · rcases List.mem_cons.1 hb with eb | hb
      · rw [ea, eb]
      · exact absurd (List.mem_map.2 ⟨b, hb, by rw [← e, ea]⟩) h.1
    · rcases List.mem_cons.1 hb with eb | hb
      · exact absurd (List.mem_map.2 ⟨a, ha, by rw [e, eb]⟩) h.1
      · exact one_num h.2 a ha b hb e
theorem U_mem {l : List S30} (hnd : (l.map (·.f0)).Nodup) {h : S30} (hh : h ∈ l) : U l h.f0 = (h.f1, h.f2) := by
  unfold U
  cases hf : l.find? (fun y => y.f0 == h.f0) with
  | none =>
    have := List.find?_eq_none.1 hf h hh
    simp at this
  | some y =>
    have h1 : y.f0 = h.f0 := by simpa using List.find?_some hf
    have h2 := one_num hnd y (List.mem_of_find?_eq_some hf) h hh h1
    rw [h2]
theorem mem_numL {l : List S30} {but : List Int} {n : Int} : n ∈ numL l but ↔ (∃ y ∈ l, y.f0 = n) ∧ n ∉ but := by
  unfold numL sortI
  rw [List.mem_filter, List.mem_mergeSort, List.mem_map]
  simp
theorem numL_rising {l : List S30} (hnd : (l.map (·.f0)).Nodup) (but : List Int) : (numL l but).Pairwise (· < ·) := by
  unfold numL
  refine List.Pairwise.sublist List.filter_sublist ?_
  have h1 : (sortI (l.map (·.f0))).Pairwise (fun x y => x ≤ y) := by
    have h := List.pairwise_mergeSort (le := fun x y : Int => decide (x ≤ y)) (fun a b c h1 h2 => by simp only [decide_eq_true_eq] at *; omega) (fun a b => by simp only [Bool.or_eq_true, decide_eq_true_eq]; omega) (l.map (·.f0))
    exact h.imp (fun h => by simpa using h)
  have h2 : (sortI (l.map (·.f0))).Nodup := (List.mergeSort_perm _ _).nodup_iff.2 hnd
  exact (h1.and h2).imp (fun h => by omega)
/-- Free ones. -/
def fr (l : List S30) (n : Int) : Int := (U l n).2 - (U l n).1
def ofU (l : List S30) (n : Int) : Int := ofG (U l n).1 (U l n).2
structure BestN (l : List S30) (ns : List Int) (s : Int × Bool) : Prop where
  no : s.2 = false → s.1 = 0 ∧ ∀ n ∈ ns, ofU l n = 4
  yes : s.2 = true → s.1 ∈ ns ∧ ofU l s.1 ≠ 4 ∧ ∀ n ∈ ns, ofU l n ≠ 4 → fr l s.1 < fr l n ∨ (fr l s.1 = fr l n ∧ s.1 ≤ n)
theorem best_step (l : List S30) : ∀ (ns done : List Int) (s : Int × Bool), BestN l done s → (done ++ ns).Pairwise (· < ·) → BestN l (done ++ ns) (bestF l ns s)
  | [], done, s, h, _ => by rw [List.append_nil]; exact h
  | n :: ns, done, s, h, hp => by
    have e : done ++ n :: ns = (done ++ [n]) ++ ns := by simp
    rw [e] at hp ⊢
    refine best_step l ns (done ++ [n]) (bestS l s n) ?_ hp
    have hlt : ∀ a ∈ done, a < n := fun a ha => (List.pairwise_append.1 (List.pairwise_append.1 hp).1).2.2 a ha n (List.mem_singleton.2 rfl)
    unfold bestS
    by_cases hc : ofG (U l n).1 (U l n).2 ≠ 4 ∧ (s.2 = false ∨ (U l n).2 - (U l n).1 < (U l s.1).2 - (U l s.1).1)
    · rw [if_pos hc]
      refine ⟨fun hf => absurd hf (by simp), fun _ => ⟨by simp, hc.1, fun k hk hk4 => ?_⟩⟩
      rcases List.mem_append.1 hk with hk | hk
      · left
        rcases hc.2 with h0 | h0
        · exact absurd ((h.no h0).2 k hk) hk4
        · cases hs : s.2 with
          | false => exact absurd ((h.no hs).2 k hk) hk4
          | true =>
            have h1 := (h.yes hs).2.2 k hk hk4
            show fr l n < fr l k
            unfold fr at h1 ⊢
            omega
      · right
        have : k = n := by simpa using hk
        subst this
        exact ⟨rfl, Int.le_refl _⟩
    · rw [if_neg hc]
      refine ⟨fun hf => ⟨(h.no hf).1, fun k hk => ?_⟩, fun ht => ⟨List.mem_append_left _ (h.yes ht).1, (h.yes ht).2.1, fun k hk hk4 => ?_⟩⟩
      · rcases List.mem_append.1 hk with hk | hk
        · exact (h.no hf).2 k hk
        · have : k = n := by simpa using hk
          subst this
          exact Classical.not_not.1 (fun h4 => hc ⟨h4, .inl hf⟩)
      · rcases List.mem_append.1 hk with hk | hk
        · exact (h.yes ht).2.2 k hk hk4
        · have : k = n := by simpa using hk
          subst this
          have h1 : ¬ (U l k).2 - (U l k).1 < (U l s.1).2 - (U l s.1).1 := fun h2 => hc ⟨hk4, .inr h2⟩
          have h2 := hlt s.1 (h.yes ht).1
          unfold fr
          omega
theorem best_spec (l : List S30) (ns : List Int) (hp : ns.Pairwise (· < ·)) : BestN l ns (bestF l ns (0, false)) :=
  best_step l ns [] (0, false) ⟨fun _ => ⟨rfl, fun n hn => by cases hn⟩, fun h => by cases h⟩ hp
/-- What may be the worst. -/
def mayW (l : List S30) (n : Int) : Prop := ofU l n ≠ 4 ∧ ofU l n ≠ 0
structure WorstN (l : List S30) (ns : List Int) (s : Int × Bool) : Prop where
  no : s.2 = false → s.1 = 0 ∧ ∀ n ∈ ns, ¬ mayW l n
  yes : s.2 = true → s.1 ∈ ns ∧ mayW l s.1 ∧ ∀ n ∈ ns, mayW l n → (U l s.1).1 < (U l n).1 ∨ ((U l s.1).1 = (U l n).1 ∧ n ≤ s.1)
theorem worst_step (l : List S30) : ∀ (ns done : List Int) (s : Int × Bool), WorstN l done s → (done ++ ns).Pairwise (· < ·) → WorstN l (done ++ ns) (worstF l ns s)
  | [], done, s, h, _ => by rw [List.append_nil]; exact h
  | n :: ns, done, s, h, hp => by
    have e : done ++ n :: ns = (done ++ [n]) ++ ns := by simp
    rw [e] at hp ⊢
    refine worst_step l ns (done ++ [n]) (worstS l s n) ?_ hp
    have hlt : ∀ a ∈ done, a < n := fun a ha => (List.pairwise_append.1 (List.pairwise_append.1 hp).1).2.2 a ha n (List.mem_singleton.2 rfl)
    unfold worstS
    by_cases hc : (ofG (U l n).1 (U l n).2 ≠ 4 ∧ ofG (U l n).1 (U l n).2 ≠ 0) ∧ (s.2 = false ∨ (U l n).1 ≤ (U l s.1).1)
    · rw [if_pos hc]
      refine ⟨fun hf => absurd hf (by simp), fun _ => ⟨by simp, hc.1, fun k hk hk4 => ?_⟩⟩
      rcases List.mem_append.1 hk with hk | hk
      · rcases hc.2 with h0 | h0
        · exact absurd hk4 ((h.no h0).2 k hk)
        · cases hs : s.2 with
          | false => exact absurd hk4 ((h.no hs).2 k hk)
          | true =>
            have h1 := (h.yes hs).2.2 k hk hk4
            have h2 := hlt k hk
            show (U l n).1 < (U l k).1 ∨ ((U l n).1 = (U l k).1 ∧ k ≤ n)
            omega
      · right
        have : k = n := by simpa using hk
        subst this
        exact ⟨rfl, Int.le_refl _⟩
    · rw [if_neg hc]
      refine ⟨fun hf => ⟨(h.no hf).1, fun k hk => ?_⟩, fun ht => ⟨List.mem_append_left _ (h.yes ht).1, (h.yes ht).2.1, fun k hk hk4 => ?_⟩⟩
      · rcases List.mem_append.1 hk with hk | hk
        · exact (h.no hf).2 k hk
        · have : k = n := by simpa using hk
          subst this
          exact fun h4 => hc ⟨h4, .inl hf⟩
      · rcases List.mem_append.1 hk with hk | hk
        · exact (h.yes ht).2.2 k hk hk4
        · have : k = n := by simpa using hk
          subst this
          have h1 : ¬ (U l k).1 ≤ (U l s.1).1 := fun h2 => hc ⟨hk4, .inr h2⟩
          omega
theorem worst_spec (l : List S30) (ns : List Int) (hp : ns.Pairwise (· < ·)) : WorstN l ns (worstF l ns (0, false)) :=
  worst_step l ns [] (0, false) ⟨fun _ => ⟨rfl, fun n hn => by cases hn⟩, fun h => by cases h⟩ hp
/-! counts -/
theorem cntF_countP (l : List S30) (g : Int) : ∀ (ns : List Int) (a : Nat), cntF l g ns a = a + ns.countP (fun n => ofU l n == g)
  | [], a => rfl
  | n :: ns, a => by
    have e : cntF l g (n :: ns) a = cntF l g ns (if ofG (U l n).1 (U l n).2 = g then a + 1 else a) := rfl
    rw [e, cntF_countP l g ns, List.countP_cons]
    by_cases h : ofU l n = g
    · have h1 : (ofU l n == g) = true := beq_iff_eq.mpr h
      have h2 : ofG (U l n).1 (U l n).2 = g := h
      rw [if_pos h2, h1, if_pos rfl]
      omega
    · have h1 : (ofU l n == g) = false := beq_eq_false_iff_ne.mpr h
      have h2 : ¬ ofG (U l n).1 (U l n).2 = g := h
      rw [if_neg h2, h1, if_neg (by decide)]
      omega
theorem ofG_range (u m : Int) : ofG u m = 0 ∨ ofG u m = 1 ∨ ofG u m = 2 ∨ ofG u m = 3 ∨ ofG u m = 4 := by
  unfold ofG
  split
  · simp
  · split
    · simp
    · split
      · simp
      · split <;> simp
theorem cnt_sum (l : List S30) : ∀ ns : List Int, ns.countP (fun n => ofU l n == 0) + ns.countP (fun n => ofU l n == 1) + ns.countP (fun n => ofU l n == 2) + ns.countP (fun n => ofU l n == 3) + ns.countP (fun n => ofU l n == 4) = ns.length
  | [] => rfl
  | n :: ns => by
    have ih := cnt_sum l ns
    simp only [List.countP_cons, List.length_cons]
    rcases ofG_range (U l n).1 (U l n).2 with h | h | h | h | h <;>
      (have h' : ofU l n = _ := h
       rw [h']
       simp only [beq_self_eq_true, if_true]
       first
         | (simp; omega)
         | omega)
theorem numL_len {l : List S30} : (numL l []).length = l.length := by
  unfold numL
  have : (sortI (l.map (·.f0))).filter (fun n => !([] : List Int).contains n) = sortI (l.map (·.f0)) := List.filter_eq_self.2 (fun a _ => by simp)
  rw [this]
  unfold sortI
  rw [List.length_mergeSort, List.length_map]
/-! the place of a number -/
theorem at_l0 (l : List S30) (a : Int) (hl : l.length < 4611686018427387904) : ∀ (d k i : Nat), i + d = l.length → d < k → ∃ r : Int, gunnyref18_At.l0 k l a (i : Int) = some r ∧ ((r = -1 ∧ ∀ j (hj : j < l.length), i ≤ j → l[j].f0 ≠ a) ∨ ∃ (j : Nat) (hj : j < l.length), r = (j : Int) ∧ l[j].f0 = a)
  | 0, k, i, h, hk => by
    obtain ⟨k, rfl⟩ : ∃ n, k = n + 1 := ⟨k - 1, by omega⟩
    refine ⟨-1, ?_, .inl ⟨rfl, fun j hj hij => by omega⟩⟩
    simp only [gunnyref18_At.l0]
    rw [if_neg (by omega)]
  | d + 1, k, i, h, hk => by
    obtain ⟨k, rfl⟩ : ∃ n, k = n + 1 := ⟨k - 1, by omega⟩
    have hi : i < l.length := by omega
    have e : rd_T30 l (i : Int) = l[i] := by unfold rd_T30; simp [hi]
    simp only [gunnyref18_At.l0]
    rw [if_pos (by omega), if_pos (by omega), e]
    by_cases hv : l[i].f0 = a
    · rw [if_pos hv]
      exact ⟨(i : Int), rfl, .inr ⟨i, hi, rfl, hv⟩⟩
    · rw [if_neg hv, w64s i (by omega)]
      obtain ⟨r, h1, h2⟩ := at_l0 l a hl d k (i + 1) (by omega) (by omega)
      refine ⟨r, h1, ?_⟩
      rcases h2 with ⟨h2, h3⟩ | h2
      · refine .inl ⟨h2, fun j hj hij => ?_⟩
        by_cases ej : j = i
        · subst ej; exact hv
        · exact h3 j hj (by omega)
      · exact .inr h2
theorem at_some (l : List S30) (a : Int) (hl : l.length < 4611686018427387904) : ∃ r : Int, gunnyref18_At.f (l.length + 1) l a = some r ∧ ((r = -1 ∧ ∀ y ∈ l, y.f0 ≠ a) ∨ ∃ (j : Nat) (hj : j < l.length), r = (j : Int) ∧ l[j].f0 = a) := by
  obtain ⟨r, h1, h2⟩ := at_l0 l a hl l.length (l.length + 1) 0 (by omega) (by omega)
  refine ⟨r, h1, ?_⟩
  rcases h2 with ⟨h2, h3⟩ | h2
  · refine .inl ⟨h2, fun y hy => ?_⟩
    obtain ⟨j, hj, rfl⟩ := List.mem_iff_getElem.1 hy
    exact h3 j hj (Nat.zero_le _)
  · exact .inr h2
end Go.Proofs.Ytoljebdicjiogaa.Hand
