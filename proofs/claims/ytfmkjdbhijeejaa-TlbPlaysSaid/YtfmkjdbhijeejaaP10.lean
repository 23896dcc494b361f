/- TlbPlays, plain: what a note joins, what is found. -/
import Derived.Test.YtfmkjdbhijeejaaP9
namespace Go.Proofs.Ytfmkjdbhijeejaa.Hand
set_option linter.unusedVariables false
theorem joinR_cons (x y : NN) (l : List NN) : joinR x (y :: l) = joinR (if y.page % 16 != x.page % 16 then x else if y.page == x.page && y.frame == x.frame then x.or y else x) l := by
  unfold joinR
  rw [List.foldl_cons]
/-- Nobody has the place: nothing is joined. -/
theorem joinR_none : ∀ (l : List NN) (x : NN), (∀ y ∈ l, y.page % 16 ≠ x.page % 16) → joinR x l = x
  | [], _, _ => rfl
  | y :: l, x, h => by
    have h1 := h y (List.mem_cons_self ..)
    rw [joinR_cons, if_pos (by simpa using h1)]
    exact joinR_none l x (fun z hz => h z (List.mem_cons_of_mem _ hz))
/-- The one who has the place. -/
theorem joinR_one : ∀ (l : List NN) (x : NN), l.Pairwise (fun a b => a.page % 16 ≠ b.page % 16) → ∀ y ∈ l, y.page % 16 = x.page % 16 → joinR x l = if y.page = x.page ∧ y.frame = x.frame then x.or y else x
  | [], _, _, y, hy, _ => by cases hy
  | z :: l, x, h, y, hy, e => by
    obtain ⟨h1, h2⟩ := List.pairwise_cons.1 h
    rcases List.mem_cons.1 hy with ez | hy
    · subst ez
      have h3 : (y.page % 16 != x.page % 16) = false := by simpa using e
      rw [joinR_cons, h3, if_neg (by decide)]
      by_cases h4 : y.page = x.page ∧ y.frame = x.frame
      · have h5 : (y.page == x.page && y.frame == x.frame) = true := by simp [h4.1, h4.2]
        rw [h5, if_pos rfl, if_pos h4]
        exact joinR_none l (x.or y) (fun w hw => by
          have h6 := h1 w hw
          show w.page % 16 ≠ x.page % 16
          rw [← e]; exact fun e2 => h6 e2.symm)
      · have h5 : ¬ (y.page == x.page && y.frame == x.frame) = true := by simpa using h4
        rw [if_neg h5, if_neg h4]
        exact joinR_none l x (fun w hw => by
          have h6 := h1 w hw
          rw [← e]; exact fun e2 => h6 e2.symm)
    · have h3 : z.page % 16 ≠ x.page % 16 := by rw [← e]; exact h1 y hy
      rw [joinR_cons, if_pos (by simpa using h3)]
      exact joinR_one l x h2 y hy e
/-- A page is in its place where it is in the list. -/
theorem RelT.page {L : List Int} {l : List NN} (h : RelT L l) (p : Int) (hp : 0 ≤ p) : L.getD ((p % 16).toNat * 3) 0 = p + 1 ↔ ∃ y ∈ l, y.page = p := by
  constructor
  · intro e
    by_cases hn : ∀ y ∈ l, y.page % 16 ≠ (((p % 16).toNat : Nat) : Int)
    · have := h.gone (p % 16).toNat (by omega) hn
      omega
    · have hn' := Classical.not_forall.1 hn
      obtain ⟨y, hy⟩ := hn'
      obtain ⟨hy, hm⟩ := Classical.not_imp.1 hy
      have hm' := Classical.not_not.1 hm
      have hb := h.one.ok y hy
      have h1 := (h.has y hy).1
      rw [show (y.page % 16).toNat = (p % 16).toNat by omega] at h1
      exact ⟨y, hy, by omega⟩
  · rintro ⟨y, hy, rfl⟩
    exact (h.has y hy).1
/-- A frame is in some place that has a page, where it is in the list. -/
theorem RelT.frame {L : List Int} {l : List NN} (h : RelT L l) (f : Int) : (∃ k : Nat, k < 16 ∧ 0 < L.getD (k * 3) 0 ∧ L.getD (k * 3 + 1) 0 = f) ↔ ∃ y ∈ l, y.frame = f := by
  constructor
  · rintro ⟨k, hk, h0, hf⟩
    by_cases hn : ∀ y ∈ l, y.page % 16 ≠ (k : Int)
    · have := h.gone k hk hn
      omega
    · obtain ⟨y, hy⟩ := Classical.not_forall.1 hn
      obtain ⟨hy, hm⟩ := Classical.not_imp.1 hy
      have hm' := Classical.not_not.1 hm
      have h1 := (h.has y hy).2.1
      rw [show (y.page % 16).toNat = k by omega] at h1
      exact ⟨y, hy, h1.symm.trans hf⟩
  · rintro ⟨y, hy, rfl⟩
    have hb := h.one.ok y hy
    have h1 := h.has y hy
    exact ⟨(y.page % 16).toNat, by omega, by omega, h1.2.1⟩
end Go.Proofs.Ytfmkjdbhijeejaa.Hand
