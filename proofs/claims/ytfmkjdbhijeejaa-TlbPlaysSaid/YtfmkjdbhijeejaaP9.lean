/- TlbPlays, plain: the cells of a memory, and the document's list. -/
import Derived.Test.YtfmkjdbhijeejaaP8
namespace Go.Proofs.Ytfmkjdbhijeejaa.Hand
set_option linter.unusedVariables false
/-- An entry's uses, as the place has them. -/
def usesV (y : NN) : Int := (bif y.u1 then 1 else 0) + (bif y.u2 then 2 else 0) + (bif y.u4 then 4 else 0)
theorem usesV_or (x y : NN) : Go.bits .or .i64 (usesV x) (usesV y) = usesV (x.or y) := by
  obtain ⟨p, f, a0, a1, a2, a3, a4⟩ := x
  obtain ⟨p', f', b0, b1, b2, b3, b4⟩ := y
  unfold usesV NN.or
  cases a1 <;> cases a2 <;> cases a4 <;> cases b1 <;> cases b2 <;> cases b4 <;> dsimp only <;> decide +kernel
theorem usesV_and1 (x : NN) : (Go.bits .and .i64 (usesV x) 1 == 0) = !x.u1 := by
  obtain ⟨p, f, a0, a1, a2, a3, a4⟩ := x
  unfold usesV
  cases a1 <;> cases a2 <;> cases a4 <;> dsimp only <;> decide +kernel
theorem usesV_and2 (x : NN) : (Go.bits .and .i64 (usesV x) 2 == 0) = !x.u2 := by
  obtain ⟨p, f, a0, a1, a2, a3, a4⟩ := x
  unfold usesV
  cases a1 <;> cases a2 <;> cases a4 <;> dsimp only <;> decide +kernel
theorem usesV_and4 (x : NN) : (Go.bits .and .i64 (usesV x) 4 == 0) = !x.u4 := by
  obtain ⟨p, f, a0, a1, a2, a3, a4⟩ := x
  unfold usesV
  cases a1 <;> cases a2 <;> cases a4 <;> dsimp only <;> decide +kernel
/-- The cells tell the list. -/
structure RelT (L : List Int) (l : List NN) : Prop where
  one : OneR l
  len : L.length = 50
  gone : ∀ k : Nat, k < 16 → (∀ y ∈ l, y.page % 16 ≠ (k : Int)) → L.getD (k * 3) 0 = 0
  has : ∀ y ∈ l, L.getD ((y.page % 16).toNat * 3) 0 = y.page + 1 ∧ L.getD ((y.page % 16).toNat * 3 + 1) 0 = y.frame ∧ L.getD ((y.page % 16).toNat * 3 + 2) 0 = usesV y
theorem RelT.start : RelT (List.replicate 50 0) [] :=
  ⟨OneR.nil, List.length_replicate, fun k hk _ => by rw [List.getD_eq_getElem?_getD, List.getElem?_replicate, if_pos (by omega)]; rfl, fun y hy => by cases hy⟩
theorem gset (L : List Int) (i j : Nat) (v : Int) : (L.set i v).getD j 0 = if i = j ∧ i < L.length then v else L.getD j 0 := by
  rw [List.getD_eq_getElem?_getD, List.getD_eq_getElem?_getD, List.getElem?_set]
  by_cases h : i = j
  · subst h
    by_cases h2 : i < L.length
    · simp [h2]
    · simp [h2]
  · simp [h]
/-- A count of hits or misses is no part of it. -/
theorem RelT.count {L : List Int} {l : List NN} (h : RelT L l) (i : Nat) (hi : 48 ≤ i) (v : Int) : RelT (L.set i v) l := by
  refine ⟨h.one, by rw [List.length_set]; exact h.len, fun k hk hn => ?_, fun y hy => ?_⟩
  · rw [gset, if_neg (by omega)]
    exact h.gone k hk hn
  · have hb := h.one.ok y hy
    rw [gset, gset, gset, if_neg (by omega), if_neg (by omega), if_neg (by omega)]
    exact h.has y hy
/-- Three cells of one place. -/
def put3 (L : List Int) (k : Nat) (a b c : Int) : List Int := ((L.set (k * 3) a).set (k * 3 + 1) b).set (k * 3 + 2) c
theorem put3_length (L : List Int) (k : Nat) (a b c : Int) : (put3 L k a b c).length = L.length := by unfold put3; simp
theorem put3_far (L : List Int) (k j : Nat) (a b c : Int) (h0 : j ≠ k * 3) (h1 : j ≠ k * 3 + 1) (h2 : j ≠ k * 3 + 2) : (put3 L k a b c).getD j 0 = L.getD j 0 := by
  unfold put3
  rw [gset, gset, gset, if_neg (by omega), if_neg (by omega), if_neg (by omega)]
theorem put3_at (L : List Int) (hL : L.length = 50) (k : Nat) (hk : k < 16) (a b c : Int) : (put3 L k a b c).getD (k * 3) 0 = a ∧ (put3 L k a b c).getD (k * 3 + 1) 0 = b ∧ (put3 L k a b c).getD (k * 3 + 2) 0 = c := by
  unfold put3
  refine ⟨?_, ?_, ?_⟩
  · rw [gset, gset, gset, if_neg (by omega), if_neg (by omega), if_pos ⟨rfl, by omega⟩]
  · rw [gset, gset, if_neg (by omega), if_pos ⟨rfl, by rw [List.length_set]; omega⟩]
  · rw [gset, if_pos ⟨rfl, by rw [List.length_set, List.length_set]; omega⟩]
/-- A page that is noted. -/
theorem RelT.note {L : List Int} {l : List NN} (h : RelT L l) (x : NN) (hx : 0 ≤ x.page ∧ x.page < 68719476736 ∧ 0 ≤ x.frame ∧ x.frame < 96) :
    RelT (put3 L (x.page % 16).toNat (x.page + 1) x.frame (usesV (joinR x l))) (noteR x l) := by
  obtain ⟨hp, hf⟩ := joinR_page l x
  refine ⟨h.one.note x hx, by rw [put3_length]; exact h.len, fun k hk hn => ?_, fun y hy => ?_⟩
  · have hx1 := hn (joinR x l) (List.mem_append_right _ (List.mem_singleton.2 rfl))
    rw [hp] at hx1
    rw [put3_far _ _ _ _ _ _ (by omega) (by omega) (by omega)]
    refine h.gone k hk (fun y hy => ?_)
    by_cases e : y.page % 16 = x.page % 16
    · rw [e]; exact hx1
    · exact hn y (List.mem_append_left _ (List.mem_filter.2 ⟨hy, by simpa using e⟩))
  · rcases List.mem_append.1 hy with hy | hy
    · obtain ⟨h1, h2⟩ := List.mem_filter.1 hy
      have h3 : ¬ y.page % 16 = x.page % 16 := by simpa using h2
      have hb := h.one.ok y h1
      rw [put3_far _ _ _ _ _ _ (by omega) (by omega) (by omega), put3_far _ _ _ _ _ _ (by omega) (by omega) (by omega), put3_far _ _ _ _ _ _ (by omega) (by omega) (by omega)]
      exact h.has y h1
    · obtain rfl := List.mem_singleton.1 hy
      have := put3_at L h.len (x.page % 16).toNat (by omega) (x.page + 1) x.frame (usesV (joinR x l))
      rw [hp, hf]
      exact this
theorem one_at : ∀ {l : List NN}, l.Pairwise (fun a b => a.page % 16 ≠ b.page % 16) → ∀ a ∈ l, ∀ b ∈ l, a ≠ b → a.page % 16 ≠ b.page % 16
  | [], _, a, ha, _, _, _ => by cases ha
  | x :: l, h, a, ha, b, hb, hne => by
    obtain ⟨h1, h2⟩ := List.pairwise_cons.1 h
    rcases List.mem_cons.1 ha with ea | ha
    · rcases List.mem_cons.1 hb with eb | hb
      · exact absurd (ea.trans eb.symm) hne
      · rw [ea]; exact h1 b hb
    · rcases List.mem_cons.1 hb with eb | hb
      · rw [eb]; exact fun e => h1 a ha e.symm
      · exact one_at h2 a ha b hb hne
/-- A page that is flushed, and was there. -/
theorem RelT.flush {L : List Int} {l : List NN} (h : RelT L l) (y : NN) (hy : y ∈ l) : RelT (put3 L (y.page % 16).toNat 0 0 0) (flushR y.page l) := by
  have hb := h.one.ok y hy
  refine ⟨h.one.flush _, by rw [put3_length]; exact h.len, fun k hk hn => ?_, fun z hz => ?_⟩
  · by_cases e : k = (y.page % 16).toNat
    · subst e
      exact (put3_at L h.len _ hk 0 0 0).1
    · rw [put3_far _ _ _ _ _ _ (by omega) (by omega) (by omega)]
      refine h.gone k hk (fun z hz => ?_)
      by_cases e2 : z.page = y.page
      · rw [e2]; omega
      · exact hn z (List.mem_filter.2 ⟨hz, by simpa using e2⟩)
  · obtain ⟨h1, h2⟩ := List.mem_filter.1 hz
    have h3 : ¬ z.page = y.page := by simpa using h2
    have hbz := h.one.ok z h1
    have h4 : z.page % 16 ≠ y.page % 16 := by
      intro e
      have h5 : z ≠ y := fun e2 => h3 (by rw [e2])
      exact one_at h.one.one z h1 y hy h5 e
    rw [put3_far _ _ _ _ _ _ (by omega) (by omega) (by omega), put3_far _ _ _ _ _ _ (by omega) (by omega) (by omega), put3_far _ _ _ _ _ _ (by omega) (by omega) (by omega)]
    exact h.has z h1
end Go.Proofs.Ytfmkjdbhijeejaa.Hand
