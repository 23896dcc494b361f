/- PteTouches, pure: both loops over the uses go side by side: the word so far is the one of the parts so far. -/
import Derived.Test.YtcadfblcpfhjfaaPteKind
import Derived.Test.YtcadfblcpfhjfaaRx7
import Derived.OpenShut
namespace Go.Proofs.Ytcadfblcpfhjfaa.Pure
set_option linter.unusedVariables false
set_option linter.unusedSimpArgs false
open Go.RowKit Go.Proofs.Ytcadfblcpfhjfaa.R Go.Proofs.Ytcadfblcpfhjfaa.Bits Go.Proofs.Ytcadfblcpfhjfaa.Pte Go.Proofs.YtcadfblcpfhjfaaW.PrintWords Go.Proofs.YtcadfblcpfhjfaaW.PrintLast

theorem knd_leafy (w : Nat) (h : knd w = 2) : leafy w := by
  unfold knd at h
  by_cases h0 : w = 0
  · rw [if_pos h0] at h; omega
  rw [if_neg h0] at h
  by_cases h1 : nm w < 96 ∧ w = 1024 * nm w + 1
  · rw [if_pos h1] at h; omega
  rw [if_neg h1] at h
  by_cases h2 : leafy w
  · exact h2
  rw [if_neg h2] at h
  split at h <;> omega
theorem leafy_knd (w : Nat) (h : leafy w) : knd w = 2 := by
  have h0 : w ≠ 0 := by have := h.2.2.1; omega
  have h1 : ¬ (nm w < 96 ∧ w = 1024 * nm w + 1) := by
    have := h.2.2.1
    have := pm_lt w
    omega
  unfold knd
  rw [if_neg h0, if_neg h1, if_pos h]

theorem perm_leaf (k w : Nat) (hw : w < 18446744073709551616) (h : leafy w) : pte_Perm.f (k + 9) (w : Int) = some ((pm w : Nat) : Int) := by
  have e : pte_Kind.f (k + 9) (w : Int) = some 2 := by rw [kind_some k w hw, leafy_knd w h]; rfl
  unfold pte_Perm.f
  rw [bs e, if_neg (by decide), if_neg (by decide), bs (parts_some (k + 8) w hw)]

def V (w : Nat) (D : Bool) : Nat := 1024 * nm w + 2 * pm w + 81 + 128 * (if D = true then 1 else 0)
theorem nm_lt (w : Nat) : nm w < 17592186044416 := Nat.mod_lt _ (by decide)

theorem and_use (P u : Nat) (hP : P < 8) (hu : u = 1 ∨ u = 2 ∨ u = 4) : (Go.bits .and .i64 (P : Int) (u : Int) == 0) = decide (Int.tmod (wrap64 (Int.tdiv (P : Int) (u : Int))) 2 = 0) := by
  have : P = 0 ∨ P = 1 ∨ P = 2 ∨ P = 3 ∨ P = 4 ∨ P = 5 ∨ P = 6 ∨ P = 7 := by omega
  rcases this with rfl | rfl | rfl | rfl | rfl | rfl | rfl | rfl <;> rcases hu with rfl | rfl | rfl <;> decide +kernel

theorem set7 (k w : Nat) (D : Bool) (hl : nm w < 96) : num_Set.f (k + 1) ((V w D : Nat) : Int) 7 1 1 = some ((V w true : Nat) : Int) := by
  have hp := pm_lt w
  unfold V
  generalize nm w = M at *
  generalize pm w = P at *
  cases D with
  | true => exact set_lit k (1024 * M + 2 * P + 81 + 128 * 1) 7 1 1 (1024 * M + 2 * P + 81 + 128 * 1) (by omega) (by omega) (by omega) (by show _ + 1 % 2 * 128 = _ + (1024 * M + 2 * P + 81 + 128 * 1) / 128 % 2 * 128; omega)
  | false => exact set_lit k (1024 * M + 2 * P + 81 + 128 * 0) 7 1 1 (1024 * M + 2 * P + 81 + 128 * 1) (by omega) (by omega) (by omega) (by show _ + 1 % 2 * 128 = _ + (1024 * M + 2 * P + 81 + 128 * 0) / 128 % 2 * 128; omega)

theorem rput_V (w : Nat) (D r : Bool) : gunnyref31_Put.f true true true D ((pm w : Nat) : Int) ((nm w : Nat) : Int) r = some ((V w D : Nat) : Int) := by
  have h := rput true true true D r (pm w) (nm w) (by have := pm_lt w; omega) (nm_lt w)
  rw [h]
  refine congrArg some (congrArg Nat.cast ?_)
  unfold V bw
  cases D <;> simp only [Bool.false_eq_true, if_false, if_true] <;> omega

theorem pstep (k w : Nat) (D : Bool) (l : List Int) (i u : Nat) (hw : w < 18446744073709551616) (hl : leafy w) (hi : i < l.length) (e : rd l (i : Int) = (u : Int)) (hu : u = 1 ∨ u = 2 ∨ u = 4) :
    pte_Touch.l0 (k + 10) (w : Int) ((V w D : Nat) : Int) l (l.length : Int) (i : Int) = pte_Touch.j1 (k + 9) (w : Int) ((V w D : Nat) : Int) (u : Int) l (l.length : Int) (i : Int) (decide (Int.tmod (wrap64 (Int.tdiv ((pm w : Nat) : Int) (u : Int))) 2 = 0)) := by
  have p := perm_leaf k w hw hl
  rw [← and_use (pm w) u (pm_lt w) hu]
  simp only [pte_Touch.l0]
  rw [if_pos (by omega), if_pos (by omega), if_pos (by omega), e]
  rcases hu with rfl | rfl | rfl
  · rw [if_pos (by decide), bs p]
  · rw [if_neg (by decide), if_pos (by decide), bs p]
  · rw [if_neg (by decide), if_neg (by decide), if_pos (by decide), bs p]
theorem pstep_no (k w : Nat) (x : Int) (l : List Int) (i : Nat) (hi : i < l.length) (h1 : rd l (i : Int) ≠ 1) (h2 : rd l (i : Int) ≠ 2) (h4 : rd l (i : Int) ≠ 4) :
    pte_Touch.l0 (k + 2) (w : Int) x l (l.length : Int) (i : Int) = some ((w : Int), false) := by
  simp only [pte_Touch.l0]
  rw [if_pos (by omega), if_pos (by omega), if_pos (by omega), if_neg h1, if_neg h2, if_neg h4]
  simp only [pte_Touch.j1, if_true]

theorem j1_true (k w : Nat) (x u : Int) (l : List Int) (n i : Int) : pte_Touch.j1 (k + 1) (w : Int) x u l n i true = some ((w : Int), false) := by
  simp only [pte_Touch.j1, if_true]
theorem j1_false (k w : Nat) (D : Bool) (l : List Int) (i u : Nat) (hl : nm w < 96) (hi : i < 100) :
    pte_Touch.j1 (k + 2) (w : Int) ((V w D : Nat) : Int) (u : Int) l (l.length : Int) (i : Int) false = pte_Touch.l0 (k + 1) (w : Int) ((V w (D || u == 2) : Nat) : Int) l (l.length : Int) ((i + 1 : Nat) : Int) := by
  have e : wrap64 ((i : Int) + 1) = ((i + 1 : Nat) : Int) := by unfold wrap64; omega
  have s := set7 k w D hl
  simp only [pte_Touch.j1, Bool.false_eq_true, if_false]
  rw [e]
  by_cases h : u = 2
  · subst h
    rw [if_pos (by decide), bs s, show (D || (2 : Nat) == 2) = true by cases D <;> rfl]
  · have h' : (u == 2) = false := beq_eq_false_iff_ne.mpr h
    rw [if_neg (by omega), h', Bool.or_false]

theorem rstep (k w : Nat) (D r : Bool) (P M : Int) (l : List Int) (i u : Nat) (hi : i < l.length) (h100 : i < 100) (e : rd l (i : Int) = (u : Int)) (hu : u = 1 ∨ u = 2 ∨ u = 4) :
    gunnyref31_Touch.l0 (k + 1) (w : Int) l (i : Int) true true true D P M r = if Int.tmod (wrap64 (Int.tdiv P (u : Int))) 2 = 0 then some ((w : Int), false) else gunnyref31_Touch.l0 k (w : Int) l ((i + 1 : Nat) : Int) true true true (D || u == 2) P M r := by
  have e1 : wrap64 ((i : Int) + 1) = ((i + 1 : Nat) : Int) := by unfold wrap64; omega
  have e2 : (((u : Nat) : Int) == 2) = (u == 2) := by rw [Bool.eq_iff_iff, beq_iff_eq, beq_iff_eq]; omega
  simp only [gunnyref31_Touch.l0]
  rw [if_pos (by omega), if_pos (by omega), e, e1, e2]
  have z : ∀ x : Option (Int × Bool), (if D = true then gunnyref31_Touch.l0 k (w : Int) l ((i + 1 : Nat) : Int) true true true true P M r else gunnyref31_Touch.l0 k (w : Int) l ((i + 1 : Nat) : Int) true true true (u == 2) P M r) = gunnyref31_Touch.l0 k (w : Int) l ((i + 1 : Nat) : Int) true true true (D || u == 2) P M r := by
    intro _
    cases D <;> rfl
  rw [z none]
  rcases hu with rfl | rfl | rfl
  · rw [if_pos (by decide), if_neg (by decide)]
  · rw [if_neg (by decide), if_pos (by decide), if_neg (by decide)]
  · rw [if_neg (by decide), if_neg (by decide), if_pos (by decide), if_neg (by decide)]
theorem rstep_no (k w : Nat) (D r : Bool) (P M : Int) (l : List Int) (i : Nat) (hi : i < l.length) (h1 : rd l (i : Int) ≠ 1) (h2 : rd l (i : Int) ≠ 2) (h4 : rd l (i : Int) ≠ 4) :
    gunnyref31_Touch.l0 (k + 1) (w : Int) l (i : Int) true true true D P M r = some ((w : Int), false) := by
  simp only [gunnyref31_Touch.l0]
  rw [if_pos (by omega), if_pos (by omega), if_neg h1, if_neg h2, if_neg h4]

theorem touch_l0 (w : Nat) (hw : w < 18446744073709551616) (hl : leafy w) (l : List Int) (r : Bool) (h50 : l.length ≤ 50) (d : Nat) : ∀ (k i : Nat) (D : Bool), i ≤ l.length → l.length - i = d → 2 * d + 20 ≤ k →
    ∃ x, pte_Touch.l0 k (w : Int) ((V w D : Nat) : Int) l (l.length : Int) (i : Int) = some x ∧ gunnyref31_Touch.l0 k (w : Int) l (i : Int) true true true D ((pm w : Nat) : Int) ((nm w : Nat) : Int) r = some x := by
  induction d with
  | zero =>
    intro k i D hi hd hk
    obtain ⟨k, rfl⟩ : ∃ m, k = m + 1 := ⟨k - 1, by omega⟩
    refine ⟨(((V w D : Nat) : Int), true), ?_, ?_⟩
    · simp only [pte_Touch.l0]
      rw [if_neg (by omega)]
    · simp only [gunnyref31_Touch.l0]
      rw [if_neg (by omega), bs (rput_V w D r)]
  | succ d ih =>
    intro k i D hi hd hk
    obtain ⟨k, rfl⟩ : ∃ m, k = m + 10 := ⟨k - 10, by omega⟩
    have hi' : i < l.length := by omega
    by_cases hu : rd l (i : Int) = 1 ∨ rd l (i : Int) = 2 ∨ rd l (i : Int) = 4
    · obtain ⟨u, e, hu⟩ : ∃ u : Nat, rd l (i : Int) = (u : Int) ∧ (u = 1 ∨ u = 2 ∨ u = 4) := by
        rcases hu with h | h | h
        · exact ⟨1, h, by omega⟩
        · exact ⟨2, h, by omega⟩
        · exact ⟨4, h, by omega⟩
      rw [pstep k w D l i u hw hl hi' e hu, rstep (k + 9) w D r _ _ l i u hi' (by omega) e hu]
      by_cases hz : Int.tmod (wrap64 (Int.tdiv ((pm w : Nat) : Int) (u : Int))) 2 = 0
      · rw [decide_eq_true hz, if_pos hz, j1_true (k + 8)]
        exact ⟨_, rfl, rfl⟩
      · rw [decide_eq_false hz, if_neg hz, j1_false (k + 7) w D l i u hl.1 (by omega)]
        obtain ⟨x, h1, h2⟩ := ih (k + 8) (i + 1) (D || u == 2) (by omega) (by omega) (by omega)
        exact ⟨x, h1, gunnyref31_Touch.mono_l (k + 8) _ _ _ _ _ _ _ _ _ _ _ h2⟩
    · have h1 : rd l (i : Int) ≠ 1 := fun h => hu (.inl h)
      have h2 : rd l (i : Int) ≠ 2 := fun h => hu (.inr (.inl h))
      have h4 : rd l (i : Int) ≠ 4 := fun h => hu (.inr (.inr h))
      rw [pstep_no (k + 8) w _ l i hi' h1 h2 h4, rstep_no (k + 9) w D r _ _ l i hi' h1 h2 h4]
      exact ⟨_, rfl, rfl⟩

theorem touch_same (w : Nat) (l : List Int) (hw : w < 18446744073709551616) (h50 : l.length ≤ 50) : ∃ x, pte_Touch.f 400 (w : Int) l = some x ∧ gunnyref31_Touch.f 400 (w : Int) l = some x := by
  unfold pte_Touch.f gunnyref31_Touch.f
  have k1 : pte_Kind.f 400 (w : Int) = some ((knd w : Nat) : Int) := kind_some 391 w hw
  have k2 := rkind 400 w hw (by omega)
  rw [bs k1, bs k2]
  by_cases h : knd w = 2
  · have hl := knd_leafy w h
    rw [h, if_pos (show ((2 : Nat) : Int) = 2 by decide), if_pos (show ((2 : Nat) : Int) = 2 by decide), bs (rread 400 w hw (by omega))]
    have hp := pm_lt w
    have l1 := hl.2.2.1
    have l0 := hl.1
    have s6 : num_Set.f 400 (w : Int) 6 1 1 = some ((V w (w / 128 % 2 == 1) : Nat) : Int) := by
      refine set_lit 399 w 6 1 1 _ hw (by omega) (by omega) ?_
      show w + 1 % 2 * 64 = V w (w / 128 % 2 == 1) + w / 64 % 2 * 64
      unfold V
      generalize nm w = M at *
      generalize pm w = P at *
      by_cases h7 : w / 128 % 2 = 1
      · rw [beq_iff_eq.mpr h7, if_pos rfl]; omega
      · rw [beq_eq_false_iff_ne.mpr h7, if_neg (by decide)]; omega
    rw [bs s6]
    have v1 : (w % 2 == 1) = true := by rw [beq_iff_eq]; omega
    have v2 : (w / 16 % 2 == 1) = true := by rw [beq_iff_eq]; omega
    rw [v1, v2]
    exact touch_l0 w hw hl l (restB w) h50 l.length 400 0 (w / 128 % 2 == 1) (by omega) (by omega) (by omega)
  · rw [if_neg (by omega), if_neg (by omega)]
    exact ⟨_, rfl, rfl⟩

theorem PteTouches : gunnylaw31_PteTouches.Pure := by
  intro a0 l1 h0 _ _ _
  refine ⟨400, ?_⟩
  have lv := lives_some 400 (by omega)
  unfold gunnylaw31_PteTouches.f
  by_cases h50 : (l1.length : Int) > 50
  · rw [if_pos h50, bs lv]
  · rw [if_neg h50]
    have hb := bounds_u64 h0
    obtain ⟨w, rfl⟩ : ∃ w : Nat, a0 = (w : Int) := ⟨a0.toNat, by omega⟩
    obtain ⟨x, h1, h2⟩ := touch_same w l1 (by omega) (by omega)
    rw [bs h1, bs h2, if_pos rfl]
    rw [if_pos (by cases x.2 <;> rfl), bs lv]

end Go.Proofs.Ytcadfblcpfhjfaa.Pure
