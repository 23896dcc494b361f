/- What pte's functions compute, on words as natural numbers: a word's number and perm, its kind, the words that are made. No program's memory. -/
import Derived.Test.YtcadfblcpfhjfaaNum
import Derived.Test.YtcadfblcpfhjfaaRx2
namespace Go.Proofs.Ytcadfblcpfhjfaa.Pte
open Go.RowKit Go.Proofs.Ytcadfblcpfhjfaa.R Go.Proofs.Ytcadfblcpfhjfaa.Bits Go.Proofs.Ytcadfblcpfhjfaa.Num Go.Proofs.YtcadfblcpfhjfaaW.PrintWords Go.Proofs.YtcadfblcpfhjfaaW.PrintMore

def nm (w : Nat) : Nat := w / 1024 % 17592186044416
def pm (w : Nat) : Nat := w / 2 % 8
def mayN (p : Nat) : Bool := p == 1 || p == 3 || p == 4 || p == 5 || p == 7
def may (p : Int) : Bool := p == 1 || p == 3 || p == 4 || p == 5 || p == 7
theorem may_nat (p : Nat) : may (p : Int) = mayN p := by
  unfold may mayN
  have h : ∀ n : Nat, (((p : Int) == (n : Int))) = (p == n) := by intro n; rw [Bool.eq_iff_iff, beq_iff_eq, beq_iff_eq]; omega
  have h1 := h 1
  have h3 := h 3
  have h4 := h 4
  have h5 := h 5
  have h7 := h 7
  rw [← h1, ← h3, ← h4, ← h5, ← h7]
  rfl
theorem may_range (p : Int) (h : may p = true) : 1 ≤ p ∧ p ≤ 7 := by
  unfold may at h
  simp only [Bool.or_eq_true, beq_iff_eq] at h
  omega
theorem may_some (p : Int) : pte_May.f p = some (may p) := by
  by_cases h : 1 ≤ p ∧ p ≤ 7
  · have : p = 1 ∨ p = 2 ∨ p = 3 ∨ p = 4 ∨ p = 5 ∨ p = 6 ∨ p = 7 := by omega
    rcases this with rfl | rfl | rfl | rfl | rfl | rfl | rfl <;> decide +kernel
  · have e : may p = false := by
      unfold may
      simp only [Bool.or_eq_false_iff, beq_eq_false_iff_ne]
      omega
    rw [e]
    unfold pte_May.f
    by_cases h1 : p ≥ 1
    · rw [if_pos h1, if_neg (by omega)]
    · rw [if_neg h1]

theorem set_lit (k a p w n m : Nat) (ha : a < 18446744073709551616) (hp : p < 64) (hw : 1 ≤ w) (hm : a + n % 2 ^ (min w (64 - p)) * 2 ^ p = m + a / 2 ^ p % 2 ^ (min w (64 - p)) * 2 ^ p) :
    num_Set.f (k + 1) (a : Int) (p : Int) (w : Int) (n : Int) = some (m : Int) := by
  rw [set_some k a p w n ha hp hw]
  exact congrArg some (by omega)

theorem made_start (k n p : Nat) (hn : n < 17592186044416) (hp : p < 8) (l : List Int) : pte_made.f (k + 1) (n : Int) (p : Int) l = pte_made.l0 (k + 1) ((1024 * n + 2 * p : Nat) : Int) l (l.length : Int) 0 := by
  have e1 : IntKind.u64.wrap (n : Int) = (n : Int) := by rw [u64w]; omega
  have e2 : IntKind.u64.wrap (p : Int) = (p : Int) := by rw [u64w]; omega
  have s1 : num_Set.f (k + 1) 0 10 44 (n : Int) = some ((1024 * n : Nat) : Int) := set_lit k 0 10 44 n (1024 * n) (by omega) (by omega) (by omega) (by show 0 + n % 17592186044416 * 1024 = 1024 * n + 0 / 1024 % 17592186044416 * 1024; omega)
  have s2 : num_Set.f (k + 1) ((1024 * n : Nat) : Int) 1 3 (p : Int) = some ((1024 * n + 2 * p : Nat) : Int) := set_lit k (1024 * n) 1 3 p (1024 * n + 2 * p) (by omega) (by omega) (by omega) (by show 1024 * n + p % 8 * 2 = 1024 * n + 2 * p + 1024 * n / 2 % 8 * 2; omega)
  unfold pte_made.f
  rw [e1, bs s1, e2, bs s2]

theorem w0 : wrap64 (0 + 1) = 1 := by decide +kernel
theorem w1 : wrap64 (1 + 1) = 2 := by decide +kernel

theorem made_tab (k n : Nat) (hn : n < 17592186044416) : pte_made.f (k + 4) (n : Int) 0 [0] = some ((1024 * n + 1 : Nat) : Int) := by
  have e := made_start (k + 3) n 0 hn (by omega) [0]
  have s1 : num_Set.f (k + 3) ((1024 * n + 2 * 0 : Nat) : Int) 0 1 1 = some ((1024 * n + 1 : Nat) : Int) := set_lit (k + 2) (1024 * n + 2 * 0) 0 1 1 (1024 * n + 1) (by omega) (by omega) (by omega) (by show 1024 * n + 2 * 0 + 1 % 2 * 1 = 1024 * n + 1 + (1024 * n + 2 * 0) / 1 % 2 * 1; omega)
  have r0 : rd [0] 0 = 0 := rfl
  have l0 : (([0] : List Int).length : Int) = 1 := rfl
  have e' : pte_made.f (k + 4) (n : Int) 0 [0] = pte_made.l0 (k + 4) ((1024 * n + 2 * 0 : Nat) : Int) [0] (([0] : List Int).length : Int) 0 := e
  rw [e', l0]
  simp only [pte_made.l0]
  rw [l0, if_pos (by decide), if_pos (by decide), if_pos (by decide), r0, bs s1, w0, if_neg (by decide)]

theorem made_page (k n p : Nat) (hn : n < 17592186044416) (hp : p < 8) : pte_made.f (k + 5) (n : Int) (p : Int) [0, 4] = some ((1024 * n + 2 * p + 17 : Nat) : Int) := by
  have e := made_start (k + 4) n p hn hp [0, 4]
  have s1 : num_Set.f (k + 4) ((1024 * n + 2 * p : Nat) : Int) 0 1 1 = some ((1024 * n + 2 * p + 1 : Nat) : Int) := set_lit (k + 3) (1024 * n + 2 * p) 0 1 1 (1024 * n + 2 * p + 1) (by omega) (by omega) (by omega) (by show 1024 * n + 2 * p + 1 % 2 * 1 = 1024 * n + 2 * p + 1 + (1024 * n + 2 * p) / 1 % 2 * 1; omega)
  have s2 : num_Set.f (k + 3) ((1024 * n + 2 * p + 1 : Nat) : Int) 4 1 1 = some ((1024 * n + 2 * p + 17 : Nat) : Int) := set_lit (k + 2) (1024 * n + 2 * p + 1) 4 1 1 (1024 * n + 2 * p + 17) (by omega) (by omega) (by omega) (by show 1024 * n + 2 * p + 1 + 1 % 2 * 16 = 1024 * n + 2 * p + 17 + (1024 * n + 2 * p + 1) / 16 % 2 * 16; omega)
  have r0 : rd [0, 4] 0 = 0 := rfl
  have r1 : rd [0, 4] 1 = 4 := rfl
  have l0 : (([0, 4] : List Int).length : Int) = 2 := rfl
  rw [e, l0]
  simp only [pte_made.l0]
  rw [l0, if_pos (by decide), if_pos (by decide), if_pos (by decide), r0, bs s1, w0, if_pos (by decide), if_pos (by decide), if_pos (by decide), r1, bs s2, w1, if_neg (by decide)]

theorem made_away (k n p : Nat) (hn : n < 17592186044416) (hp : p < 8) : pte_made.f (k + 5) (n : Int) (p : Int) [4] = some ((1024 * n + 2 * p + 16 : Nat) : Int) := by
  have e := made_start (k + 4) n p hn hp [4]
  have s1 : num_Set.f (k + 4) ((1024 * n + 2 * p : Nat) : Int) 4 1 1 = some ((1024 * n + 2 * p + 16 : Nat) : Int) := set_lit (k + 3) (1024 * n + 2 * p) 4 1 1 (1024 * n + 2 * p + 16) (by omega) (by omega) (by omega) (by show 1024 * n + 2 * p + 1 % 2 * 16 = 1024 * n + 2 * p + 16 + (1024 * n + 2 * p) / 16 % 2 * 16; omega)
  have r0 : rd [4] 0 = 4 := rfl
  have l0 : (([4] : List Int).length : Int) = 1 := rfl
  rw [e, l0]
  simp only [pte_made.l0]
  rw [l0, if_pos (by decide), if_pos (by decide), if_pos (by decide), r0, bs s1, w0, if_neg (by decide)]

theorem frame_some (n : Int) : pte_frame.f n = some (decide (0 ≤ n ∧ n < 96)) := by
  unfold pte_frame.f
  by_cases h : n ≥ 0
  · rw [if_pos h]; exact congrArg some (by rw [decide_eq_decide]; omega)
  · rw [if_neg h, decide_eq_false (by omega)]

theorem down_yes (k n : Nat) (hn : n < 96) : pte_Down.f (k + 4) (n : Int) = some (((1024 * n + 1 : Nat) : Int), true) := by
  unfold pte_Down.f
  rw [bs (frame_some _), decide_eq_true (by omega), if_pos rfl, bs (made_tab k n (by omega))]
theorem down_no (k : Nat) (n : Int) (hn : ¬ (0 ≤ n ∧ n < 96)) : pte_Down.f k n = some (0, false) := by
  unfold pte_Down.f
  rw [bs (frame_some _), decide_eq_false hn, if_neg (by decide)]
theorem page_yes (k n p : Nat) (hn : n < 96) (hp : mayN p = true) : pte_Page.f (k + 5) (n : Int) (p : Int) = some (((1024 * n + 2 * p + 17 : Nat) : Int), true) := by
  have hp8 := may_range p ((may_nat p).trans hp)
  unfold pte_Page.f
  rw [bs (frame_some _), decide_eq_true (by omega), if_pos rfl, bs (may_some _), may_nat, hp, if_pos rfl, bs (made_page k n p (by omega) (by omega))]
theorem page_no (k : Nat) (n p : Int) (h : ¬ (0 ≤ n ∧ n < 96) ∨ may p = false) : pte_Page.f k n p = some (0, false) := by
  unfold pte_Page.f
  rw [bs (frame_some _)]
  by_cases hn : 0 ≤ n ∧ n < 96
  · have : may p = false := by
      rcases h with h | h
      · exact absurd hn h
      · exact h
    rw [decide_eq_true hn, if_pos rfl, bs (may_some _), this, if_neg (by decide)]
  · rw [decide_eq_false hn, if_neg (by decide)]
theorem away_yes (k n p : Nat) (hn : n ≤ 512) (hp : mayN p = true) : pte_Away.f (k + 5) (n : Int) (p : Int) = some (((1024 * n + 2 * p + 16 : Nat) : Int), true) := by
  have hp8 := may_range p ((may_nat p).trans hp)
  unfold pte_Away.f
  rw [if_neg (by omega), if_neg (by omega), bs (may_some _), may_nat, hp, if_pos rfl, bs (made_away k n p (by omega) (by omega))]
theorem away_no (k : Nat) (n p : Int) (h : n < 0 ∨ 512 < n ∨ may p = false) : pte_Away.f k n p = some (0, false) := by
  unfold pte_Away.f
  by_cases h0 : n < 0
  · rw [if_pos h0]
  · rw [if_neg h0]
    by_cases h1 : n > 512
    · rw [if_pos h1]
    · have : may p = false := by
        rcases h with h | h | h
        · exact absurd h h0
        · exact absurd h h1
        · exact h
      rw [if_neg h1, bs (may_some _), this, if_neg (by decide)]

theorem parts_some (k w : Nat) (hw : w < 18446744073709551616) : pte_parts.f (k + 1) (w : Int) = some (((nm w : Nat) : Int), ((pm w : Nat) : Int)) := by
  have e1 : num_Cut.f (k + 1) (w : Int) 10 44 = some ((nm w : Nat) : Int) := cut_some k w 10 44 hw (by omega) (by omega)
  have e2 : num_Cut.f (k + 1) (w : Int) 1 3 = some ((pm w : Nat) : Int) := cut_some k w 1 3 hw (by omega) (by omega)
  have h1 : wrap64 ((nm w : Nat) : Int) = ((nm w : Nat) : Int) := by unfold wrap64 nm; omega
  have h2 : wrap64 ((pm w : Nat) : Int) = ((pm w : Nat) : Int) := by unfold wrap64 pm; omega
  unfold pte_parts.f
  rw [bs e1, bs e2, h1, h2]

/-- Is a word a Leaf's? -/
def leafy (w : Nat) : Prop := nm w < 96 ∧ mayN (pm w) = true ∧ w = 1024 * nm w + 2 * pm w + 17 + 64 * (w / 64 % 2) + 128 * (w / 128 % 2) ∧ (w / 128 % 2 = 1 → w / 64 % 2 = 1 ∧ pm w / 2 % 2 = 1)
instance (w : Nat) : Decidable (leafy w) := by unfold leafy; exact inferInstance
/-- A word's kind. -/
def knd (w : Nat) : Nat := if w = 0 then 0 else if nm w < 96 ∧ w = 1024 * nm w + 1 then 1 else if leafy w then 2 else if nm w ≤ 512 ∧ mayN (pm w) = true ∧ w = 1024 * nm w + 2 * pm w + 16 then 3 else 4

theorem and2 (p : Nat) (hp : p < 8) : (Go.bits .and .i64 (p : Int) 2 == 0) = decide (p / 2 % 2 = 0) := by
  have : p = 0 ∨ p = 1 ∨ p = 2 ∨ p = 3 ∨ p = 4 ∨ p = 5 ∨ p = 6 ∨ p = 7 := by omega
  rcases this with rfl | rfl | rfl | rfl | rfl | rfl | rfl | rfl <;> decide +kernel

theorem pm_lt (w : Nat) : pm w < 8 := Nat.mod_lt _ (by decide)

theorem leaf_some (k w : Nat) (hw : w < 18446744073709551616) : pte_leaf.f (k + 7) (w : Int) = some (decide (leafy w)) := by
  have b6 : num_Bit.f (k + 7) (w : Int) 6 = some (w / 64 % 2 == 1) := bit_some (k + 6) w 6 hw (by omega)
  have b7 : num_Bit.f (k + 7) (w : Int) 7 = some (w / 128 % 2 == 1) := bit_some (k + 6) w 7 hw (by omega)
  have s6 : num_Set.f (k + 6) (w : Int) 6 1 0 = some ((w - 64 * (w / 64 % 2) : Nat) : Int) := set_lit (k + 5) w 6 1 0 _ hw (by omega) (by omega) (by show w + 0 % 2 * 64 = w - 64 * (w / 64 % 2) + w / 64 % 2 * 64; omega)
  have s7 : num_Set.f (k + 6) ((w - 64 * (w / 64 % 2) : Nat) : Int) 7 1 0 = some ((w - 64 * (w / 64 % 2) - 128 * (w / 128 % 2) : Nat) : Int) := set_lit (k + 5) (w - 64 * (w / 64 % 2)) 7 1 0 _ (by omega) (by omega) (by omega) (by show w - 64 * (w / 64 % 2) + 0 % 2 * 128 = w - 64 * (w / 64 % 2) - 128 * (w / 128 % 2) + (w - 64 * (w / 64 % 2)) / 128 % 2 * 128; omega)
  have hp := pm_lt w
  unfold pte_leaf.f
  rw [bs (parts_some (k + 6) w hw)]
  by_cases h : nm w < 96 ∧ mayN (pm w) = true
  · rw [bs (page_yes (k + 2) (nm w) (pm w) h.1 h.2), bs b6, bs b7]
    have fin : pte_leaf.j0 (k + 7) (w : Int) ((1024 * nm w + 2 * pm w + 17 : Nat) : Int) true false = some (decide (w = 1024 * nm w + 2 * pm w + 17 + 64 * (w / 64 % 2) + 128 * (w / 128 % 2))) := by
      simp only [pte_leaf.j0, Bool.false_eq_true, if_false, if_true]
      rw [bs s6, bs s7]
      refine congrArg some ?_
      rw [Bool.eq_iff_iff, beq_iff_eq, decide_eq_true_iff]
      omega
    have out : pte_leaf.j0 (k + 7) (w : Int) ((1024 * nm w + 2 * pm w + 17 : Nat) : Int) true true = some false := by simp only [pte_leaf.j0, if_true]
    by_cases h7 : w / 128 % 2 = 1
    · have e7 : (w / 128 % 2 == 1) = true := by rw [beq_iff_eq]; exact h7
      rw [e7, if_pos rfl]
      by_cases h6 : w / 64 % 2 = 1
      · have e6 : (w / 64 % 2 == 1) = true := by rw [beq_iff_eq]; exact h6
        rw [e6, if_pos rfl, and2 _ hp]
        by_cases h2 : pm w / 2 % 2 = 0
        · rw [decide_eq_true h2, out, decide_eq_false (by unfold leafy; omega)]
        · rw [decide_eq_false h2, fin]
          refine congrArg some ?_
          rw [decide_eq_decide]
          unfold leafy
          constructor
          · intro h3; exact ⟨h.1, h.2, h3, fun _ => ⟨h6, by omega⟩⟩
          · intro h3; exact h3.2.2.1
      · have e6 : (w / 64 % 2 == 1) = false := by rw [beq_eq_false_iff_ne]; exact h6
        rw [e6, if_neg (by decide), out, decide_eq_false (by unfold leafy; omega)]
    · have e7 : (w / 128 % 2 == 1) = false := by rw [beq_eq_false_iff_ne]; exact h7
      rw [e7, if_neg (by decide), fin]
      refine congrArg some ?_
      rw [decide_eq_decide]
      unfold leafy
      constructor
      · intro h3; exact ⟨h.1, h.2, h3, fun h4 => absurd h4 h7⟩
      · intro h3; exact h3.2.2.1
  · have pn : pte_Page.f (k + 7) ((nm w : Nat) : Int) ((pm w : Nat) : Int) = some (0, false) := by
      refine page_no _ _ _ ?_
      by_cases h1 : nm w < 96
      · right
        rw [may_nat]
        cases hm : mayN (pm w) with
        | false => rfl
        | true => exact absurd ⟨h1, hm⟩ h
      · left; omega
    have nl : ¬ leafy w := fun hl => h ⟨hl.1, hl.2.1⟩
    have out : ∀ b, pte_leaf.j0 (k + 7) (w : Int) 0 false b = some false := by
      intro b
      cases b <;> simp only [pte_leaf.j0, Bool.false_eq_true, if_false, if_true]
    rw [bs pn, bs b6, bs b7, decide_eq_false nl]
    split
    · split <;> exact out _
    · exact out _

theorem kind_some (k w : Nat) (hw : w < 18446744073709551616) : pte_Kind.f (k + 9) (w : Int) = some ((knd w : Nat) : Int) := by
  have hp := pm_lt w
  have lf := leaf_some (k + 1) w hw
  unfold pte_Kind.f
  rw [bs (parts_some (k + 8) w hw)]
  have dn : ∃ a b, pte_Down.f (k + 9) ((nm w : Nat) : Int) = some (a, b) ∧ (b = true ∧ a = ((1024 * nm w + 1 : Nat) : Int) ∧ nm w < 96 ∨ b = false ∧ ¬ nm w < 96) := by
    by_cases h : nm w < 96
    · exact ⟨_, _, down_yes (k + 5) (nm w) h, .inl ⟨rfl, rfl, h⟩⟩
    · exact ⟨_, _, down_no (k + 9) _ (by omega), .inr ⟨rfl, h⟩⟩
  have aw : ∃ a b, pte_Away.f (k + 9) ((nm w : Nat) : Int) ((pm w : Nat) : Int) = some (a, b) ∧ (b = true ∧ a = ((1024 * nm w + 2 * pm w + 16 : Nat) : Int) ∧ (nm w ≤ 512 ∧ mayN (pm w) = true) ∨ b = false ∧ ¬ (nm w ≤ 512 ∧ mayN (pm w) = true)) := by
    by_cases h : nm w ≤ 512 ∧ mayN (pm w) = true
    · exact ⟨_, _, away_yes (k + 4) (nm w) (pm w) h.1 h.2, .inl ⟨rfl, rfl, h⟩⟩
    · refine ⟨_, _, away_no (k + 9) _ _ ?_, .inr ⟨rfl, h⟩⟩
      by_cases h1 : nm w ≤ 512
      · right; right
        rw [may_nat]
        cases hm : mayN (pm w) with
        | false => rfl
        | true => exact absurd ⟨h1, hm⟩ h
      · right; left; omega
  obtain ⟨a1, d1, e1, c1⟩ := dn
  obtain ⟨a2, d2, e2, c2⟩ := aw
  rw [bs e1, bs e2]
  by_cases h0 : w = 0
  · have h0' : knd w = 0 := by unfold knd; rw [if_pos h0]
    rw [if_pos (by omega), h0']; rfl
  · rw [if_neg (by omega)]
    have last : ∀ b, b = decide (nm w < 96 ∧ w = 1024 * nm w + 1) → pte_Kind.j0 (k + 9) (w : Int) a2 d2 b = some ((knd w : Nat) : Int) := by
      intro b hb
      unfold knd
      rw [if_neg h0]
      by_cases h1 : nm w < 96 ∧ w = 1024 * nm w + 1
      · rw [decide_eq_true h1] at hb
        subst hb
        rw [if_pos h1]
        simp only [pte_Kind.j0, if_true]
        rfl
      · rw [decide_eq_false h1] at hb
        subst hb
        rw [if_neg h1]
        simp only [pte_Kind.j0, Bool.false_eq_true, if_false]
        rw [bs lf]
        by_cases h2 : leafy w
        · rw [decide_eq_true h2, if_pos rfl, if_pos h2]; rfl
        · rw [decide_eq_false h2, if_neg (by decide), if_neg h2]
          rcases c2 with ⟨rfl, rfl, h3⟩ | ⟨rfl, h3⟩
          · rw [if_pos rfl]
            by_cases h4 : w = 1024 * nm w + 2 * pm w + 16
            · rw [if_pos (by omega), if_pos ⟨h3.1, h3.2, h4⟩]; rfl
            · rw [if_neg (by omega), if_neg (fun h5 => h4 h5.2.2)]; rfl
          · rw [if_neg (by decide), if_neg (fun h5 => h3 ⟨h5.1, h5.2.1⟩)]; rfl
    rcases c1 with ⟨rfl, rfl, h3⟩ | ⟨rfl, h3⟩
    · rw [if_pos rfl]
      apply last
      rw [Bool.eq_iff_iff, beq_iff_eq, decide_eq_true_iff]
      omega
    · rw [if_neg Bool.false_ne_true]
      apply last
      rw [decide_eq_false (fun h => h3 h.1)]

end Go.Proofs.Ytcadfblcpfhjfaa.Pte
