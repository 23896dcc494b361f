/- The row's bytes, read and written by pieces: plain. -/
import Derived.Test.YtejeehcmcadmcaaA1
namespace Go.Proofs.Ytejeehcmcadmcaa.Hand
set_option linter.unusedVariables false
set_option linter.unusedSimpArgs false
open Go.RowKit Go.Proofs.Ytejeehcmcadmcaa.R Go.Proofs.YtejeehcmcadmcaaW.PrintWords Go.Proofs.YtejeehcmcadmcaaW.PrintLast Go.Proofs.YtejeehcmcadmcaaW.PrintMore

theorem over_get (B : List Int) (p : Nat) (l : List Int) (k : Nat) (hp : p + l.length ≤ B.length) : (over B p l)[k]? = if p ≤ k ∧ k < p + l.length then l[k - p]? else B[k]? := by
  unfold over
  have h1 : (B.take p).length = p := by rw [List.length_take]; omega
  by_cases h : p ≤ k
  · by_cases h2 : k < p + l.length
    · rw [if_pos ⟨h, h2⟩, List.getElem?_append_left (by rw [List.length_append, h1]; omega), List.getElem?_append_right (by omega), h1]
    · rw [if_neg (fun e => h2 e.2), List.getElem?_append_right (by rw [List.length_append, h1]; omega), List.length_append, h1, List.getElem?_drop]
      congr 1
      omega
  · rw [if_neg (fun e => h e.1), List.getElem?_append_left (by rw [List.length_append, h1]; omega), List.getElem?_append_left (by omega), List.getElem?_take, if_pos (by omega)]
def frN (q : Nat) : Nat := if q = 0 then 2 else if q = 1 then 0 else 1
theorem fr_frN (q : Nat) : fr 2 0 1 (q : Int) = (frN q : Int) := by
  unfold fr frN
  by_cases h : q = 0
  · subst h; rfl
  · by_cases h1 : q = 1
    · subst h1; rfl
    · rw [if_neg h, if_neg h1, if_neg (by omega), if_neg (by omega)]; rfl
theorem frN_lt (q : Nat) : frN q < 3 := by unfold frN; split <;> (try split) <;> omega
def seg (B : List Int) (f : Nat) : List Int := (B.drop (4096 * f)).take 4096
def view (B : List Int) : List Int := seg B 2 ++ (seg B 0 ++ seg B 1)
theorem seg_length {B : List Int} (hB : B.length = 32768) (f : Nat) (h : f < 8) : (seg B f).length = 4096 := by unfold seg; rw [List.length_take, List.length_drop]; omega
theorem seg_get {B : List Int} (f j : Nat) (h : j < 4096) : (seg B f)[j]? = B[4096 * f + j]? := by unfold seg; rw [List.getElem?_take, if_pos h, List.getElem?_drop]
theorem view_length {B : List Int} (hB : B.length = 32768) : (view B).length = 12288 := by
  unfold view
  rw [List.length_append, List.length_append, seg_length hB 2 (by omega), seg_length hB 0 (by omega), seg_length hB 1 (by omega)]
theorem view_get {B : List Int} (hB : B.length = 32768) (q r : Nat) (hq : q < 3) (hr : r < 4096) : (view B)[4096 * q + r]? = B[4096 * frN q + r]? := by
  unfold view
  have l2 := seg_length hB 2 (by omega)
  have l0 := seg_length hB 0 (by omega)
  match q, hq with
  | 0, _ =>
    rw [List.getElem?_append_left (by omega), Nat.mul_zero, Nat.zero_add, seg_get _ _ hr]
    rfl
  | 1, _ =>
    rw [List.getElem?_append_right (by omega), l2, List.getElem?_append_left (by omega), show 4096 * 1 + r - 4096 = r by omega, seg_get _ _ hr]
    rfl
  | 2, _ =>
    rw [List.getElem?_append_right (by omega), l2, List.getElem?_append_right (by omega), l0, show 4096 * 2 + r - 4096 - 4096 = r by omega, seg_get _ _ hr]
    rfl
theorem frN_inj {q q' : Nat} (h : q < 3) (h' : q' < 3) (e : frN q = frN q') : q = q' := by
  match q, h, q', h' with
  | 0, _, 0, _ => rfl
  | 1, _, 1, _ => rfl
  | 2, _, 2, _ => rfl
  | 0, _, 1, _ => cases e
  | 0, _, 2, _ => cases e
  | 1, _, 0, _ => cases e
  | 1, _, 2, _ => cases e
  | 2, _, 0, _ => cases e
  | 2, _, 1, _ => cases e
theorem view_over {B : List Int} (hB : B.length = 32768) (q r : Nat) (l : List Int) (hq : q < 3) (h : r + l.length ≤ 4096) : view (over B (4096 * frN q + r) l) = over (view B) (4096 * q + r) l := by
  have hf := frN_lt q
  have hpB : 4096 * frN q + r + l.length ≤ B.length := by omega
  have hlB : (over B (4096 * frN q + r) l).length = 32768 := by rw [over_length _ _ _ hpB, hB]
  have hpv : 4096 * q + r + l.length ≤ (view B).length := by rw [view_length hB]; omega
  apply List.ext_getElem?
  intro j
  rw [over_get _ _ _ _ hpv]
  by_cases hj : j < 12288
  · obtain ⟨q', r', e, h1, h2⟩ : ∃ q' r', j = 4096 * q' + r' ∧ q' < 3 ∧ r' < 4096 := ⟨j / 4096, j % 4096, by omega, by omega, by omega⟩
    subst e
    rw [view_get hlB q' r' h1 h2, view_get hB q' r' h1 h2, over_get _ _ _ _ hpB]
    by_cases hqq : q' = q
    · subst hqq
      by_cases hr : r ≤ r' ∧ r' < r + l.length
      · rw [if_pos (by omega), if_pos (by omega)]
        congr 1
        omega
      · rw [if_neg (by omega), if_neg (by omega)]
    · have hff : frN q' ≠ frN q := fun e => hqq (frN_inj h1 hq e)
      rw [if_neg (by omega), if_neg (by omega)]
  · rw [List.getElem?_eq_none (by rw [view_length hlB]; omega), if_neg (by omega), List.getElem?_eq_none (by rw [view_length hB]; omega)]
theorem seg3_over {B : List Int} (hB : B.length = 32768) (q r : Nat) (l : List Int) (hq : q < 3) (h : r + l.length ≤ 4096) : seg (over B (4096 * frN q + r) l) 3 = seg B 3 := by
  have hf := frN_lt q
  have hpB : 4096 * frN q + r + l.length ≤ B.length := by omega
  apply List.ext_getElem?
  intro j
  by_cases hj : j < 4096
  · rw [seg_get _ _ hj, seg_get _ _ hj, over_get _ _ _ _ hpB, if_neg (by omega)]
  · rw [List.getElem?_eq_none (by rw [seg_length (by rw [over_length _ _ _ hpB, hB]) 3 (by omega)]; omega), List.getElem?_eq_none (by rw [seg_length hB 3 (by omega)]; omega)]
theorem part_R {B : List Int} (f r d : Nat) (hf : f < 4) (h : r + d ≤ 4096) : part (ownR 4) B (f : Int) (r : Int) (d : Int) = (B.drop (4096 * f + r)).take d := by
  unfold part
  rw [if_pos (pkR 4 f r d hf (by omega) h trivial), Int.toNat_natCast, Int.toNat_natCast, Int.toNat_natCast]
theorem allB_view {B : List Int} : allB (ownR 4) B [2, 0, 1] = view B := by
  have h2 : part (ownR 4) B 2 0 4096 = seg B 2 := part_R 2 0 4096 (by omega) (by omega)
  have h0 : part (ownR 4) B 0 0 4096 = seg B 0 := part_R 0 0 4096 (by omega) (by omega)
  have h1 : part (ownR 4) B 1 0 4096 = seg B 1 := part_R 1 0 4096 (by omega) (by omega)
  unfold allB view
  simp [h2, h0, h1]
theorem allB_3 {B : List Int} : allB (ownR 4) B [3] = seg B 3 := by
  have h3 : part (ownR 4) B 3 0 4096 = seg B 3 := part_R 3 0 4096 (by omega) (by omega)
  unfold allB
  simp [h3]
/-- What a piece reads. -/
theorem piece_read {B : List Int} (hB : B.length = 32768) (a d : Nat) (ha : a / 4096 < 3) (h : a % 4096 + d ≤ 4096) : pieceB (ownR 4) B 2 0 1 (one a d) = ((view B).drop a).take d := by
  have hf := frN_lt (a / 4096)
  have e : pieceB (ownR 4) B 2 0 1 (one a d) = part (ownR 4) B (frN (a / 4096) : Int) ((a % 4096 : Nat) : Int) (d : Int) := by
    unfold pieceB one
    rw [fr_frN]
  rw [e, part_R _ _ _ (by omega) h]
  apply List.ext_getElem?
  intro j
  rw [List.getElem?_take, List.getElem?_take, List.getElem?_drop, List.getElem?_drop]
  by_cases hj : j < d
  · rw [if_pos hj, if_pos hj, show a + j = 4096 * (a / 4096) + (a % 4096 + j) by omega, view_get hB _ _ ha (by omega)]
    congr 1
    omega
  · rw [if_neg hj, if_neg hj]
theorem read_all {B : List Int} (hB : B.length = 32768) (a m : Nat) (hm : m ≤ 4096) (h : m = 0 ∨ a + m ≤ 12288) : (pcs a m).flatMap (pieceB (ownR 4) B 2 0 1) = ((view B).drop a).take m := by
  unfold pcs
  split
  · rename_i h0
    subst h0
    simp
  · rename_i h0
    have h' : a + m ≤ 12288 := by omega
    split
    · rename_i h1
      rw [List.flatMap_cons, List.flatMap_nil, List.append_nil]
      exact piece_read hB a m (by omega) (by omega)
    · rename_i h1
      rw [List.flatMap_cons, List.flatMap_cons, List.flatMap_nil, List.append_nil, piece_read hB _ _ (by omega) (by omega), piece_read hB _ _ (by omega) (by omega)]
      obtain ⟨d, hd⟩ : ∃ d, d = 4096 - a % 4096 := ⟨_, rfl⟩
      rw [← hd, ← List.drop_drop]
      have : m = d + (m - d) := by omega
      conv => rhs; rw [this]
      rw [List.take_add]
/-- What pieces write. -/
theorem piece_write {B : List Int} (hB : B.length = 32768) (a d : Nat) (l : List Int) (ha : a / 4096 < 3) (h : a % 4096 + d ≤ 4096) (hl : d ≤ l.length) :
    ∃ B2, stepW (ownR 4) 2 0 1 (B, l) (one a d) = (B2, l.drop d) ∧ B2.length = 32768 ∧ view B2 = over (view B) a (l.take d) ∧ seg B2 3 = seg B 3 := by
  have hf := frN_lt (a / 4096)
  have htl : (l.take d).length = d := by rw [List.length_take]; omega
  refine ⟨over B (4096 * frN (a / 4096) + a % 4096) (l.take d), ?_, ?_, ?_, ?_⟩
  · unfold stepW one wrB
    simp only [fr_frN, Int.toNat_natCast]
    rw [if_pos (by rw [htl]; exact pkR 4 _ _ d (by omega) (by omega) h trivial)]
  · rw [over_length _ _ _ (by rw [htl]; omega), hB]
  · rw [view_over hB _ _ _ ha (by rw [htl]; exact h)]
    congr 1
    omega
  · exact seg3_over hB _ _ _ ha (by rw [htl]; exact h)
theorem write_all {B : List Int} (hB : B.length = 32768) (a : Nat) (l : List Int) (hm : l.length ≤ 4096) (h : l.length = 0 ∨ a + l.length ≤ 12288) :
    view ((pcs a l.length).foldl (stepW (ownR 4) 2 0 1) (B, l)).1 = over (view B) a l ∧ seg ((pcs a l.length).foldl (stepW (ownR 4) 2 0 1) (B, l)).1 3 = seg B 3 ∧ ((pcs a l.length).foldl (stepW (ownR 4) 2 0 1) (B, l)).1.length = 32768 := by
  unfold pcs
  split
  · rename_i h0
    have : l = [] := List.length_eq_zero_iff.1 h0
    subst this
    exact ⟨by simp [over_nil], rfl, hB⟩
  · rename_i h0
    have h' : a + l.length ≤ 12288 := by omega
    split
    · rename_i h1
      obtain ⟨B2, e, h2, h3, h4⟩ := piece_write hB a l.length l (by omega) (by omega) (Nat.le_refl _)
      rw [List.foldl_cons, List.foldl_nil, e]
      rw [List.take_length] at h3
      exact ⟨h3, h4, h2⟩
    · rename_i h1
      obtain ⟨d, hd⟩ : ∃ d, d = 4096 - a % 4096 := ⟨_, rfl⟩
      rw [← hd] at h1 ⊢
      obtain ⟨B2, e, h2, h3, h4⟩ := piece_write hB a d l (by omega) (by omega) (by omega)
      have hld : (l.drop d).length = l.length - d := List.length_drop
      obtain ⟨B3, e3, h5, h6, h7⟩ := piece_write h2 (a + d) (l.length - d) (l.drop d) (by omega) (by omega) (by omega)
      rw [List.foldl_cons, List.foldl_cons, List.foldl_nil, e, e3]
      refine ⟨?_, h7.trans h4, h5⟩
      show view B3 = _
      have hv := view_length hB
      have htl : (l.take d).length = d := by rw [List.length_take]; omega
      have e5 : (l.drop d).take (l.length - d) = l.drop d := List.take_of_length_le (by omega)
      rw [h6, h3, e5]
      apply List.ext_getElem?
      intro j
      have ho : (over (view B) a (l.take d)).length = 12288 := by rw [over_length _ _ _ (by rw [htl, hv]; omega), hv]
      rw [over_get _ (a + d) (l.drop d) j (by rw [ho, hld]; omega), over_get (view B) a (l.take d) j (by rw [htl, hv]; omega), over_get (view B) a l j (by rw [hv]; omega), htl, hld]
      by_cases c1 : a + d ≤ j ∧ j < a + d + (l.length - d)
      · rw [if_pos c1, if_pos (by omega), List.getElem?_drop]
        congr 1
        omega
      · rw [if_neg c1]
        by_cases c2 : a ≤ j ∧ j < a + d
        · rw [if_pos c2, if_pos (by omega), List.getElem?_take, if_pos (by omega)]
        · rw [if_neg c2, if_neg (by omega)]
theorem fine_R (p : S28) (h0 : 0 ≤ p.f0) : fine (ownR 4) 2 0 1 p = decide (p.f0 < 3) := by
  unfold fine
  obtain ⟨q, hq⟩ : ∃ q : Nat, p.f0 = (q : Int) := ⟨p.f0.toNat, by omega⟩
  rw [hq, fr_frN, ownerR 4 (frN q) (by have := frN_lt q; omega) (by omega)]
  simp
theorem fine_7 (p : S28) : fine (ownR 4) 7 7 7 p = false := by
  unfold fine fr
  have : ownerOf (ownR 4) 7 = 0 := by decide
  simp [this]
theorem all_fine (a m : Nat) (hm : m ≤ 4096) : (pcs a m).all (fine (ownR 4) 2 0 1) = decide (m = 0 ∨ a + m ≤ 12288) := by
  unfold pcs
  split
  · rename_i h0
    simp [h0]
  · rename_i h0
    split
    · rename_i h1
      rw [List.all_cons, List.all_nil, Bool.and_true, fine_R _ (by simp only [one]; omega)]
      rw [Bool.eq_iff_iff, decide_eq_true_iff, decide_eq_true_iff]
      show _ ↔ _
      simp only [one]
      omega
    · rename_i h1
      rw [List.all_cons, List.all_cons, List.all_nil, Bool.and_true, fine_R _ (by simp only [one]; omega), fine_R _ (by simp only [one]; omega), ← Bool.decide_and]
      rw [Bool.eq_iff_iff, decide_eq_true_iff, decide_eq_true_iff]
      show _ ↔ _
      simp only [one]
      omega
theorem all_7 (a m : Nat) (h : m ≠ 0) : (pcs a m).all (fine (ownR 4) 7 7 7) = false := by
  unfold pcs
  rw [if_neg h]
  split <;> simp [fine_7]

end Go.Proofs.Ytejeehcmcadmcaa.Hand
