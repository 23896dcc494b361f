/- The document's clock of a clock's cells, plain. -/
import Derived.Test.YtmmnkanijdbgpaaD2
import Derived.Test.YtmmnkanijdbgpaaD6
namespace Go.Proofs.Ytmmnkanijdbgpaa.Hand
set_option linter.unusedVariables false
set_option linter.unusedSimpArgs false
open Go.RowKit Go.Proofs.Ytmmnkanijdbgpaa.R Go.Proofs.YtmmnkanijdbgpaaW.PrintWords Go.Proofs.YtmmnkanijdbgpaaW.PrintLast Go.Proofs.YtmmnkanijdbgpaaW.PrintMore

/-- The document's clock. -/
def pOf (L : List Int) : List Int := (L.take 96).map (· - 1) ++ [L.getD 96 0]
theorem pOf_length {L : List Int} (h : L.length = 98) : (pOf L).length = 97 := by
  unfold pOf
  rw [List.length_append, List.length_map, List.length_take]
  simp
  omega
theorem pOf_get {L : List Int} (h : L.length = 98) {i : Nat} (hi : i < 96) : (pOf L).getD i 0 = L.getD i 0 - 1 := by
  unfold pOf
  rw [List.getD_eq_getElem?_getD, List.getD_eq_getElem?_getD, List.getElem?_append_left (by rw [List.length_map, List.length_take]; omega), List.getElem?_map, List.getElem?_take]
  rw [if_pos hi, List.getElem?_eq_getElem (show i < L.length by omega)]
  simp [show i < L.length by omega]
theorem pOf_hand {L : List Int} (h : L.length = 98) : (pOf L).getD 96 0 = L.getD 96 0 := by
  have hl : ((L.take 96).map (· - 1)).length = 96 := by rw [List.length_map, List.length_take]; omega
  unfold pOf
  rw [List.getD_eq_getElem?_getD, List.getElem?_append_right (by omega), hl]
  rfl
theorem gset (L : List Int) (i j : Nat) (v : Int) : (L.set i v).getD j 0 = if i = j ∧ i < L.length then v else L.getD j 0 := by
  rw [List.getD_eq_getElem?_getD, List.getD_eq_getElem?_getD, List.getElem?_set]
  by_cases h : i = j
  · subst h
    by_cases h2 : i < L.length
    · simp [h2]
    · simp [h2]
  · simp [h]
theorem pOf_set {L : List Int} (h : L.length = 98) {i : Nat} (hi : i < 96) (v : Int) : pOf (L.set i v) = (pOf L).set i (v - 1) := by
  have hl : ((L.take 96).map (· - 1)).length = 96 := by rw [List.length_map, List.length_take]; omega
  unfold pOf
  rw [List.set_append_left _ _ (by omega), List.take_set, List.map_set, gset, if_neg (by omega)]
theorem pOf_set96 {L : List Int} (h : L.length = 98) (v : Int) : pOf (L.set 96 v) = (pOf L).set 96 v := by
  have hl : ((L.take 96).map (· - 1)).length = 96 := by rw [List.length_map, List.length_take]; omega
  unfold pOf
  rw [List.set_append_right _ _ (by omega), hl, List.take_set, List.set_eq_of_length_le (by rw [List.length_take]; omega), gset, if_pos ⟨rfl, by omega⟩]
  rfl
theorem pOf_set97 {L : List Int} (h : L.length = 98) (v : Int) : pOf (L.set 97 v) = pOf L := by
  unfold pOf
  rw [List.take_set, List.set_eq_of_length_le (by rw [List.length_take]; omega), gset, if_neg (by omega)]
theorem inC_lo {L : List Int} (h : L.length = 98) {f : Int} (h0 : 0 ≤ f) (h1 : f < 96) : decide ((pOf L).getD f.toNat 0 < 0) = !(inC L f) := by
  rw [pOf_get h (by omega)]
  unfold inC
  rw [decide_eq_true h0, decide_eq_true h1, Bool.true_and, Bool.true_and, ← decide_not]
  exact decide_eq_decide.mpr (by omega)
theorem inC_hi {L : List Int} (h : L.length = 98) {f : Int} (h0 : 0 ≤ f) (h1 : f < 96) : decide (0 ≤ (pOf L).getD f.toNat 0) = inC L f := by
  rw [pOf_get h (by omega)]
  unfold inC
  rw [decide_eq_true h0, decide_eq_true h1, Bool.true_and, Bool.true_and]
  exact decide_eq_decide.mpr (by omega)
theorem inC_out {L : List Int} {f : Int} (h : ¬ (0 ≤ f ∧ f < 96)) : inC L f = false := by
  unfold inC
  by_cases h0 : 0 ≤ f
  · rw [decide_eq_false (show ¬ f < 96 by omega), Bool.false_and, Bool.and_false]
  · rw [decide_eq_false h0, Bool.false_and]
theorem raddOk_of {L : List Int} (h : L.length = 98) (f p : Int) : raddOk (pOf L) f p = addOk L f p := by
  unfold raddOk addOk
  by_cases hb : 0 ≤ f ∧ f < 96 ∧ 0 ≤ p ∧ p < 68719476736
  · rw [decide_eq_true hb, Bool.true_and, Bool.true_and, inC_lo h hb.1 hb.2.1]
  · rw [decide_eq_false hb, Bool.false_and, Bool.false_and]
theorem raddP_of {L : List Int} (h : L.length = 98) (f p : Int) : raddP (pOf L) f p = pOf (addL L f p) := by
  unfold raddP addL
  rw [raddOk_of h]
  cases ho : addOk L f p with
  | false => simp
  | true =>
    unfold addOk at ho
    simp only [Bool.and_eq_true, decide_eq_true_eq] at ho
    rw [if_pos rfl, if_pos rfl, pOf_set97 (by rw [List.length_set]; exact h), pOf_set h (by omega)]
    congr 1
    omega
theorem rremOk_of {L : List Int} (h : L.length = 98) (f : Int) : rremOk (pOf L) f = inC L f := by
  unfold rremOk
  by_cases hb : 0 ≤ f ∧ f < 96
  · rw [decide_eq_true hb, Bool.true_and, inC_hi h hb.1 hb.2]
  · rw [decide_eq_false hb, Bool.false_and, inC_out hb]
theorem rremP_of {L : List Int} (h : L.length = 98) (f : Int) : rremP (pOf L) f = pOf (remL L f) := by
  unfold rremP remL
  rw [rremOk_of h]
  cases ho : inC L f with
  | false => simp
  | true =>
    obtain ⟨x, rfl, hx, _⟩ := inC_lt ho
    rw [if_pos rfl, if_pos rfl, pOf_set97 (by rw [List.length_set]; exact h), pOf_set h (by omega)]
    rfl
theorem rndP_of {L : List Int} (h : L.length = 98) (but : List Int) (hd k : Nat) : rndP (pOf L) but hd k = rnd L but hd k := by
  induction k with
  | zero => rfl
  | succ k ih =>
    have e := inC_lo h (f := (((hd + k) % 96 : Nat) : Int)) (by omega) (by omega)
    rw [Int.toNat_natCast] at e
    rw [rndP_succ, rnd_succ, ih, e]
    cases inC L (((hd + k) % 96 : Nat) : Int) <;> cases but.contains (((hd + k) % 96 : Nat) : Int) <;> rfl
theorem qR_of {L : List Int} (h : L.length = 98) (p : Int) {i : Nat} (hi : i < 96) : qR (pOf L) p i = qC L p i := by
  unfold qR qC
  have e := inC_hi h (f := (i : Int)) (by omega) (by omega)
  rw [Int.toNat_natCast] at e
  rw [e]
  cases hq : inC L (i : Int) with
  | false => rfl
  | true => rw [pOf_get h hi]; unfold pgV; rw [hq, if_pos rfl, Int.toNat_natCast]
theorem fnd_congr {q r : Nat → Bool} : ∀ d i, (∀ j, j < i + d → q j = r j) → fnd q d i = fnd r d i
  | 0, i, _ => rfl
  | d + 1, i, h => by
    unfold fnd
    rw [h i (by omega), fnd_congr d (i + 1) (fun j hj => h j (by omega))]
theorem fnd_of {L : List Int} (h : L.length = 98) (p : Int) : fnd (qR (pOf L) p) 96 0 = fnd (qC L p) 96 0 := fnd_congr 96 0 (fun j hj => qR_of h p (by omega))
theorem GL_zeros : GL zeros := ⟨by decide +kernel, by decide +kernel, by decide +kernel⟩
theorem pOf_zeros : pOf zeros = newP 96 := by decide +kernel
theorem GL_add {L : List Int} (h : GL L) (f p : Int) : GL (addL L f p) := by
  refine ⟨by rw [addL_length]; exact h.len, ?_, ?_⟩ <;> unfold addL
  · intro i hi
    split
    · rename_i ho
      unfold addOk at ho
      simp only [Bool.and_eq_true, decide_eq_true_eq] at ho
      rw [gset, gset]
      have := h.lo i hi
      split
      · omega
      · split <;> omega
    · exact h.lo i hi
  · split
    · rename_i ho
      unfold addOk at ho
      simp only [Bool.and_eq_true, decide_eq_true_eq] at ho
      rw [gset, gset, if_neg (by omega), if_neg (by omega)]
      exact h.hand
    · exact h.hand
theorem GL_rem {L : List Int} (h : GL L) (f : Int) : GL (remL L f) := by
  unfold remL
  cases ho : inC L f with
  | false => exact h
  | true =>
    obtain ⟨x, rfl, hx, _⟩ := inC_lt ho
    rw [if_pos rfl]
    refine ⟨by rw [List.length_set, List.length_set]; exact h.len, ?_, ?_⟩
    · intro i hi
      rw [gset, gset]
      have := h.lo i hi
      split
      · omega
      · split <;> omega
    · rw [gset, gset, if_neg (by omega), if_neg (by omega)]
      exact h.hand
theorem GL_hand {L : List Int} (h : GL L) (v : Nat) (hv : v < 96) : GL (L.set 96 (v : Int)) := by
  refine ⟨by rw [List.length_set]; exact h.len, ?_, ?_⟩
  · intro i hi
    rw [gset, if_neg (by omega)]
    exact h.lo i hi
  · rw [gset, if_pos ⟨rfl, by rw [h.len]; omega⟩]
    omega
theorem many_add {L : List Int} (h : GL L) (f p : Int) : (addL L f p).getD 97 0 = if addOk L f p then wrap64 (L.getD 97 0 + 1) else L.getD 97 0 := by
  unfold addL
  split
  · rw [gset, if_pos ⟨rfl, by rw [List.length_set, h.len]; omega⟩]
  · rfl
theorem many_rem {L : List Int} (h : GL L) (f : Int) : (remL L f).getD 97 0 = if inC L f then wrap64 (L.getD 97 0 - 1) else L.getD 97 0 := by
  unfold remL
  split
  · rw [gset, if_pos ⟨rfl, by rw [List.length_set, h.len]; omega⟩]
  · rfl
theorem many_hand {L : List Int} (h : GL L) (v : Int) : (L.set 96 v).getD 97 0 = L.getD 97 0 := by
  rw [gset, if_neg (by omega)]
end Go.Proofs.Ytmmnkanijdbgpaa.Hand
