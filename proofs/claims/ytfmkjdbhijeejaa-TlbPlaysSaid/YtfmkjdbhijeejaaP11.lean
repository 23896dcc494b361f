/- What a compaction of sorted numbers is: rising, of the same numbers. -/
import Derived.Lib.SlicesCompact
import Derived.Says
namespace Go.Proofs.Ytfmkjdbhijeejaa.Hand
set_option linter.unusedVariables false
open Go.Lib

def sortI (l : List Int) : List Int := l.mergeSort fun x y => decide (x ≤ y)
theorem sortI_mem (l : List Int) (x : Int) : x ∈ sortI l ↔ x ∈ l := List.mem_mergeSort
theorem sortI_length (l : List Int) : (sortI l).length = l.length := List.length_mergeSort _
theorem sortI_sorted (l : List Int) : (sortI l).Pairwise (· ≤ ·) := by
  have h := List.pairwise_mergeSort (le := fun x y : Int => decide (x ≤ y)) (fun a b c h1 h2 => by simp only [decide_eq_true_eq] at *; omega) (fun a b => by simp only [Bool.or_eq_true, decide_eq_true_eq]; omega) l
  exact h.imp (fun h => by simpa using h)
theorem get_toArray (zs : List Int) (j : Nat) (hj : j < zs.length) : zs.toArray[j]! = zs[j] := by simp [hj]
theorem compact_rising {zs : List Int} (h : zs.Pairwise (· ≤ ·)) : (compact zs).Pairwise (· < ·) := by
  unfold compact compactUpTo
  rw [List.pairwise_map]
  refine List.Pairwise.imp_of_mem ?_ ((List.pairwise_lt_range (n := zs.length)).filter _)
  intro a b ha hb hlt
  obtain ⟨ha1, ha2⟩ := List.mem_filter.1 ha
  obtain ⟨hb1, hb2⟩ := List.mem_filter.1 hb
  have la := List.mem_range.1 ha1
  have lb := List.mem_range.1 hb1
  unfold keeps at hb2
  have hk := of_decide_eq_true hb2
  have hne : zs.toArray[b]! ≠ zs.toArray[b - 1]! := by
    rcases hk with h0 | h0
    · omega
    · exact h0
  rw [get_toArray _ _ lb, get_toArray _ _ (by omega)] at hne
  rw [get_toArray _ _ la, get_toArray _ _ lb]
  have hp := List.pairwise_iff_getElem.1 h
  have h1 : zs[b - 1] ≤ zs[b] := hp (b - 1) b (by omega) lb (by omega)
  have h2 : zs[a] ≤ zs[b - 1] := by
    by_cases e : a = b - 1
    · subst e; exact Int.le_refl _
    · exact hp a (b - 1) la (by omega) (by omega)
  omega
theorem compact_mem (zs : List Int) (x : Int) : x ∈ compact zs ↔ x ∈ zs := by
  unfold compact compactUpTo
  rw [List.mem_map]
  constructor
  · rintro ⟨j, hj, rfl⟩
    have hl := List.mem_range.1 (List.mem_filter.1 hj).1
    rw [get_toArray _ _ hl]
    exact List.getElem_mem hl
  · intro hx
    obtain ⟨j, hj, e⟩ := List.mem_iff_getElem.1 hx
    induction j using Nat.strongRecOn with
    | ind j ih =>
      by_cases hk : keeps zs.toArray j = true
      · exact ⟨j, List.mem_filter.2 ⟨List.mem_range.2 hj, hk⟩, by rw [get_toArray _ _ hj, e]⟩
      · unfold keeps at hk
        have h2 : ¬ (j = 0 ∨ zs.toArray[j]! ≠ zs.toArray[j - 1]!) := fun h => hk (decide_eq_true h)
        have h3 : j ≠ 0 := fun h => h2 (.inl h)
        have h4 : zs.toArray[j]! = zs.toArray[j - 1]! := Classical.not_not.1 (fun h => h2 (.inr h))
        rw [get_toArray _ _ hj, get_toArray _ _ (by omega)] at h4
        exact ih (j - 1) (by omega) (by omega) (by rw [← h4, e])
end Go.Proofs.Ytfmkjdbhijeejaa.Hand
