/- The document's and the book's answers, plain: how full; who is best, worst. -/
import Derived.Says
import Derived.Maps.Views
import Derived.Maps.OwnSet
import Derived.Lib.SlKeysI
namespace Go.Proofs.Ytoljebdicjiogaa.Hand
set_option linter.unusedVariables false
open Go.Maps

/-- How full, as the book reckons. -/
def thirds (m : Int) : Int := if m % 3 = 0 then m - m / 3 else m - m / 3 - 1
def ofG (u m : Int) : Int := if m < 1 ∨ m ≤ u then 4 else if u < 1 then 0 else if u ≤ m / 3 then 1 else if u ≤ thirds m then 2 else 3
/-- How full, as the document has it. -/
def ofR (u m : Int) : Int := if m < 1 ∨ m ≤ u then 4 else if u < 1 then 0 else 1 + (if 3 * u > m then 1 else 0) + (if 3 * u > 2 * m then 1 else 0)
theorem ofG_ofR (u m : Int) : ofG u m = ofR u m := by
  unfold ofG ofR thirds
  by_cases h1 : m < 1 ∨ m ≤ u
  · rw [if_pos h1, if_pos h1]
  · rw [if_neg h1, if_neg h1]
    by_cases h2 : u < 1
    · rw [if_pos h2, if_pos h2]
    · rw [if_neg h2, if_neg h2]
      by_cases h3 : u ≤ m / 3
      · have a1 : ¬ 3 * u > m := by omega
        have a2 : ¬ 3 * u > 2 * m := by omega
        rw [if_pos h3, if_neg a1, if_neg a2]
        rfl
      · have a1 : 3 * u > m := by omega
        rw [if_neg h3, if_pos a1]
        by_cases h4 : m % 3 = 0
        · rw [if_pos h4]
          by_cases h5 : u ≤ m - m / 3
          · have a2 : ¬ 3 * u > 2 * m := by omega
            rw [if_pos h5, if_neg a2]
            rfl
          · have a2 : 3 * u > 2 * m := by omega
            rw [if_neg h5, if_pos a2]
            rfl
        · rw [if_neg h4]
          by_cases h5 : u ≤ m - m / 3 - 1
          · have a2 : ¬ 3 * u > 2 * m := by omega
            rw [if_pos h5, if_neg a2]
            rfl
          · have a2 : 3 * u > 2 * m := by omega
            rw [if_neg h5, if_pos a2]
            rfl
end Go.Proofs.Ytoljebdicjiogaa.Hand
