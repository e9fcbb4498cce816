/- Plain facts for FnExactRunPicks; no condition. -/

import Derived.Test.YtjcaompblpglcaaGreatGD
import Derived.Test.YtjcaompblpglcaaGreatBN
set_option linter.unusedVariables false
namespace Go.Proofs.YtjcaompblpglcaaGreat
open Go Go.T
def inr (x a b : Int) : Bool := decide (a ≤ x) && decide (x ≤ b)
theorem Qjf (x a b : Int) : Qf8 x a b = some (inr x a b) := by
 unfold Qf8 inr
 by_cases h : a ≤ x <;> simp [h]
theorem Qi0 (x a b : Int) : Qdm x a b = some (inr x a b) := by
 unfold Qdm inr
 by_cases h : a ≤ x
 ·simp [h]
 ·simp [h]
theorem Qbz {x a b : Int} : inr x a b = true ↔ a ≤ x ∧ x ≤ b := by simp [inr]
end Go.Proofs.YtjcaompblpglcaaGreat
