/- Plain facts for FnExactSpotOf; no condition. -/

import Derived.Test.YtemmdkcpcjidmaaGreatGD
import Derived.Test.YtemmdkcpcjidmaaGreatBN
set_option linter.unusedVariables false
namespace Go.Proofs.YtemmdkcpcjidmaaGreat
open Go Go.T
def inr (x a b : Int) : Bool := decide (a ≤ x) && decide (x ≤ b)
theorem Qjq (x a b : Int) : Qff x a b = some (inr x a b) := by
 unfold Qff inr
 by_cases h : a ≤ x <;> simp [h]
theorem Qhw (x a b : Int) : Qds x a b = some (inr x a b) := by
 unfold Qds inr
 by_cases h : a ≤ x
 ·simp [h]
 ·simp [h]
theorem Qc4 {x a b : Int} : inr x a b = true ↔ a ≤ x ∧ x ≤ b := by simp [inr]
end Go.Proofs.YtemmdkcpcjidmaaGreat
