/- Plain facts for FnExactIsRun; no condition. -/

import Derived.Test.YtemmdkcpcjidmaaGreatGD
import Derived.Test.YtemmdkcpcjidmaaGreatBN
set_option linter.unusedVariables false
namespace Go.Proofs.YtemmdkcpcjidmaaGreat
open Go Go.T
def inr (x a b : Int) : Bool := decide (a ≤ x) && decide (x ≤ b)
theorem Ql7 (x a b : Int) : Qfq x a b = some (inr x a b) := by
 unfold Qfq inr
 by_cases h : a ≤ x <;> simp [h]
theorem Qjf (x a b : Int) : Qe4 x a b = some (inr x a b) := by
 unfold Qe4 inr
 by_cases h : a ≤ x
 ·simp [h]
 ·simp [h]
theorem Qc9 {x a b : Int} : inr x a b = true ↔ a ≤ x ∧ x ≤ b := by simp [inr]
end Go.Proofs.YtemmdkcpcjidmaaGreat
