/- Plain facts for FnExactRunThreads; no condition. -/

import Derived.Test.YtjcaompblpglcaaGreatGD
import Derived.Test.YtjcaompblpglcaaGreatBN
set_option linter.unusedVariables false
namespace Go.Proofs.YtjcaompblpglcaaGreat
open Go Go.T
def inr (x a b : Int) : Bool := decide (a ≤ x) && decide (x ≤ b)
theorem impl_in_eq (x a b : Int) : impl_in x a b = some (inr x a b) := by
 unfold impl_in inr
 by_cases h : a ≤ x <;> simp [h]
theorem spec_in_eq (x a b : Int) : spec_l1In x a b = some (inr x a b) := by
 unfold spec_l1In inr
 by_cases h : a ≤ x
 ·simp [h]
 ·simp [h]
theorem inr_true {x a b : Int} : inr x a b = true ↔ a ≤ x ∧ x ≤ b := by simp [inr]
end Go.Proofs.YtjcaompblpglcaaGreat
