/- Plain facts for FnExactRunThreads; no condition. -/

import Derived.Test.YtjcaompblpglcaaGreatGD
import Derived.Test.YtjcaompblpglcaaGreatBN
set_option linter.unusedVariables false
namespace Go.Proofs.YtjcaompblpglcaaGreat
open Go Go.T
def inr (x a b : Int) : Bool := decide (a ≤ x) && decide (x ≤ b)
theorem Qnp (x a b : Int) : Qfv x a b = some (inr x a b) := by
 unfold Qfv inr
 by_cases h : a ≤ x <;> simp [h]
theorem Qkw (x a b : Int) : Qes x a b = some (inr x a b) := by
 unfold Qes inr
 by_cases h : a ≤ x
 ·simp [h]
 ·simp [h]
theorem Qca {x a b : Int} : inr x a b = true ↔ a ≤ x ∧ x ≤ b := by simp [inr]
end Go.Proofs.YtjcaompblpglcaaGreat
