/- Plain facts for FnExactOrderOf; no condition. -/

import Derived.Test.YtjcaompblpglcaaGB
import Derived.Test.YtjcaompblpglcaaSC
set_option linter.unusedVariables false
namespace Go.Proofs.Ytjcaompblpglcaa
open Go Go.T
def inr (x a b : Int) : Bool := decide (a ≤ x) && decide (x ≤ b)
theorem Qvz (x a b : Int) : Qg7 x a b = some (inr x a b) := by
 unfold Qg7 inr
 by_cases h : a ≤ x <;> simp [h]
theorem Qvx (x a b : Int) : Qe6 x a b = some (inr x a b) := by
 unfold Qe6 inr
 by_cases h : a ≤ x
 ·simp [h]
 ·simp [h]
end Go.Proofs.Ytjcaompblpglcaa
