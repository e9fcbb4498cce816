/- Plain facts for FnExactPreemptsIn; no condition. -/

import Derived.Test.YtemmdkcpcjidmaaGreatGD
import Derived.Test.YtemmdkcpcjidmaaGreatBN
set_option linter.unusedVariables false
namespace Go.Proofs.YtemmdkcpcjidmaaGreat
open Go Go.T
def inr (x a b:Int) : Bool:=decide (a≤x) && decide (x≤b)
theorem Qm5 (x a b:Int) : Qge x a b=some (inr x a b):=by
 unfold Qge inr
 by_cases h:a≤x <;> simp [h]
theorem Qkc (x a b:Int) : Qen x a b=some (inr x a b):=by
 unfold Qen inr
 by_cases h:a≤x
 ·simp [h]
 ·simp [h]
theorem Qcm {x a b:Int}:inr x a b=true↔a≤x∧x≤b:=by simp [inr]
end Go.Proofs.YtemmdkcpcjidmaaGreat
