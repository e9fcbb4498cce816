/- Plain facts for FnLayers; no condition. -/

import Derived.Test.YtdmmaanagmacjaaXI
set_option linter.unusedVariables false
namespace Go.Proofs.Ytdmmaanagmacjaa
open Go Go.T
def inr (x a b:Int) : Bool:=decide (a≤x) && decide (x≤b)
theorem Qpj (x a b:Int) : Qi8 x a b=some (inr x a b):=by
 unfold Qi8 inr
 by_cases h:a≤x <;> simp [h]
theorem Qgk (x a b:Int) : Qbu x a b=some (inr x a b):=by
 unfold Qbu inr
 by_cases h:a≤x
 ·simp [h]
 ·simp [h]
theorem Qcm {x a b:Int}:inr x a b=true↔a≤x∧x≤b:=by simp [inr]
end Go.Proofs.Ytdmmaanagmacjaa
