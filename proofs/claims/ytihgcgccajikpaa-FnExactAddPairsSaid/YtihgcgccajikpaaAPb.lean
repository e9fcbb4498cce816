/- Plain facts for FnExactAddPairs; no condition. -/

import Derived.Test.YtihgcgccajikpaaQFnExactAddPairs
set_option linter.unusedVariables false
namespace Go.Proofs.Ytihgcgccajikpaa
open Go Go.T

theorem law_AddPairs (x0 x1 : List GPair) (g0 : x0.length ≤ 9223372036854775807) (g1 : x1.length ≤ 9223372036854775807) : laws_FnExactAddPairs x0 x1 = some true :=
  law_AddPairs_of x0 x1 g0 g1 fun sm0 sm1 => by
    have a0 : x0.length ≤ 1048576 := sm0
    have a1 : x1.length ≤ 1048576 := sm1
    refine ⟨addV x0 x1, spec_addpairs a0 a1, impl_addpairs a0 a1, ?_⟩
    show (addV x0 x1).1.length ≤ 1048576
    unfold addV
    split
    · rename_i h
      show (setP (x0 ++ x1)).length ≤ 1048576
      omega
    · simp
end Go.Proofs.Ytihgcgccajikpaa
