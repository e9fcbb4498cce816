/- Plain facts for FnExactGoodState; no condition. -/

import Derived.Test.YtgofeoobgpadiaaQFnExactGoodState
set_option linter.unusedVariables false
namespace Go.Proofs.Ytgofeoobgpadiaa
open Go Go.T

theorem law_GoodState (p : GProg) (s : GState) (g : wfGProg p) (gs : wfGState s) : laws_FnExactGoodState p s = some true :=
  law_GoodState_of p s g gs fun sm ss => ⟨goodP p && goodS p s, spec_goodState sm g ⟨ss.1.1, ss.2.2⟩, impl_goodState sm ⟨ss.1.1, ss.2.2⟩⟩
end Go.Proofs.Ytgofeoobgpadiaa
