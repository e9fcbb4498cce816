/- Plain facts for FnExactOrderOf; no condition. -/

import Derived.Test.YtjcaompblpglcaaD1
set_option linter.unusedVariables false
namespace Go.Proofs.Ytjcaompblpglcaa
open Go Go.T
theorem Qzi (c : List Int) : Qoo [] c = Qyp c :=
 Qph (Qnu List.Pairwise.nil) (Qnc c) fun x => by rw [Qmz, Qre]; simp
end Go.Proofs.Ytjcaompblpglcaa
