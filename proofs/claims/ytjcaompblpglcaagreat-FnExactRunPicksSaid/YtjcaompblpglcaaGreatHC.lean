/- Plain facts for FnExactRunPicks; no condition. -/

import Derived.Test.YtjcaompblpglcaaGreatST4
set_option linter.unusedVariables false
namespace Go.Proofs.YtjcaompblpglcaaGreat
open Go Go.T
end Go.Proofs.YtjcaompblpglcaaGreat
