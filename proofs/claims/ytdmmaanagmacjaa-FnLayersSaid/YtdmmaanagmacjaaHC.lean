/- Plain facts for FnLayers; no condition. -/

import Derived.Test.YtdmmaanagmacjaaRG
set_option linter.unusedVariables false
namespace Go.Proofs.Ytdmmaanagmacjaa
open Go Go.T
end Go.Proofs.Ytdmmaanagmacjaa
