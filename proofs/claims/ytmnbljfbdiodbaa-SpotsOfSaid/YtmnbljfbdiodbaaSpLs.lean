/- The law SpotsAny as a contract. -/
import Derived.Test.YtmnbljfbdiodbaaTyTrys
import Derived.Test.YtmnbljfbdiodbaaDrTrys
import Derived.Test.YtmnbljfbdiodbaaSpCs
import Derived.Test.YtmnbljfbdiodbaaSpVs
import Derived.Test.YtmnbljfbdiodbaaSpXs
namespace Go.Abs
open Go.Proofs
set_option linter.unusedVariables false
set_option linter.unusedSimpArgs false
set_option maxRecDepth 100000
set_option maxHeartbeats 8000000
end Go.Abs
