/- Sorting numbers: the library's contract lifted. -/
import Derived.Test.YtlfocagdjjgmmaaGreatTyTryzq
import Derived.Test.YtlfocagdjjgmmaaGreatDrTryzq
import Derived.Test.YtlfocagdjjgmmaaGreatAbsZ
import Derived.Test.YtlfocagdjjgmmaaGreatSetsM
import Derived.Test.YtlfocagdjjgmmaaGreatCkJq
import Derived.Test.YtlfocagdjjgmmaaGreatCkLayq
namespace Go.Abs
open Go.Proofs
set_option linter.unusedVariables false
set_option linter.unusedSimpArgs false
set_option maxRecDepth 100000
set_option maxHeartbeats 1000000
end Go.Abs
