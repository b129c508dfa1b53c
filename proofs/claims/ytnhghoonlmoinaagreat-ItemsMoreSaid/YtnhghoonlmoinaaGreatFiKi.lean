/- Lists of numbers: the library's and the program's. -/
import Derived.Test.YtnhghoonlmoinaaGreatTyTryzi
import Derived.Test.YtnhghoonlmoinaaGreatDrTryzi
import Derived.Test.YtnhghoonlmoinaaGreatCkJi
import Derived.Test.YtnhghoonlmoinaaGreatCkKi
import Derived.Test.YtnhghoonlmoinaaGreatAbsU
namespace Go.Abs
set_option linter.unusedSectionVars false
variable [Kn]
open Go.Proofs
set_option linter.unusedVariables false
set_option linter.unusedSimpArgs false
set_option maxRecDepth 100000
set_option maxHeartbeats 1000000
end Go.Abs
