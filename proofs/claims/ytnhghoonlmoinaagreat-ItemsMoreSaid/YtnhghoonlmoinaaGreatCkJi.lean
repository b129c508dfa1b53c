/- Lists of numbers: order, sets, what stands in them. -/
import Derived.Test.YtnhghoonlmoinaaGreatTyTryzi
import Derived.Test.YtnhghoonlmoinaaGreatDrTryzi
import Derived.Test.YtnhghoonlmoinaaGreatAbsZ
import Derived.Test.YtnhghoonlmoinaaGreatTopA
import Derived.Test.YtnhghoonlmoinaaGreatTopGi
import Derived.Test.YtnhghoonlmoinaaGreatAbsU
namespace Go.Abs
set_option linter.unusedSectionVars false
variable [Kn]
open Go.Proofs
set_option linter.unusedVariables false
set_option linter.unusedSimpArgs false
set_option maxRecDepth 100000
set_option maxHeartbeats 1000000
def ints (l : List Int) : List (List FV) := l.map fun n => [.int .i64 n]
theorem ints_length (l : List Int) : (ints l).length = l.length := by simp [ints]
theorem ints_get (l : List Int) (i : Nat) (h : i < l.length) : (ints l)[i]? = some [.int .i64 l[i]] := by simp [ints,h]
def cmpI (x y : Int) : Int := if x < y then -1 else if y < x then 1 else 0
end Go.Abs
