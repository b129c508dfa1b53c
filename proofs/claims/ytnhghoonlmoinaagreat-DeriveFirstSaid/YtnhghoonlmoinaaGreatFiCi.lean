/- What begins a text: the program's steps. -/
import Derived.Test.YtnhghoonlmoinaaGreatTyTryzi
import Derived.Test.YtnhghoonlmoinaaGreatDrTryzi
import Derived.Test.YtnhghoonlmoinaaGreatCkKi
import Derived.Test.YtnhghoonlmoinaaGreatZopHi
import Derived.Test.YtnhghoonlmoinaaGreatFiA
import Derived.Test.YtnhghoonlmoinaaGreatAbsNil
import Derived.Test.YtnhghoonlmoinaaGreatAbsTree
import Derived.Test.YtnhghoonlmoinaaGreatCkCi
import Derived.Test.YtnhghoonlmoinaaGreatCkLi
namespace Go.Abs
set_option linter.unusedSectionVars false
variable [Kn]
open Go.Proofs
set_option linter.unusedVariables false
set_option linter.unusedSimpArgs false
set_option maxRecDepth 100000
set_option maxHeartbeats 4000000
theorem nckP (id es r off : Nat) : nckA (.ptr id es r off) = some (.ptr id es r off) := nck_solid rfl
theorem rowsOf_at {F : List (List Int)} {i : Nat} {o : List Int} (h : F[i]? = some o) : (rowsOf F)[i]? = some [.lst 1 (ints o)] := by unfold rowsOf; rw [List.getElem?_map,h]; rfl
end Go.Abs
/- What begins a text: the program's tables. -/
namespace Go.Abs
open Go.Proofs
set_option linter.unusedVariables false
set_option linter.unusedSimpArgs false
set_option maxRecDepth 100000
set_option maxHeartbeats 8000000
end Go.Abs
