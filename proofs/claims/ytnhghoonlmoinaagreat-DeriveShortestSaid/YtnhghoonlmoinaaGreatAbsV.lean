/- From a library's contract of a call that turns a row of structs (sort functions) to the machine's. -/
import Derived.Test.YtnhghoonlmoinaaGreatAbsU
import Derived.Shelf.GgSortFunc.InsertionK
namespace Go.Abs
variable [Kn]
set_option linter.unusedSectionVars false
set_option linter.unusedVariables false
set_option linter.unusedSimpArgs false
section
variable {α : Type} [Inhabited α] (rf : α → List FV) (es : Nat)
end
end Go.Abs
