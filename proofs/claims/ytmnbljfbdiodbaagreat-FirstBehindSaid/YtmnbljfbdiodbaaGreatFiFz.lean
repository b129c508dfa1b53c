/- What vanishes, what begins a text: the program's answers. -/
import Derived.Test.YtmnbljfbdiodbaaGreatTyTryzz
import Derived.Test.YtmnbljfbdiodbaaGreatDrTryzz
import Derived.Test.YtmnbljfbdiodbaaGreatFiDz
import Derived.Test.YtmnbljfbdiodbaaGreatFiA
import Derived.Test.YtmnbljfbdiodbaaGreatCkHz
import Derived.Test.YtmnbljfbdiodbaaGreatAbsW
namespace Go.Abs
open Go.Proofs
set_option linter.unusedVariables false
set_option linter.unusedSimpArgs false
set_option maxRecDepth 100000
set_option maxHeartbeats 8000000
/-- Are these symbols of the grammar? -/
def Gra.symsB (g : Gra) (text : List Int) : Bool := text.all fun n => decide (1 ≤ n) && decide (n ≤ (g.all : Int))
theorem symsB_iff {g : Gra} {text : List Int} : g.symsB text = true ↔ ∀ n ∈ text,1 ≤ n ∧ n ≤ (g.all : Int) := by
 simp [Gra.symsB]
end Go.Abs
