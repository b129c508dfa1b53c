/- The example that each law begins with. -/
import Derived.Test.YtckpaaeilbgiiaaGreatTyTryz
import Derived.Test.YtckpaaeilbgiiaaGreatTopW
namespace Go.Abs
open Go.Proofs
set_option maxRecDepth 100000
theorem okWakes : Ok Tryz.prog 6 [] [] (.ret (.fv (.bool true))) [] := reckoned (n := 60) (lf := 100000) (by kernel_rfl)
end Go.Abs
