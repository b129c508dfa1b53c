/- A run of dfa.Build in steps. -/
import Derived.Test.YtlifmaooikhhoaaGreatDoorLxS23x
namespace Go.Abs
open Go.Proofs
set_option linter.unusedVariables false
set_option maxRecDepth 100000
theorem p23b1 : piece1 Tryz.prog callX 0 bodyB mB (SB23 1) = some (.normal, SB23 2) := by kernel_rfl
end Go.Abs
/- A run of dfa.Build in steps. -/
namespace Go.Abs
open Go.Proofs
set_option linter.unusedVariables false
set_option maxRecDepth 100000
theorem p23b2 : piece1 Tryz.prog callX 0 bodyB mB (SB23 2) = some (.normal, SB23 3) := by kernel_rfl
end Go.Abs
