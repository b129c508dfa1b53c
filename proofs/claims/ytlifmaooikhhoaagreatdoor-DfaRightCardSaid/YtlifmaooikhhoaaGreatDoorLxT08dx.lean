/- A run of dfa.Build in steps. -/
import Derived.Test.YtlifmaooikhhoaaGreatDoorLxS08x
namespace Go.Abs
open Go.Proofs
set_option linter.unusedVariables false
set_option maxRecDepth 100000
theorem p08b1 : piece1 Tryz.prog callX 0 bodyB mB (SB08 1) = some (.normal, SB08 2) := by kernel_rfl
end Go.Abs
/- A run of dfa.Build in steps. -/
namespace Go.Abs
open Go.Proofs
set_option linter.unusedVariables false
set_option maxRecDepth 100000
theorem p08b2 : piece1 Tryz.prog callX 0 bodyB mB (SB08 2) = some (.normal, SB08 3) := by kernel_rfl
end Go.Abs
