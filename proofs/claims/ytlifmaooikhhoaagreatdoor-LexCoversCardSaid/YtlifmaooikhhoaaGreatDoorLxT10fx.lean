/- A run of dfa.Build in steps. -/
import Derived.Test.YtlifmaooikhhoaaGreatDoorLxS10x
namespace Go.Abs
open Go.Proofs
set_option linter.unusedVariables false
set_option maxRecDepth 100000
theorem p10b3 : piece1 Tryz.prog callX 0 bodyB mB (SB10 3) = some (.normal, SB10 4) := by kernel_rfl
end Go.Abs
