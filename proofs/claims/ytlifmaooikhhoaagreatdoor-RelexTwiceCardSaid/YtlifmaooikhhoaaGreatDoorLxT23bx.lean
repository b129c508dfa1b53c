/- A run of dfa.Build in steps. -/
import Derived.Test.YtlifmaooikhhoaaGreatDoorLxS23x
namespace Go.Abs
open Go.Proofs
set_option linter.unusedVariables false
set_option maxRecDepth 100000
theorem p23a1 : piece1 Tryz.prog callX 0 bodyA mA (SA23 1) = some (.normal, SA23 2) := by kernel_rfl
theorem p23a2 : piece1 Tryz.prog callX 0 bodyA mA (SA23 2) = some (.normal, SA23 3) := by kernel_rfl
theorem p23X : pieceX Tryz.prog callX 0 bodyA 2 midB mB (SA23 3) = some (SB23 0) := by kernel_rfl
end Go.Abs
/- A run of dfa.Build in steps. -/
namespace Go.Abs
open Go.Proofs
set_option linter.unusedVariables false
set_option maxRecDepth 100000
theorem p23b0 : piece1 Tryz.prog callX 0 bodyB mB (SB23 0) = some (.normal, SB23 1) := by kernel_rfl
end Go.Abs
