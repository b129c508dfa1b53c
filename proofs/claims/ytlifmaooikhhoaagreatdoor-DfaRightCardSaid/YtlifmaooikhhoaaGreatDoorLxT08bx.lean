/- A run of dfa.Build in steps. -/
import Derived.Test.YtlifmaooikhhoaaGreatDoorLxS08x
namespace Go.Abs
open Go.Proofs
set_option linter.unusedVariables false
set_option maxRecDepth 100000
theorem p08a1 : piece1 Tryz.prog callX 0 bodyA mA (SA08 1) = some (.normal, SA08 2) := by kernel_rfl
theorem p08a2 : piece1 Tryz.prog callX 0 bodyA mA (SA08 2) = some (.normal, SA08 3) := by kernel_rfl
theorem p08X : pieceX Tryz.prog callX 0 bodyA 2 midB mB (SA08 3) = some (SB08 0) := by kernel_rfl
end Go.Abs
/- A run of dfa.Build in steps. -/
namespace Go.Abs
open Go.Proofs
set_option linter.unusedVariables false
set_option maxRecDepth 100000
theorem p08b0 : piece1 Tryz.prog callX 0 bodyB mB (SB08 0) = some (.normal, SB08 1) := by kernel_rfl
end Go.Abs
