/- A run of dfa.Build in steps. -/
import Derived.Test.YtlifmaooikhhoaaGreatDoorLxS10x
namespace Go.Abs
open Go.Proofs
set_option linter.unusedVariables false
set_option maxRecDepth 100000
theorem p10a1 : piece1 Tryz.prog callX 0 bodyA mA (SA10 1) = some (.normal, SA10 2) := by kernel_rfl
theorem p10a2 : piece1 Tryz.prog callX 0 bodyA mA (SA10 2) = some (.normal, SA10 3) := by kernel_rfl
theorem p10X : pieceX Tryz.prog callX 0 bodyA 2 midB mB (SA10 3) = some (SB10 0) := by kernel_rfl
end Go.Abs
