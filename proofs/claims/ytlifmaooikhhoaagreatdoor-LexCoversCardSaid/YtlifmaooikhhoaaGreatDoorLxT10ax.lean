/- A run of dfa.Build in steps. -/
import Derived.Test.YtlifmaooikhhoaaGreatDoorLxS10x
namespace Go.Abs
open Go.Proofs
set_option linter.unusedVariables false
set_option maxRecDepth 100000
theorem p10L : pieceL Tryz.prog callX 0 preB mA (startB rules10) = some (SA10 0) := by kernel_rfl
theorem p10a0 : piece1 Tryz.prog callX 0 bodyA mA (SA10 0) = some (.normal, SA10 1) := by kernel_rfl
end Go.Abs
