/- A run of dfa.Build in steps. -/
import Derived.Test.YtlifmaooikhhoaaGreatDoorLxS10x
namespace Go.Abs
open Go.Proofs
set_option linter.unusedVariables false
set_option maxRecDepth 100000
theorem p10F : pieceD Tryz.prog callX 0 bodyB 6 postB Tryz.f38.results.toList (SB10 4) (.tuple [d10.av, .fv (.int .i64 0)]) = true := by kernel_rfl
end Go.Abs
