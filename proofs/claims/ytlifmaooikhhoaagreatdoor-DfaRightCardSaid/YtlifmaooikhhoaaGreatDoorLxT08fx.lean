/- A run of dfa.Build in steps. -/
import Derived.Test.YtlifmaooikhhoaaGreatDoorLxS08x
import Derived.Test.YtlifmaooikhhoaaGreatDoorLxT08bx
import Derived.Test.YtlifmaooikhhoaaGreatDoorLxT08dx
namespace Go.Abs
open Go.Proofs
set_option linter.unusedVariables false
set_option maxRecDepth 100000
noncomputable def d08 : Aut := ⟨[rowD fun c => if c = 97 then 1 else -1, rowD fun c => if c = 98 then 2 else -1, rowD fun _ => -1], [-1, 1, 0]⟩
theorem p08F : pieceD Tryz.prog callX 0 bodyB 6 postB Tryz.f38.results.toList (SB08 3) (.tuple [d08.av, .fv (.int .i64 0)]) = true := by kernel_rfl
end Go.Abs
/- dfa.Build on the example's rules. -/
namespace Go.Abs
open Go.Proofs
set_option linter.unusedVariables false
set_option maxRecDepth 100000
theorem build08 : Ok Tryz.prog 38 [.fv (rulesF rules08)] [] (.ret (.tuple [d08.av, .fv (.int .i64 0)])) [] := by
  obtain ⟨v, h', x, h5, hx, hle⟩ := pieceD_spec p08F
  refine ok_deep (two_loops mix Tryz.func38 rfl code_eq callX_ok (args := [.fv (rulesF rules08)]) (by decide) lines_eq SA08 SB08 3 3 mA mB (fun _ => rfl) (fun _ => rfl) p08L ?_ p08X ?_ h5) hx hle
  · intro k hk
    match k, hk with
    | 0, _ => exact p08a0
    | 1, _ => exact p08a1
    | 2, _ => exact p08a2
    | k + 3, hk => exact absurd hk (by omega)
  · intro k hk
    match k, hk with
    | 0, _ => exact p08b0
    | 1, _ => exact p08b1
    | 2, _ => exact p08b2
    | k + 3, hk => exact absurd hk (by omega)
end Go.Abs
