/- A run of dfa.Build in steps. -/
import Derived.Test.YtlifmaooikhhoaaGreatDoorLxS23x
import Derived.Test.YtlifmaooikhhoaaGreatDoorLxT23bx
import Derived.Test.YtlifmaooikhhoaaGreatDoorLxT23dx
namespace Go.Abs
open Go.Proofs
set_option linter.unusedVariables false
set_option maxRecDepth 100000
noncomputable def d23 : Aut := ⟨[rowD fun c => if c = 97 then 1 else if c = 98 then 2 else -1, rowD fun c => if c = 97 then 1 else -1, rowD fun c => if c = 98 then 2 else -1], [-1, 0, 1]⟩
theorem p23F : pieceD Tryz.prog callX 0 bodyB 6 postB Tryz.f38.results.toList (SB23 3) (.tuple [d23.av, .fv (.int .i64 0)]) = true := by kernel_rfl
end Go.Abs
/- dfa.Build on the example's rules. -/
namespace Go.Abs
open Go.Proofs
set_option linter.unusedVariables false
set_option maxRecDepth 100000
theorem build23 : Ok Tryz.prog 38 [.fv (rulesF rules23)] [] (.ret (.tuple [d23.av, .fv (.int .i64 0)])) [] := by
  obtain ⟨v, h', x, h5, hx, hle⟩ := pieceD_spec p23F
  refine ok_deep (two_loops mix Tryz.func38 rfl code_eq callX_ok (args := [.fv (rulesF rules23)]) (by decide) lines_eq SA23 SB23 3 3 mA mB (fun _ => rfl) (fun _ => rfl) p23L ?_ p23X ?_ h5) hx hle
  · intro k hk
    match k, hk with
    | 0, _ => exact p23a0
    | 1, _ => exact p23a1
    | 2, _ => exact p23a2
    | k + 3, hk => exact absurd hk (by omega)
  · intro k hk
    match k, hk with
    | 0, _ => exact p23b0
    | 1, _ => exact p23b1
    | 2, _ => exact p23b2
    | k + 3, hk => exact absurd hk (by omega)
end Go.Abs
