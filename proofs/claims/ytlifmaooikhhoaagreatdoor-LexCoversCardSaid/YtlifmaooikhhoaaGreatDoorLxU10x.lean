/- dfa.Build on the example's rules. -/
import Derived.Test.YtlifmaooikhhoaaGreatDoorLxT10ax
import Derived.Test.YtlifmaooikhhoaaGreatDoorLxT10bx
import Derived.Test.YtlifmaooikhhoaaGreatDoorLxT10cx
import Derived.Test.YtlifmaooikhhoaaGreatDoorLxT10dx
import Derived.Test.YtlifmaooikhhoaaGreatDoorLxT10ex
import Derived.Test.YtlifmaooikhhoaaGreatDoorLxT10fx
import Derived.Test.YtlifmaooikhhoaaGreatDoorLxT10gx
namespace Go.Abs
open Go.Proofs
set_option linter.unusedVariables false
set_option maxRecDepth 100000
theorem build10 : Ok Tryz.prog 38 [.fv (rulesF rules10)] [] (.ret (.tuple [d10.av, .fv (.int .i64 0)])) [] := by
  obtain ⟨v, h', x, h5, hx, hle⟩ := pieceD_spec p10F
  refine ok_deep (two_loops mix Tryz.func38 rfl code_eq callX_ok (args := [.fv (rulesF rules10)]) (by decide) lines_eq SA10 SB10 3 4 mA mB (fun _ => rfl) (fun _ => rfl) p10L ?_ p10X ?_ h5) hx hle
  · intro k hk
    match k, hk with
    | 0, _ => exact p10a0
    | 1, _ => exact p10a1
    | 2, _ => exact p10a2
    | k + 3, hk => exact absurd hk (by omega)
  · intro k hk
    match k, hk with
    | 0, _ => exact p10b0
    | 1, _ => exact p10b1
    | 2, _ => exact p10b2
    | 3, _ => exact p10b3
    | k + 4, hk => exact absurd hk (by omega)
end Go.Abs
