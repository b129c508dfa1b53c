/- dfa.Build's statements, for runs in steps. -/
import Derived.Test.YtlifmaooikhhoaaGreatDoorLxPx
import Derived.Test.YtlifmaooikhhoaaGreatDoorAbsFrz
namespace Go.Abs
open Go.Proofs
set_option linter.unusedVariables false
set_option maxRecDepth 100000
noncomputable def callX : CallF := callR exts (goFn Tryz.prog exts hooks 100000 60)
theorem callX_ok : CallOk Tryz.prog callX := callR_ok exts_ok fun f args h o h' e => reckoned e
noncomputable def codeB : Code := match Tryz.f38.body with
  | some c => c
  | none => .skip
noncomputable def loopOf : Code → Code
  | .block _ (.loop b) => b
  | _ => .skip
noncomputable def linesB : List Code := flatL codeB
noncomputable def preB : List Code := linesB.take 9
noncomputable def bodyA : Code := loopOf (linesB.getD 9 .skip)
noncomputable def midB : List Code := (linesB.drop 10).take 4
noncomputable def bodyB : Code := loopOf (linesB.getD 14 .skip)
noncomputable def postB : List Code := (linesB.drop 15).take 1
theorem code_eq : Tryz.f38.body = some codeB := by kernel_rfl
theorem lines_eq : flatL codeB = preB ++ .block 2 (.loop bodyA) :: (midB ++ .block 6 (.loop bodyB) :: (postB ++ [.ret])) := by kernel_rfl
noncomputable def mA : List Bool := rl [(2, false), (1, true), (1, false), (1, true), (4, false), (2, true), (44, false), (3, true), (119, false)]
noncomputable def mB : List Bool := rl [(2, false), (1, true), (1, false), (1, true), (4, false), (2, true), (3, false), (4, true), (159, false)]
noncomputable def rulesF (l : List (List Cel)) : FV := .lst 1 (l.map fun r => [.lst 5 (r.map Cel.row)])
noncomputable def startB (l : List (List Cel)) : St := ⟨[.fv (rulesF l)] ++ List.replicate (Tryz.f38.ntmps - 1) .undef, [], []⟩
end Go.Abs
