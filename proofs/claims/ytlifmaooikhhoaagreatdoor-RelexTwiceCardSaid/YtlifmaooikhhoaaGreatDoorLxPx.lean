/- The examples' automata are built. -/
import Derived.Test.YtlifmaooikhhoaaGreatDoorTyTryzx
import Derived.Test.YtlifmaooikhhoaaGreatDoorLxWx
import Derived.Test.YtlifmaooikhhoaaGreatDoorAbsFrz
import Derived.Test.YtlifmaooikhhoaaGreatDoorLxA
namespace Go.Abs
open Go.Proofs
set_option maxRecDepth 100000
def rowD (f : Nat → Int) : List Int := (List.range 256).map f
def cA : Cel := ⟨1, 0, 8589934592, 0, 0⟩
def cB : Cel := ⟨1, 0, 17179869184, 0, 0⟩
end Go.Abs
/- The examples' rules are read. -/
namespace Go.Abs
open Go.Proofs
set_option maxRecDepth 100000
theorem parseBp : Ok Tryz.prog 37 [.fv (.str [98, 43])] [] (.ret (.tuple [.fv (.lst 5 ([cB, ⟨6, 0, 0, 0, 0⟩].map Cel.row)), .fv (.int .i64 0), .fv (.int .i64 0)])) [] :=
  goDeep_ok (fun o h' e => reckoned e) (show goDeep Tryz.prog exts hooks 100000 60 37 [.fv (.str [98, 43])] (.tuple [.fv (.lst 5 ([cB, ⟨6, 0, 0, 0, 0⟩].map Cel.row)), .fv (.int .i64 0), .fv (.int .i64 0)]) = true by kernel_rfl)
theorem parseAp : Ok Tryz.prog 37 [.fv (.str [97, 43])] [] (.ret (.tuple [.fv (.lst 5 ([cA, ⟨6, 0, 0, 0, 0⟩].map Cel.row)), .fv (.int .i64 0), .fv (.int .i64 0)])) [] :=
  goDeep_ok (fun o h' e => reckoned e) (show goDeep Tryz.prog exts hooks 100000 60 37 [.fv (.str [97, 43])] (.tuple [.fv (.lst 5 ([cA, ⟨6, 0, 0, 0, 0⟩].map Cel.row)), .fv (.int .i64 0), .fv (.int .i64 0)]) = true by kernel_rfl)
end Go.Abs
