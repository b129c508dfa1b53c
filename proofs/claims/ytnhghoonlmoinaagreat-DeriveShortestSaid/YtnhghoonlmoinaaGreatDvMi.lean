/- The example of derivations: a word that is derived. -/
import Derived.Test.YtnhghoonlmoinaaGreatDvPi
namespace Go.Abs
open Go.Proofs
set_option maxRecDepth 100000
theorem piece21m : Ok Tryz.prog 13 [g21.av,.fv (.lst 1 [[.int .i64 1],[.int .i64 2]])] [] (.ret (.tuple [.fv (.bool true),.fv (.int .i64 0)])) [] :=
 goDeep_ok (fun o h' e => reckoned e) (show goDeep Tryz.prog exts hooks 100000 60 13 [g21.av,.fv (.lst 1 [[.int .i64 1],[.int .i64 2]])] (.tuple [.fv (.bool true),.fv (.int .i64 0)]) = true by kernel_rfl)
end Go.Abs
