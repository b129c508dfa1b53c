/- The example of derivations: a word that is not, and productions. -/
import Derived.Test.YtnhghoonlmoinaaGreatDvPi
namespace Go.Abs
open Go.Proofs
set_option maxRecDepth 100000
theorem piece21n : Ok Tryz.prog 13 [g21.av,.fv (.lst 1 [[.int .i64 1]])] [] (.ret (.tuple [.fv (.bool false),.fv (.int .i64 0)])) [] :=
 goDeep_ok (fun o h' e => reckoned e) (show goDeep Tryz.prog exts hooks 100000 60 13 [g21.av,.fv (.lst 1 [[.int .i64 1]])] (.tuple [.fv (.bool false),.fv (.int .i64 0)]) = true by kernel_rfl)
theorem piece21r : Ok Tryz.prog 15 [g21.av,.fv (.lst 1 [[.int .i64 0],[.int .i64 1]])] [] (.ret (.tuple [.fv (.lst 1 [[.int .i64 1],[.int .i64 2]]),.fv (.int .i64 0)])) [] :=
 goDeep_ok (fun o h' e => reckoned e) (show goDeep Tryz.prog exts hooks 100000 60 15 [g21.av,.fv (.lst 1 [[.int .i64 0],[.int .i64 1]])] (.tuple [.fv (.lst 1 [[.int .i64 1],[.int .i64 2]]),.fv (.int .i64 0)]) = true by kernel_rfl)
end Go.Abs
