/- The example of derivations: a word that is not, and productions. -/
import Derived.Test.YtlfocagdjjgmmaaGreatDvPq
namespace Go.Abs
open Go.Proofs
set_option maxRecDepth 100000
theorem piece21n : Ok Tryz.prog 37 [g21.av, .fv (.lst 1 [[.int .i64 1]])] [] (.ret (.tuple [.fv (.bool false), .fv (.int .i64 0)])) [] :=
  goDeep_ok (fun o h' e => reckoned2 e) (show goDeep Tryz.prog exts hooks2 100000 60 37 [g21.av, .fv (.lst 1 [[.int .i64 1]])] (.tuple [.fv (.bool false), .fv (.int .i64 0)]) = true by kernel_rfl)
theorem piece21r : Ok Tryz.prog 12 [g21.av, .fv (.lst 1 [[.int .i64 0], [.int .i64 1]])] [] (.ret (.tuple [.fv (.lst 1 [[.int .i64 1], [.int .i64 2]]), .fv (.int .i64 0)])) [] :=
  goDeep_ok (fun o h' e => reckoned2 e) (show goDeep Tryz.prog exts hooks2 100000 60 12 [g21.av, .fv (.lst 1 [[.int .i64 0], [.int .i64 1]])] (.tuple [.fv (.lst 1 [[.int .i64 1], [.int .i64 2]]), .fv (.int .i64 0)]) = true by kernel_rfl)
end Go.Abs
