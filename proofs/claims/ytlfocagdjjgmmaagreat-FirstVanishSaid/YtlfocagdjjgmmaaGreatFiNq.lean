/- The example of the first symbols: what begins a text, what vanishes. -/
import Derived.Test.YtlfocagdjjgmmaaGreatFiPq
namespace Go.Abs
open Go.Proofs
set_option maxRecDepth 100000
theorem piece15o : Ok Tryz.prog 28 [g15.av, .fv (.lst 1 [[.int .i64 3]])] [] (.ret (.tuple [.fv (.lst 1 [[.int .i64 1], [.int .i64 2]]), .fv (.bool false)])) [] :=
  goDeep_ok (fun o h' e => reckoned2 e) (show goDeep Tryz.prog exts hooks2 100000 60 28 [g15.av, .fv (.lst 1 [[.int .i64 3]])] (.tuple [.fv (.lst 1 [[.int .i64 1], [.int .i64 2]]), .fv (.bool false)]) = true by kernel_rfl)
theorem piece15v : Ok Tryz.prog 25 [g15.av] [] (.ret (.fv (.lst 1 [[.int .i64 4]]))) [] :=
  goDeep_ok (fun o h' e => reckoned2 e) (show goDeep Tryz.prog exts hooks2 100000 60 25 [g15.av] (.fv (.lst 1 [[.int .i64 4]])) = true by kernel_rfl)
end Go.Abs
