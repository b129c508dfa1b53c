/- The example of the items: closure, goto. -/
import Derived.Test.YtlfocagdjjgmmaaGreatItPq
namespace Go.Abs
open Go.Proofs
set_option maxRecDepth 100000
theorem piece16c : Ok Tryz.prog 44 [g16.av, .fv (.lst 2 [[.int .i64 (-1), .int .i64 0]])] [] (.ret (.fv (.lst 2 [[.int .i64 (-1), .int .i64 0], [.int .i64 0, .int .i64 0], [.int .i64 1, .int .i64 0]]))) [] :=
  goDeep_ok (fun o h' e => reckoned2 e) (show goDeep Tryz.prog exts hooks2 100000 60 44 [g16.av, .fv (.lst 2 [[.int .i64 (-1), .int .i64 0]])] (.fv (.lst 2 [[.int .i64 (-1), .int .i64 0], [.int .i64 0, .int .i64 0], [.int .i64 1, .int .i64 0]])) = true by kernel_rfl)
theorem piece16g : Ok Tryz.prog 46 [g16.av, .fv (.lst 2 [[.int .i64 (-1), .int .i64 0], [.int .i64 0, .int .i64 0], [.int .i64 1, .int .i64 0]]), .fv (.int .i64 1)] [] (.ret (.fv (.lst 2 [[.int .i64 0, .int .i64 1]]))) [] :=
  goDeep_ok (fun o h' e => reckoned2 e) (show goDeep Tryz.prog exts hooks2 100000 60 46 [g16.av, .fv (.lst 2 [[.int .i64 (-1), .int .i64 0], [.int .i64 0, .int .i64 0], [.int .i64 1, .int .i64 0]]), .fv (.int .i64 1)] (.fv (.lst 2 [[.int .i64 0, .int .i64 1]])) = true by kernel_rfl)
theorem piece16s : Ok Tryz.prog 45 [.fv (.lst 2 [[.int .i64 (-1), .int .i64 0], [.int .i64 0, .int .i64 0], [.int .i64 1, .int .i64 0]]), .fv (.lst 2 [[.int .i64 (-1), .int .i64 0], [.int .i64 0, .int .i64 0], [.int .i64 1, .int .i64 0]])] [] (.ret (.fv (.bool true))) [] :=
  goDeep_ok (fun o h' e => reckoned2 e) (show goDeep Tryz.prog exts hooks2 100000 60 45 [.fv (.lst 2 [[.int .i64 (-1), .int .i64 0], [.int .i64 0, .int .i64 0], [.int .i64 1, .int .i64 0]]), .fv (.lst 2 [[.int .i64 (-1), .int .i64 0], [.int .i64 0, .int .i64 0], [.int .i64 1, .int .i64 0]])] (.fv (.bool true)) = true by kernel_rfl)
theorem piece16t : Ok Tryz.prog 45 [.fv (.lst 2 [[.int .i64 0, .int .i64 1]]), .fv (.lst 2 [[.int .i64 0, .int .i64 1]])] [] (.ret (.fv (.bool true))) [] :=
  goDeep_ok (fun o h' e => reckoned2 e) (show goDeep Tryz.prog exts hooks2 100000 60 45 [.fv (.lst 2 [[.int .i64 0, .int .i64 1]]), .fv (.lst 2 [[.int .i64 0, .int .i64 1]])] (.fv (.bool true)) = true by kernel_rfl)
end Go.Abs
