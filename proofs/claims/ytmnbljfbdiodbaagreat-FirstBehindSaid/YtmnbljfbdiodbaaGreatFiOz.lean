/- The example of the first symbols: what stands behind each symbol. -/
import Derived.Test.YtmnbljfbdiodbaaGreatFiPz
namespace Go.Abs
open Go.Proofs
set_option maxRecDepth 100000
theorem piece15b : Ok Tryz.prog 6 [g15.av] [] (.ret (.fv (.lst 1 [[.nils],[.lst 1 [[.int .i64 0]]],[.lst 1 [[.int .i64 1]]],[.lst 1 [[.int .i64 0]]],[.lst 1 [[.int .i64 1]]]]))) [] :=
 goDeep_ok (fun o h' e => reckoned2 e) (show goDeep Tryz.prog exts hooks2 100000 60 6 [g15.av] (.fv (.lst 1 [[.nils],[.lst 1 [[.int .i64 0]]],[.lst 1 [[.int .i64 1]]],[.lst 1 [[.int .i64 0]]],[.lst 1 [[.int .i64 1]]]])) = true by kernel_rfl)
end Go.Abs
