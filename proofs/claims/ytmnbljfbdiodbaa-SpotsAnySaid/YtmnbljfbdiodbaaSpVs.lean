/- The example of the spots. -/
import Derived.Test.YtmnbljfbdiodbaaTyTrys
import Derived.Test.YtmnbljfbdiodbaaTopWs
import Derived.Test.YtmnbljfbdiodbaaAbsFrz
namespace Go.Abs
open Go.Proofs
set_option maxRecDepth 100000
theorem okWakes07 : Ok Try.prog 7 [] [] (.ret (.fv (.bool true))) [] :=
 goDeep_ok (fun o h' e => reckoned e) (show goDeep Try.prog exts hooks 100000 60 7 [] (.fv (.bool true)) = true by kernel_rfl)
theorem same0 : Ok Try.prog 8 [.agg [.fv .nils,.fv (.bool false),.fv .nils,.fv .nils,.fv .nils],.agg [.fv .nils,.fv (.bool false),.fv .nils,.fv .nils,.fv .nils]] [] (.ret (.fv (.bool true))) [] :=
 goDeep_ok (fun o h' e => reckoned e) (show goDeep Try.prog exts hooks 100000 60 8 [.agg [.fv .nils,.fv (.bool false),.fv .nils,.fv .nils,.fv .nils],.agg [.fv .nils,.fv (.bool false),.fv .nils,.fv .nils,.fv .nils]] (.fv (.bool true)) = true by kernel_rfl)
end Go.Abs
