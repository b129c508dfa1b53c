/- Items: their cells. -/
import Derived.Test.YtnhghoonlmoinaaGreatTyTryzi
import Derived.Test.YtnhghoonlmoinaaGreatDrTryzi
import Derived.Test.YtnhghoonlmoinaaGreatAbsZ
import Derived.Test.YtnhghoonlmoinaaGreatTopA
namespace Go.Abs
set_option linter.unusedSectionVars false
variable [Kn]
open Go.Proofs
structure Itm where
 prod : Int
 dot : Int
def Itm.row (x : Itm) : List FV := [.int .i64 x.prod,.int .i64 x.dot]
def Itm.av (x : Itm) : AV := .agg [.fv (.int .i64 x.prod),.fv (.int .i64 x.dot)]
end Go.Abs
/- Items: what is handed. -/
namespace Go.Abs
set_option linter.unusedSectionVars false
variable [Kn]
open Go.Proofs
end Go.Abs
