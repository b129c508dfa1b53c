/- Items: their cells. -/
import Derived.Test.YtnhghoonlmoinaaGreatTyTryzi
import Derived.Test.YtnhghoonlmoinaaGreatDrTryzi
import Derived.Test.YtnhghoonlmoinaaGreatAbsZ
import Derived.Test.YtnhghoonlmoinaaGreatTopA
namespace Go.Abs
set_option linter.unusedSectionVars false
variable [Kn]
open Go.Proofs
structure Itm where
 prod : Int
 dot : Int
def Itm.row (x : Itm) : List FV := [.int .i64 x.prod,.int .i64 x.dot]
def Itm.av (x : Itm) : AV := .agg [.fv (.int .i64 x.prod),.fv (.int .i64 x.dot)]
end Go.Abs
/- Items: what is handed. -/
namespace Go.Abs
set_option linter.unusedSectionVars false
variable [Kn]
open Go.Proofs
theorem itm_of (row : List FV) (h : RowC [.int .i64,.int .i64] row) : ∃ x : Itm,row = x.row ∧ (I64 x.prod ∧ I64 x.dot) := by
 obtain ⟨l,rfl,h1,h2⟩ := lev_of row h
 exact ⟨⟨l.power,l.side⟩,rfl,h1,h2⟩
end Go.Abs
