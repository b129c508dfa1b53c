/- The document's chart: places, whole symbols, words. -/
import Derived.Test.YtnhghoonlmoinaaGreatTyTryzi
import Derived.Test.YtnhghoonlmoinaaGreatDrTryzi
import Derived.Test.YtnhghoonlmoinaaGreatDvAB
import Derived.Test.YtnhghoonlmoinaaGreatItAi
import Derived.Test.YtnhghoonlmoinaaGreatTopGi
import Derived.Test.YtnhghoonlmoinaaGreatAbsW
import Derived.Test.YtnhghoonlmoinaaGreatDvHi
import Derived.Test.YtnhghoonlmoinaaGreatAbsCut
namespace Go.Abs
open Go.Proofs
set_option linter.unusedVariables false
set_option linter.unusedSimpArgs false
set_option maxRecDepth 100000
set_option maxHeartbeats 8000000
def bRows (L : List Bool) : List (List FV) := L.map fun b => [.bool b]
theorem bRows_get (L : List Bool) (k : Nat) (h : k < L.length) : (bRows L)[k]? = some [.bool (L.getD k false)] := by
 simp [bRows,List.getD_eq_getElem?_getD,h]
end Go.Abs
/- The document's chart: rounds, and Member. -/
namespace Go.Abs
open Go.Proofs
set_option linter.unusedVariables false
set_option linter.unusedSimpArgs false
set_option maxRecDepth 100000
set_option maxHeartbeats 8000000
def hL (g : Gra) (w : List Int) (N : Nat) (L : List Bool) : List Blk := [.plain 1 (bRows L),.box g.cells,.box [.fv (.int .i64 ((w.length + 1 : Nat) : Int)),.ref 0 1 0 N]]
def hC (g : Gra) (w : List Int) (N : Nat) (L : List Bool) : List Blk := [.box g.cells,.box [.fv (.int .i64 0),.fv .nils],.box [.fv (.int .i64 ((w.length + 1 : Nat) : Int)),.ref 3 1 0 N],.plain 1 (bRows L)]
end Go.Abs
