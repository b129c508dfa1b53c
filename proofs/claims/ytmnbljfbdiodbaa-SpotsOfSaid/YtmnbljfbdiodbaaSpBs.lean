/- Spots as cells; whether all their numbers are spots'. -/
import Derived.Test.YtmnbljfbdiodbaaTyTrys
import Derived.Test.YtmnbljfbdiodbaaDrTrys
import Derived.Test.YtmnbljfbdiodbaaSpKs
import Derived.Test.YtmnbljfbdiodbaaAbsW
namespace Go.Abs
open Go.Proofs
set_option linter.unusedVariables false
set_option linter.unusedSimpArgs false
set_option maxRecDepth 100000
set_option maxHeartbeats 4000000
/-- A set as a row. -/
def srow (p : Nat → Bool) : List FV := [.int .u64 (wd p 0),.int .u64 (wd p 1),.int .u64 (wd p 2),.int .u64 (wd p 3)]
structure Spo where
 sets : List (Nat → Bool)
 null : Bool
 first : List Int
 last : List Int
 follow : List (List Int)
def Spo.row (p : Spo) : List FV := [.lst 4 (p.sets.map srow),.bool p.null,.lst 1 (ints p.first),.lst 1 (ints p.last),.lst 1 (rowsOf p.follow)]
def Spo.cells (p : Spo) : List AV := [.fv (.lst 4 (p.sets.map srow)),.fv (.bool p.null),.fv (.lst 1 (ints p.first)),.fv (.lst 1 (ints p.last)),.fv (.lst 1 (rowsOf p.follow))]
def Spo.av (p : Spo) : AV := .agg p.cells
def inB (n : Nat) (k : Int) : Bool := decide (0 ≤ k) && decide (k < (n : Int))
def Spo.rightB (p : Spo) : Bool := decide (p.follow.length = p.sets.length) && (p.follow.all fun l => l.all (inB p.sets.length)) && (p.first.all (inB p.sets.length) && p.last.all (inB p.sets.length))
theorem inB_iff {n : Nat} {k : Int} : inB n k = true ↔ 0 ≤ k ∧ k < (n : Int) := by simp [inB]
theorem rowsAt {F : List (List Int)} {i : Nat} (h : i < F.length) : (rowsOf F)[i]? = some [.lst 1 (ints F[i])] := by unfold rowsOf; rw [List.getElem?_map,List.getElem?_eq_getElem h]; rfl
/-- No list is longer than that. -/
structure Spo.Small (p : Spo) (n : Nat) : Prop where
 sets : p.sets.length ≤ n
 follow : p.follow.length ≤ n
 rows : ∀ l ∈ p.follow,l.length ≤ n
 first : p.first.length ≤ n
 last : p.last.length ≤ n
end Go.Abs
