/- Do spots fit a text: the program's answer. -/
import Derived.Test.YtmnbljfbdiodbaaTyTrys
import Derived.Test.YtmnbljfbdiodbaaDrTrys
import Derived.Test.YtmnbljfbdiodbaaSpBs
import Derived.Test.YtmnbljfbdiodbaaSpKs
import Derived.Test.YtmnbljfbdiodbaaTopWs
import Derived.Test.YtmnbljfbdiodbaaFiA
import Derived.Test.YtmnbljfbdiodbaaAbsW
namespace Go.Abs
open Go.Proofs
set_option linter.unusedVariables false
set_option linter.unusedSimpArgs false
set_option maxRecDepth 100000
set_option maxHeartbeats 8000000
def Spo.has (p : Spo) (b : UInt8) (k : Int) : Bool := (p.sets.getD k.toNat (fun _ => false)) b.toNat
def Spo.fol (p : Spo) (k : Int) : List Int := p.follow.getD k.toNat []
theorem inB_nat {n : Nat} {k : Int} (h : inB n k = true) : ∃ i : Nat,k = (i : Int) ∧ i < n := by
 rw [inB_iff] at h
 exact ⟨k.toNat,by omega,by omega⟩
structure Spo.R (p : Spo) : Prop where
 len : p.follow.length = p.sets.length
 fol : ∀ l ∈ p.follow,∀ k ∈ l,inB p.sets.length k = true
 first : ∀ k ∈ p.first,inB p.sets.length k = true
 last : ∀ k ∈ p.last,inB p.sets.length k = true
theorem sets_at {p : Spo} {i : Nat} (h : i < p.sets.length) : (p.sets.map srow)[i]? = some (srow p.sets[i]) := by rw [List.getElem?_map,List.getElem?_eq_getElem h]; rfl
end Go.Abs
/- Do spots fit a text: the document's answer. -/
namespace Go.Abs
open Go.Proofs
set_option linter.unusedVariables false
set_option linter.unusedSimpArgs false
set_option maxRecDepth 100000
set_option maxHeartbeats 8000000
end Go.Abs
