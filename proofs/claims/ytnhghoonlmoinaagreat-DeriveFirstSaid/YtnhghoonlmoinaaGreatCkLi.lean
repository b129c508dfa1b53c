/- What is reached, and what ends: the document's answers. -/
import Derived.Test.YtnhghoonlmoinaaGreatTyTryzi
import Derived.Test.YtnhghoonlmoinaaGreatDrTryzi
import Derived.Test.YtnhghoonlmoinaaGreatAbsZ
import Derived.Test.YtnhghoonlmoinaaGreatTopGi
import Derived.Test.YtnhghoonlmoinaaGreatTopC
import Derived.Test.YtnhghoonlmoinaaGreatZopHi
namespace Go.Abs
set_option linter.unusedSectionVars false
variable [Kn]
open Go.Proofs
set_option linter.unusedVariables false
set_option linter.unusedSimpArgs false
set_option maxRecDepth 100000
set_option maxHeartbeats 4000000
theorem foldl_take_succ {α β : Type} (f : β → α → β) (l : List α) (b : β) {i : Nat} (hi : i < l.length) : (l.take (i + 1)).foldl f b = f ((l.take i).foldl f b) l[i] := by
 rw [List.take_add_one,List.getElem?_eq_getElem hi,List.foldl_append]
 rfl
theorem iter_succ {α : Type} (f : α → α) : ∀ (n : Nat) (x : α),iter f (n + 1) x = f (iter f n x)
 | 0,_ => rfl
 | n + 1,x => by rw [iter,iter_succ f n (f x)]; rfl
theorem look_ints2 {o : List Int} {x : Int} {b : Blk} : [AV.ref 1 1 0 o.length,.fv (.int .i64 x)].map (subAny (mkSub [] [1] [b,.plain 1 (ints o)])) = [.fv (.lst 1 (ints o)),.fv (.int .i64 x)] := by
 have h := ints_length o
 simp [subAny,subA,mkSub,idx,← h]
theorem look_fl {o : List Int} {b : Blk} : ∀ i ∈ [1],∃ es rows,([b,.plain 1 (ints o)] : List Blk)[i]? = some (.plain es rows) := fun i hi => by
 simp at hi; subst hi; exact ⟨_,_,rfl⟩
end Go.Abs
