/- What begins a text: the program's steps. -/
import Derived.Test.YtnhghoonlmoinaaGreatTyTryzi
import Derived.Test.YtnhghoonlmoinaaGreatDrTryzi
import Derived.Test.YtnhghoonlmoinaaGreatCkKi
import Derived.Test.YtnhghoonlmoinaaGreatZopHi
import Derived.Test.YtnhghoonlmoinaaGreatTopC
import Derived.Test.YtnhghoonlmoinaaGreatAbsNil
import Derived.Test.YtnhghoonlmoinaaGreatAbsTree
import Derived.Test.YtnhghoonlmoinaaGreatCkCi
import Derived.Test.YtnhghoonlmoinaaGreatCkLi
namespace Go.Abs
set_option linter.unusedSectionVars false
variable [Kn]
open Go.Proofs
set_option linter.unusedVariables false
set_option linter.unusedSimpArgs false
set_option maxRecDepth 100000
set_option maxHeartbeats 4000000
theorem nckP (id es r off : Nat) : nckA (.ptr id es r off) = some (.ptr id es r off) := nck_solid rfl
end Go.Abs
/- What begins a text: the program's tables. -/
namespace Go.Abs
open Go.Proofs
set_option linter.unusedVariables false
set_option linter.unusedSimpArgs false
set_option maxRecDepth 100000
set_option maxHeartbeats 8000000
theorem stB_ref1 {d : TypeDesc} {b : Nat} {z : Option (List FV)} (h : List Blk) {rows : List (List FV)} (id : Nat) {es r off : Nat} (id' es' off' n : Nat) (hk : r * es + off < (thaw rows).length) :
  stB ⟨d,1,b,z⟩ h (some (.plain es rows)) id es r off (.ref id' es' off' n) = some (.undef,h.set id (.box ((thaw rows).set (r * es + off) (.ref id' es' off' n))),[id]) := by
 have hr : rowOf (.ref id' es' off' n) = none := rfl
 simp only [stB,if_true,hr,stBx,cellsA,Option.bind_some]
 rw [if_pos ⟨rfl,by omega,rfl⟩,splice_one,if_pos hk]
 rfl
theorem thaw_rows (F : List (List Int)) : thaw (rowsOf F) = F.map fun l => .fv (.lst 1 (ints l)) := by
 unfold rowsOf thaw
 induction F with
 | nil => rfl
 | cons a F ih => rw [List.map_cons,List.flatten_cons,List.map_append,ih]; rfl
theorem rows_one (F : List (List Int)) : ∀ row ∈ rowsOf F,row.length = 1 := fun row h => by
 simp only [rowsOf,List.mem_map] at h
 obtain ⟨_,_,rfl⟩ := h
 rfl
theorem map_sub_lsts (σ : Nat → Option Sb) (F : List (List Int)) : (F.map fun l => AV.fv (.lst 1 (ints l))).map (subAny σ) = F.map fun l => .fv (.lst 1 (ints l)) := by
 rw [List.map_map]
 rfl
end Go.Abs
