/- What is reckoned outright: the example that each law begins with. -/
import Derived.Test.YtmnbljfbdiodbaaAbsGo
import Derived.Test.YtmnbljfbdiodbaaTyTrys
import Derived.Test.YtmnbljfbdiodbaaDrTrys
import Derived.Test.YtmnbljfbdiodbaaAbsZ
import Derived.Test.YtmnbljfbdiodbaaTopGs
import Derived.Test.YtmnbljfbdiodbaaTopA
import Derived.Test.YtmnbljfbdiodbaaSpKs
import Derived.Test.YtmnbljfbdiodbaaAbsW
namespace Go.Abs
open Go.Proofs Go.RowKit
set_option linter.unusedVariables false
set_option linter.unusedSimpArgs false
set_option maxRecDepth 100000
theorem names_all : (Try.prog.funcs.toList.all fun fn => !(fn.name == "runtime.NumGoroutine")) = true := by kernel_rfl
theorem names_ok (f : FuncId) (fn : Func) (h : Try.prog.funcs[f]? = some fn) : (fn.name == "runtime.NumGoroutine") = false := by
 have h1 := List.all_eq_true.1 names_all fn (by
  have : Try.prog.funcs.toList[f]? = some fn := by simpa using h
  exact List.mem_of_getElem? this)
 simpa using h1
def hooks : List (FuncId × Hook) := []
theorem hooks_ok (f : FuncId) (k : Hook) (h : extTab hooks f = some k) (args : List AV) (hp : List Blk) (o : AOut) (h' : List Blk) (e : k args hp = some (o,h')) : Ok Try.prog f args hp o h' := by
 simp [hooks,extTab] at h
def exts : List (FuncId × Ext) := [(83,.idxByte)]
theorem exts_ok (f : FuncId) (x : Ext) (h : extTab exts f = some x) : ExtOk Try.prog f x := by
 have step : ∀ {g : FuncId} {y : Ext} {l : List (FuncId × Ext)},extTab ((g,y) :: l) f = some x → (f = g ∧ y = x) ∨ extTab l f = some x := by
  intro g y l h
  unfold extTab at h
  split at h
  ·rename_i hf
   exact .inl ⟨Nat.eq_of_beq_eq_true hf,by cases h; rfl⟩
  ·exact .inr h
 rcases step h with ⟨rfl,rfl⟩ | h
 ·exact ⟨_,_,Try.func83,by decide +kernel,rfl,rfl,rfl,rfl⟩
 ·simp [extTab] at h
/-- What a run comes to is a contract of this program's. -/
theorem reckoned {n lf : Nat} {f : FuncId} {args : List AV} {h : List Blk} {o : AOut} {h' : List Blk} (e : goFn Try.prog exts hooks lf n f args h = some (o,h')) : Ok Try.prog f args h o h' :=
 goFn_ok mix names_ok exts_ok hooks_ok n f args h o h' e
end Go.Abs
/- Words: bytes that stand in a text; letters, blanks. -/
namespace Go.Abs
open Go.Proofs
set_option linter.unusedVariables false
set_option linter.unusedSimpArgs false
set_option maxRecDepth 100000
set_option maxHeartbeats 1000000
end Go.Abs
/- Words: a name, a rule, a sign ahead. -/
namespace Go.Abs
open Go.Proofs
set_option linter.unusedVariables false
set_option linter.unusedSimpArgs false
set_option maxRecDepth 100000
set_option maxHeartbeats 1000000
end Go.Abs
/- A text's words. -/
namespace Go.Abs
open Go.Proofs
set_option linter.unusedVariables false
set_option linter.unusedSimpArgs false
set_option maxRecDepth 100000
set_option maxHeartbeats 1000000
end Go.Abs
/- May a text be a name: the program's answer and the document's. -/
namespace Go.Abs
open Go.Proofs
set_option linter.unusedVariables false
set_option linter.unusedSimpArgs false
set_option maxRecDepth 100000
set_option maxHeartbeats 1000000
end Go.Abs
