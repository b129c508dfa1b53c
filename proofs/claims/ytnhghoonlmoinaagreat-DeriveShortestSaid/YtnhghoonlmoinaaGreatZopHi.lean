/- Names of symbols: the document's; how great a grammar is. -/
import Derived.Test.YtnhghoonlmoinaaGreatTyTryzi
import Derived.Test.YtnhghoonlmoinaaGreatDrTryzi
import Derived.Test.YtnhghoonlmoinaaGreatAbsZ
import Derived.Test.YtnhghoonlmoinaaGreatTopGi
namespace Go.Abs
set_option linter.unusedSectionVars false
variable [Kn]
open Go.Proofs
set_option linter.unusedVariables false
set_option linter.unusedSimpArgs false
set_option maxRecDepth 100000
set_option maxHeartbeats 1000000
/-- Blocks are picked, slots forgotten. -/
theorem le_pk {n0 : Nat} (keep : List Nat) {t t' : List AV} {h h' : List Blk} (hpre : keep.take n0 = List.range n0) (hnd : keep.Nodup) (hlt : ∀ i ∈ keep,i < h.length)
  (hh : keep.map (fun i => subBlk (mkSub keep [] h) (h.getD i .dead)) = h') (hw : wk (t.map (subAny (mkSub keep [] h))) t') : Le n0 ⟨t,h,[]⟩ ⟨t',h',[]⟩ := by
 subst hh
 refine Le.trans (le_to keep [] hpre hnd hlt (fun i hi => by simp at hi) (fun i hi => by simp at hi) rfl) ?_
 simp only [subSt,List.map_nil]
 exact le_wk hw
theorem lit_true {n : Nat} {k : Int} (h : k < (n : Int)) : (k < (n : Int)) = True := by simpa using h
theorem lit_false {n : Nat} {k : Int} (h : ¬ k < (n : Int)) : (k < (n : Int)) = False := by simpa using h
end Go.Abs
