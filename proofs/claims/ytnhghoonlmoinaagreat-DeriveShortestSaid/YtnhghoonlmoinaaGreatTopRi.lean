/- From what a row hands to the machine's arguments, and back. -/
import Derived.Test.YtnhghoonlmoinaaGreatTopA
import Derived.Below
namespace Go.Abs
set_option linter.unusedSectionVars false
variable [Kn]
open Go.RowKit
theorem lrel_nil {w : World} {S : Nat → Prop} {m : List Loc} : LRel w S m [] [] := ⟨rfl,fun i v x hv => by simp at hv⟩
theorem lrel_cons {w : World} {S : Nat → Prop} {m : List Loc} {v : Value} {x : AV} {vs : List Value} {xs : List AV} (h : VRel w S m v x) (hl : LRel w S m vs xs) : LRel w S m (v :: vs) (x :: xs) :=
 ⟨by simp [hl.1],fun i u y hu hy => by
  cases i with
  | zero => simp at hu hy; subst hu; subst hy; exact h
  | succ i => exact hl.2 i u y (by simpa using hu) (by simpa using hy)⟩
theorem hrel_empty (w : World) : HRel w (fun b => b < w.heap.size) [] [] :=
 ⟨rfl,fun i l b hi => by simp at hi,fun i j bi bj b o o' _ hi => by simp at hi,fun i bi b o hi => by simp at hi,fun b h => h,fun i b o hi => by simp at hi⟩
theorem walk_of_ok {P : Program} {f : FuncId} {args : List AV} {b : Bool} {W : World} {vs : List Value} (hG : GOk P W (fun b => b < W.heap.size)) (hok : Ok P f args [] (.ret (.fv (.bool b))) []) (hl : LRel W (fun b => b < W.heap.size) [] vs args) :
  Calls P f vs.toArray W fun e W' => e = .returned (.bool b) ∧ Below W.heap.size W W' :=
 Calls.mono (hok.2 W _ [] vs hG (hrel_empty W) hl) fun e W' hq => by
  obtain ⟨S',m',_,ho,hf⟩ := hq
  cases e <;> simp only [ORel] at ho
  rename_i v
  obtain rfl := ho.bool_inv
  exact ⟨rfl,hf.os,hf.tape,hf.output,hf.size,fun k hk => hf.same k hk (fun ⟨i,o,hi⟩ => by simp at hi)⟩
end Go.Abs
