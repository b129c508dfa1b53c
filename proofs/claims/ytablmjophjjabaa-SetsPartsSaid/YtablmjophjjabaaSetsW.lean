/- From what a row hands to the abstract machine's arguments, and back. -/
import Derived.Test.YtablmjophjjabaaSetsG
import Derived.Below
namespace Go.Abs
open Go.Proofs Go.RowKit
def IsRow (k : IntKind) (w : World) (a : Option Addr) (len cap : Nat) (zs : List Int) : Prop :=
  (a = none ∧ len = 0 ∧ cap = 0 ∧ zs = []) ∨
  ∃ x, a = some x ∧ len ≤ cap ∧ cap ≤ maxLen ∧ zs.length = cap ∧ (∀ i, i < zs.length → w.cell? (x.add i) = some (.int k (zs.getD i 0))) ∧ ∀ n ∈ zs, (Lit.int k n).wf = true
theorem isRow_rel {w : World} {a : Option Addr} {len cap : Nat} {zs : List Int} (h : IsRow .i64 w a len cap zs) : VRel w (fun b => b < w.heap.size) [] (.slice a len cap) (.fv (.lst 1 (ints (zs.take len)))) := by
  rcases h with ⟨rfl, rfl, rfl, rfl⟩ | ⟨x, rfl, hl, hm, hz, hcell, _⟩
  · exact nils_lst 1 (.fv _ _ .nils)
  · have hlen : (ints (zs.take len)).length = len := by simp [ints]; omega
    refine .fv _ _ (.lst _ _ _ _ _ (fun i _ => .int .i64 (zs.getD i 0)) x hlen hl (fun i row hrow => ?_) (fun _ => rfl) (fun hpos => ?_) (fun i j hi hj => ?_) (fun i j row y hrow hy => ?_))
    · simp only [ints, List.getElem?_map, Option.map_eq_some_iff] at hrow
      obtain ⟨z, _, rfl⟩ := hrow
      rfl
    · have := block_of_cell? (hcell 0 (by omega))
      rwa [add_block] at this
    · have hj0 : j = 0 := by omega
      subst hj0
      simpa using hcell i (by omega)
    · simp only [ints, List.getElem?_map, Option.map_eq_some_iff] at hrow
      obtain ⟨z, hz', rfl⟩ := hrow
      cases j with
      | succ j => simp at hy
      | zero =>
        simp at hy; subst hy
        rw [List.getElem?_take] at hz'
        split at hz'
        · rw [List.getD_eq_getElem?_getD, hz']; exact .int _ _
        · cases hz'
theorem args_rel {w : World} {S : Nat → Prop} {m : List Loc} {vs : List Value} {xs : List AV} (hn : vs.length = xs.length) (h : ∀ (i : Nat) (v : Value) (x : AV), vs[i]? = some v → xs[i]? = some x → VRel w S m v x) : LRel w S m vs xs := ⟨hn, h⟩
theorem lrel_nil {w : World} {S : Nat → Prop} {m : List Loc} : LRel w S m [] [] := ⟨rfl, fun i v x hv => by simp at hv⟩
theorem lrel_cons {w : World} {S : Nat → Prop} {m : List Loc} {v : Value} {x : AV} {vs : List Value} {xs : List AV} (h : VRel w S m v x) (hl : LRel w S m vs xs) : LRel w S m (v :: vs) (x :: xs) :=
  ⟨by simp [hl.1], fun i u y hu hy => by
    cases i with
    | zero => simp at hu hy; subst hu; subst hy; exact h
    | succ i => exact hl.2 i u y (by simpa using hu) (by simpa using hy)⟩
theorem hrel_empty (w : World) : HRel w (fun b => b < w.heap.size) [] [] :=
  ⟨rfl, fun i l b hi => by simp at hi, fun i j bi bj b o o' _ hi => by simp at hi, fun i bi b o hi => by simp at hi, fun b h => h, fun i b o hi => by simp at hi⟩
theorem walk_of_ok {P : Program} {f : FuncId} {args : List AV} {b : Bool} {W : World} {vs : List Value} (hok : Ok P f args [] (.ret (.fv (.bool b))) []) (hl : LRel W (fun b => b < W.heap.size) [] vs args) :
    Calls P f vs.toArray W fun e W' => e = .returned (.bool b) ∧ Below W.heap.size W W' :=
  Calls.mono (hok.2 W _ [] vs (hrel_empty W) hl) fun e W' hq => by
    obtain ⟨S', m', _, ho, hf⟩ := hq
    cases e <;> simp only [ORel] at ho
    rename_i v
    obtain rfl := ho.bool_inv
    exact ⟨rfl, hf.os, hf.tape, hf.output, hf.size, fun k hk => hf.same k hk (fun ⟨i, o, hi⟩ => by simp at hi)⟩
end Go.Abs
