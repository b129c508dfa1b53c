/- A nil slice in a cell becomes a row of the call's own; a slice that is only looked at, as a frozen one. -/
import Derived.Test.YtlfocagdjjgmmaaGreatAbsZ
import Derived.Test.YtlfocagdjjgmmaaGreatAbsW
import Derived.Test.YtlfocagdjjgmmaaGreatAbsU
namespace Go.Abs
set_option linter.unusedVariables false
set_option linter.unusedSimpArgs false
section
variable {P : Program} {w : World} {S : Nat → Prop} {m : List Loc}
end
theorem deepL_fv (n : Nat) (h : List Blk) : ∀ r : List FV, deepL (deepF (n + 1) h) (r.map .fv) = some r
  | [] => rfl
  | x :: r => by
    have ih := deepL_fv n h r
    have e : deepF (n + 1) h (.fv x) = some x := rfl
    rw [List.map_cons, deepL, e, ih]
theorem deepF_ref {n : Nat} {h : List Blk} {id es off k : Nat} {rows : List (List FV)} (hb : h[id]? = some (.plain es rows)) (hl : off + k ≤ rows.length) (hr : ∀ r ∈ rows, r.length = es) :
    deepF (n + 2) h (.ref id es off k) = some (.lst es ((rows.drop off).take k)) := by
  cases k with
  | zero => simp [deepF]
  | succ k =>
    have hlen : ((rows.drop off).take (k + 1)).length = k + 1 := by rw [List.length_take, List.length_drop]; omega
    have hc := chunk_flatten es ((rows.drop off).take (k + 1)) (fun r h => hr r (List.mem_of_mem_drop (List.mem_of_mem_take h)))
    rw [hlen] at hc
    have e : refCells h id es off (k + 1) = some (((rows.drop off).take (k + 1)).flatten.map .fv) := by
      unfold refCells
      rw [hb]
      simp only
      rw [if_pos (by simpa using hl)]
      rfl
    show (match refCells h id es off (k + 1) with
      | some ys => match deepL (deepF (n + 1) h) ys with
        | some xs => some (FV.lst es (chunk es (k + 1) xs))
        | none => none
      | none => none) = _
    rw [e]
    simp only [deepL_fv, hc]
end Go.Abs
