/- Spots as cells; whether all their numbers are spots'. -/
import Derived.Test.YtmnbljfbdiodbaaTyTrys
import Derived.Test.YtmnbljfbdiodbaaDrTrys
import Derived.Test.YtmnbljfbdiodbaaSpKs
import Derived.Test.YtmnbljfbdiodbaaAbsW
namespace Go.Abs
open Go.Proofs
set_option linter.unusedVariables false
set_option linter.unusedSimpArgs false
set_option maxRecDepth 100000
set_option maxHeartbeats 4000000
/-- A set as a row. -/
def srow (p : Nat → Bool) : List FV := [.int .u64 (wd p 0),.int .u64 (wd p 1),.int .u64 (wd p 2),.int .u64 (wd p 3)]
theorem srow_map (p : Nat → Bool) : (srow p).map .fv = sc p := rfl
theorem srow_len (p : Nat → Bool) : (srow p).length = 4 := rfl
structure Spo where
 sets : List (Nat → Bool)
 null : Bool
 first : List Int
 last : List Int
 follow : List (List Int)
def Spo.row (p : Spo) : List FV := [.lst 4 (p.sets.map srow),.bool p.null,.lst 1 (ints p.first),.lst 1 (ints p.last),.lst 1 (rowsOf p.follow)]
def Spo.cells (p : Spo) : List AV := [.fv (.lst 4 (p.sets.map srow)),.fv (.bool p.null),.fv (.lst 1 (ints p.first)),.fv (.lst 1 (ints p.last)),.fv (.lst 1 (rowsOf p.follow))]
def Spo.av (p : Spo) : AV := .agg p.cells
def inB (n : Nat) (k : Int) : Bool := decide (0 ≤ k) && decide (k < (n : Int))
def Spo.rightB (p : Spo) : Bool := decide (p.follow.length = p.sets.length) && (p.follow.all fun l => l.all (inB p.sets.length)) && (p.first.all (inB p.sets.length) && p.last.all (inB p.sets.length))
theorem inB_iff {n : Nat} {k : Int} : inB n k = true ↔ 0 ≤ k ∧ k < (n : Int) := by simp [inB]
theorem rowsAt {F : List (List Int)} {i : Nat} (h : i < F.length) : (rowsOf F)[i]? = some [.lst 1 (ints F[i])] := by unfold rowsOf; rw [List.getElem?_map,List.getElem?_eq_getElem h]; rfl
theorem all_take_succ {α : Type} (p : α → Bool) (l : List α) {i : Nat} (h : i < l.length) : (l.take (i + 1)).all p = ((l.take i).all p && p l[i]) := by
 rw [List.take_succ_eq_append_getElem h,List.all_append]; simp
theorem all_no {α : Type} (p : α → Bool) (l : List α) {i : Nat} (h : i < l.length) (hp : p l[i] = false) : l.all p = false := by
 rw [← Bool.not_eq_true,List.all_eq_true]
 intro hh
 rw [hh _ (List.getElem_mem h)] at hp
 cases hp
theorem ok40 (p : Spo) (l : List Int) (hl : l.length ≤ 100000) (hn : p.sets.length ≤ 100000) : Ok Try.prog 40 [.fv (.lst 1 (ints l)),.fptr p.row] [] (.ret (.fv (.bool (l.all (inB p.sets.length))))) [] := by
 have hil := ints_length l
 refine ok_start (k := 20) (n0 := 0) (rs := [.tmp 3]) mix Try.func40 rfl rfl rfl rfl rfl rfl rfl ?_
 simp -implicitDefEqProofs only [hil,
  evx,evy,ofValue,ofCell,List.range,List.range.loop,Array.size,Nat.reduceAdd,Nat.reduceSub,Nat.reduceEqDiff,List.replicate,if_true,if_false,↓reduceIte,reduceCtorEq,elB,evParts,Int.reduceToNat,Int.reduceLE,Int.reduceLT,Int.reduceEq,Nat.reduceMul,Nat.reduceLeDiff,Nat.reduceLT,ty3,ty4,ty5,ty9,ty39,ty40,ty41,ty23,ty24,ty25,ty27]
 refine loop_rule (fun i : Nat => ⟨[.any,.fptr p.row,.any,.any,.any,.any,.fv (.lst 1 (ints l)),.fv (.int .i64 l.length),.fv (.int .i64 i),.any,.any,.any,.any,.any,.any,.any,.any,.any,.any,.any,.any,.any],[],[]⟩)
  (fun i => i ≤ l.length ∧ (l.take i).all (inB p.sets.length) = true) (fun i => l.length - i) 0 (le_wk (by simp [wk])) ⟨by omega,rfl⟩ (fun i hi s hs => ?_)
 obtain ⟨hi,ha⟩ := hi
 by_cases hlt : i < l.length
 ·have hr := ints_get l i hlt
  have hts := all_take_succ (inB p.sets.length) l hlt
  have hno := all_no (inB p.sets.length) l hlt
  generalize l[i] = k at hr hts hno
  by_cases h1 : k < 0
  ·have h1t : (k < 0) = True := by simpa using h1
   rw [hno (by rw [← Bool.not_eq_true,inB_iff]; omega)]
   simp -implicitDefEqProofs only [lt_true hlt,hr,h1t,
  evx,evy,ofValue,ofCell,List.range,List.range.loop,Array.size,Nat.reduceAdd,Nat.reduceSub,Nat.reduceEqDiff,List.replicate,if_true,if_false,↓reduceIte,reduceCtorEq,elB,evParts,Int.reduceToNat,Int.reduceLE,Int.reduceLT,Int.reduceEq,Nat.reduceMul,Nat.reduceLeDiff,Nat.reduceLT,ty3,ty4,ty5,ty9,ty39,ty40,ty41,ty23,ty24,ty25,ty27]
   exact le_flat rfl
  ·have h1t : (k < 0) = False := by simpa using h1
   by_cases h2 : (p.sets.length : Int) ≤ k
   ·have h2t : ((p.sets.length : Int) ≤ k) = True := by simpa using h2
    rw [hno (by rw [← Bool.not_eq_true,inB_iff]; omega)]
    simp -implicitDefEqProofs only [lt_true hlt,hr,h1t,h2t,Spo.row,List.length_map,
  evx,evy,ofValue,ofCell,List.range,List.range.loop,Array.size,Nat.reduceAdd,Nat.reduceSub,Nat.reduceEqDiff,List.replicate,if_true,if_false,↓reduceIte,reduceCtorEq,elB,evParts,Int.reduceToNat,Int.reduceLE,Int.reduceLT,Int.reduceEq,Nat.reduceMul,Nat.reduceLeDiff,Nat.reduceLT,ty3,ty4,ty5,ty9,ty39,ty40,ty41,ty23,ty24,ty25,ty27]
    exact le_flat rfl
   ·have h2t : ((p.sets.length : Int) ≤ k) = False := by simpa using h2
    simp -implicitDefEqProofs only [lt_true hlt,hr,h1t,h2t,Spo.row,List.length_map,wsucc i (by omega),
  evx,evy,ofValue,ofCell,List.range,List.range.loop,Array.size,Nat.reduceAdd,Nat.reduceSub,Nat.reduceEqDiff,List.replicate,if_true,if_false,↓reduceIte,reduceCtorEq,elB,evParts,Int.reduceToNat,Int.reduceLE,Int.reduceLT,Int.reduceEq,Nat.reduceMul,Nat.reduceLeDiff,Nat.reduceLT,ty3,ty4,ty5,ty9,ty39,ty40,ty41,ty23,ty24,ty25,ty27]
    exact back_intro hs (i + 1) (le_wk (by simp [wk,Spo.row])) ⟨by omega,by rw [hts,ha,inB_iff.2 (by omega)]; rfl⟩ (by omega)
 ·obtain rfl : i = l.length := by omega
  rw [List.take_length] at ha
  rw [ha]
  simp -implicitDefEqProofs only [lt_false hlt,
  evx,evy,ofValue,ofCell,List.range,List.range.loop,Array.size,Nat.reduceAdd,Nat.reduceSub,Nat.reduceEqDiff,List.replicate,if_true,if_false,↓reduceIte,reduceCtorEq,elB,evParts,Int.reduceToNat,Int.reduceLE,Int.reduceLT,Int.reduceEq,Nat.reduceMul,Nat.reduceLeDiff,Nat.reduceLT,ty3,ty4,ty5,ty9,ty39,ty40,ty41,ty23,ty24,ty25,ty27]
  exact le_flat rfl
theorem ok28 (l : List Int) (n : Nat) (hl : l.length ≤ 100000) : Ok Try.prog 28 [.fv (.lst 1 (ints l)),.fv (.int .i64 n)] [] (.ret (.fv (.bool (l.all (inB n))))) [] := by
 have hil := ints_length l
 refine ok_start (k := 23) (n0 := 0) (rs := [.tmp 4]) mix Try.func28 rfl rfl rfl rfl rfl rfl rfl ?_
 simp -implicitDefEqProofs only [hil,
  evx,evy,ofValue,ofCell,List.range,List.range.loop,Array.size,Nat.reduceAdd,Nat.reduceSub,Nat.reduceEqDiff,List.replicate,if_true,if_false,↓reduceIte,reduceCtorEq,elB,evParts,Int.reduceToNat,Int.reduceLE,Int.reduceLT,Int.reduceEq,Nat.reduceMul,Nat.reduceLeDiff,Nat.reduceLT,ty3,ty4,ty5,ty9,ty39,ty40,ty41,ty23,ty24,ty25,ty27]
 refine loop_rule (fun i : Nat => ⟨[.fv (.lst 1 (ints l)),.fv (.int .i64 n),.any,.any,.any,.fv (.int .i64 i),.any,.any,.any,.any,.any,.any,.any,.any,.any,.any,.any,.any,.any,.any,.any,.any,.any,.any,.any],[],[]⟩)
  (fun i => i ≤ l.length ∧ (l.take i).all (inB n) = true) (fun i => l.length - i) 0 (le_wk (by simp [wk])) ⟨by omega,rfl⟩ (fun i hi s hs => ?_)
 obtain ⟨hi,ha⟩ := hi
 by_cases hlt : i < l.length
 ·have hr := ints_get l i hlt
  have hts := all_take_succ (inB n) l hlt
  have hno := all_no (inB n) l hlt
  generalize l[i] = k at hr hts hno
  by_cases h1 : k < 0
  ·have h1t : (k < 0) = True := by simpa using h1
   rw [hno (by rw [← Bool.not_eq_true,inB_iff]; omega)]
   simp -implicitDefEqProofs only [hil,lt_true hlt,hr,h1t,
  evx,evy,ofValue,ofCell,List.range,List.range.loop,Array.size,Nat.reduceAdd,Nat.reduceSub,Nat.reduceEqDiff,List.replicate,if_true,if_false,↓reduceIte,reduceCtorEq,elB,evParts,Int.reduceToNat,Int.reduceLE,Int.reduceLT,Int.reduceEq,Nat.reduceMul,Nat.reduceLeDiff,Nat.reduceLT,ty3,ty4,ty5,ty9,ty39,ty40,ty41,ty23,ty24,ty25,ty27]
   exact le_flat rfl
  ·have h1t : (k < 0) = False := by simpa using h1
   by_cases h2 : (n : Int) ≤ k
   ·have h2t : ((n : Int) ≤ k) = True := by simpa using h2
    rw [hno (by rw [← Bool.not_eq_true,inB_iff]; omega)]
    simp -implicitDefEqProofs only [hil,lt_true hlt,hr,h1t,h2t,
  evx,evy,ofValue,ofCell,List.range,List.range.loop,Array.size,Nat.reduceAdd,Nat.reduceSub,Nat.reduceEqDiff,List.replicate,if_true,if_false,↓reduceIte,reduceCtorEq,elB,evParts,Int.reduceToNat,Int.reduceLE,Int.reduceLT,Int.reduceEq,Nat.reduceMul,Nat.reduceLeDiff,Nat.reduceLT,ty3,ty4,ty5,ty9,ty39,ty40,ty41,ty23,ty24,ty25,ty27]
    exact le_flat rfl
   ·have h2t : ((n : Int) ≤ k) = False := by simpa using h2
    simp -implicitDefEqProofs only [hil,lt_true hlt,hr,h1t,h2t,wsucc i (by omega),
  evx,evy,ofValue,ofCell,List.range,List.range.loop,Array.size,Nat.reduceAdd,Nat.reduceSub,Nat.reduceEqDiff,List.replicate,if_true,if_false,↓reduceIte,reduceCtorEq,elB,evParts,Int.reduceToNat,Int.reduceLE,Int.reduceLT,Int.reduceEq,Nat.reduceMul,Nat.reduceLeDiff,Nat.reduceLT,ty3,ty4,ty5,ty9,ty39,ty40,ty41,ty23,ty24,ty25,ty27]
    exact back_intro hs (i + 1) (le_wk (by simp [wk])) ⟨by omega,by rw [hts,ha,inB_iff.2 (by omega)]; rfl⟩ (by omega)
 ·obtain rfl : i = l.length := by omega
  rw [List.take_length] at ha
  rw [ha]
  simp -implicitDefEqProofs only [hil,lt_false hlt,
  evx,evy,ofValue,ofCell,List.range,List.range.loop,Array.size,Nat.reduceAdd,Nat.reduceSub,Nat.reduceEqDiff,List.replicate,if_true,if_false,↓reduceIte,reduceCtorEq,elB,evParts,Int.reduceToNat,Int.reduceLE,Int.reduceLT,Int.reduceEq,Nat.reduceMul,Nat.reduceLeDiff,Nat.reduceLT,ty3,ty4,ty5,ty9,ty39,ty40,ty41,ty23,ty24,ty25,ty27]
  exact le_flat rfl
/-- No list is longer than that. -/
structure Spo.Small (p : Spo) (n : Nat) : Prop where
 sets : p.sets.length ≤ n
 follow : p.follow.length ≤ n
 rows : ∀ l ∈ p.follow,l.length ≤ n
 first : p.first.length ≤ n
 last : p.last.length ≤ n
theorem ok25 (p : Spo) (hp : p.Small 100000) : Ok Try.prog 25 [p.av] [] (.ret (.fv (.bool p.rightB))) [] := by
 have hrl : (rowsOf p.follow).length = p.follow.length := by unfold rowsOf; rw [List.length_map]
 have hfl := hp.follow
 refine ok_start (k := 35) (n0 := 0) (rs := [.tmp 2]) mix Try.func25 rfl rfl rfl rfl rfl rfl rfl ?_
 by_cases hne : p.follow.length = p.sets.length
 ·have hnet : ((p.follow.length : Int) = (p.sets.length : Int)) = True := by simp [hne]
  simp -implicitDefEqProofs only [Spo.av,Spo.cells,hrl,List.length_map,hnet,
  evx,evy,ofValue,ofCell,List.range,List.range.loop,Array.size,Nat.reduceAdd,Nat.reduceSub,Nat.reduceEqDiff,List.replicate,if_true,if_false,↓reduceIte,reduceCtorEq,elB,evParts,Int.reduceToNat,Int.reduceLE,Int.reduceLT,Int.reduceEq,Nat.reduceMul,Nat.reduceLeDiff,Nat.reduceLT,ty3,ty4,ty5,ty9,ty39,ty40,ty41,ty23,ty24,ty25,ty27]
  refine loop_rule (fun i : Nat => ⟨[.any,.ptr 0 0 0 0,.any,.func 40 [.ptr 0 0 0 0],.any,.any,.any,.any,.any,.any,.any,.any,.any,.any,.any,.fv (.lst 1 (rowsOf p.follow)),.fv (.int .i64 p.follow.length),.fv (.int .i64 i),.any,.any,.any,.any,.any,.any,.any,.any,.any,.any,.any,.any,.any,.any,.any,.any,.any,.any],[.box p.cells],[]⟩)
   (fun i => i ≤ p.follow.length ∧ ((p.follow.take i).all fun l => l.all (inB p.sets.length)) = true) (fun i => p.follow.length - i) 0 (le_wk (by simp [wk,hrl])) ⟨by omega,rfl⟩ (fun i hi s hs => ?_)
  obtain ⟨hi,ha⟩ := hi
  by_cases hlt : i < p.follow.length
  ·have hr := rowsAt hlt
   have hts := all_take_succ (fun l => l.all (inB p.sets.length)) p.follow hlt
   have hno := all_no (fun l => l.all (inB p.sets.length)) p.follow hlt
   have hll := hp.rows _ (List.getElem_mem hlt)
   generalize p.follow[i] = l at hr hts hno hll
   have h40 := ok40 p l hll hp.sets
   simp -implicitDefEqProofs only [lt_true hlt,hr,
  evx,evy,ofValue,ofCell,List.range,List.range.loop,Array.size,Nat.reduceAdd,Nat.reduceSub,Nat.reduceEqDiff,List.replicate,if_true,if_false,↓reduceIte,reduceCtorEq,elB,evParts,Int.reduceToNat,Int.reduceLE,Int.reduceLT,Int.reduceEq,Nat.reduceMul,Nat.reduceLeDiff,Nat.reduceLT,ty3,ty4,ty5,ty9,ty39,ty40,ty41,ty23,ty24,ty25,ty27]
   refine callK_ret _ _ _ _ (call_deep h40 (by rfl) rfl) (ok_nil _ _) ?_
   cases hb : l.all (inB p.sets.length) with
   | false =>
    have e : p.rightB = false := by unfold Spo.rightB; rw [hno hb]; simp
    rw [e]
    simp -implicitDefEqProofs only [evx,evy,ofValue,ofCell,List.range,List.range.loop,Array.size,Nat.reduceAdd,Nat.reduceSub,Nat.reduceEqDiff,List.replicate,if_true,if_false,↓reduceIte,reduceCtorEq,elB,evParts,Int.reduceToNat,Int.reduceLE,Int.reduceLT,Int.reduceEq,Nat.reduceMul,Nat.reduceLeDiff,Nat.reduceLT,ty3,ty4,ty5,ty9,ty39,ty40,ty41,ty23,ty24,ty25,ty27]
    exact le_flat rfl
   | true =>
    simp -implicitDefEqProofs only [wsucc i (by omega),
  evx,evy,ofValue,ofCell,List.range,List.range.loop,Array.size,Nat.reduceAdd,Nat.reduceSub,Nat.reduceEqDiff,List.replicate,if_true,if_false,↓reduceIte,reduceCtorEq,elB,evParts,Int.reduceToNat,Int.reduceLE,Int.reduceLT,Int.reduceEq,Nat.reduceMul,Nat.reduceLeDiff,Nat.reduceLT,ty3,ty4,ty5,ty9,ty39,ty40,ty41,ty23,ty24,ty25,ty27]
    exact back_intro hs (i + 1) (le_wk (by simp [wk])) ⟨by omega,by rw [hts,ha,hb]; rfl⟩ (by omega)
  ·obtain rfl : i = p.follow.length := by omega
   rw [List.take_length] at ha
   have hf := ok40 p p.first hp.first hp.sets
   have hla := ok40 p p.last hp.last hp.sets
   simp -implicitDefEqProofs only [lt_false hlt,Spo.cells,
  evx,evy,ofValue,ofCell,List.range,List.range.loop,Array.size,Nat.reduceAdd,Nat.reduceSub,Nat.reduceEqDiff,List.replicate,if_true,if_false,↓reduceIte,reduceCtorEq,elB,evParts,Int.reduceToNat,Int.reduceLE,Int.reduceLT,Int.reduceEq,Nat.reduceMul,Nat.reduceLeDiff,Nat.reduceLT,ty3,ty4,ty5,ty9,ty39,ty40,ty41,ty23,ty24,ty25,ty27]
   refine callK_ret _ _ _ _ (call_deep hf (by rfl) rfl) (ok_nil _ _) ?_
   have e : p.rightB = (p.first.all (inB p.sets.length) && p.last.all (inB p.sets.length)) := by unfold Spo.rightB; rw [ha,decide_eq_true hne]; simp
   rw [e]
   cases hb : p.first.all (inB p.sets.length) with
   | false =>
    simp -implicitDefEqProofs only [evx,evy,ofValue,ofCell,List.range,List.range.loop,Array.size,Nat.reduceAdd,Nat.reduceSub,Nat.reduceEqDiff,List.replicate,if_true,if_false,↓reduceIte,reduceCtorEq,elB,evParts,Int.reduceToNat,Int.reduceLE,Int.reduceLT,Int.reduceEq,Nat.reduceMul,Nat.reduceLeDiff,Nat.reduceLT,ty3,ty4,ty5,ty9,ty39,ty40,ty41,ty23,ty24,ty25,ty27]
    exact le_flat rfl
   | true =>
    simp -implicitDefEqProofs only [Spo.cells,
  evx,evy,ofValue,ofCell,List.range,List.range.loop,Array.size,Nat.reduceAdd,Nat.reduceSub,Nat.reduceEqDiff,List.replicate,if_true,if_false,↓reduceIte,reduceCtorEq,elB,evParts,Int.reduceToNat,Int.reduceLE,Int.reduceLT,Int.reduceEq,Nat.reduceMul,Nat.reduceLeDiff,Nat.reduceLT,ty3,ty4,ty5,ty9,ty39,ty40,ty41,ty23,ty24,ty25,ty27]
    refine callK_ret _ _ _ _ (call_deep hla (by rfl) rfl) (ok_nil _ _) ?_
    simp -implicitDefEqProofs only [evx,evy,ofValue,ofCell,List.range,List.range.loop,Array.size,Nat.reduceAdd,Nat.reduceSub,Nat.reduceEqDiff,List.replicate,if_true,if_false,↓reduceIte,reduceCtorEq,elB,evParts,Int.reduceToNat,Int.reduceLE,Int.reduceLT,Int.reduceEq,Nat.reduceMul,Nat.reduceLeDiff,Nat.reduceLT,ty3,ty4,ty5,ty9,ty39,ty40,ty41,ty23,ty24,ty25,ty27]
    cases p.last.all (inB p.sets.length) <;> exact le_flat rfl
 ·have hnet : ((p.follow.length : Int) = (p.sets.length : Int)) = False := by simp; omega
  have e : p.rightB = false := by unfold Spo.rightB; rw [decide_eq_false hne]; simp
  rw [e]
  simp -implicitDefEqProofs only [Spo.av,Spo.cells,hrl,List.length_map,hnet,
  evx,evy,ofValue,ofCell,List.range,List.range.loop,Array.size,Nat.reduceAdd,Nat.reduceSub,Nat.reduceEqDiff,List.replicate,if_true,if_false,↓reduceIte,reduceCtorEq,elB,evParts,Int.reduceToNat,Int.reduceLE,Int.reduceLT,Int.reduceEq,Nat.reduceMul,Nat.reduceLeDiff,Nat.reduceLT,ty3,ty4,ty5,ty9,ty39,ty40,ty41,ty23,ty24,ty25,ty27]
  exact le_flat rfl
end Go.Abs
