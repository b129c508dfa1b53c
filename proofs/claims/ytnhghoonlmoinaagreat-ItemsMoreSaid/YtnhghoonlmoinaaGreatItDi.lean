/- Items: the document's answers; the program's sides and next symbols. -/
import Derived.Test.YtnhghoonlmoinaaGreatTyTryzi
import Derived.Test.YtnhghoonlmoinaaGreatDrTryzi
import Derived.Test.YtnhghoonlmoinaaGreatItAi
import Derived.Test.YtnhghoonlmoinaaGreatFiKi
namespace Go.Abs
open Go.Proofs
set_option linter.unusedVariables false
set_option linter.unusedSimpArgs false
set_option maxRecDepth 100000
set_option maxHeartbeats 8000000
theorem isItm_iff {g : Gra} {x : Itm} : g.isItm x = true ↔ g.isProd x.prod = true ∧ 0 ≤ x.dot ∧ x.dot ≤ ((sideL g x.prod).length : Int) := by simp [Gra.isItm]
def nextI (g : Gra) (x : Itm) : Int := ((sideL g x.prod)[x.dot.toNat]?).getD 0
theorem ok52 (g : Gra) (x : Itm) (h : g.isItm x = true) : Ok Tryz.prog 52 [g.av,x.av] [] (.ret (.fv (.int .i64 (nextI g x)))) [] := by
 obtain ⟨hp,h0,h1⟩ := isItm_iff.1 h
 have hsd := ok76 g x.prod hp
 have hil := ints_length (sideL g x.prod)
 refine ok_start (k := 18) (n0 := 0) (rs := [.tmp 4]) mix Tryz.func52 rfl rfl rfl rfl rfl rfl rfl ?_
 by_cases c : x.dot < ((sideL g x.prod).length : Int)
 ·have ct : (x.dot < ((sideL g x.prod).length : Int)) = True := by simpa using c
  have h0t : (0 ≤ x.dot) = True := by simpa using h0
  have hr := ints_get (sideL g x.prod) x.dot.toNat (by omega)
  have e : nextI g x = (sideL g x.prod)[x.dot.toNat]'(by omega) := by unfold nextI; rw [List.getElem?_eq_getElem (by omega)]; rfl
  rw [e]
  generalize (sideL g x.prod)[x.dot.toNat]'(by omega) = n at hr
  simp -implicitDefEqProofs only [Gra.av,Itm.av,
  evx,evy,ofValue,ofCell,List.range,List.range.loop,Array.size,Nat.reduceAdd,Nat.reduceSub,Nat.reduceEqDiff,List.replicate,if_true,if_false,↓reduceIte,reduceCtorEq,elB,evParts,Int.reduceToNat,Int.reduceLE,Int.reduceLT,Int.reduceEq,Nat.reduceMul,Nat.reduceLeDiff,Nat.reduceLT,ty3,ty4,ty9,ty28,ty22,ty23,ty24,ty25,ty27,ty63,ty52,ty43]
  refine callK_ret _ _ _ _ (call_pure (hsd) (fun _ => rfl) (fun _ => rfl)) (ok_nil _ _) ?_
  simp -implicitDefEqProofs only [hil,ct,h0t,hr,
  evx,evy,ofValue,ofCell,List.range,List.range.loop,Array.size,Nat.reduceAdd,Nat.reduceSub,Nat.reduceEqDiff,List.replicate,if_true,if_false,↓reduceIte,reduceCtorEq,elB,evParts,Int.reduceToNat,Int.reduceLE,Int.reduceLT,Int.reduceEq,Nat.reduceMul,Nat.reduceLeDiff,Nat.reduceLT,ty3,ty4,ty9,ty28,ty22,ty23,ty24,ty25,ty27,ty63,ty52,ty43]
  exact le_flat rfl
 ·have ct : (x.dot < ((sideL g x.prod).length : Int)) = False := by simpa using c
  have e : nextI g x = 0 := by unfold nextI; rw [List.getElem?_eq_none (by omega)]; rfl
  rw [e]
  simp -implicitDefEqProofs only [Gra.av,Itm.av,
  evx,evy,ofValue,ofCell,List.range,List.range.loop,Array.size,Nat.reduceAdd,Nat.reduceSub,Nat.reduceEqDiff,List.replicate,if_true,if_false,↓reduceIte,reduceCtorEq,elB,evParts,Int.reduceToNat,Int.reduceLE,Int.reduceLT,Int.reduceEq,Nat.reduceMul,Nat.reduceLeDiff,Nat.reduceLT,ty3,ty4,ty9,ty28,ty22,ty23,ty24,ty25,ty27,ty63,ty52,ty43]
  refine callK_ret _ _ _ _ (call_pure (hsd) (fun _ => rfl) (fun _ => rfl)) (ok_nil _ _) ?_
  simp -implicitDefEqProofs only [hil,ct,
  evx,evy,ofValue,ofCell,List.range,List.range.loop,Array.size,Nat.reduceAdd,Nat.reduceSub,Nat.reduceEqDiff,List.replicate,if_true,if_false,↓reduceIte,reduceCtorEq,elB,evParts,Int.reduceToNat,Int.reduceLE,Int.reduceLT,Int.reduceEq,Nat.reduceMul,Nat.reduceLeDiff,Nat.reduceLT,ty3,ty4,ty9,ty28,ty22,ty23,ty24,ty25,ty27,ty63,ty52,ty43]
  exact le_flat rfl
theorem ok51 (g : Gra) (hl : ∀ q ∈ g.prods,q.right.length ≤ 1000) (x : Itm) (h : g.isItm x = true) : Ok Tryz.prog 51 [g.av,x.av] [] (.ret (.fv (.int .i64 (nextI g x)))) [] := by
 obtain ⟨hp,h0,h1⟩ := isItm_iff.1 h
 have hsd := ok50 g x.prod hp hl
 have hil := ints_length (sideL g x.prod)
 refine ok_start (k := 18) (n0 := 0) (rs := [.tmp 4]) mix Tryz.func51 rfl rfl rfl rfl rfl rfl rfl ?_
 by_cases c : x.dot < ((sideL g x.prod).length : Int)
 ·have ct : (((sideL g x.prod).length : Int) ≤ x.dot) = False := by simp; omega
  have h0t : (0 ≤ x.dot) = True := by simpa using h0
  have hr := ints_get (sideL g x.prod) x.dot.toNat (by omega)
  have e : nextI g x = (sideL g x.prod)[x.dot.toNat]'(by omega) := by unfold nextI; rw [List.getElem?_eq_getElem (by omega)]; rfl
  rw [e]
  generalize (sideL g x.prod)[x.dot.toNat]'(by omega) = n at hr
  simp -implicitDefEqProofs only [Gra.av,Itm.av,
  evx,evy,ofValue,ofCell,List.range,List.range.loop,Array.size,Nat.reduceAdd,Nat.reduceSub,Nat.reduceEqDiff,List.replicate,if_true,if_false,↓reduceIte,reduceCtorEq,elB,evParts,Int.reduceToNat,Int.reduceLE,Int.reduceLT,Int.reduceEq,Nat.reduceMul,Nat.reduceLeDiff,Nat.reduceLT,ty3,ty4,ty9,ty28,ty22,ty23,ty24,ty25,ty27,ty63,ty52,ty43]
  refine callK_ret _ _ _ _ (call_pure (hsd) (fun _ => rfl) (fun _ => rfl)) (ok_nil _ _) ?_
  simp -implicitDefEqProofs only [hil,ct,h0t,hr,
  evx,evy,ofValue,ofCell,List.range,List.range.loop,Array.size,Nat.reduceAdd,Nat.reduceSub,Nat.reduceEqDiff,List.replicate,if_true,if_false,↓reduceIte,reduceCtorEq,elB,evParts,Int.reduceToNat,Int.reduceLE,Int.reduceLT,Int.reduceEq,Nat.reduceMul,Nat.reduceLeDiff,Nat.reduceLT,ty3,ty4,ty9,ty28,ty22,ty23,ty24,ty25,ty27,ty63,ty52,ty43]
  exact le_flat rfl
 ·have ct : (((sideL g x.prod).length : Int) ≤ x.dot) = True := by simp; omega
  have e : nextI g x = 0 := by unfold nextI; rw [List.getElem?_eq_none (by omega)]; rfl
  rw [e]
  simp -implicitDefEqProofs only [Gra.av,Itm.av,
  evx,evy,ofValue,ofCell,List.range,List.range.loop,Array.size,Nat.reduceAdd,Nat.reduceSub,Nat.reduceEqDiff,List.replicate,if_true,if_false,↓reduceIte,reduceCtorEq,elB,evParts,Int.reduceToNat,Int.reduceLE,Int.reduceLT,Int.reduceEq,Nat.reduceMul,Nat.reduceLeDiff,Nat.reduceLT,ty3,ty4,ty9,ty28,ty22,ty23,ty24,ty25,ty27,ty63,ty52,ty43]
  refine callK_ret _ _ _ _ (call_pure (hsd) (fun _ => rfl) (fun _ => rfl)) (ok_nil _ _) ?_
  simp -implicitDefEqProofs only [hil,ct,
  evx,evy,ofValue,ofCell,List.range,List.range.loop,Array.size,Nat.reduceAdd,Nat.reduceSub,Nat.reduceEqDiff,List.replicate,if_true,if_false,↓reduceIte,reduceCtorEq,elB,evParts,Int.reduceToNat,Int.reduceLE,Int.reduceLT,Int.reduceEq,Nat.reduceMul,Nat.reduceLeDiff,Nat.reduceLT,ty3,ty4,ty9,ty28,ty22,ty23,ty24,ty25,ty27,ty63,ty52,ty43]
  exact le_flat rfl
theorem ok25 (g : Gra) (hg : Small g 100) (hl : ∀ q ∈ g.prods,q.right.length ≤ 1000) (l : List Itm) (hll : l.length ≤ 100000) : Ok Tryz.prog 25 [g.av,.fv (.lst 2 (l.map Itm.row))] [] (.ret (.fv (.bool (g.rightI l)))) [] := by
 have hu := ok17 g hg
 refine ok_start (k := 44) (n0 := 0) (rs := [.tmp 4]) mix Tryz.func25 rfl rfl rfl rfl rfl rfl rfl ?_
 cases hb : g.usB with
 | false =>
  rw [hb] at hu
  have e : g.rightI l = false := by simp [Gra.rightI,hb]
  rw [e]
  simp -implicitDefEqProofs only [awp_draw _ _ Tryzdr25_7,Gra.av,
  evx,evy,ofValue,ofCell,List.range,List.range.loop,Array.size,Nat.reduceAdd,Nat.reduceSub,Nat.reduceEqDiff,List.replicate,if_true,if_false,↓reduceIte,reduceCtorEq,elB,evParts,Int.reduceToNat,Int.reduceLE,Int.reduceLT,Int.reduceEq,Nat.reduceMul,Nat.reduceLeDiff,Nat.reduceLT,ty3,ty4,ty9,ty28,ty22,ty23,ty24,ty25,ty27,ty63,ty52,ty43]
  refine callK_ret _ _ _ _ (call_pure (hu) (fun _ => rfl) (fun _ => rfl)) (ok_nil _ _) ?_
  simp -implicitDefEqProofs only [awp_draw _ _ Tryzdr25_7,
  evx,evy,ofValue,ofCell,List.range,List.range.loop,Array.size,Nat.reduceAdd,Nat.reduceSub,Nat.reduceEqDiff,List.replicate,if_true,if_false,↓reduceIte,reduceCtorEq,elB,evParts,Int.reduceToNat,Int.reduceLE,Int.reduceLT,Int.reduceEq,Nat.reduceMul,Nat.reduceLeDiff,Nat.reduceLT,ty3,ty4,ty9,ty28,ty22,ty23,ty24,ty25,ty27,ty63,ty52,ty43]
  exact le_flat rfl
 | true =>
  rw [hb] at hu
  have e : g.rightI l = l.all g.isItm := by simp [Gra.rightI,hb]
  rw [e]
  simp -implicitDefEqProofs only [awp_draw _ _ Tryzdr25_7,Gra.av,
  evx,evy,ofValue,ofCell,List.range,List.range.loop,Array.size,Nat.reduceAdd,Nat.reduceSub,Nat.reduceEqDiff,List.replicate,if_true,if_false,↓reduceIte,reduceCtorEq,elB,evParts,Int.reduceToNat,Int.reduceLE,Int.reduceLT,Int.reduceEq,Nat.reduceMul,Nat.reduceLeDiff,Nat.reduceLT,ty3,ty4,ty9,ty28,ty22,ty23,ty24,ty25,ty27,ty63,ty52,ty43]
  refine callK_ret _ _ _ _ (call_pure (hu) (fun _ => rfl) (fun _ => rfl)) (ok_nil _ _) ?_
  simp -implicitDefEqProofs only [awp_draw _ _ Tryzdr25_7,
  evx,evy,ofValue,ofCell,List.range,List.range.loop,Array.size,Nat.reduceAdd,Nat.reduceSub,Nat.reduceEqDiff,List.replicate,if_true,if_false,↓reduceIte,reduceCtorEq,elB,evParts,Int.reduceToNat,Int.reduceLE,Int.reduceLT,Int.reduceEq,Nat.reduceMul,Nat.reduceLeDiff,Nat.reduceLT,ty3,ty4,ty9,ty28,ty22,ty23,ty24,ty25,ty27,ty63,ty52,ty43]
  refine loop_rule (fun i : Nat => ⟨[.any,.fv (.lst 2 (l.map Itm.row)),.ptr 0 0 0 0,.any,.any,.fv (.int .i64 i),.any,.any,.any,.any,.any,.any,.any,.any,.any,.any,.any,.any,.any,.any,.any,.any,.any,.any,.any,.any,.any,.any,.any,.any,.any,.any,.any,.any,.any,.any,.any,.any,.any,.any,.any,.any,.any,.any,.any,.any],[.box g.cells],[]⟩)
   (fun i => i ≤ l.length ∧ (l.take i).all g.isItm = true) (fun i => l.length - i) 0 (le_wk (by simp [wk,Gra.cells])) (by simp) (fun i hi s hs2 => ?_)
  obtain ⟨hi,hall⟩ := hi
  by_cases hlt : i < l.length
  ·have hr := rows_at Itm.row l i hlt
   have hm := List.getElem_mem hlt
   have hst : (l.take (i + 1)).all g.isItm = ((l.take i).all g.isItm && g.isItm l[i]) := by
    rw [List.take_add_one,List.getElem?_eq_getElem hlt,List.all_append]
    simp
   generalize l[i] = x at hr hst hm
   rw [hall,Bool.true_and] at hst
   have hno : g.isItm x = false → l.all g.isItm = false := fun h => by rw [List.all_eq_false]; exact ⟨x,hm,by simp [h]⟩
   have hwi : IntKind.wrap .i64 ((i : Int) + 1) = ((i + 1 : Nat) : Int) := wsucc i (by omega)
   by_cases c1 : x.prod < -1
   ·have c1t : (x.prod < -1) = True := by simpa using c1
    rw [hno (by simp [Gra.isItm,Gra.isProd]; omega)]
    simp -implicitDefEqProofs only [awp_draw _ _ Tryzdr25_7,Gra.cells,List.length_map,stB_boxA,splice_all,List.all_cons,List.all_nil,lt_true hlt,hr,Itm.row,c1t,
  evx,evy,ofValue,ofCell,List.range,List.range.loop,Array.size,Nat.reduceAdd,Nat.reduceSub,Nat.reduceEqDiff,List.replicate,if_true,if_false,↓reduceIte,reduceCtorEq,elB,evParts,Int.reduceToNat,Int.reduceLE,Int.reduceLT,Int.reduceEq,Nat.reduceMul,Nat.reduceLeDiff,Nat.reduceLT,ty3,ty4,ty9,ty28,ty22,ty23,ty24,ty25,ty27,ty63,ty52,ty43]
    exact le_flat rfl
   have c1t : (x.prod < -1) = False := by simpa using c1
   by_cases c2 : (g.prods.length : Int) ≤ x.prod
   ·have c2t : ((g.prods.length : Int) ≤ x.prod) = True := by simpa using c2
    rw [hno (by simp [Gra.isItm,Gra.isProd]; omega)]
    simp -implicitDefEqProofs only [awp_draw _ _ Tryzdr25_7,Gra.cells,List.length_map,stB_boxA,splice_all,List.all_cons,List.all_nil,lt_true hlt,hr,Itm.row,c1t,c2t,
  evx,evy,ofValue,ofCell,List.range,List.range.loop,Array.size,Nat.reduceAdd,Nat.reduceSub,Nat.reduceEqDiff,List.replicate,if_true,if_false,↓reduceIte,reduceCtorEq,elB,evParts,Int.reduceToNat,Int.reduceLE,Int.reduceLT,Int.reduceEq,Nat.reduceMul,Nat.reduceLeDiff,Nat.reduceLT,ty3,ty4,ty9,ty28,ty22,ty23,ty24,ty25,ty27,ty63,ty52,ty43]
    exact le_flat rfl
   have c2t : ((g.prods.length : Int) ≤ x.prod) = False := by simpa using c2
   have hp : g.isProd x.prod = true := isProd_iff.2 ⟨by omega,by omega⟩
   have hsd := ok50 g x.prod hp hl
   have hil := ints_length (sideL g x.prod)
   by_cases c3 : x.dot < 0
   ·have c3t : (x.dot < 0) = True := by simpa using c3
    rw [hno (by simp [Gra.isItm]; omega)]
    simp -implicitDefEqProofs only [awp_draw _ _ Tryzdr25_7,Gra.cells,List.length_map,stB_boxA,splice_all,List.all_cons,List.all_nil,lt_true hlt,hr,Itm.row,c1t,c2t,c3t,
  evx,evy,ofValue,ofCell,List.range,List.range.loop,Array.size,Nat.reduceAdd,Nat.reduceSub,Nat.reduceEqDiff,List.replicate,if_true,if_false,↓reduceIte,reduceCtorEq,elB,evParts,Int.reduceToNat,Int.reduceLE,Int.reduceLT,Int.reduceEq,Nat.reduceMul,Nat.reduceLeDiff,Nat.reduceLT,ty3,ty4,ty9,ty28,ty22,ty23,ty24,ty25,ty27,ty63,ty52,ty43]
    exact le_flat rfl
   have c3t : (x.dot < 0) = False := by simpa using c3
   by_cases c4 : ((sideL g x.prod).length : Int) < x.dot
   ·have c4t : (((sideL g x.prod).length : Int) < x.dot) = True := by simpa using c4
    rw [hno (by simp [Gra.isItm]; omega)]
    simp -implicitDefEqProofs only [awp_draw _ _ Tryzdr25_7,Gra.cells,List.length_map,stB_boxA,splice_all,List.all_cons,List.all_nil,lt_true hlt,hr,Itm.row,c1t,c2t,c3t,
  evx,evy,ofValue,ofCell,List.range,List.range.loop,Array.size,Nat.reduceAdd,Nat.reduceSub,Nat.reduceEqDiff,List.replicate,if_true,if_false,↓reduceIte,reduceCtorEq,elB,evParts,Int.reduceToNat,Int.reduceLE,Int.reduceLT,Int.reduceEq,Nat.reduceMul,Nat.reduceLeDiff,Nat.reduceLT,ty3,ty4,ty9,ty28,ty22,ty23,ty24,ty25,ty27,ty63,ty52,ty43]
    refine callK_ret _ _ _ _ (call_pure (hsd) (fun _ => rfl) (fun _ => rfl)) (ok_nil _ _) ?_
    simp -implicitDefEqProofs only [awp_draw _ _ Tryzdr25_7,hil,c4t,
  evx,evy,ofValue,ofCell,List.range,List.range.loop,Array.size,Nat.reduceAdd,Nat.reduceSub,Nat.reduceEqDiff,List.replicate,if_true,if_false,↓reduceIte,reduceCtorEq,elB,evParts,Int.reduceToNat,Int.reduceLE,Int.reduceLT,Int.reduceEq,Nat.reduceMul,Nat.reduceLeDiff,Nat.reduceLT,ty3,ty4,ty9,ty28,ty22,ty23,ty24,ty25,ty27,ty63,ty52,ty43]
    exact le_flat rfl
   ·have c4t : (((sideL g x.prod).length : Int) < x.dot) = False := by simpa using c4
    have hx : g.isItm x = true := isItm_iff.2 ⟨hp,by omega,by omega⟩
    simp -implicitDefEqProofs only [awp_draw _ _ Tryzdr25_7,Gra.cells,List.length_map,stB_boxA,splice_all,List.all_cons,List.all_nil,lt_true hlt,hr,Itm.row,c1t,c2t,c3t,
  evx,evy,ofValue,ofCell,List.range,List.range.loop,Array.size,Nat.reduceAdd,Nat.reduceSub,Nat.reduceEqDiff,List.replicate,if_true,if_false,↓reduceIte,reduceCtorEq,elB,evParts,Int.reduceToNat,Int.reduceLE,Int.reduceLT,Int.reduceEq,Nat.reduceMul,Nat.reduceLeDiff,Nat.reduceLT,ty3,ty4,ty9,ty28,ty22,ty23,ty24,ty25,ty27,ty63,ty52,ty43]
    refine callK_ret _ _ _ _ (call_pure (hsd) (fun _ => rfl) (fun _ => rfl)) (ok_nil _ _) ?_
    simp -implicitDefEqProofs only [awp_draw _ _ Tryzdr25_7,hil,c4t,hwi,
  evx,evy,ofValue,ofCell,List.range,List.range.loop,Array.size,Nat.reduceAdd,Nat.reduceSub,Nat.reduceEqDiff,List.replicate,if_true,if_false,↓reduceIte,reduceCtorEq,elB,evParts,Int.reduceToNat,Int.reduceLE,Int.reduceLT,Int.reduceEq,Nat.reduceMul,Nat.reduceLeDiff,Nat.reduceLT,ty3,ty4,ty9,ty28,ty22,ty23,ty24,ty25,ty27,ty63,ty52,ty43]
    exact back_intro hs2 (i + 1) (le_pk [0] rfl (by simp) (by simp) (by simp [subBlk,subAny,subA,mkSub,idx,Gra.cells]) (by simp [wk,subAny,subA,mkSub,idx])) ⟨by omega,by rw [hst,hx]⟩ (by omega)
  ·obtain rfl : i = l.length := by omega
   rw [List.take_length] at hall
   rw [hall]
   simp -implicitDefEqProofs only [awp_draw _ _ Tryzdr25_7,List.length_map,lt_false hlt,
  evx,evy,ofValue,ofCell,List.range,List.range.loop,Array.size,Nat.reduceAdd,Nat.reduceSub,Nat.reduceEqDiff,List.replicate,if_true,if_false,↓reduceIte,reduceCtorEq,elB,evParts,Int.reduceToNat,Int.reduceLE,Int.reduceLT,Int.reduceEq,Nat.reduceMul,Nat.reduceLeDiff,Nat.reduceLT,ty3,ty4,ty9,ty28,ty22,ty23,ty24,ty25,ty27,ty63,ty52,ty43]
   exact le_flat rfl
end Go.Abs
