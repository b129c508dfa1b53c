/- What begins a text: the program's steps. -/
import Derived.Test.YtmnbljfbdiodbaaGreatTyTryzz
import Derived.Test.YtmnbljfbdiodbaaGreatDrTryzz
import Derived.Test.YtmnbljfbdiodbaaGreatFiKz
import Derived.Test.YtmnbljfbdiodbaaGreatZopHz
import Derived.Test.YtmnbljfbdiodbaaGreatFiA
import Derived.Test.YtmnbljfbdiodbaaGreatAbsNil
import Derived.Test.YtmnbljfbdiodbaaGreatAbsTree
namespace Go.Abs
open Go.Proofs
set_option linter.unusedVariables false
set_option linter.unusedSimpArgs false
set_option maxRecDepth 100000
set_option maxHeartbeats 4000000
theorem nckP (id es r off : Nat) : nckA (.ptr id es r off) = some (.ptr id es r off) := nck_solid rfl
theorem total2 (o l : List Int) : total [o,l] = o.length + l.length := by simp [total]
theorem flat2 (o l : List Int) : [o,l].flatten = o ++ l := by simp
theorem ok19_box (o l : List Int) (ho : o.length < 100000) (hl : l.length < 100000) :
  Ok Tryz.prog 19 [.ptr 0 0 0 0,.ref 1 1 0 1] [.box [.fv (.lst 1 (ints o))],.plain 1 [[.lst 1 (ints l)]]] (.ret (.fv (.bool (decide (o.length < (setOf (o ++ l)).length))))) [.box [.fv (.lst 1 (ints (setOf (o ++ l))))],.plain 1 [[.lst 1 (ints l)]]] := by
 have hcc := ok44 [o,l] (by simp) (by rw [total2]; omega)
 rw [flat2] at hcc
 have hof := ok43 (o ++ l) (by rw [List.length_append]; omega)
 have hol := ints_length o
 have hsl := ints_length (setOf (o ++ l))
 refine ok_start (k := 24) (n0 := 2) (rs := [.tmp 4]) mix Tryz.func19 rfl rfl rfl rfl rfl rfl rfl ?_
 simp -implicitDefEqProofs only [nckP,
  evx,evy,ofValue,ofCell,List.range,List.range.loop,Array.size,Nat.reduceAdd,Nat.reduceSub,Nat.reduceEqDiff,List.replicate,if_true,if_false,↓reduceIte,reduceCtorEq,elB,evParts,Int.reduceToNat,Int.reduceLE,Int.reduceLT,Int.reduceEq,Nat.reduceMul,Nat.reduceLeDiff,Nat.reduceLT,ty3,ty4,ty9,ty36,ty30,ty46,ty53,ty48]
 refine callK_ret _ _ _ _ (call_freeze (args' := [.fv (.lst 1 (rowsOf [o,l]))]) [3] (fun i hi => by simp at hi; subst hi; exact ⟨_,_,rfl⟩) (by simp [subAny,subA,frzSub,rowsOf]) rfl
  (call_lent [] hcc rfl rfl (by simp) (by simp)) [3] (by simp) (by simp) (fun i hi hl => by
   match i,hi,hl with
   | 0,_,_ => simp [freezeSt,killAll,subBlk,subAny,subA]
   | 1,_,_ => simp [freezeSt,killAll,subBlk,subAny,subA]
   | 2,_,_ => simp [freezeSt,killAll,subBlk,subAny,subA]
   | 3,hi,_ => exact absurd (by simp) hi
   | i + 4,_,hl => simp at hl; omega)) (ok_none _ _) ?_
 simp -implicitDefEqProofs only [subAny,subA,subL,backSub,back,putBack,subBlk,Option.getD_some,List.map_cons,List.map_nil,Nat.not_lt_zero,Nat.sub_zero,Nat.add_zero,List.length_map,freezeSt,frzSub,killAll,List.contains_cons,List.contains_nil,Nat.reduceBEq,Bool.or_false,
  evx,evy,ofValue,ofCell,List.range,List.range.loop,Array.size,Nat.reduceAdd,Nat.reduceSub,Nat.reduceEqDiff,List.replicate,if_true,if_false,↓reduceIte,reduceCtorEq,elB,evParts,Int.reduceToNat,Int.reduceLE,Int.reduceLT,Int.reduceEq,Nat.reduceMul,Nat.reduceLeDiff,Nat.reduceLT,ty3,ty4,ty9,ty36,ty30,ty46,ty53,ty48]
 refine callK_ret _ _ _ _ (call_freeze (args' := [.fv (.lst 1 (ints (o ++ l)))]) [4] (fun i hi => by simp at hi; subst hi; exact ⟨_,_,rfl⟩) (by simp [subAny,subA,frzSub,ints,List.take_of_length_le]) rfl
  (call_pure hof (fun _ => rfl) (fun _ => rfl)) [4] (by simp) (by simp) (fun i hi hl => by
   match i,hi,hl with
   | 0,_,_ => simp [freezeSt,killAll,subBlk,subAny,subA]
   | 1,_,_ => simp [freezeSt,killAll,subBlk,subAny,subA]
   | 2,_,_ => simp [freezeSt,killAll,subBlk,subAny,subA]
   | 3,_,_ => simp [freezeSt,killAll,subBlk,subAny,subA]
   | 4,hi,_ => exact absurd (by simp) hi
   | i + 5,_,hl => simp at hl; omega)) (ok_none _ _) ?_
 simp -implicitDefEqProofs only [subAny,subA,subL,backSub,back,putBack,subBlk,Option.getD_some,List.map_cons,List.map_nil,Nat.not_lt_zero,Nat.sub_zero,Nat.add_zero,List.length_map,freezeSt,frzSub,killAll,List.contains_cons,List.contains_nil,Nat.reduceBEq,Bool.or_false,nckP,
  evx,evy,ofValue,ofCell,List.range,List.range.loop,Array.size,Nat.reduceAdd,Nat.reduceSub,Nat.reduceEqDiff,List.replicate,if_true,if_false,↓reduceIte,reduceCtorEq,elB,evParts,Int.reduceToNat,Int.reduceLE,Int.reduceLT,Int.reduceEq,Nat.reduceMul,Nat.reduceLeDiff,Nat.reduceLT,ty3,ty4,ty9,ty36,ty30,ty46,ty53,ty48]
 exact le_pk [0,1] rfl (by simp) (by simp) (by simp [subBlk,subAny,subA,mkSub,idx]) (by simp [wk,subAny,subA,mkSub,idx,hol,hsl])
theorem ok19_row (F : List (List Int)) (r : Nat) (o l : List Int) (hr : F[r]? = some o) (ho : o.length < 100000) (hl : l.length < 100000) :
  Ok Tryz.prog 19 [.ptr 0 1 r 0,.ref 1 1 0 1] [.plain 1 (rowsOf F),.plain 1 [[.lst 1 (ints l)]]] (.ret (.fv (.bool (decide (o.length < (setOf (o ++ l)).length))))) [.plain 1 (rowsOf (F.set r (setOf (o ++ l)))),.plain 1 [[.lst 1 (ints l)]]] := by
 have hcc := ok44 [o,l] (by simp) (by rw [total2]; omega)
 rw [flat2] at hcc
 have hof := ok43 (o ++ l) (by rw [List.length_append]; omega)
 have hol := ints_length o
 have hsl := ints_length (setOf (o ++ l))
 have hrl : r < F.length := (List.getElem?_eq_some_iff.1 hr).1
 have hrow : (rowsOf F)[r]? = some [.lst 1 (ints o)] := by unfold rowsOf; rw [List.getElem?_map,hr]; rfl
 have hrow2 : (rowsOf (F.set r (setOf (o ++ l))))[r]? = some [.lst 1 (ints (setOf (o ++ l)))] := by unfold rowsOf; rw [List.getElem?_map,List.getElem?_set_self hrl]; rfl
 have hset : (rowsOf F).set r [.lst 1 (ints (setOf (o ++ l)))] = rowsOf (F.set r (setOf (o ++ l))) := by unfold rowsOf; rw [List.map_set]
 refine ok_start (k := 24) (n0 := 2) (rs := [.tmp 4]) mix Tryz.func19 rfl rfl rfl rfl rfl rfl rfl ?_
 simp -implicitDefEqProofs only [nckP,hrow,
  evx,evy,ofValue,ofCell,List.range,List.range.loop,Array.size,Nat.reduceAdd,Nat.reduceSub,Nat.reduceEqDiff,List.replicate,if_true,if_false,↓reduceIte,reduceCtorEq,elB,evParts,Int.reduceToNat,Int.reduceLE,Int.reduceLT,Int.reduceEq,Nat.reduceMul,Nat.reduceLeDiff,Nat.reduceLT,ty3,ty4,ty9,ty36,ty30,ty46,ty53,ty48]
 refine callK_ret _ _ _ _ (call_freeze (args' := [.fv (.lst 1 (rowsOf [o,l]))]) [3] (fun i hi => by simp at hi; subst hi; exact ⟨_,_,rfl⟩) (by simp [subAny,subA,frzSub,rowsOf]) rfl
  (call_lent [] hcc rfl rfl (by simp) (by simp)) [3] (by simp) (by simp) (fun i hi hl => by
   match i,hi,hl with
   | 0,_,_ => simp [freezeSt,killAll,subBlk,subAny,subA]
   | 1,_,_ => simp [freezeSt,killAll,subBlk,subAny,subA]
   | 2,_,_ => simp [freezeSt,killAll,subBlk,subAny,subA]
   | 3,hi,_ => exact absurd (by simp) hi
   | i + 4,_,hl => simp at hl; omega)) (ok_none _ _) ?_
 simp -implicitDefEqProofs only [subAny,subA,subL,backSub,back,putBack,subBlk,Option.getD_some,List.map_cons,List.map_nil,Nat.not_lt_zero,Nat.sub_zero,Nat.add_zero,List.length_map,freezeSt,frzSub,killAll,List.contains_cons,List.contains_nil,Nat.reduceBEq,Bool.or_false,
  evx,evy,ofValue,ofCell,List.range,List.range.loop,Array.size,Nat.reduceAdd,Nat.reduceSub,Nat.reduceEqDiff,List.replicate,if_true,if_false,↓reduceIte,reduceCtorEq,elB,evParts,Int.reduceToNat,Int.reduceLE,Int.reduceLT,Int.reduceEq,Nat.reduceMul,Nat.reduceLeDiff,Nat.reduceLT,ty3,ty4,ty9,ty36,ty30,ty46,ty53,ty48]
 refine callK_ret _ _ _ _ (call_freeze (args' := [.fv (.lst 1 (ints (o ++ l)))]) [4] (fun i hi => by simp at hi; subst hi; exact ⟨_,_,rfl⟩) (by simp [subAny,subA,frzSub,ints,List.take_of_length_le]) rfl
  (call_pure hof (fun _ => rfl) (fun _ => rfl)) [4] (by simp) (by simp) (fun i hi hl => by
   match i,hi,hl with
   | 0,_,_ => simp [freezeSt,killAll,subBlk,subAny,subA]
   | 1,_,_ => simp [freezeSt,killAll,subBlk,subAny,subA]
   | 2,_,_ => simp [freezeSt,killAll,subBlk,subAny,subA]
   | 3,_,_ => simp [freezeSt,killAll,subBlk,subAny,subA]
   | 4,hi,_ => exact absurd (by simp) hi
   | i + 5,_,hl => simp at hl; omega)) (ok_none _ _) ?_
 simp -implicitDefEqProofs only [subAny,subA,subL,backSub,back,putBack,subBlk,Option.getD_some,List.map_cons,List.map_nil,Nat.not_lt_zero,Nat.sub_zero,Nat.add_zero,List.length_map,freezeSt,frzSub,killAll,List.contains_cons,List.contains_nil,Nat.reduceBEq,Bool.or_false,nckP,hrow,hset,hrow2,
  evx,evy,ofValue,ofCell,List.range,List.range.loop,Array.size,Nat.reduceAdd,Nat.reduceSub,Nat.reduceEqDiff,List.replicate,if_true,if_false,↓reduceIte,reduceCtorEq,elB,evParts,Int.reduceToNat,Int.reduceLE,Int.reduceLT,Int.reduceEq,Nat.reduceMul,Nat.reduceLeDiff,Nat.reduceLT,ty3,ty4,ty9,ty36,ty30,ty46,ty53,ty48]
 exact le_pk [0,1] rfl (by simp) (by simp) (by simp [subBlk,subAny,subA,mkSub,idx]) (by simp [wk,subAny,subA,mkSub,idx,hol,hsl])
def boRow (b : Bool) : List FV := [.bool b]
theorem rowsOf_at {F : List (List Int)} {i : Nat} {o : List Int} (h : F[i]? = some o) : (rowsOf F)[i]? = some [.lst 1 (ints o)] := by unfold rowsOf; rw [List.getElem?_map,h]; rfl
theorem boRow_at {N : List Bool} {i : Nat} {b : Bool} (h : N[i]? = some b) : (N.map boRow)[i]? = some [.bool b] := by rw [List.getElem?_map,h]; rfl
theorem ofT_cons (N : List Bool) (F : List (List Int)) (n : Int) (r out : List Int) : ofT N F (n :: r) out = if nAt N n = true then ofT N F r (setOf (out ++ fAt F n)) else (setOf (out ++ fAt F n),false) := rfl
theorem ok18 (N : List Bool) (F : List (List Int)) (text : List Int) (hl : N.length = F.length) (ht : text.length ≤ 1000) (hn : ∀ n ∈ text,0 ≤ n ∧ n < (N.length : Int)) (hf : ∀ l ∈ F,l.length ≤ 50) :
  Ok Tryz.prog 18 [.agg [.ref 0 1 0 N.length,.ref 1 1 0 F.length],.fv (.lst 1 (ints text))] [.plain 1 (N.map boRow),.plain 1 (rowsOf F)]
   (.ret (.tuple [.fv (.lst 1 (ints (ofT N F text []).1)),.fv (.bool (ofT N F text []).2)])) [.plain 1 (N.map boRow),.plain 1 (rowsOf F)] := by
 have htl := ints_length text
 refine ok_start (k := 29) (n0 := 2) (rs := [.tmp 4,.tmp 5]) mix Tryz.func18 rfl rfl rfl rfl rfl rfl rfl ?_
 simp -implicitDefEqProofs only [evx,evy,ofValue,ofCell,List.range,List.range.loop,Array.size,Nat.reduceAdd,Nat.reduceSub,Nat.reduceEqDiff,List.replicate,if_true,if_false,↓reduceIte,reduceCtorEq,elB,evParts,Int.reduceToNat,Int.reduceLE,Int.reduceLT,Int.reduceEq,Nat.reduceMul,Nat.reduceLeDiff,Nat.reduceLT,ty3,ty4,ty9,ty36,ty30,ty46,ty53,ty48]
 refine loop_rule (fun x : Nat × List Int => ⟨[.any,.any,.ptr 2 0 0 0,.any,.any,.any,.ptr 3 0 0 0,.any,.any,.fv (.lst 1 (ints text)),.fv (.int .i64 text.length),.fv (.int .i64 x.1),.any,.any,.any,.any,.any,.any,.any,.any,.any,.any,.any,.any,.any,.any,.any,.any,.any,.any,.any],[.plain 1 (N.map boRow),.plain 1 (rowsOf F),.box [.ref 0 1 0 N.length,.ref 1 1 0 F.length],.box [.fv (.lst 1 (ints x.2))]],[]⟩)
  (fun x => x.1 ≤ text.length ∧ x.2.length ≤ 50 * x.1 ∧ ofT N F text [] = ofT N F (text.drop x.1) x.2) (fun x => text.length - x.1) (0,[]) (Le.trans (le_nilbox 3 1 0 _ rfl rfl) (le_wk (by simp [wk,htl,ints]))) ⟨by omega,by simp,rfl⟩ (fun x hx s hs => ?_)
 obtain ⟨i,out⟩ := x
 obtain ⟨hi,ho,hof⟩ := hx
 simp only at hi ho hof hs ⊢
 by_cases hlt : i < text.length
 ·have hr := ints_get text i hlt
  have hnn := hn _ (List.getElem_mem hlt)
  rw [List.drop_eq_getElem_cons hlt] at hof
  generalize text[i] = n at hr hof hnn
  obtain ⟨k,hk,hk1,hkF⟩ := fAt_get (F := F) (n := n) hnn.1 (by omega)
  obtain ⟨k',hk',hk2,hkN⟩ := nAt_get (N := N) (n := n) hnn.1 (by omega)
  obtain rfl : k = k' := by omega
  rw [ofT_cons] at hof
  have hfl := hf _ (List.mem_of_getElem? hkF)
  have hsz := setOf_length_le (out ++ fAt F n)
  rw [List.length_append] at hsz
  generalize nAt N n = b at hkN hof
  generalize fAt F n = f at hkF hof hfl hsz
  subst hk
  have hmore := ok19_box out f (by omega) (by omega)
  have hc1 : ((k : Int) < (N.length : Int)) = True := by simp; omega
  have hc2 : ((k : Int) < (F.length : Int)) = True := by simp; omega
  have hFr := rowsOf_at hkF
  have hNr := boRow_at hkN
  generalize (decide (out.length < (setOf (out ++ f)).length)) = grew at hmore
  simp -implicitDefEqProofs only [htl,lt_true hlt,hr,hc1,hc2,hFr,hNr,
  evx,evy,ofValue,ofCell,List.range,List.range.loop,Array.size,Nat.reduceAdd,Nat.reduceSub,Nat.reduceEqDiff,List.replicate,if_true,if_false,↓reduceIte,reduceCtorEq,elB,evParts,Int.reduceToNat,Int.reduceLE,Int.reduceLT,Int.reduceEq,Nat.reduceMul,Nat.reduceLeDiff,Nat.reduceLT,ty3,ty4,ty9,ty36,ty30,ty46,ty53,ty48]
  refine callK_ret _ _ _ _ (call_lent [3,4] hmore rfl rfl (by simp) (by simp [Blk.live])) (ok_none _ _) ?_
  cases b with
  | false =>
   rw [if_neg (by simp)] at hof
   rw [hof]
   simp -implicitDefEqProofs only [subAny,subA,subL,backSub,back,putBack,subBlk,Option.getD_some,List.map_cons,List.map_nil,Nat.not_lt_zero,Nat.sub_zero,Nat.add_zero,List.length_map,hc1,hNr,
  evx,evy,ofValue,ofCell,List.range,List.range.loop,Array.size,Nat.reduceAdd,Nat.reduceSub,Nat.reduceEqDiff,List.replicate,if_true,if_false,↓reduceIte,reduceCtorEq,elB,evParts,Int.reduceToNat,Int.reduceLE,Int.reduceLT,Int.reduceEq,Nat.reduceMul,Nat.reduceLeDiff,Nat.reduceLT,ty3,ty4,ty9,ty36,ty30,ty46,ty53,ty48]
   refine le_pk [0,1] rfl (by simp) (by simp) ?_ ?_
   ·simp [subBlk]
   ·simp [wk,subAny,subA,subL,mkSub,idx]
  | true =>
   rw [if_pos rfl] at hof
   simp -implicitDefEqProofs only [subAny,subA,subL,backSub,back,putBack,subBlk,Option.getD_some,List.map_cons,List.map_nil,Nat.not_lt_zero,Nat.sub_zero,Nat.add_zero,List.length_map,hc1,hNr,wsucc i (by omega),
  evx,evy,ofValue,ofCell,List.range,List.range.loop,Array.size,Nat.reduceAdd,Nat.reduceSub,Nat.reduceEqDiff,List.replicate,if_true,if_false,↓reduceIte,reduceCtorEq,elB,evParts,Int.reduceToNat,Int.reduceLE,Int.reduceLT,Int.reduceEq,Nat.reduceMul,Nat.reduceLeDiff,Nat.reduceLT,ty3,ty4,ty9,ty36,ty30,ty46,ty53,ty48]
   refine back_intro hs (i + 1,setOf (out ++ f)) (le_pk [0,1,2,3] rfl (by simp) (by simp) ?_ ?_) ⟨by simp only; omega,by simp only; omega,hof⟩ (by simp only; omega)
   ·simp [subBlk,subAny,subA,mkSub,idx]
   ·simp [wk,subAny,subA,mkSub,idx,htl]
 ·obtain rfl : i = text.length := by omega
  rw [List.drop_length] at hof
  rw [hof]
  simp -implicitDefEqProofs only [htl,lt_false hlt,
  evx,evy,ofValue,ofCell,List.range,List.range.loop,Array.size,Nat.reduceAdd,Nat.reduceSub,Nat.reduceEqDiff,List.replicate,if_true,if_false,↓reduceIte,reduceCtorEq,elB,evParts,Int.reduceToNat,Int.reduceLE,Int.reduceLT,Int.reduceEq,Nat.reduceMul,Nat.reduceLeDiff,Nat.reduceLT,ty3,ty4,ty9,ty36,ty30,ty46,ty53,ty48]
  refine le_pk [0,1] rfl (by simp) (by simp) ?_ ?_
  ·simp [subBlk]
  ·simp [wk,subAny,subA,subL,mkSub,idx,ofT]
end Go.Abs
