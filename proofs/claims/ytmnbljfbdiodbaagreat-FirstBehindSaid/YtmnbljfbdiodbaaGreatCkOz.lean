/- Going down to what is reached: the program's walk. -/
import Derived.Test.YtmnbljfbdiodbaaGreatTyTryzz
import Derived.Test.YtmnbljfbdiodbaaGreatDrTryzz
import Derived.Test.YtmnbljfbdiodbaaGreatCkLz
import Derived.Test.YtmnbljfbdiodbaaGreatTopA
namespace Go.Abs
open Go.Proofs
set_option linter.unusedVariables false
set_option linter.unusedSimpArgs false
set_option maxRecDepth 100000
set_option maxHeartbeats 4000000
theorem ty118 : tiOf Tryz.prog 118 = some ⟨.func #[3] #[] false,1,8,some [.nil .nilFunc]⟩ := by kernel_rfl
def markFn : AV := .func 67 [.ptr 0 0 0 0,.ptr 1 0 0 0,.ptr 2 0 0 0,.ptr 3 0 0 0]
def markIn (g : Gra) (o : List Int) : List Blk := [.box [.fv (.int .i64 g.terms)],.box [.ref 4 1 0 o.length],.box g.cells,.box [markFn],.plain 1 (ints o)]
def markNew (g : Gra) (o : List Int) : List Blk := [.box [.fv (.int .i64 g.terms)],.box [.ref 5 1 0 o.length],.box g.cells,.box [markFn],.dead,.plain 1 (ints o)]
def markOut (g : Gra) (o o' : List Int) : List Blk := if o' = o then markIn g o else markNew g o'
theorem markOut_same (g : Gra) (o : List Int) : markOut g o o = markIn g o := by unfold markOut; rw [if_pos rfl]
def nextOf (l : List Prd) (n : Int) : List Int := l.flatMap fun p => if p.left = n then p.right else []
theorem nextOf_succ {l : List Prd} {i : Nat} (n : Int) (hi : i < l.length) : nextOf (l.take (i + 1)) n = nextOf (l.take i) n ++ if l[i].left = n then l[i].right else [] := by
 rw [List.take_add_one,List.getElem?_eq_getElem hi,nextOf,nextOf,List.flatMap_append]
 simp
theorem look4 {o : List Int} {x : Int} {b0 b1 b2 b3 : Blk} : [AV.ref 4 1 0 o.length,.fv (.int .i64 x)].map (subAny (mkSub [] [4] [b0,b1,b2,b3,.plain 1 (ints o)])) = [.fv (.lst 1 (ints o)),.fv (.int .i64 x)] := by
 have h := ints_length o
 simp [subAny,subA,mkSub,idx,← h]
theorem look4_fl {o : List Int} {b0 b1 b2 b3 : Blk} : ∀ i ∈ [4],∃ es rows,([b0,b1,b2,b3,.plain 1 (ints o)] : List Blk)[i]? = some (.plain es rows) := fun i hi => by
 simp at hi; subst hi; exact ⟨_,_,rfl⟩
theorem okMark {g : Gra} (hg : Small g 100) (hso : Sound g) : ∀ (f : Nat) (o : List Int) (n : Int),MarkI g o → n ≤ (g.all : Int) → g.nonts.length < f + o.length →
  Ok Tryz.prog 67 [.fv (.int .i64 n),.ptr 0 0 0 0,.ptr 1 0 0 0,.ptr 2 0 0 0,.ptr 3 0 0 0] (markIn g o) (.ret (.tuple [])) (markOut g o (markF g f o n))
 | 0,o,n,hI,_,hf => by have := hI.len; omega
 | f + 1,o,n,hI,hn,hf => by
  have hnn := hso.nnonts
  have hnp := hso.nprods
  have hol := hI.len
  have hil := ints_length o
  have hcon := ok42 o n (by omega)
  have hinv := markF_inv hso (f + 1) o n hI hn hf
  refine ok_start (k := 40) (n0 := 5) (rs := []) mix Tryz.func67 rfl rfl rfl rfl rfl rfl rfl ?_
  unfold markIn
  by_cases c1 : n ≤ (g.terms : Int)
  ·have c1t : (n ≤ (g.terms : Int)) = True := by simpa using c1
   have e : markF g (f + 1) o n = o := by unfold markF; rw [if_pos (.inl c1)]
   rw [e,markOut_same]
   simp -implicitDefEqProofs only [c1t,
  evx,evy,ofValue,ofCell,List.range,List.range.loop,Array.size,Nat.reduceAdd,Nat.reduceSub,Nat.reduceEqDiff,List.replicate,if_true,if_false,↓reduceIte,reduceCtorEq,elB,evParts,Int.reduceToNat,Int.reduceLE,Int.reduceLT,Int.reduceEq,Nat.reduceMul,Nat.reduceLeDiff,Nat.reduceLT,ty3,ty4,ty9,ty22,ty23,ty24,ty25,ty27,ty36,ty45,ty41,ty43,ty56,ty118]
   exact Le.refl _ _
  have c1t : (n ≤ (g.terms : Int)) = False := by simpa using c1
  by_cases c2 : n ∈ o
  ·have e : markF g (f + 1) o n = o := by unfold markF; rw [if_pos (.inr c2)]
   rw [e,markOut_same]
   rw [decide_eq_true c2] at hcon
   simp -implicitDefEqProofs only [c1t,
  evx,evy,ofValue,ofCell,List.range,List.range.loop,Array.size,Nat.reduceAdd,Nat.reduceSub,Nat.reduceEqDiff,List.replicate,if_true,if_false,↓reduceIte,reduceCtorEq,elB,evParts,Int.reduceToNat,Int.reduceLE,Int.reduceLT,Int.reduceEq,Nat.reduceMul,Nat.reduceLeDiff,Nat.reduceLT,ty3,ty4,ty9,ty22,ty23,ty24,ty25,ty27,ty36,ty45,ty41,ty43,ty56,ty118]
   refine callK_ret _ _ _ _ (call_look [4] hcon look4 look4_fl rfl) (ok_nil _ _) ?_
   simp -implicitDefEqProofs only [evx,evy,ofValue,ofCell,List.range,List.range.loop,Array.size,Nat.reduceAdd,Nat.reduceSub,Nat.reduceEqDiff,List.replicate,if_true,if_false,↓reduceIte,reduceCtorEq,elB,evParts,Int.reduceToNat,Int.reduceLE,Int.reduceLT,Int.reduceEq,Nat.reduceMul,Nat.reduceLeDiff,Nat.reduceLT,ty3,ty4,ty9,ty22,ty23,ty24,ty25,ty27,ty36,ty45,ty41,ty43,ty56,ty118]
   exact Le.refl _ _
  rw [decide_eq_false c2] at hcon
  have hI1 : MarkI g (o ++ [n]) := by
   refine ⟨?_,fun x hx => ?_⟩
   ·rw [List.nodup_append]
    exact ⟨hI.nd,by simp,fun a ha b hb e => by simp at hb; subst hb; exact c2 (e ▸ ha)⟩
   ·rcases List.mem_append.1 hx with hx | hx
    ·exact hI.rg x hx
    ·simp at hx; subst hx; exact ⟨by omega,hn⟩
  obtain ⟨L,hL⟩ : ∃ L,L = o.length + 1 := ⟨_,rfl⟩
  have hl1 : L ≤ (o ++ [n]).length := by simp [hL]
  have hmk : markF g (f + 1) o n = (nextOf g.prods n).foldl (markF g f) (o ++ [n]) := by
   conv => lhs; unfold markF
   rw [if_neg (fun h => by rcases h with h | h; exact c1 h; exact c2 h)]
   rfl
  simp -implicitDefEqProofs only [c1t,
  evx,evy,ofValue,ofCell,List.range,List.range.loop,Array.size,Nat.reduceAdd,Nat.reduceSub,Nat.reduceEqDiff,List.replicate,if_true,if_false,↓reduceIte,reduceCtorEq,elB,evParts,Int.reduceToNat,Int.reduceLE,Int.reduceLT,Int.reduceEq,Nat.reduceMul,Nat.reduceLeDiff,Nat.reduceLT,ty3,ty4,ty9,ty22,ty23,ty24,ty25,ty27,ty36,ty45,ty41,ty43,ty56,ty118]
  refine callK_ret _ _ _ _ (call_look [4] hcon look4 look4_fl rfl) (ok_nil _ _) ?_
  simp -implicitDefEqProofs only [Gra.cells,List.length_map,
  evx,evy,ofValue,ofCell,List.range,List.range.loop,Array.size,Nat.reduceAdd,Nat.reduceSub,Nat.reduceEqDiff,List.replicate,if_true,if_false,↓reduceIte,reduceCtorEq,elB,evParts,Int.reduceToNat,Int.reduceLE,Int.reduceLT,Int.reduceEq,Nat.reduceMul,Nat.reduceLeDiff,Nat.reduceLT,ty3,ty4,ty9,ty22,ty23,ty24,ty25,ty27,ty36,ty45,ty41,ty43,ty56,ty118]
  refine ⟨⟨by omega,by omega⟩,?_⟩
  refine loop_rule (fun x : Nat × List Int => ⟨[.fv (.int .i64 n),.any,.any,.any,.ptr 3 0 0 0,.any,.any,.any,.any,.any,.any,.any,.any,.any,.any,.any,.any,.any,.any,.any,.any,.any,.any,.fv (.lst 3 (g.prods.map Prd.row)),.fv (.int .i64 g.prods.length),.fv (.int .i64 x.1),.any,.any,.any,.any,.any,.any,.any,.any,.any,.any,.any,.any,.any,.any,.any,.any,.any,.any,.any],markNew g x.2,[]⟩)
   (fun x => x.1 ≤ g.prods.length ∧ MarkI g x.2 ∧ L ≤ x.2.length ∧ x.2 = (nextOf (g.prods.take x.1) n).foldl (markF g f) (o ++ [n])) (fun x => g.prods.length - x.1) (0,o ++ [n]) (le_pk [0,1,2,3,4,6] rfl (by simp) (by simp) ?_ ?_) ⟨by omega,hI1,hl1,rfl⟩ (fun x hx s hs => ?_)
  ·have e : List.take o.length (ints o) ++ [[FV.int IntKind.i64 n]] = ints (o ++ [n]) := by
    rw [← hil,List.take_length,ints_append]; rfl
   rw [e]
   simp [subBlk,subAny,subA,subL,mkSub,idx,Gra.cells,markNew,markFn]
  ·simp [wk,subAny,subA,mkSub,idx]
  obtain ⟨i,o1⟩ := x
  obtain ⟨hi1,hI2,hl2,hio⟩ := hx
  simp only at hi1 hI2 hl2 hio hs ⊢
  by_cases hilt : i < g.prods.length
  ·have hrow := rows_at Prd.row g.prods i hilt
   have hpr := hso.prods _ (List.getElem_mem hilt)
   have hsucc := nextOf_succ n hilt
   generalize g.prods[i] = p at hrow hpr hsucc
   unfold markNew
   by_cases hpl : p.left = n
   ·have hplt : (p.left = n) = True := by simpa using hpl
    rw [if_pos hpl] at hsucc
    simp -implicitDefEqProofs only [Gra.cells,List.length_map,stB_boxA,splice_all,List.all_cons,List.all_nil,lt_true hilt,hrow,Prd.row,hplt,
  evx,evy,ofValue,ofCell,List.range,List.range.loop,Array.size,Nat.reduceAdd,Nat.reduceSub,Nat.reduceEqDiff,List.replicate,if_true,if_false,↓reduceIte,reduceCtorEq,elB,evParts,Int.reduceToNat,Int.reduceLE,Int.reduceLT,Int.reduceEq,Nat.reduceMul,Nat.reduceLeDiff,Nat.reduceLT,ty3,ty4,ty9,ty22,ty23,ty24,ty25,ty27,ty36,ty45,ty41,ty43,ty56,ty118]
    refine loop_rule (fun x : Nat × List Int => ⟨[.fv (.int .i64 n),.any,.any,.any,.ptr 3 0 0 0,.any,.any,.any,.any,.any,.any,.any,.any,.any,.any,.any,.any,.any,.any,.any,.any,.any,.any,.fv (.lst 3 (g.prods.map Prd.row)),.fv (.int .i64 g.prods.length),.fv (.int .i64 i),.any,.any,.any,.any,.any,.any,.any,.any,.fv (.lst 1 (p.right.map iRow)),.fv (.int .i64 p.right.length),.fv (.int .i64 x.1),.any,.any,.any,.any,.any,.any,.any,.any],markNew g x.2,[]⟩)
     (fun x => x.1 ≤ p.right.length ∧ MarkI g x.2 ∧ L ≤ x.2.length ∧ x.2 = (p.right.take x.1).foldl (markF g f) o1) (fun x => p.right.length - x.1) (0,o1) (le_pk [0,1,2,3,4,5] rfl (by simp) (by simp) ?_ ?_) ⟨by omega,hI2,hl2,rfl⟩ (fun x hx s2 hs2 => ?_)
    ·simp [subBlk,subAny,subA,subL,mkSub,idx,Gra.cells,markNew,markFn]
    ·simp [wk,subAny,subA,mkSub,idx]
    obtain ⟨k,o2⟩ := x
    obtain ⟨hk1,hI3,hl3,hko⟩ := hx
    simp only at hk1 hI3 hl3 hko hs2 ⊢
    by_cases hklt : k < p.right.length
    ·have hrow2 := rows_at iRow p.right k hklt
     have hkm := List.getElem_mem hklt
     have hstep := foldl_take_succ (markF g f) p.right o1 hklt
     rw [← hko] at hstep
     generalize p.right[k] = x at hrow2 hkm hstep
     have hxa := (hpr.2.2.2.2.2 x hkm).2
     have ih := okMark hg hso f o2 x hI3 hxa (by omega)
     have hinv2 := markF_inv hso f o2 x hI3 hxa (by omega)
     generalize markF g f o2 x = o3 at ih hstep hinv2
     unfold markNew
     simp -implicitDefEqProofs only [markFn,isAggF,List.length_map,lt_true hklt,hrow2,iRow,
  evx,evy,ofValue,ofCell,List.range,List.range.loop,Array.size,Nat.reduceAdd,Nat.reduceSub,Nat.reduceEqDiff,List.replicate,if_true,if_false,↓reduceIte,reduceCtorEq,elB,evParts,Int.reduceToNat,Int.reduceLE,Int.reduceLT,Int.reduceEq,Nat.reduceMul,Nat.reduceLeDiff,Nat.reduceLT,ty3,ty4,ty9,ty22,ty23,ty24,ty25,ty27,ty36,ty45,ty41,ty43,ty56,ty118]
     refine callK_ret _ _ _ _ (call_lent [0,1,2,3,5] ih rfl rfl (by simp) (by simp [Blk.live])) (ok_none _ _) ?_
     by_cases he : o3 = o2
     ·subst he
      rw [markOut_same]
      unfold markIn
      simp -implicitDefEqProofs only [subAny,subA,subL,backSub,back,putBack,subBlk,Option.getD_some,List.map_cons,List.map_nil,Nat.not_lt_zero,Nat.sub_zero,Nat.add_zero,List.length_map,wsucc k (by omega),
  evx,evy,ofValue,ofCell,List.range,List.range.loop,Array.size,Nat.reduceAdd,Nat.reduceSub,Nat.reduceEqDiff,List.replicate,if_true,if_false,↓reduceIte,reduceCtorEq,elB,evParts,Int.reduceToNat,Int.reduceLE,Int.reduceLT,Int.reduceEq,Nat.reduceMul,Nat.reduceLeDiff,Nat.reduceLT,ty3,ty4,ty9,ty22,ty23,ty24,ty25,ty27,ty36,ty45,ty41,ty43,ty56,ty118]
      refine back_intro hs2 (k + 1,o3) (le_pk [0,1,2,3,4,5] rfl (by simp) (by simp) ?_ ?_) ⟨by simp only; omega,hI3,hl3,hstep.symm⟩ (by simp only; omega)
      ·simp [subBlk,subAny,subA,subL,mkSub,idx,Gra.cells,markNew,markFn]
      ·simp [wk,subAny,subA,mkSub,idx]
     ·unfold markOut
      rw [if_neg he]
      unfold markNew
      simp -implicitDefEqProofs only [subAny,subA,subL,backSub,back,putBack,subBlk,Option.getD_some,List.map_cons,List.map_nil,Nat.not_lt_zero,Nat.sub_zero,Nat.add_zero,List.length_map,wsucc k (by omega),
  evx,evy,ofValue,ofCell,List.range,List.range.loop,Array.size,Nat.reduceAdd,Nat.reduceSub,Nat.reduceEqDiff,List.replicate,if_true,if_false,↓reduceIte,reduceCtorEq,elB,evParts,Int.reduceToNat,Int.reduceLE,Int.reduceLT,Int.reduceEq,Nat.reduceMul,Nat.reduceLeDiff,Nat.reduceLT,ty3,ty4,ty9,ty22,ty23,ty24,ty25,ty27,ty36,ty45,ty41,ty43,ty56,ty118]
      refine back_intro hs2 (k + 1,o3) (le_pk [0,1,2,3,4,6] rfl (by simp) (by simp) ?_ ?_) ⟨by simp only; omega,hinv2.1,by simp only; omega,hstep.symm⟩ (by simp only; omega)
      ·simp [subBlk,subAny,subA,subL,mkSub,idx,Gra.cells,markNew,markFn]
      ·simp [wk,subAny,subA,mkSub,idx]
    ·obtain rfl : k = p.right.length := by omega
     rw [List.take_length] at hko
     simp -implicitDefEqProofs only [lt_false hklt,wsucc i (by omega),
  evx,evy,ofValue,ofCell,List.range,List.range.loop,Array.size,Nat.reduceAdd,Nat.reduceSub,Nat.reduceEqDiff,List.replicate,if_true,if_false,↓reduceIte,reduceCtorEq,elB,evParts,Int.reduceToNat,Int.reduceLE,Int.reduceLT,Int.reduceEq,Nat.reduceMul,Nat.reduceLeDiff,Nat.reduceLT,ty3,ty4,ty9,ty22,ty23,ty24,ty25,ty27,ty36,ty45,ty41,ty43,ty56,ty118]
     exact back_intro hs (i + 1,o2) (le_wk (by simp [wk])) ⟨by simp only; omega,hI3,hl3,by simp only; rw [hsucc,List.foldl_append,← hio,← hko]⟩ (by simp only; omega)
   ·have hplt : (p.left = n) = False := by simpa using hpl
    rw [if_neg hpl,List.append_nil] at hsucc
    simp -implicitDefEqProofs only [Gra.cells,List.length_map,stB_boxA,splice_all,List.all_cons,List.all_nil,lt_true hilt,hrow,Prd.row,hplt,wsucc i (by omega),
  evx,evy,ofValue,ofCell,List.range,List.range.loop,Array.size,Nat.reduceAdd,Nat.reduceSub,Nat.reduceEqDiff,List.replicate,if_true,if_false,↓reduceIte,reduceCtorEq,elB,evParts,Int.reduceToNat,Int.reduceLE,Int.reduceLT,Int.reduceEq,Nat.reduceMul,Nat.reduceLeDiff,Nat.reduceLT,ty3,ty4,ty9,ty22,ty23,ty24,ty25,ty27,ty36,ty45,ty41,ty43,ty56,ty118]
    refine back_intro hs (i + 1,o1) (le_pk [0,1,2,3,4,5] rfl (by simp) (by simp) ?_ ?_) ⟨by simp only; omega,hI2,hl2,by simp only; rw [hsucc]; exact hio⟩ (by simp only; omega)
    ·simp [subBlk,subAny,subA,subL,mkSub,idx,Gra.cells,markNew,markFn]
    ·simp [wk,subAny,subA,mkSub,idx]
  ·obtain rfl : i = g.prods.length := by omega
   rw [List.take_length,← hmk] at hio
   have hne : ¬ o1 = o := fun e => by rw [e] at hl2; omega
   simp -implicitDefEqProofs only [lt_false hilt,
  evx,evy,ofValue,ofCell,List.range,List.range.loop,Array.size,Nat.reduceAdd,Nat.reduceSub,Nat.reduceEqDiff,List.replicate,if_true,if_false,↓reduceIte,reduceCtorEq,elB,evParts,Int.reduceToNat,Int.reduceLE,Int.reduceLT,Int.reduceEq,Nat.reduceMul,Nat.reduceLeDiff,Nat.reduceLT,ty3,ty4,ty9,ty22,ty23,ty24,ty25,ty27,ty36,ty45,ty41,ty43,ty56,ty118]
   rw [← hio]
   unfold markOut
   rw [if_neg hne]
   exact Le.refl _ _
end Go.Abs
/- What is reached: the program's answer. -/
namespace Go.Abs
open Go.Proofs
set_option linter.unusedVariables false
set_option linter.unusedSimpArgs false
set_option maxRecDepth 100000
set_option maxHeartbeats 4000000
theorem stB_func (dd : TypeDesc) (b : Nat) (z : Option (List FV)) (h : List Blk) (cs : List AV) (id es r off : Nat) (f : FuncId) (caps : List AV) (hk : r * es + off < cs.length) :
  stB ⟨dd,1,b,z⟩ h (some (.box cs)) id es r off (.func f caps) = some (.undef,h.set id (.box (cs.set (r * es + off) (.func f caps))),[id]) := by
 have hr : rowOf (.func f caps) = none := rfl
 simp only [stB,if_true,hr,stBx,cellsA,Option.bind_some]
 rw [if_pos ⟨rfl,by omega,rfl⟩,splice_one,if_pos hk]
 rfl
theorem those_none {g : Gra} {Q : Int → Prop} (h : g.nonts.length = 0) : g.those Q = [] := by
 have := g.those_length Q
 exact List.eq_nil_of_length_eq_zero (by omega)
theorem ok41 (g : Gra) (hg : Small g 100) (hsd : g.sound = true) (hne : g.nonts ≠ []) : Ok Tryz.prog 41 [g.av,.fv (.int .i64 g.terms)] [] (.ret (.fv (.lst 1 (ints (g.those (Reach g)))))) [] := by
 have hso := g.sound_iff hsd
 have hnn := hso.nnonts
 obtain ⟨hs1,hs2⟩ := hso.start.2 hne
 have hmk := okMark hg hso (g.nonts.length + 1) [] g.start ⟨by simp,by simp⟩ hs2 (by simp)
 have hinv := markF_inv hso (g.nonts.length + 1) [] g.start ⟨by simp,by simp⟩ hs2 (by simp)
 have hmem := markF_mem hso hne
 generalize markF g (g.nonts.length + 1) [] g.start = o at hmk hinv hmem
 have hno : ¬ o = [] := fun e => by
  have := (hmem g.start).2 (.start hs1)
  rw [e] at this
  simp at this
 have hst := sorted_those (g := g) (Q := Reach g) hinv.1.nd (fun n => by rw [hmem n]; exact ⟨fun h => ⟨hso.reach h,h⟩,fun h => h.2⟩)
 have hol := hinv.1.len
 have hil := ints_length o
 have hsort := ok68 o (by omega)
 rw [hst] at hsort
 have htl2 : (g.those (Reach g)).length = o.length := by rw [← hst]; exact sorted_length o
 have htl3 := ints_length (g.those (Reach g))
 refine ok_start (k := 13) (n0 := 0) (rs := [.tmp 4]) mix Tryz.func41 rfl rfl rfl rfl rfl rfl rfl ?_
 simp -implicitDefEqProofs only [Gra.av,stB_func,isAggF,
  evx,evy,ofValue,ofCell,List.range,List.range.loop,Array.size,Nat.reduceAdd,Nat.reduceSub,Nat.reduceEqDiff,List.replicate,if_true,if_false,↓reduceIte,reduceCtorEq,elB,evParts,Int.reduceToNat,Int.reduceLE,Int.reduceLT,Int.reduceEq,Nat.reduceMul,Nat.reduceLeDiff,Nat.reduceLT,ty3,ty4,ty9,ty22,ty23,ty24,ty25,ty27,ty36,ty45,ty41,ty43,ty56,ty118]
 have hv := ok_virt (h := [.box [.fv (.int .i64 g.terms)],.box [.fv .nils],.box g.cells,.box [markFn]]) 1 1 0 [.fv .nils] rfl rfl hmk
 refine callK_ret _ _ _ _ (call_lent [1,2,0,3] hv rfl rfl (by simp) (by simp [Blk.live])) (ok_none _ _) ?_
 unfold markOut
 rw [if_neg hno]
 unfold markNew
 simp -implicitDefEqProofs only [subAny,subA,subL,backSub,back,putBack,subBlk,Option.getD_some,List.map_cons,List.map_nil,Nat.not_lt_zero,Nat.sub_zero,Nat.add_zero,List.length_map,
  evx,evy,ofValue,ofCell,List.range,List.range.loop,Array.size,Nat.reduceAdd,Nat.reduceSub,Nat.reduceEqDiff,List.replicate,if_true,if_false,↓reduceIte,reduceCtorEq,elB,evParts,Int.reduceToNat,Int.reduceLE,Int.reduceLT,Int.reduceEq,Nat.reduceMul,Nat.reduceLeDiff,Nat.reduceLT,ty3,ty4,ty9,ty22,ty23,ty24,ty25,ty27,ty36,ty45,ty41,ty43,ty56,ty118]
 refine callK_ret _ _ _ _ (call_lent [5] hsort rfl rfl (by simp) (by simp [Blk.live])) (ok_none _ _) ?_
 simp -implicitDefEqProofs only [subAny,subA,subL,backSub,back,putBack,subBlk,Option.getD_some,List.map_cons,List.map_nil,Nat.not_lt_zero,Nat.sub_zero,Nat.add_zero,List.length_map,
  evx,evy,ofValue,ofCell,List.range,List.range.loop,Array.size,Nat.reduceAdd,Nat.reduceSub,Nat.reduceEqDiff,List.replicate,if_true,if_false,↓reduceIte,reduceCtorEq,elB,evParts,Int.reduceToNat,Int.reduceLE,Int.reduceLT,Int.reduceEq,Nat.reduceMul,Nat.reduceLeDiff,Nat.reduceLT,ty3,ty4,ty9,ty22,ty23,ty24,ty25,ty27,ty36,ty45,ty41,ty43,ty56,ty118]
 refine le_lst (rows := ints (g.those (Reach g))) rfl (by omega) ?_
 rw [List.drop_zero,← htl2,← htl3,List.take_length]
open Classical in
noncomputable def reachL (g : Gra) : List Int := if g.sound = true then g.those (Reach g) else []
theorem ok16 (g : Gra) (hg : Small g 100) : Ok Tryz.prog 16 [g.av] [] (.ret (.fv (.lst 1 (ints (reachL g))))) [] := by
 have hs := ok14 g hg
 have hterms := ok38 g hg.nrules
 refine ok_start (k := 15) (n0 := 0) (rs := [.tmp 2]) mix Tryz.func16 rfl rfl rfl rfl rfl rfl rfl ?_
 cases hsd : g.sound with
 | false =>
  rw [hsd] at hs
  have e : reachL g = [] := by unfold reachL; rw [if_neg (by simp [hsd])]
  rw [e]
  simp -implicitDefEqProofs only [awp_draw _ _ Tryzdr16_3,Gra.av,
  evx,evy,ofValue,ofCell,List.range,List.range.loop,Array.size,Nat.reduceAdd,Nat.reduceSub,Nat.reduceEqDiff,List.replicate,if_true,if_false,↓reduceIte,reduceCtorEq,elB,evParts,Int.reduceToNat,Int.reduceLE,Int.reduceLT,Int.reduceEq,Nat.reduceMul,Nat.reduceLeDiff,Nat.reduceLT,ty3,ty4,ty9,ty22,ty23,ty24,ty25,ty27,ty36,ty45,ty41,ty43,ty56,ty118]
  refine callK_ret _ _ _ _ (call_pure (hs) (fun _ => rfl) (fun _ => rfl)) (ok_nil _ _) ?_
  simp -implicitDefEqProofs only [awp_draw _ _ Tryzdr16_3,
  evx,evy,ofValue,ofCell,List.range,List.range.loop,Array.size,Nat.reduceAdd,Nat.reduceSub,Nat.reduceEqDiff,List.replicate,if_true,if_false,↓reduceIte,reduceCtorEq,elB,evParts,Int.reduceToNat,Int.reduceLE,Int.reduceLT,Int.reduceEq,Nat.reduceMul,Nat.reduceLeDiff,Nat.reduceLT,ty3,ty4,ty9,ty22,ty23,ty24,ty25,ty27,ty36,ty45,ty41,ty43,ty56,ty118]
  exact Le.trans (le_nils 0 1 rfl) (le_to [] [] rfl (by simp) (by simp) (by simp) (by simp) rfl)
 | true =>
  rw [hsd] at hs
  have e : reachL g = g.those (Reach g) := by unfold reachL; rw [if_pos hsd]
  rw [e]
  by_cases n0 : g.nonts.length = 0
  ·have n0t : ((g.nonts.length : Int) = 0) = True := by simpa using n0
   rw [those_none n0]
   simp -implicitDefEqProofs only [awp_draw _ _ Tryzdr16_3,Gra.av,
  evx,evy,ofValue,ofCell,List.range,List.range.loop,Array.size,Nat.reduceAdd,Nat.reduceSub,Nat.reduceEqDiff,List.replicate,if_true,if_false,↓reduceIte,reduceCtorEq,elB,evParts,Int.reduceToNat,Int.reduceLE,Int.reduceLT,Int.reduceEq,Nat.reduceMul,Nat.reduceLeDiff,Nat.reduceLT,ty3,ty4,ty9,ty22,ty23,ty24,ty25,ty27,ty36,ty45,ty41,ty43,ty56,ty118]
   refine callK_ret _ _ _ _ (call_pure (hs) (fun _ => rfl) (fun _ => rfl)) (ok_nil _ _) ?_
   simp -implicitDefEqProofs only [awp_draw _ _ Tryzdr16_3,Gra.cells,List.length_map,n0t,
  evx,evy,ofValue,ofCell,List.range,List.range.loop,Array.size,Nat.reduceAdd,Nat.reduceSub,Nat.reduceEqDiff,List.replicate,if_true,if_false,↓reduceIte,reduceCtorEq,elB,evParts,Int.reduceToNat,Int.reduceLE,Int.reduceLT,Int.reduceEq,Nat.reduceMul,Nat.reduceLeDiff,Nat.reduceLT,ty3,ty4,ty9,ty22,ty23,ty24,ty25,ty27,ty36,ty45,ty41,ty43,ty56,ty118]
   exact Le.trans (le_nils 0 1 rfl) (le_to [] [] rfl (by simp) (by simp) (by simp) (by simp) rfl)
  ·have n0t : ((g.nonts.length : Int) = 0) = False := by simpa using n0
   have h24 := ok41 g hg hsd (fun e => n0 (by rw [e]; rfl))
   simp -implicitDefEqProofs only [awp_draw _ _ Tryzdr16_3,Gra.av,
  evx,evy,ofValue,ofCell,List.range,List.range.loop,Array.size,Nat.reduceAdd,Nat.reduceSub,Nat.reduceEqDiff,List.replicate,if_true,if_false,↓reduceIte,reduceCtorEq,elB,evParts,Int.reduceToNat,Int.reduceLE,Int.reduceLT,Int.reduceEq,Nat.reduceMul,Nat.reduceLeDiff,Nat.reduceLT,ty3,ty4,ty9,ty22,ty23,ty24,ty25,ty27,ty36,ty45,ty41,ty43,ty56,ty118]
   refine callK_ret _ _ _ _ (call_pure (hs) (fun _ => rfl) (fun _ => rfl)) (ok_nil _ _) ?_
   simp -implicitDefEqProofs only [awp_draw _ _ Tryzdr16_3,Gra.cells,List.length_map,n0t,
  evx,evy,ofValue,ofCell,List.range,List.range.loop,Array.size,Nat.reduceAdd,Nat.reduceSub,Nat.reduceEqDiff,List.replicate,if_true,if_false,↓reduceIte,reduceCtorEq,elB,evParts,Int.reduceToNat,Int.reduceLE,Int.reduceLT,Int.reduceEq,Nat.reduceMul,Nat.reduceLeDiff,Nat.reduceLT,ty3,ty4,ty9,ty22,ty23,ty24,ty25,ty27,ty36,ty45,ty41,ty43,ty56,ty118]
   refine callK_ret _ _ _ _ (call_pure (hterms) (fun _ => rfl) (fun _ => rfl)) (ok_nil _ _) ?_
   simp -implicitDefEqProofs only [awp_draw _ _ Tryzdr16_3,
  evx,evy,ofValue,ofCell,List.range,List.range.loop,Array.size,Nat.reduceAdd,Nat.reduceSub,Nat.reduceEqDiff,List.replicate,if_true,if_false,↓reduceIte,reduceCtorEq,elB,evParts,Int.reduceToNat,Int.reduceLE,Int.reduceLT,Int.reduceEq,Nat.reduceMul,Nat.reduceLeDiff,Nat.reduceLT,ty3,ty4,ty9,ty22,ty23,ty24,ty25,ty27,ty36,ty45,ty41,ty43,ty56,ty118]
   refine callK_ret _ _ _ _ (call_pure (h24) (fun _ => rfl) (fun _ => rfl)) (ok_nil _ _) ?_
   simp -implicitDefEqProofs only [awp_draw _ _ Tryzdr16_3,
  evx,evy,ofValue,ofCell,List.range,List.range.loop,Array.size,Nat.reduceAdd,Nat.reduceSub,Nat.reduceEqDiff,List.replicate,if_true,if_false,↓reduceIte,reduceCtorEq,elB,evParts,Int.reduceToNat,Int.reduceLE,Int.reduceLT,Int.reduceEq,Nat.reduceMul,Nat.reduceLeDiff,Nat.reduceLT,ty3,ty4,ty9,ty22,ty23,ty24,ty25,ty27,ty36,ty45,ty41,ty43,ty56,ty118]
   exact le_to [] [] rfl (by simp) (by simp) (by simp) (by simp) rfl
end Go.Abs
