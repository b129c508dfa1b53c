/- What is reached, and what ends: the document's answers. -/
import Derived.Test.YtmnbljfbdiodbaaGreatTyTryzz
import Derived.Test.YtmnbljfbdiodbaaGreatDrTryzz
import Derived.Test.YtmnbljfbdiodbaaGreatAbsZ
import Derived.Test.YtmnbljfbdiodbaaGreatCkJz
import Derived.Test.YtmnbljfbdiodbaaGreatTopA
import Derived.Test.YtmnbljfbdiodbaaGreatZopHz
import Derived.Test.YtmnbljfbdiodbaaGreatAbsW
import Derived.Test.YtmnbljfbdiodbaaGreatCkKz
import Derived.Test.YtmnbljfbdiodbaaGreatCkHz
namespace Go.Abs
open Go.Proofs
set_option linter.unusedVariables false
set_option linter.unusedSimpArgs false
set_option maxRecDepth 100000
set_option maxHeartbeats 4000000
theorem ite_st {n0 : Nat} {c : Prop} [Decidable c] {w : St → Prop} {A B : St} (S : St) (hA : c → Le n0 A S) (hB : ¬ c → Le n0 B S) (h : ∀ st,Le n0 st S → w st) : if c then w A else w B := by
 split
 ·exact h _ (hA ‹_›)
 ·exact h _ (hB ‹_›)
theorem adds_len {β : Type} (c : List Int → β → Option Int) (o : List Int) (b : β) : (adds c o b).length ≤ o.length + 1 := by
 unfold adds
 split
 ·simp
 ·omega
def prsOf (l : List Prd) : List (Int × Int) := l.flatMap fun p => p.right.map fun n => (p.left,n)
theorem prsOf_succ {l : List Prd} {i : Nat} (hi : i < l.length) : prsOf (l.take (i + 1)) = prsOf (l.take i) ++ l[i].right.map fun n => (l[i].left,n) := by
 rw [List.take_add_one,List.getElem?_eq_getElem hi,prsOf,prsOf,List.flatMap_append]
 simp
theorem foldl_take_succ {α β : Type} (f : β → α → β) (l : List α) (b : β) {i : Nat} (hi : i < l.length) : (l.take (i + 1)).foldl f b = f ((l.take i).foldl f b) l[i] := by
 rw [List.take_add_one,List.getElem?_eq_getElem hi,List.foldl_append]
 rfl
theorem iter_succ {α : Type} (f : α → α) : ∀ (n : Nat) (x : α),iter f (n + 1) x = f (iter f n x)
 | 0,_ => rfl
 | n + 1,x => by rw [iter,iter_succ f n (f x)]; rfl
theorem look_ints2 {o : List Int} {x : Int} {b : Blk} : [AV.ref 1 1 0 o.length,.fv (.int .i64 x)].map (subAny (mkSub [] [1] [b,.plain 1 (ints o)])) = [.fv (.lst 1 (ints o)),.fv (.int .i64 x)] := by
 have h := ints_length o
 simp [subAny,subA,mkSub,idx,← h]
theorem look_fl {o : List Int} {b : Blk} : ∀ i ∈ [1],∃ es rows,([b,.plain 1 (ints o)] : List Blk)[i]? = some (.plain es rows) := fun i hi => by
 simp at hi; subst hi; exact ⟨_,_,rfl⟩
theorem ok23 (g : Gra) (hg : Small g 100) (hsd : g.sound = true) : Ok Tryz.prog 23 [g.av] [] (.ret (.fv (.lst 1 (ints (g.those (Reach g)))))) [] := by
 have hso := g.sound_iff hsd
 rw [← refReach_those hso]
 have hnn := hso.nnonts
 have hnp := hso.nprods
 have htl := hso.terms_le
 have hterms := ok21 g hg.nrules
 refine ok_start (k := 77) (n0 := 0) (rs := [.tmp 2]) mix Tryz.func23 rfl rfl rfl rfl rfl rfl rfl ?_
 simp -implicitDefEqProofs only [Gra.av,
  evx,evy,ofValue,ofCell,List.range,List.range.loop,Array.size,Nat.reduceAdd,Nat.reduceSub,Nat.reduceEqDiff,List.replicate,if_true,if_false,↓reduceIte,reduceCtorEq,elB,evParts,Int.reduceToNat,Int.reduceLE,Int.reduceLT,Int.reduceEq,Nat.reduceMul,Nat.reduceLeDiff,Nat.reduceLT,ty3,ty4,ty9,ty22,ty23,ty24,ty25,ty27,ty36,ty45,ty41,ty43,ty56]
 refine callK_ret _ _ _ _ (call_pure (hterms) (fun _ => rfl) (fun _ => rfl)) (ok_nil _ _) ?_
 simp -implicitDefEqProofs only [Gra.cells,
  evx,evy,ofValue,ofCell,List.range,List.range.loop,Array.size,Nat.reduceAdd,Nat.reduceSub,Nat.reduceEqDiff,List.replicate,if_true,if_false,↓reduceIte,reduceCtorEq,elB,evParts,Int.reduceToNat,Int.reduceLE,Int.reduceLT,Int.reduceEq,Nat.reduceMul,Nat.reduceLeDiff,Nat.reduceLT,ty3,ty4,ty9,ty22,ty23,ty24,ty25,ty27,ty36,ty45,ty41,ty43,ty56]
 refine ite_st (n0 := 0) ⟨[.any,.ptr 0 0 0 0,.any,.fv (.int .i64 g.terms),.ref 1 1 0 (reach0 g).length,.fv (.int .i64 0),.any,.any,.any,.any,.any,.any,.any,.any,.any,.any,.any,.any,.any,.any,.any,.any,.any,.any,.any,.any,.any,.any,.any,.any,.any,.any,.any,.any,.any,.any,.any,.any,.any,.any,.any,.any,.any,.any,.any,.any,.any,.any,.any,.any,.any,.any,.any,.any,.any,.any,.any,.any,.any,.any,.any,.any,.any,.any,.any,.any,.any,.any,.any,.any,.any,.any,.any,.any,.any,.any,.any,.any],[.box g.cells,.plain 1 (ints (reach0 g))],[]⟩ (fun hp => ?_) (fun hp => ?_) (fun st0 hle0 => ?_)
 ·have e : reach0 g = [g.start] := by unfold reach0; rw [if_pos hp]
  rw [e]
  refine le_pk [0,2] rfl (by simp) (by simp) ?_ ?_
  ·simp [subBlk,subAny,subA,Gra.cells,ints]
  ·simp [wk,subAny,subA,mkSub,idx]
 ·have e : reach0 g = [] := by unfold reach0; rw [if_neg hp]
  rw [e]
  exact Le.trans (le_virt 4 1 rfl) (le_wk (by simp [wk,Gra.cells,ints]))
 refine loop_rule (fun x : Nat × List Int => ⟨[.any,.ptr 0 0 0 0,.any,.fv (.int .i64 g.terms),.ref 1 1 0 x.2.length,.fv (.int .i64 x.1),.any,.any,.any,.any,.any,.any,.any,.any,.any,.any,.any,.any,.any,.any,.any,.any,.any,.any,.any,.any,.any,.any,.any,.any,.any,.any,.any,.any,.any,.any,.any,.any,.any,.any,.any,.any,.any,.any,.any,.any,.any,.any,.any,.any,.any,.any,.any,.any,.any,.any,.any,.any,.any,.any,.any,.any,.any,.any,.any,.any,.any,.any,.any,.any,.any,.any,.any,.any,.any,.any,.any,.any],[.box g.cells,.plain 1 (ints x.2)],[]⟩)
  (fun x => x.1 ≤ g.nonts.length + 1 ∧ x.2 = iter (reachP g) x.1 (reach0 g) ∧ x.2.length ≤ 1 + x.1 * 400) (fun x => g.nonts.length + 1 - x.1) (0,reach0 g) hle0 ⟨by omega,rfl,by unfold reach0; split <;> simp⟩ (fun x hx s hs => ?_)
 obtain ⟨r,o⟩ := x
 obtain ⟨hr1,hro,hrl⟩ := hx
 simp only at hr1 hro hrl hs ⊢
 by_cases hrlt : (r : Int) ≤ (g.nonts.length : Int)
 ·have hrt : ((r : Int) ≤ (g.nonts.length : Int)) = True := by simpa using hrlt
  simp -implicitDefEqProofs only [Gra.cells,List.length_map,hrt,
  evx,evy,ofValue,ofCell,List.range,List.range.loop,Array.size,Nat.reduceAdd,Nat.reduceSub,Nat.reduceEqDiff,List.replicate,if_true,if_false,↓reduceIte,reduceCtorEq,elB,evParts,Int.reduceToNat,Int.reduceLE,Int.reduceLT,Int.reduceEq,Nat.reduceMul,Nat.reduceLeDiff,Nat.reduceLT,ty3,ty4,ty9,ty22,ty23,ty24,ty25,ty27,ty36,ty45,ty41,ty43,ty56]
  refine loop_rule (fun x : Nat × List Int => ⟨[.any,.ptr 0 0 0 0,.any,.fv (.int .i64 g.terms),.ref 1 1 0 x.2.length,.fv (.int .i64 r),.fv (.int .i64 x.1),.any,.any,.any,.any,.any,.any,.any,.any,.any,.any,.any,.any,.any,.any,.any,.any,.any,.any,.any,.any,.any,.any,.any,.any,.any,.any,.any,.any,.any,.any,.any,.any,.any,.any,.any,.any,.any,.any,.any,.any,.any,.any,.any,.any,.any,.any,.any,.any,.any,.any,.any,.any,.any,.any,.any,.any,.any,.any,.any,.any,.any,.any,.any,.any,.any,.any,.any,.any,.any,.any,.any],[.box g.cells,.plain 1 (ints x.2)],[]⟩)
   (fun x => x.1 ≤ g.prods.length ∧ x.2 = (prsOf (g.prods.take x.1)).foldl (adds (reachC g.terms)) o ∧ x.2.length ≤ 1 + r * 400 + x.1 * 8) (fun x => g.prods.length - x.1) (0,o) (le_wk (by simp [wk,Gra.cells])) ⟨by omega,rfl,by simp only; omega⟩ (fun x hx s2 hs2 => ?_)
  obtain ⟨i,o1⟩ := x
  obtain ⟨hi1,hio,hil⟩ := hx
  simp only at hi1 hio hil hs2 ⊢
  by_cases hilt : i < g.prods.length
  ·have hrow := rows_at Prd.row g.prods i hilt
   have hpr8 := (hso.prods _ (List.getElem_mem hilt)).2.2.1
   have hsucc := prsOf_succ hilt
   generalize g.prods[i] = p at hrow hpr8 hsucc
   simp -implicitDefEqProofs only [Gra.cells,List.length_map,lt_true hilt,
  evx,evy,ofValue,ofCell,List.range,List.range.loop,Array.size,Nat.reduceAdd,Nat.reduceSub,Nat.reduceEqDiff,List.replicate,if_true,if_false,↓reduceIte,reduceCtorEq,elB,evParts,Int.reduceToNat,Int.reduceLE,Int.reduceLT,Int.reduceEq,Nat.reduceMul,Nat.reduceLeDiff,Nat.reduceLT,ty3,ty4,ty9,ty22,ty23,ty24,ty25,ty27,ty36,ty45,ty41,ty43,ty56]
   refine loop_rule (fun x : Nat × List Int => ⟨[.any,.ptr 0 0 0 0,.any,.fv (.int .i64 g.terms),.ref 1 1 0 x.2.length,.fv (.int .i64 r),.fv (.int .i64 i),.fv (.int .i64 x.1),.any,.any,.any,.any,.any,.any,.any,.any,.any,.any,.any,.any,.any,.any,.any,.any,.any,.any,.any,.any,.any,.any,.any,.any,.any,.any,.any,.any,.any,.any,.any,.any,.any,.any,.any,.any,.any,.any,.any,.any,.any,.any,.any,.any,.any,.any,.any,.any,.any,.any,.any,.any,.any,.any,.any,.any,.any,.any,.any,.any,.any,.any,.any,.any,.any,.any,.any,.any,.any,.any],[.box g.cells,.plain 1 (ints x.2)],[]⟩)
    (fun x => x.1 ≤ p.right.length ∧ x.2 = ((p.right.map fun n => (p.left,n)).take x.1).foldl (adds (reachC g.terms)) o1 ∧ x.2.length ≤ 1 + r * 400 + i * 8 + x.1) (fun x => p.right.length - x.1) (0,o1) (le_wk (by simp [wk,Gra.cells])) ⟨by omega,rfl,by simp only; omega⟩ (fun x hx s3 hs3 => ?_)
   obtain ⟨k,o2⟩ := x
   obtain ⟨hk1,hko,hkl⟩ := hx
   simp only at hk1 hko hkl hs3 ⊢
   by_cases hklt : k < p.right.length
   ·have hrow2 := rows_at iRow p.right k hklt
    have hpl : k < (p.right.map fun n => (p.left,n)).length := by simpa using hklt
    have hstep := foldl_take_succ (adds (reachC g.terms)) (p.right.map fun n => (p.left,n)) o1 hpl
    rw [← hko,List.getElem_map] at hstep
    generalize p.right[k] = n at hrow2 hstep
    have hal := adds_len (reachC g.terms) o2 (p.left,n)
    have hadd : adds (reachC g.terms) o2 (p.left,n) = if (g.terms : Int) < n ∧ p.left ∈ o2 ∧ n ∉ o2 then o2 ++ [n] else o2 := by
     unfold adds reachC
     by_cases h : (g.terms : Int) < n ∧ p.left ∈ o2 ∧ n ∉ o2
     ·rw [if_pos h,if_pos h]
     ·rw [if_neg h,if_neg h]
    rw [hadd] at hstep
    have hol := ints_length o2
    have hh1 := ok24 o2 p.left (by omega)
    have hh2 := ok24 o2 n (by omega)
    by_cases c1 : (g.terms : Int) < n
    ·have c1t : ((g.terms : Int) < n) = True := by simpa using c1
     by_cases c2 : p.left ∈ o2
     ·rw [decide_eq_true c2] at hh1
      by_cases c3 : n ∈ o2
      ·rw [decide_eq_true c3] at hh2
       rw [if_neg (fun h => h.2.2 c3)] at hstep
       simp -implicitDefEqProofs only [Gra.cells,List.length_map,hrow,Prd.row,lt_true hilt,lt_true hklt,hrow2,iRow,c1t,
  evx,evy,ofValue,ofCell,List.range,List.range.loop,Array.size,Nat.reduceAdd,Nat.reduceSub,Nat.reduceEqDiff,List.replicate,if_true,if_false,↓reduceIte,reduceCtorEq,elB,evParts,Int.reduceToNat,Int.reduceLE,Int.reduceLT,Int.reduceEq,Nat.reduceMul,Nat.reduceLeDiff,Nat.reduceLT,ty3,ty4,ty9,ty22,ty23,ty24,ty25,ty27,ty36,ty45,ty41,ty43,ty56]
       refine callK_ret _ _ _ _ (call_look [1] hh1 look_ints2 look_fl rfl) (ok_nil _ _) ?_
       simp -implicitDefEqProofs only [evx,evy,ofValue,ofCell,List.range,List.range.loop,Array.size,Nat.reduceAdd,Nat.reduceSub,Nat.reduceEqDiff,List.replicate,if_true,if_false,↓reduceIte,reduceCtorEq,elB,evParts,Int.reduceToNat,Int.reduceLE,Int.reduceLT,Int.reduceEq,Nat.reduceMul,Nat.reduceLeDiff,Nat.reduceLT,ty3,ty4,ty9,ty22,ty23,ty24,ty25,ty27,ty36,ty45,ty41,ty43,ty56]
       refine callK_ret _ _ _ _ (call_look [1] hh2 look_ints2 look_fl rfl) (ok_nil _ _) ?_
       simp -implicitDefEqProofs only [wsucc k (by omega),
  evx,evy,ofValue,ofCell,List.range,List.range.loop,Array.size,Nat.reduceAdd,Nat.reduceSub,Nat.reduceEqDiff,List.replicate,if_true,if_false,↓reduceIte,reduceCtorEq,elB,evParts,Int.reduceToNat,Int.reduceLE,Int.reduceLT,Int.reduceEq,Nat.reduceMul,Nat.reduceLeDiff,Nat.reduceLT,ty3,ty4,ty9,ty22,ty23,ty24,ty25,ty27,ty36,ty45,ty41,ty43,ty56]
       exact back_intro hs3 (k + 1,o2) (le_wk (by simp [wk,Gra.cells])) ⟨by simp only; omega,hstep.symm,by simp only; omega⟩ (by simp only; omega)
      ·rw [decide_eq_false c3] at hh2
       rw [if_pos ⟨c1,c2,c3⟩] at hstep
       simp -implicitDefEqProofs only [Gra.cells,List.length_map,hrow,Prd.row,lt_true hilt,lt_true hklt,hrow2,iRow,c1t,
  evx,evy,ofValue,ofCell,List.range,List.range.loop,Array.size,Nat.reduceAdd,Nat.reduceSub,Nat.reduceEqDiff,List.replicate,if_true,if_false,↓reduceIte,reduceCtorEq,elB,evParts,Int.reduceToNat,Int.reduceLE,Int.reduceLT,Int.reduceEq,Nat.reduceMul,Nat.reduceLeDiff,Nat.reduceLT,ty3,ty4,ty9,ty22,ty23,ty24,ty25,ty27,ty36,ty45,ty41,ty43,ty56]
       refine callK_ret _ _ _ _ (call_look [1] hh1 look_ints2 look_fl rfl) (ok_nil _ _) ?_
       simp -implicitDefEqProofs only [evx,evy,ofValue,ofCell,List.range,List.range.loop,Array.size,Nat.reduceAdd,Nat.reduceSub,Nat.reduceEqDiff,List.replicate,if_true,if_false,↓reduceIte,reduceCtorEq,elB,evParts,Int.reduceToNat,Int.reduceLE,Int.reduceLT,Int.reduceEq,Nat.reduceMul,Nat.reduceLeDiff,Nat.reduceLT,ty3,ty4,ty9,ty22,ty23,ty24,ty25,ty27,ty36,ty45,ty41,ty43,ty56]
       refine callK_ret _ _ _ _ (call_look [1] hh2 look_ints2 look_fl rfl) (ok_nil _ _) ?_
       simp -implicitDefEqProofs only [wsucc k (by omega),
  evx,evy,ofValue,ofCell,List.range,List.range.loop,Array.size,Nat.reduceAdd,Nat.reduceSub,Nat.reduceEqDiff,List.replicate,if_true,if_false,↓reduceIte,reduceCtorEq,elB,evParts,Int.reduceToNat,Int.reduceLE,Int.reduceLT,Int.reduceEq,Nat.reduceMul,Nat.reduceLeDiff,Nat.reduceLT,ty3,ty4,ty9,ty22,ty23,ty24,ty25,ty27,ty36,ty45,ty41,ty43,ty56]
       refine ⟨⟨by omega,by omega⟩,back_intro hs3 (k + 1,o2 ++ [n]) (le_pk [0,3] rfl (by simp) (by simp) ?_ ?_) ⟨by simp only; omega,hstep.symm,by simp only [List.length_append,List.length_cons,List.length_nil]; omega⟩ (by simp only; omega)⟩
       ·have e : List.take o2.length (ints o2) ++ [[FV.int IntKind.i64 n]] = ints (o2 ++ [n]) := by
         rw [← hol,List.take_length,ints_append]; rfl
        rw [e]
        simp [subBlk,subAny,subA,Gra.cells]
       ·simp [wk,subAny,subA,mkSub,idx]
     ·rw [decide_eq_false c2] at hh1
      rw [if_neg (fun h => c2 h.2.1)] at hstep
      simp -implicitDefEqProofs only [Gra.cells,List.length_map,hrow,Prd.row,lt_true hilt,lt_true hklt,hrow2,iRow,c1t,
  evx,evy,ofValue,ofCell,List.range,List.range.loop,Array.size,Nat.reduceAdd,Nat.reduceSub,Nat.reduceEqDiff,List.replicate,if_true,if_false,↓reduceIte,reduceCtorEq,elB,evParts,Int.reduceToNat,Int.reduceLE,Int.reduceLT,Int.reduceEq,Nat.reduceMul,Nat.reduceLeDiff,Nat.reduceLT,ty3,ty4,ty9,ty22,ty23,ty24,ty25,ty27,ty36,ty45,ty41,ty43,ty56]
      refine callK_ret _ _ _ _ (call_look [1] hh1 look_ints2 look_fl rfl) (ok_nil _ _) ?_
      simp -implicitDefEqProofs only [wsucc k (by omega),
  evx,evy,ofValue,ofCell,List.range,List.range.loop,Array.size,Nat.reduceAdd,Nat.reduceSub,Nat.reduceEqDiff,List.replicate,if_true,if_false,↓reduceIte,reduceCtorEq,elB,evParts,Int.reduceToNat,Int.reduceLE,Int.reduceLT,Int.reduceEq,Nat.reduceMul,Nat.reduceLeDiff,Nat.reduceLT,ty3,ty4,ty9,ty22,ty23,ty24,ty25,ty27,ty36,ty45,ty41,ty43,ty56]
      exact back_intro hs3 (k + 1,o2) (le_wk (by simp [wk,Gra.cells])) ⟨by simp only; omega,hstep.symm,by simp only; omega⟩ (by simp only; omega)
    ·have c1t : ((g.terms : Int) < n) = False := by simpa using c1
     rw [if_neg (fun h => c1 h.1)] at hstep
     simp -implicitDefEqProofs only [Gra.cells,List.length_map,hrow,Prd.row,lt_true hilt,lt_true hklt,hrow2,iRow,c1t,wsucc k (by omega),
  evx,evy,ofValue,ofCell,List.range,List.range.loop,Array.size,Nat.reduceAdd,Nat.reduceSub,Nat.reduceEqDiff,List.replicate,if_true,if_false,↓reduceIte,reduceCtorEq,elB,evParts,Int.reduceToNat,Int.reduceLE,Int.reduceLT,Int.reduceEq,Nat.reduceMul,Nat.reduceLeDiff,Nat.reduceLT,ty3,ty4,ty9,ty22,ty23,ty24,ty25,ty27,ty36,ty45,ty41,ty43,ty56]
     exact back_intro hs3 (k + 1,o2) (le_wk (by simp [wk,Gra.cells])) ⟨by simp only; omega,hstep.symm,by simp only; omega⟩ (by simp only; omega)
   ·obtain rfl : k = p.right.length := by omega
    rw [List.take_of_length_le (by simp)] at hko
    simp -implicitDefEqProofs only [Gra.cells,List.length_map,hrow,Prd.row,lt_true hilt,lt_false hklt,wsucc i (by omega),
  evx,evy,ofValue,ofCell,List.range,List.range.loop,Array.size,Nat.reduceAdd,Nat.reduceSub,Nat.reduceEqDiff,List.replicate,if_true,if_false,↓reduceIte,reduceCtorEq,elB,evParts,Int.reduceToNat,Int.reduceLE,Int.reduceLT,Int.reduceEq,Nat.reduceMul,Nat.reduceLeDiff,Nat.reduceLT,ty3,ty4,ty9,ty22,ty23,ty24,ty25,ty27,ty36,ty45,ty41,ty43,ty56]
    exact back_intro hs2 (i + 1,o2) (le_wk (by simp [wk,Gra.cells])) ⟨by simp only; omega,by simp only; rw [hsucc,List.foldl_append,← hio,← hko],by simp only; omega⟩ (by simp only; omega)
  ·obtain rfl : i = g.prods.length := by omega
   rw [List.take_length] at hio
   simp -implicitDefEqProofs only [Gra.cells,List.length_map,lt_false hilt,wsucc r (by omega),
  evx,evy,ofValue,ofCell,List.range,List.range.loop,Array.size,Nat.reduceAdd,Nat.reduceSub,Nat.reduceEqDiff,List.replicate,if_true,if_false,↓reduceIte,reduceCtorEq,elB,evParts,Int.reduceToNat,Int.reduceLE,Int.reduceLT,Int.reduceEq,Nat.reduceMul,Nat.reduceLeDiff,Nat.reduceLT,ty3,ty4,ty9,ty22,ty23,ty24,ty25,ty27,ty36,ty45,ty41,ty43,ty56]
   exact back_intro hs (r + 1,o1) (le_wk (by simp [wk,Gra.cells])) ⟨by simp only; omega,by simp only; rw [iter_succ,← hro]; exact hio,by simp only; omega⟩ (by simp only; omega)
 ·obtain rfl : r = g.nonts.length + 1 := by omega
  have hrt : (((g.nonts.length + 1 : Nat) : Int) ≤ (g.nonts.length : Int)) = False := by simpa using hrlt
  have ho : o = refReach g := hro
  have hol := ints_length o
  have hof := ok27 o (by omega)
  rw [← ho]
  simp -implicitDefEqProofs only [Gra.cells,List.length_map,hrt,
  evx,evy,ofValue,ofCell,List.range,List.range.loop,Array.size,Nat.reduceAdd,Nat.reduceSub,Nat.reduceEqDiff,List.replicate,if_true,if_false,↓reduceIte,reduceCtorEq,elB,evParts,Int.reduceToNat,Int.reduceLE,Int.reduceLT,Int.reduceEq,Nat.reduceMul,Nat.reduceLeDiff,Nat.reduceLT,ty3,ty4,ty9,ty22,ty23,ty24,ty25,ty27,ty36,ty45,ty41,ty43,ty56]
  refine callK_ret _ _ _ _ (call_freeze (args' := [.fv (.lst 1 (ints o))]) [1] (by simp) (by simp [subAny,subA,frzSub,← hol]) rfl
   (call_pure hof (fun _ => rfl) (fun _ => rfl)) [1] (by simp) (by simp) (fun i hi hl => by
    have : i = 0 := by simp at hi hl; omega
    subst this; simp [freezeSt,killAll,subBlk,subAny,subA,Gra.cells])) (ok_none _ _) ?_
  simp -implicitDefEqProofs only [subAny,subA,subL,backSub,back,putBack,subBlk,Option.getD_some,List.map_cons,List.map_nil,Nat.not_lt_zero,Nat.sub_zero,Nat.add_zero,List.length_map,freezeSt,
  evx,evy,ofValue,ofCell,List.range,List.range.loop,Array.size,Nat.reduceAdd,Nat.reduceSub,Nat.reduceEqDiff,List.replicate,if_true,if_false,↓reduceIte,reduceCtorEq,elB,evParts,Int.reduceToNat,Int.reduceLE,Int.reduceLT,Int.reduceEq,Nat.reduceMul,Nat.reduceLeDiff,Nat.reduceLT,ty3,ty4,ty9,ty22,ty23,ty24,ty25,ty27,ty36,ty45,ty41,ty43,ty56]
  exact le_to [] [] rfl (by simp) (by simp) (by simp) (by simp) rfl
end Go.Abs
/- What ends: the document's answer. -/
namespace Go.Abs
open Go.Proofs
set_option linter.unusedVariables false
set_option linter.unusedSimpArgs false
set_option maxRecDepth 100000
set_option maxHeartbeats 4000000
end Go.Abs
/- What ends: the program's answer. -/
namespace Go.Abs
open Go.Proofs
set_option linter.unusedVariables false
set_option linter.unusedSimpArgs false
set_option maxRecDepth 100000
set_option maxHeartbeats 4000000
theorem sorted_those {g : Gra} {Q : Int → Prop} {o : List Int} (hnd : o.Nodup) (hm : ∀ n,n ∈ o ↔ ((g.terms : Int) < n ∧ n ≤ (g.all : Int)) ∧ Q n) : sorted o = g.those Q := by
 have hp : (sorted o).Perm o := List.mergeSort_perm _ _
 have hn2 : (sorted o).Nodup := hp.nodup_iff.2 hnd
 refine rises_unique _ _ ?_ (g.those_rises Q) fun n => by rw [mem_sorted,hm,g.mem_those]
 exact (List.Pairwise.and (sorted_rises o) hn2).imp fun h => by
  have h1 := h.1
  have h2 := h.2
  omega
end Go.Abs
