/- What is reached, and what ends: the document's answers. -/
import Derived.Test.YtnhghoonlmoinaaGreatTyTryzi
import Derived.Test.YtnhghoonlmoinaaGreatDrTryzi
import Derived.Test.YtnhghoonlmoinaaGreatAbsZ
import Derived.Test.YtnhghoonlmoinaaGreatTopGi
import Derived.Test.YtnhghoonlmoinaaGreatTopC
import Derived.Test.YtnhghoonlmoinaaGreatZopHi
import Derived.Test.YtnhghoonlmoinaaGreatAbsW
import Derived.Test.YtnhghoonlmoinaaGreatCkKi
import Derived.Test.YtnhghoonlmoinaaGreatCkGi
namespace Go.Abs
set_option linter.unusedSectionVars false
variable [Kn]
open Go.Proofs
set_option linter.unusedVariables false
set_option linter.unusedSimpArgs false
set_option maxRecDepth 100000
set_option maxHeartbeats 4000000
theorem foldl_take_succ {α β : Type} (f : β → α → β) (l : List α) (b : β) {i : Nat} (hi : i < l.length) : (l.take (i + 1)).foldl f b = f ((l.take i).foldl f b) l[i] := by
 rw [List.take_add_one,List.getElem?_eq_getElem hi,List.foldl_append]
 rfl
theorem iter_succ {α : Type} (f : α → α) : ∀ (n : Nat) (x : α),iter f (n + 1) x = f (iter f n x)
 | 0,_ => rfl
 | n + 1,x => by rw [iter,iter_succ f n (f x)]; rfl
theorem look_ints2 {o : List Int} {x : Int} {b : Blk} : [AV.ref 1 1 0 o.length,.fv (.int .i64 x)].map (subAny (mkSub [] [1] [b,.plain 1 (ints o)])) = [.fv (.lst 1 (ints o)),.fv (.int .i64 x)] := by
 have h := ints_length o
 simp [subAny,subA,mkSub,idx,← h]
theorem look_fl {o : List Int} {b : Blk} : ∀ i ∈ [1],∃ es rows,([b,.plain 1 (ints o)] : List Blk)[i]? = some (.plain es rows) := fun i hi => by
 simp at hi; subst hi; exact ⟨_,_,rfl⟩
end Go.Abs
/- What ends: the document's answer. -/
namespace Go.Abs
set_option linter.unusedSectionVars false
variable [Kn]
open Go.Proofs
set_option linter.unusedVariables false
set_option linter.unusedSimpArgs false
set_option maxRecDepth 100000
set_option maxHeartbeats 4000000
def shutB (T : Nat) (o : List Int) (n : Int) : Bool := decide (n ≤ (T : Int)) || decide (n ∈ o)
theorem endsC_eq (T : Nat) (o : List Int) (p : Prd) : adds (endsC T) o p = if p.right.all (shutB T o) = true ∧ p.left ∉ o then o ++ [p.left] else o := by
 have e : (p.right.all (shutB T o) = true) ↔ (∀ n ∈ p.right,n ≤ (T : Int) ∨ n ∈ o) := by simp [shutB]
 unfold adds endsC
 by_cases h : (∀ n ∈ p.right,n ≤ (T : Int) ∨ n ∈ o) ∧ p.left ∉ o
 ·rw [if_pos h,if_pos ⟨e.2 h.1,h.2⟩]
 ·rw [if_neg h,if_neg fun h2 => h ⟨e.1 h2.1,h2.2⟩]
theorem all_take_succ {α : Type} (p : α → Bool) (l : List α) {i : Nat} (h : i < l.length) : (l.take (i + 1)).all p = ((l.take i).all p && p l[i]) := by
 rw [List.take_add_one,List.getElem?_eq_getElem h,List.all_append]
 simp
theorem ok59 (g : Gra) (hg : Small g 100) (hsd : g.sound = true) : Ok Tryz.prog 59 [g.av] [] (.ret (.fv (.lst 1 (ints (g.those (Ended g)))))) [] := by
 have hso := g.sound_iff hsd
 rw [← Gra.ends_those hso (refEnds_mem hso)]
 have hnn := hso.nnonts
 have hnp := hso.nprods
 have htl := hso.terms_le
 have hterms := ok20 g hg.nrules
 refine ok_start (k := 79) (n0 := 0) (rs := [.tmp 2]) mix Tryz.func59 rfl rfl rfl rfl rfl rfl rfl ?_
 simp -implicitDefEqProofs only [Gra.av,
  evx,evy,ofValue,ofCell,List.range,List.range.loop,Array.size,Nat.reduceAdd,Nat.reduceSub,Nat.reduceEqDiff,List.replicate,if_true,if_false,↓reduceIte,reduceCtorEq,elB,evParts,Int.reduceToNat,Int.reduceLE,Int.reduceLT,Int.reduceEq,Nat.reduceMul,Nat.reduceLeDiff,Nat.reduceLT,ty3,ty4,ty9,ty22,ty23,ty24,ty25,ty27,ty28,ty63,ty59,ty61,ty127]
 refine callK_ret _ _ _ _ (call_pure (hterms) (fun _ => rfl) (fun _ => rfl)) (ok_nil _ _) ?_
 simp -implicitDefEqProofs only [Gra.cells,
  evx,evy,ofValue,ofCell,List.range,List.range.loop,Array.size,Nat.reduceAdd,Nat.reduceSub,Nat.reduceEqDiff,List.replicate,if_true,if_false,↓reduceIte,reduceCtorEq,elB,evParts,Int.reduceToNat,Int.reduceLE,Int.reduceLT,Int.reduceEq,Nat.reduceMul,Nat.reduceLeDiff,Nat.reduceLT,ty3,ty4,ty9,ty22,ty23,ty24,ty25,ty27,ty28,ty63,ty59,ty61,ty127]
 refine loop_rule (fun x : Nat × List Int => ⟨[.any,.ptr 0 0 0 0,.any,.fv (.int .i64 g.terms),.ref 1 1 0 x.2.length,.fv (.int .i64 x.1),.any,.any,.any,.any,.any,.any,.any,.any,.any,.any,.any,.any,.any,.any,.any,.any,.any,.any,.any,.any,.any,.any,.any,.any,.any,.any,.any,.any,.any,.any,.any,.any,.any,.any,.any,.any,.any,.any,.any,.any,.any,.any,.any,.any,.any,.any,.any,.any,.any,.any,.any,.any,.any,.any,.any,.any,.any,.any,.any,.any,.any,.any,.any,.any,.any,.any,.any,.any,.any,.any,.any,.any,.any,.any],[.box g.cells,.plain 1 (ints x.2)],[]⟩)
  (fun x => x.1 ≤ g.nonts.length + 1 ∧ x.2 = iter (endsP g) x.1 [] ∧ x.2.length ≤ x.1 * 50) (fun x => g.nonts.length + 1 - x.1) (0,[]) (Le.trans (le_virt 4 1 rfl) (le_wk (by simp [wk,Gra.cells,ints]))) ⟨by omega,rfl,by simp⟩ (fun x hx s hs => ?_)
 obtain ⟨r,o⟩ := x
 obtain ⟨hr1,hro,hrl⟩ := hx
 simp only at hr1 hro hrl hs ⊢
 by_cases hrlt : (r : Int) ≤ (g.nonts.length : Int)
 ·have hrt : ((r : Int) ≤ (g.nonts.length : Int)) = True := by simpa using hrlt
  simp -implicitDefEqProofs only [Gra.cells,List.length_map,hrt,
  evx,evy,ofValue,ofCell,List.range,List.range.loop,Array.size,Nat.reduceAdd,Nat.reduceSub,Nat.reduceEqDiff,List.replicate,if_true,if_false,↓reduceIte,reduceCtorEq,elB,evParts,Int.reduceToNat,Int.reduceLE,Int.reduceLT,Int.reduceEq,Nat.reduceMul,Nat.reduceLeDiff,Nat.reduceLT,ty3,ty4,ty9,ty22,ty23,ty24,ty25,ty27,ty28,ty63,ty59,ty61,ty127]
  refine loop_rule (fun x : Nat × List Int => ⟨[.any,.ptr 0 0 0 0,.any,.fv (.int .i64 g.terms),.ref 1 1 0 x.2.length,.fv (.int .i64 r),.fv (.int .i64 x.1),.any,.any,.any,.any,.any,.any,.any,.any,.any,.any,.any,.any,.any,.any,.any,.any,.any,.any,.any,.any,.any,.any,.any,.any,.any,.any,.any,.any,.any,.any,.any,.any,.any,.any,.any,.any,.any,.any,.any,.any,.any,.any,.any,.any,.any,.any,.any,.any,.any,.any,.any,.any,.any,.any,.any,.any,.any,.any,.any,.any,.any,.any,.any,.any,.any,.any,.any,.any,.any,.any,.any,.any,.any],[.box g.cells,.plain 1 (ints x.2)],[]⟩)
   (fun x => x.1 ≤ g.prods.length ∧ x.2 = (g.prods.take x.1).foldl (adds (endsC g.terms)) o ∧ x.2.length ≤ r * 50 + x.1) (fun x => g.prods.length - x.1) (0,o) (le_wk (by simp [wk,Gra.cells])) ⟨by omega,rfl,by simp only; omega⟩ (fun x hx s2 hs2 => ?_)
  obtain ⟨i,o1⟩ := x
  obtain ⟨hi1,hio,hil⟩ := hx
  simp only at hi1 hio hil hs2 ⊢
  by_cases hilt : i < g.prods.length
  ·have hrow := rows_at Prd.row g.prods i hilt
   have hpr8 := (hso.prods _ (List.getElem_mem hilt)).2.2.1
   have hstep := foldl_take_succ (adds (endsC g.terms)) g.prods o hilt
   rw [← hio] at hstep
   generalize g.prods[i] = p at hrow hpr8 hstep
   rw [endsC_eq] at hstep
   have hol := ints_length o1
   have hh1 := ok19 o1 p.left (by omega)
   simp -implicitDefEqProofs only [Gra.cells,List.length_map,lt_true hilt,
  evx,evy,ofValue,ofCell,List.range,List.range.loop,Array.size,Nat.reduceAdd,Nat.reduceSub,Nat.reduceEqDiff,List.replicate,if_true,if_false,↓reduceIte,reduceCtorEq,elB,evParts,Int.reduceToNat,Int.reduceLE,Int.reduceLT,Int.reduceEq,Nat.reduceMul,Nat.reduceLeDiff,Nat.reduceLT,ty3,ty4,ty9,ty22,ty23,ty24,ty25,ty27,ty28,ty63,ty59,ty61,ty127]
   refine loop_rule (fun k : Nat => ⟨[.any,.ptr 0 0 0 0,.any,.fv (.int .i64 g.terms),.ref 1 1 0 o1.length,.fv (.int .i64 r),.fv (.int .i64 i),.fv (.bool ((p.right.take k).all (shutB g.terms o1))),.fv (.int .i64 k),.any,.any,.any,.any,.any,.any,.any,.any,.any,.any,.any,.any,.any,.any,.any,.any,.any,.any,.any,.any,.any,.any,.any,.any,.any,.any,.any,.any,.any,.any,.any,.any,.any,.any,.any,.any,.any,.any,.any,.any,.any,.any,.any,.any,.any,.any,.any,.any,.any,.any,.any,.any,.any,.any,.any,.any,.any,.any,.any,.any,.any,.any,.any,.any,.any,.any,.any,.any,.any,.any,.any],[.box g.cells,.plain 1 (ints o1)],[]⟩)
    (fun k => k ≤ p.right.length) (fun k => p.right.length - k) 0 (le_wk (by simp [wk,Gra.cells])) (by simp) (fun k hk1 s3 hs3 => ?_)
   by_cases hklt : k < p.right.length
   ·have hrow2 := rows_at iRow p.right k hklt
    have hall := all_take_succ (shutB g.terms o1) p.right hklt
    generalize p.right[k] = n at hrow2 hall
    have hh2 := ok19 o1 n (by omega)
    cases hb : (p.right.take k).all (shutB g.terms o1) with
    | false =>
     rw [hb,Bool.false_and] at hall
     simp -implicitDefEqProofs only [Gra.cells,List.length_map,hrow,Prd.row,lt_true hilt,lt_true hklt,hrow2,iRow,wsucc k (by omega),
  evx,evy,ofValue,ofCell,List.range,List.range.loop,Array.size,Nat.reduceAdd,Nat.reduceSub,Nat.reduceEqDiff,List.replicate,if_true,if_false,↓reduceIte,reduceCtorEq,elB,evParts,Int.reduceToNat,Int.reduceLE,Int.reduceLT,Int.reduceEq,Nat.reduceMul,Nat.reduceLeDiff,Nat.reduceLT,ty3,ty4,ty9,ty22,ty23,ty24,ty25,ty27,ty28,ty63,ty59,ty61,ty127]
     exact back_intro hs3 (k + 1) (le_wk (by simp [wk,Gra.cells,hall])) (by omega) (by omega)
    | true =>
     rw [hb,Bool.true_and] at hall
     by_cases c1 : n ≤ (g.terms : Int)
     ·have c1t : (n ≤ (g.terms : Int)) = True := by simpa using c1
      have hsb : shutB g.terms o1 n = true := by unfold shutB; rw [decide_eq_true c1]; rfl
      rw [hsb] at hall
      simp -implicitDefEqProofs only [Gra.cells,List.length_map,hrow,Prd.row,lt_true hilt,lt_true hklt,hrow2,iRow,c1t,wsucc k (by omega),
  evx,evy,ofValue,ofCell,List.range,List.range.loop,Array.size,Nat.reduceAdd,Nat.reduceSub,Nat.reduceEqDiff,List.replicate,if_true,if_false,↓reduceIte,reduceCtorEq,elB,evParts,Int.reduceToNat,Int.reduceLE,Int.reduceLT,Int.reduceEq,Nat.reduceMul,Nat.reduceLeDiff,Nat.reduceLT,ty3,ty4,ty9,ty22,ty23,ty24,ty25,ty27,ty28,ty63,ty59,ty61,ty127]
      exact back_intro hs3 (k + 1) (le_wk (by simp [wk,Gra.cells,hall])) (by omega) (by omega)
     ·have c1t : (n ≤ (g.terms : Int)) = False := by simpa using c1
      have hsb : shutB g.terms o1 n = decide (n ∈ o1) := by unfold shutB; rw [decide_eq_false c1]; rfl
      rw [hsb] at hall
      simp -implicitDefEqProofs only [Gra.cells,List.length_map,hrow,Prd.row,lt_true hilt,lt_true hklt,hrow2,iRow,c1t,
  evx,evy,ofValue,ofCell,List.range,List.range.loop,Array.size,Nat.reduceAdd,Nat.reduceSub,Nat.reduceEqDiff,List.replicate,if_true,if_false,↓reduceIte,reduceCtorEq,elB,evParts,Int.reduceToNat,Int.reduceLE,Int.reduceLT,Int.reduceEq,Nat.reduceMul,Nat.reduceLeDiff,Nat.reduceLT,ty3,ty4,ty9,ty22,ty23,ty24,ty25,ty27,ty28,ty63,ty59,ty61,ty127]
      refine callK_ret _ _ _ _ (call_look [1] hh2 look_ints2 look_fl rfl) (ok_nil _ _) ?_
      simp -implicitDefEqProofs only [wsucc k (by omega),
  evx,evy,ofValue,ofCell,List.range,List.range.loop,Array.size,Nat.reduceAdd,Nat.reduceSub,Nat.reduceEqDiff,List.replicate,if_true,if_false,↓reduceIte,reduceCtorEq,elB,evParts,Int.reduceToNat,Int.reduceLE,Int.reduceLT,Int.reduceEq,Nat.reduceMul,Nat.reduceLeDiff,Nat.reduceLT,ty3,ty4,ty9,ty22,ty23,ty24,ty25,ty27,ty28,ty63,ty59,ty61,ty127]
      exact back_intro hs3 (k + 1) (le_wk (by simp [wk,Gra.cells,hall])) (by omega) (by omega)
   ·obtain rfl : k = p.right.length := by omega
    rw [List.take_length]
    cases hb : p.right.all (shutB g.terms o1) with
    | false =>
     rw [hb,if_neg (by simp)] at hstep
     simp -implicitDefEqProofs only [Gra.cells,List.length_map,hrow,Prd.row,lt_true hilt,lt_false hklt,wsucc i (by omega),
  evx,evy,ofValue,ofCell,List.range,List.range.loop,Array.size,Nat.reduceAdd,Nat.reduceSub,Nat.reduceEqDiff,List.replicate,if_true,if_false,↓reduceIte,reduceCtorEq,elB,evParts,Int.reduceToNat,Int.reduceLE,Int.reduceLT,Int.reduceEq,Nat.reduceMul,Nat.reduceLeDiff,Nat.reduceLT,ty3,ty4,ty9,ty22,ty23,ty24,ty25,ty27,ty28,ty63,ty59,ty61,ty127]
     exact back_intro hs2 (i + 1,o1) (le_wk (by simp [wk,Gra.cells])) ⟨by simp only; omega,hstep.symm,by simp only; omega⟩ (by simp only; omega)
    | true =>
     by_cases c2 : p.left ∈ o1
     ·rw [decide_eq_true c2] at hh1
      rw [if_neg (fun h => h.2 c2)] at hstep
      simp -implicitDefEqProofs only [Gra.cells,List.length_map,hrow,Prd.row,lt_true hilt,lt_false hklt,
  evx,evy,ofValue,ofCell,List.range,List.range.loop,Array.size,Nat.reduceAdd,Nat.reduceSub,Nat.reduceEqDiff,List.replicate,if_true,if_false,↓reduceIte,reduceCtorEq,elB,evParts,Int.reduceToNat,Int.reduceLE,Int.reduceLT,Int.reduceEq,Nat.reduceMul,Nat.reduceLeDiff,Nat.reduceLT,ty3,ty4,ty9,ty22,ty23,ty24,ty25,ty27,ty28,ty63,ty59,ty61,ty127]
      refine callK_ret _ _ _ _ (call_look [1] hh1 look_ints2 look_fl rfl) (ok_nil _ _) ?_
      simp -implicitDefEqProofs only [wsucc i (by omega),
  evx,evy,ofValue,ofCell,List.range,List.range.loop,Array.size,Nat.reduceAdd,Nat.reduceSub,Nat.reduceEqDiff,List.replicate,if_true,if_false,↓reduceIte,reduceCtorEq,elB,evParts,Int.reduceToNat,Int.reduceLE,Int.reduceLT,Int.reduceEq,Nat.reduceMul,Nat.reduceLeDiff,Nat.reduceLT,ty3,ty4,ty9,ty22,ty23,ty24,ty25,ty27,ty28,ty63,ty59,ty61,ty127]
      exact back_intro hs2 (i + 1,o1) (le_wk (by simp [wk,Gra.cells])) ⟨by simp only; omega,hstep.symm,by simp only; omega⟩ (by simp only; omega)
     ·rw [decide_eq_false c2] at hh1
      rw [if_pos ⟨hb,c2⟩] at hstep
      simp -implicitDefEqProofs only [Gra.cells,List.length_map,hrow,Prd.row,lt_true hilt,lt_false hklt,
  evx,evy,ofValue,ofCell,List.range,List.range.loop,Array.size,Nat.reduceAdd,Nat.reduceSub,Nat.reduceEqDiff,List.replicate,if_true,if_false,↓reduceIte,reduceCtorEq,elB,evParts,Int.reduceToNat,Int.reduceLE,Int.reduceLT,Int.reduceEq,Nat.reduceMul,Nat.reduceLeDiff,Nat.reduceLT,ty3,ty4,ty9,ty22,ty23,ty24,ty25,ty27,ty28,ty63,ty59,ty61,ty127]
      refine callK_ret _ _ _ _ (call_look [1] hh1 look_ints2 look_fl rfl) (ok_nil _ _) ?_
      simp -implicitDefEqProofs only [Gra.cells,List.length_map,hrow,Prd.row,lt_true hilt,wsucc i (by omega),
  evx,evy,ofValue,ofCell,List.range,List.range.loop,Array.size,Nat.reduceAdd,Nat.reduceSub,Nat.reduceEqDiff,List.replicate,if_true,if_false,↓reduceIte,reduceCtorEq,elB,evParts,Int.reduceToNat,Int.reduceLE,Int.reduceLT,Int.reduceEq,Nat.reduceMul,Nat.reduceLeDiff,Nat.reduceLT,ty3,ty4,ty9,ty22,ty23,ty24,ty25,ty27,ty28,ty63,ty59,ty61,ty127]
      refine ⟨⟨by omega,by omega⟩,back_intro hs2 (i + 1,o1 ++ [p.left]) (le_pk [0,3] rfl (by simp) (by simp) ?_ ?_) ⟨by simp only; omega,hstep.symm,by simp only [List.length_append,List.length_cons,List.length_nil]; omega⟩ (by simp only; omega)⟩
      ·have e : List.take o1.length (ints o1) ++ [[FV.int IntKind.i64 p.left]] = ints (o1 ++ [p.left]) := by
        rw [← hol,List.take_length,ints_append]; rfl
       rw [e]
       simp [subBlk,subAny,subA,Gra.cells]
      ·simp [wk,subAny,subA,mkSub,idx]
  ·obtain rfl : i = g.prods.length := by omega
   rw [List.take_length] at hio
   simp -implicitDefEqProofs only [Gra.cells,List.length_map,lt_false hilt,wsucc r (by omega),
  evx,evy,ofValue,ofCell,List.range,List.range.loop,Array.size,Nat.reduceAdd,Nat.reduceSub,Nat.reduceEqDiff,List.replicate,if_true,if_false,↓reduceIte,reduceCtorEq,elB,evParts,Int.reduceToNat,Int.reduceLE,Int.reduceLT,Int.reduceEq,Nat.reduceMul,Nat.reduceLeDiff,Nat.reduceLT,ty3,ty4,ty9,ty22,ty23,ty24,ty25,ty27,ty28,ty63,ty59,ty61,ty127]
   exact back_intro hs (r + 1,o1) (le_wk (by simp [wk,Gra.cells])) ⟨by simp only; omega,by simp only; rw [iter_succ,← hro]; exact hio,by simp only; omega⟩ (by simp only; omega)
 ·obtain rfl : r = g.nonts.length + 1 := by omega
  have hrt : (((g.nonts.length + 1 : Nat) : Int) ≤ (g.nonts.length : Int)) = False := by simpa using hrlt
  have ho : o = refEnds g := hro
  have hol := ints_length o
  have hof := ok47 o (by omega)
  rw [← ho]
  simp -implicitDefEqProofs only [Gra.cells,List.length_map,hrt,
  evx,evy,ofValue,ofCell,List.range,List.range.loop,Array.size,Nat.reduceAdd,Nat.reduceSub,Nat.reduceEqDiff,List.replicate,if_true,if_false,↓reduceIte,reduceCtorEq,elB,evParts,Int.reduceToNat,Int.reduceLE,Int.reduceLT,Int.reduceEq,Nat.reduceMul,Nat.reduceLeDiff,Nat.reduceLT,ty3,ty4,ty9,ty22,ty23,ty24,ty25,ty27,ty28,ty63,ty59,ty61,ty127]
  refine callK_ret _ _ _ _ (call_freeze (args' := [.fv (.lst 1 (ints o))]) [1] (by simp) (by simp [subAny,subA,frzSub,← hol]) rfl
   (call_pure hof (fun _ => rfl) (fun _ => rfl)) [1] (by simp) (by simp) (fun i hi hl => by
    have : i = 0 := by simp at hi hl; omega
    subst this; simp [freezeSt,killAll,subBlk,subAny,subA,Gra.cells])) (ok_none _ _) ?_
  simp -implicitDefEqProofs only [subAny,subA,subL,backSub,back,putBack,subBlk,Option.getD_some,List.map_cons,List.map_nil,Nat.not_lt_zero,Nat.sub_zero,Nat.add_zero,List.length_map,freezeSt,
  evx,evy,ofValue,ofCell,List.range,List.range.loop,Array.size,Nat.reduceAdd,Nat.reduceSub,Nat.reduceEqDiff,List.replicate,if_true,if_false,↓reduceIte,reduceCtorEq,elB,evParts,Int.reduceToNat,Int.reduceLE,Int.reduceLT,Int.reduceEq,Nat.reduceMul,Nat.reduceLeDiff,Nat.reduceLT,ty3,ty4,ty9,ty22,ty23,ty24,ty25,ty27,ty28,ty63,ty59,ty61,ty127]
  exact le_to [] [] rfl (by simp) (by simp) (by simp) (by simp) rfl
end Go.Abs
/- What ends: the program's answer. -/
namespace Go.Abs
open Go.Proofs
set_option linter.unusedVariables false
set_option linter.unusedSimpArgs false
set_option maxRecDepth 100000
set_option maxHeartbeats 4000000
theorem sorted_those {g : Gra} {Q : Int → Prop} {o : List Int} (hnd : o.Nodup) (hm : ∀ n,n ∈ o ↔ ((g.terms : Int) < n ∧ n ≤ (g.all : Int)) ∧ Q n) : sorted o = g.those Q := by
 have hp : (sorted o).Perm o := List.mergeSort_perm _ _
 have hn2 : (sorted o).Nodup := hp.nodup_iff.2 hnd
 refine rises_unique _ _ ?_ (g.those_rises Q) fun n => by rw [mem_sorted,hm,g.mem_those]
 exact (List.Pairwise.and (sorted_rises o) hn2).imp fun h => by
  have h1 := h.1
  have h2 := h.2
  omega
theorem ok84 (n : Int) (T : Nat) (o : List Int) (ho : o.length < 1048576) : Ok Tryz.prog 84 [.fv (.int .i64 n),.fptr [.int .i64 T],.fptr [.lst 1 (ints o)]] [] (.ret (.fv (.bool (!shutB T o n)))) [] := by
 have hc := ok55 o n (by omega)
 refine ok_start (k := 11) (n0 := 0) (rs := [.tmp 4]) mix Tryz.func84 rfl rfl rfl rfl rfl rfl rfl ?_
 by_cases h1 : (T : Int) < n
 ·have h1t : ((T : Int) < n) = True := by simpa using h1
  have e : shutB T o n = decide (n ∈ o) := by unfold shutB; rw [decide_eq_false (by omega)]; rfl
  rw [e]
  simp -implicitDefEqProofs only [h1t,
  evx,evy,ofValue,ofCell,List.range,List.range.loop,Array.size,Nat.reduceAdd,Nat.reduceSub,Nat.reduceEqDiff,List.replicate,if_true,if_false,↓reduceIte,reduceCtorEq,elB,evParts,Int.reduceToNat,Int.reduceLE,Int.reduceLT,Int.reduceEq,Nat.reduceMul,Nat.reduceLeDiff,Nat.reduceLT,ty3,ty4,ty9,ty22,ty23,ty24,ty25,ty27,ty28,ty63,ty59,ty61,ty127]
  refine callK_ret _ _ _ _ (call_pure (hc) (fun _ => rfl) (fun _ => rfl)) (ok_nil _ _) ?_
  simp -implicitDefEqProofs only [evx,evy,ofValue,ofCell,List.range,List.range.loop,Array.size,Nat.reduceAdd,Nat.reduceSub,Nat.reduceEqDiff,List.replicate,if_true,if_false,↓reduceIte,reduceCtorEq,elB,evParts,Int.reduceToNat,Int.reduceLE,Int.reduceLT,Int.reduceEq,Nat.reduceMul,Nat.reduceLeDiff,Nat.reduceLT,ty3,ty4,ty9,ty22,ty23,ty24,ty25,ty27,ty28,ty63,ty59,ty61,ty127]
  exact le_flat rfl
 ·have h1t : ((T : Int) < n) = False := by simpa using h1
  have e : shutB T o n = true := by unfold shutB; rw [decide_eq_true (by omega)]; rfl
  rw [e]
  simp -implicitDefEqProofs only [h1t,
  evx,evy,ofValue,ofCell,List.range,List.range.loop,Array.size,Nat.reduceAdd,Nat.reduceSub,Nat.reduceEqDiff,List.replicate,if_true,if_false,↓reduceIte,reduceCtorEq,elB,evParts,Int.reduceToNat,Int.reduceLE,Int.reduceLT,Int.reduceEq,Nat.reduceMul,Nat.reduceLeDiff,Nat.reduceLT,ty3,ty4,ty9,ty22,ty23,ty24,ty25,ty27,ty28,ty63,ty59,ty61,ty127]
  exact le_flat rfl
theorem ints_es (o : List Int) : ∀ r ∈ ints o,r.length = 1 := by
 intro r hr
 simp only [ints,List.mem_map] at hr
 obtain ⟨_,_,rfl⟩ := hr
 rfl
theorem deep_out {h : List Blk} {k n : Nat} {o : List Int} (hb : h[k]? = some (.plain 1 (ints o))) : deepF (n + 2) h (.ref k 1 0 o.length) = some (.lst 1 (ints o)) := by
 have hl := ints_length o
 rw [deepF_ref hb (by omega) (ints_es o),List.drop_zero,← hl,List.take_length]
theorem deep_ptr {h : List Blk} {n i k : Nat} {o : List Int} (hi : h[i]? = some (.box [.ref k 1 0 o.length])) (hb : h[k]? = some (.plain 1 (ints o))) : deepA (n + 3) h (.ptr i 0 0 0) = some (.fptr [.lst 1 (ints o)]) := by
 have e : behindA h i 0 0 0 = some [.ref k 1 0 o.length] := by
  unfold behindA
  rw [hi]
  rfl
 show (match behindA h i 0 0 0 with
  | some cs => match deepL (deepF (n + 2) h) cs with
   | some row => match row with
    | [] => none
    | x :: l => some (AV.fptr (x :: l))
   | none => none
  | none => none) = _
 rw [e]
 simp only [deepL,deep_out hb]
theorem deep_ints (h : List Blk) (i : Nat) (T : Int) (n : Nat) (hi : h[i]? = some (.box [.fv (.int .i64 T)])) : deepA (n + 2) h (.ptr i 0 0 0) = some (.fptr [.int .i64 T]) := by
 have e : behindA h i 0 0 0 = some [.fv (.int .i64 T)] := by
  unfold behindA
  rw [hi]
  rfl
 show (match behindA h i 0 0 0 with
  | some cs => match deepL (deepF (n + 1) h) cs with
   | some row => match row with
    | [] => none
    | x :: l => some (AV.fptr (x :: l))
   | none => none
  | none => none) = _
 rw [e]
 rfl
theorem deep_args {h : List Blk} {T x : Int} {k : Nat} {o : List Int} (h1 : h[1]? = some (.box [.fv (.int .i64 T)])) (h2 : h[2]? = some (.box [.ref k 1 0 o.length])) (h3 : h[k]? = some (.plain 1 (ints o))) :
  deepAs h [.fv (.int .i64 x),.ptr 1 0 0 0,.ptr 2 0 0 0] = some [.fv (.int .i64 x),.fptr [.int .i64 T],.fptr [.lst 1 (ints o)]] := by
 have e0 : deepA 8 h (.fv (.int .i64 x)) = some (.fv (.int .i64 x)) := rfl
 simp only [deepAs,e0,deep_ints h 1 T 6 h1,deep_ptr (n := 5) h2 h3]
theorem deep_args2 {h : List Blk} {T : Int} {k : Nat} {f : FuncId} {x : FV} {o : List Int} (h1 : h[1]? = some (.box [.fv (.int .i64 T)])) (h2 : h[2]? = some (.box [.ref k 1 0 o.length])) (h3 : h[k]? = some (.plain 1 (ints o))) :
  deepAs h [.fv x,.func f [.ptr 1 0 0 0,.ptr 2 0 0 0]] = some [.fv x,.func f [.fptr [.int .i64 T],.fptr [.lst 1 (ints o)]]] := by
 have e0 : deepA 8 h (.fv x) = some (.fv x) := rfl
 have e1 : deepA 8 h (.func f [.ptr 1 0 0 0,.ptr 2 0 0 0]) = (subL (deepA 7 h) [.ptr 1 0 0 0,.ptr 2 0 0 0]).map (.func f) := rfl
 simp only [deepAs,e0,e1,subL,deep_ints h 1 T 5 h1,deep_ptr (n := 4) h2 h3,Option.map_some,Option.bind_some]
theorem ok56 (g : Gra) (hg : Small g 100) (hsd : g.sound = true) : Ok Tryz.prog 56 [g.av] [] (.ret (.fv (.lst 1 (ints (g.those (Ended g)))))) [] := by
 have hso := g.sound_iff hsd
 have hnn := hso.nnonts
 have hnp := hso.nprods
 have htl := hso.terms_le
 have hterms := ok35 g hg.nrules
 have hs := ok83 g hg
 rw [hsd] at hs
 refine ok_start (k := 42) (n0 := 0) (rs := [.tmp 2]) mix Tryz.func56 rfl rfl rfl rfl rfl rfl rfl ?_
 simp -implicitDefEqProofs only [Gra.av,
  evx,evy,ofValue,ofCell,List.range,List.range.loop,Array.size,Nat.reduceAdd,Nat.reduceSub,Nat.reduceEqDiff,List.replicate,if_true,if_false,↓reduceIte,reduceCtorEq,elB,evParts,Int.reduceToNat,Int.reduceLE,Int.reduceLT,Int.reduceEq,Nat.reduceMul,Nat.reduceLeDiff,Nat.reduceLT,ty3,ty4,ty9,ty22,ty23,ty24,ty25,ty27,ty28,ty63,ty59,ty61,ty127]
 refine callK_ret _ _ _ _ (call_pure (hs) (fun _ => rfl) (fun _ => rfl)) (ok_nil _ _) ?_
 simp -implicitDefEqProofs only [evx,evy,ofValue,ofCell,List.range,List.range.loop,Array.size,Nat.reduceAdd,Nat.reduceSub,Nat.reduceEqDiff,List.replicate,if_true,if_false,↓reduceIte,reduceCtorEq,elB,evParts,Int.reduceToNat,Int.reduceLE,Int.reduceLT,Int.reduceEq,Nat.reduceMul,Nat.reduceLeDiff,Nat.reduceLT,ty3,ty4,ty9,ty22,ty23,ty24,ty25,ty27,ty28,ty63,ty59,ty61,ty127]
 refine callK_ret _ _ _ _ (call_pure (hterms) (fun _ => rfl) (fun _ => rfl)) (ok_nil _ _) ?_
 simp -implicitDefEqProofs only [Gra.cells,stB_boxA,splice_all,List.all_cons,List.all_nil,
  evx,evy,ofValue,ofCell,List.range,List.range.loop,Array.size,Nat.reduceAdd,Nat.reduceSub,Nat.reduceEqDiff,List.replicate,if_true,if_false,↓reduceIte,reduceCtorEq,elB,evParts,Int.reduceToNat,Int.reduceLE,Int.reduceLT,Int.reduceEq,Nat.reduceMul,Nat.reduceLeDiff,Nat.reduceLT,ty3,ty4,ty9,ty22,ty23,ty24,ty25,ty27,ty28,ty63,ty59,ty61,ty127]
 refine loop_rule (fun x : Bool × List Int => ⟨[.any,.ptr 0 0 0 0,.any,.ptr 1 0 0 0,.ptr 2 0 0 0,.fv (.bool x.1),.any,.any,.any,.any,.any,.any,.any,.any,.any,.any,.any,.any,.any,.any,.any,.any,.any,.any,.any,.any,.any,.any,.any,.any,.any,.any,.any,.any,.any,.any,.any,.any,.any,.any,.any,.any,.any],[.box g.cells,.box [.fv (.int .i64 g.terms)],.box [.ref 3 1 0 x.2.length],.plain 1 (ints x.2)],[]⟩)
  (fun x => EndsI g x.2 ∧ (x.1 = false → ∀ p ∈ g.prods,endsC g.terms x.2 p = none)) (fun x => if x.1 then 1 + (g.nonts.length - x.2.length) else 0) (true,[])
  (Le.trans (le_virt_box 2 1 0 [.fv .nils] rfl rfl) (le_wk (by simp [wk,Gra.cells,ints]))) ⟨⟨by simp,by simp⟩,by simp⟩ (fun x hx s hs1 => ?_)
 obtain ⟨b,o⟩ := x
 obtain ⟨hI,hcl⟩ := hx
 simp only at hI hcl hs1 ⊢
 have hol := hI.len hso
 have hil := ints_length o
 cases b with
 | false =>
  have hm := hI.closed (hcl rfl)
  have hst := sorted_those (g := g) (Q := Ended g) hI.1 (fun n => by rw [hm n]; exact ⟨fun h => ⟨hso.ended h,h⟩,fun h => h.2⟩)
  have hsort := ok85 o (by omega)
  rw [hst] at hsort
  have htl2 : (g.those (Ended g)).length = o.length := by rw [← hst]; exact sorted_length o
  have htl3 := ints_length (g.those (Ended g))
  simp -implicitDefEqProofs only [evx,evy,ofValue,ofCell,List.range,List.range.loop,Array.size,Nat.reduceAdd,Nat.reduceSub,Nat.reduceEqDiff,List.replicate,if_true,if_false,↓reduceIte,reduceCtorEq,elB,evParts,Int.reduceToNat,Int.reduceLE,Int.reduceLT,Int.reduceEq,Nat.reduceMul,Nat.reduceLeDiff,Nat.reduceLT,ty3,ty4,ty9,ty22,ty23,ty24,ty25,ty27,ty28,ty63,ty59,ty61,ty127]
  refine callK_ret _ _ _ _ (call_lent [3] hsort rfl rfl (by simp) (by simp [Blk.live])) (ok_none _ _) ?_
  simp -implicitDefEqProofs only [subAny,subA,subL,backSub,back,putBack,subBlk,Option.getD_some,List.map_cons,List.map_nil,Nat.not_lt_zero,Nat.sub_zero,Nat.add_zero,List.length_map,
  evx,evy,ofValue,ofCell,List.range,List.range.loop,Array.size,Nat.reduceAdd,Nat.reduceSub,Nat.reduceEqDiff,List.replicate,if_true,if_false,↓reduceIte,reduceCtorEq,elB,evParts,Int.reduceToNat,Int.reduceLE,Int.reduceLT,Int.reduceEq,Nat.reduceMul,Nat.reduceLeDiff,Nat.reduceLT,ty3,ty4,ty9,ty22,ty23,ty24,ty25,ty27,ty28,ty63,ty59,ty61,ty127]
  refine le_lst (rows := ints (g.those (Ended g))) rfl (by omega) ?_
  rw [List.drop_zero,← htl2,← htl3,List.take_length]
 | true =>
  simp -implicitDefEqProofs only [Gra.cells,List.length_map,
  evx,evy,ofValue,ofCell,List.range,List.range.loop,Array.size,Nat.reduceAdd,Nat.reduceSub,Nat.reduceEqDiff,List.replicate,if_true,if_false,↓reduceIte,reduceCtorEq,elB,evParts,Int.reduceToNat,Int.reduceLE,Int.reduceLT,Int.reduceEq,Nat.reduceMul,Nat.reduceLeDiff,Nat.reduceLT,ty3,ty4,ty9,ty22,ty23,ty24,ty25,ty27,ty28,ty63,ty59,ty61,ty127]
  refine loop_rule (fun x : Nat × Bool × List Int => ⟨[.any,.ptr 0 0 0 0,.any,.ptr 1 0 0 0,.ptr 2 0 0 0,.fv (.bool x.2.1),.any,.any,.any,.any,.any,.any,.any,.any,.any,.any,.fv (.lst 3 (g.prods.map Prd.row)),.fv (.int .i64 g.prods.length),.fv (.int .i64 x.1),.any,.any,.any,.any,.any,.any,.any,.any,.any,.any,.any,.any,.any,.any,.any,.any,.any,.any,.any,.any,.any,.any,.any,.any],[.box g.cells,.box [.fv (.int .i64 g.terms)],.box [.ref 3 1 0 x.2.2.length],.plain 1 (ints x.2.2)],[]⟩)
   (fun x => x.1 ≤ g.prods.length ∧ EndsI g x.2.2 ∧ x.2.2 = (g.prods.take x.1).foldl (adds (endsC g.terms)) o ∧ (x.2.1 = false → x.2.2 = o) ∧ (x.2.1 = true → o.length < x.2.2.length)) (fun x => g.prods.length - x.1) (0,false,o) (le_wk (by simp [wk,Gra.cells])) ⟨by omega,hI,rfl,by simp,by simp⟩ (fun x hx s2 hs2 => ?_)
  obtain ⟨i,c,o1⟩ := x
  obtain ⟨hi1,hI1,hio,hc1,hc2⟩ := hx
  simp only at hi1 hI1 hio hc1 hc2 hs2 ⊢
  have hol1 := hI1.len hso
  have hil1 := ints_length o1
  by_cases hilt : i < g.prods.length
  ·have hrow := rows_at Prd.row g.prods i hilt
   have hpm := List.getElem_mem hilt
   have hpr := hso.prods _ hpm
   have hstep := foldl_take_succ (adds (endsC g.terms)) g.prods o hilt
   rw [← hio] at hstep
   generalize g.prods[i] = p at hrow hpr hstep hpm
   have hinv := fun n => endsC_inv (g := g) (out := o1) (p := p) (n := n) hI1 hpm
   have heq : ∀ n,endsC g.terms o1 p = some n → adds (endsC g.terms) o1 p = o1 ++ [n] := fun n h => by unfold adds; rw [h]
   have hex := endsC_eq g.terms o1 p
   rw [hex] at hstep
   have hop := ok84 p.left g.terms o1 (by omega)
   have hcf := ok37 (f := 84) (caps := [.fptr [.int .i64 g.terms],.fptr [.lst 1 (ints o1)]]) (p := fun n => !shutB g.terms o1 n) p.right (by omega) (fun _ => rfl) (fun _ => rfl) (fun n _ => ok84 n g.terms o1 (by omega))
   have hsl : shutB g.terms o1 p.left = decide (p.left ∈ o1) := by unfold shutB; rw [decide_eq_false (by omega)]; rfl
   rw [hsl] at hop
   have hany : (p.right.any fun n => !shutB g.terms o1 n) = !(p.right.all (shutB g.terms o1)) := by rw [List.not_all_eq_any_not]
   rw [hany] at hcf
   simp -implicitDefEqProofs only [Gra.cells,List.length_map,stB_boxA,splice_all,List.all_cons,List.all_nil,lt_true hilt,hrow,Prd.row,
  evx,evy,ofValue,ofCell,List.range,List.range.loop,Array.size,Nat.reduceAdd,Nat.reduceSub,Nat.reduceEqDiff,List.replicate,if_true,if_false,↓reduceIte,reduceCtorEq,elB,evParts,Int.reduceToNat,Int.reduceLE,Int.reduceLT,Int.reduceEq,Nat.reduceMul,Nat.reduceLeDiff,Nat.reduceLT,ty3,ty4,ty9,ty22,ty23,ty24,ty25,ty27,ty28,ty63,ty59,ty61,ty127]
   refine callK_ret _ _ _ _ (call_deep hop (deep_args (k := 3) rfl rfl rfl) rfl) (ok_nil _ _) ?_
   by_cases c2 : p.left ∈ o1
   ·rw [if_neg (fun h => h.2 c2)] at hstep
    rw [decide_eq_true c2]
    simp -implicitDefEqProofs only [wsucc i (by omega),
  evx,evy,ofValue,ofCell,List.range,List.range.loop,Array.size,Nat.reduceAdd,Nat.reduceSub,Nat.reduceEqDiff,List.replicate,if_true,if_false,↓reduceIte,reduceCtorEq,elB,evParts,Int.reduceToNat,Int.reduceLE,Int.reduceLT,Int.reduceEq,Nat.reduceMul,Nat.reduceLeDiff,Nat.reduceLT,ty3,ty4,ty9,ty22,ty23,ty24,ty25,ty27,ty28,ty63,ty59,ty61,ty127]
    refine back_intro hs2 (i + 1,c,o1) (le_pk [0,1,2,3] rfl (by simp) (by simp) ?_ ?_) ⟨by simp only; omega,hI1,hstep.symm,hc1,hc2⟩ (by simp only; omega)
    ·simp [subBlk,subAny,subA,mkSub,idx,Gra.cells]
    ·simp [wk,subAny,subA,mkSub,idx]
   ·rw [decide_eq_false c2]
    simp -implicitDefEqProofs only [Gra.cells,List.length_map,
  evx,evy,ofValue,ofCell,List.range,List.range.loop,Array.size,Nat.reduceAdd,Nat.reduceSub,Nat.reduceEqDiff,List.replicate,if_true,if_false,↓reduceIte,reduceCtorEq,elB,evParts,Int.reduceToNat,Int.reduceLE,Int.reduceLT,Int.reduceEq,Nat.reduceMul,Nat.reduceLeDiff,Nat.reduceLT,ty3,ty4,ty9,ty22,ty23,ty24,ty25,ty27,ty28,ty63,ty59,ty61,ty127]
    refine callK_ret _ _ _ _ (call_deep hcf (deep_args2 (k := 3) rfl rfl rfl) rfl) (ok_nil _ _) ?_
    cases hall : p.right.all (shutB g.terms o1) with
    | false =>
     rw [hall,if_neg (by simp)] at hstep
     simp -implicitDefEqProofs only [wsucc i (by omega),
  evx,evy,ofValue,ofCell,List.range,List.range.loop,Array.size,Nat.reduceAdd,Nat.reduceSub,Nat.reduceEqDiff,List.replicate,if_true,if_false,↓reduceIte,reduceCtorEq,elB,evParts,Int.reduceToNat,Int.reduceLE,Int.reduceLT,Int.reduceEq,Nat.reduceMul,Nat.reduceLeDiff,Nat.reduceLT,ty3,ty4,ty9,ty22,ty23,ty24,ty25,ty27,ty28,ty63,ty59,ty61,ty127]
     refine back_intro hs2 (i + 1,c,o1) (le_pk [0,1,2,3] rfl (by simp) (by simp) ?_ ?_) ⟨by simp only; omega,hI1,hstep.symm,hc1,hc2⟩ (by simp only; omega)
     ·simp [subBlk,subAny,subA,mkSub,idx,Gra.cells]
     ·simp [wk,subAny,subA,mkSub,idx]
    | true =>
     rw [hall,if_pos ⟨rfl,c2⟩] at hstep
     have hnew : endsC g.terms o1 p = some p.left := by
      unfold endsC
      rw [if_pos ⟨fun n hn => by simpa [shutB] using (List.all_eq_true.1 hall n hn),c2⟩]
     have hol2 : o.length ≤ o1.length := by
      cases c with
      | false => rw [hc1 rfl]; exact Nat.le_refl _
      | true => exact Nat.le_of_lt (hc2 rfl)
     simp -implicitDefEqProofs only [Gra.cells,List.length_map,wsucc i (by omega),
  evx,evy,ofValue,ofCell,List.range,List.range.loop,Array.size,Nat.reduceAdd,Nat.reduceSub,Nat.reduceEqDiff,List.replicate,if_true,if_false,↓reduceIte,reduceCtorEq,elB,evParts,Int.reduceToNat,Int.reduceLE,Int.reduceLT,Int.reduceEq,Nat.reduceMul,Nat.reduceLeDiff,Nat.reduceLT,ty3,ty4,ty9,ty22,ty23,ty24,ty25,ty27,ty28,ty63,ty59,ty61,ty127]
     refine ⟨⟨by omega,by omega⟩,back_intro hs2 (i + 1,true,o1 ++ [p.left]) (le_pk [0,1,2,6] rfl (by simp) (by simp) ?_ ?_) ⟨by simp only; omega,hinv _ hnew,hstep.symm,by simp,fun _ => by simp only [List.length_append,List.length_cons,List.length_nil]; omega⟩ (by simp only; omega)⟩
     ·have e : List.take o1.length (ints o1) ++ [[FV.int IntKind.i64 p.left]] = ints (o1 ++ [p.left]) := by
       rw [← hil1,List.take_length,ints_append]; rfl
      rw [e]
      simp [subBlk,subAny,subA,mkSub,idx,Gra.cells]
     ·simp [wk,subAny,subA,mkSub,idx]
  ·obtain rfl : i = g.prods.length := by omega
   rw [List.take_length] at hio
   simp -implicitDefEqProofs only [Gra.cells,List.length_map,lt_false hilt,
  evx,evy,ofValue,ofCell,List.range,List.range.loop,Array.size,Nat.reduceAdd,Nat.reduceSub,Nat.reduceEqDiff,List.replicate,if_true,if_false,↓reduceIte,reduceCtorEq,elB,evParts,Int.reduceToNat,Int.reduceLE,Int.reduceLT,Int.reduceEq,Nat.reduceMul,Nat.reduceLeDiff,Nat.reduceLT,ty3,ty4,ty9,ty22,ty23,ty24,ty25,ty27,ty28,ty63,ty59,ty61,ty127]
   refine back_intro hs1 (c,o1) (le_wk (by simp [wk,Gra.cells])) ⟨hI1,fun h => ?_⟩ ?_
   ·obtain rfl := hc1 h
    exact adds_fix _ _ _ hio.symm
   ·cases c with
    | false => simp; omega
    | true =>
     have := hc2 rfl
     simp only [if_true]
     omega
end Go.Abs
