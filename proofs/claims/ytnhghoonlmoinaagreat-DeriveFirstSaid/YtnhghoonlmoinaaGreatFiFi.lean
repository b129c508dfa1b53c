/- What vanishes, what begins a text: the program's answers. -/
import Derived.Test.YtnhghoonlmoinaaGreatTyTryzi
import Derived.Test.YtnhghoonlmoinaaGreatDrTryzi
import Derived.Test.YtnhghoonlmoinaaGreatFiCi
import Derived.Test.YtnhghoonlmoinaaGreatFiA
import Derived.Test.YtnhghoonlmoinaaGreatCkGi
import Derived.Test.YtnhghoonlmoinaaGreatAbsW
import Derived.Test.YtnhghoonlmoinaaGreatCkKi
import Derived.Test.YtnhghoonlmoinaaGreatCkLi
import Derived.Test.YtnhghoonlmoinaaGreatCkIi
namespace Go.Abs
open Go.Proofs
set_option linter.unusedVariables false
set_option linter.unusedSimpArgs false
set_option maxRecDepth 100000
set_option maxHeartbeats 8000000
/-- Are these symbols of the grammar? -/
def Gra.symsB (g : Gra) (text : List Int) : Bool := text.all fun n => decide (1 ≤ n) && decide (n ≤ (g.all : Int))
theorem symsB_iff {g : Gra} {text : List Int} : g.symsB text = true ↔ ∀ n ∈ text,1 ≤ n ∧ n ≤ (g.all : Int) := by
 simp [Gra.symsB]
end Go.Abs
/- What vanishes, what begins a text: the document's answers. -/
namespace Go.Abs
open Go.Proofs
set_option linter.unusedVariables false
set_option linter.unusedSimpArgs false
set_option maxRecDepth 100000
set_option maxHeartbeats 8000000
def goneB (o : List Int) (text : List Int) : Bool := text.all fun n => decide (n ∈ o)
theorem goneB_iff {o text : List Int} : goneB o text = true ↔ ∀ n ∈ text,n ∈ o := by simp [goneB]
theorem all_take_succ2 {α : Type} (p : α → Bool) (l : List α) {i : Nat} (h : i < l.length) : (l.take (i + 1)).all p = ((l.take i).all p && p l[i]) := by
 rw [List.take_add_one,List.getElem?_eq_getElem h,List.all_append]
 simp
theorem ok48 (o text : List Int) (ho : o.length < 1048576) (ht : text.length < 1048576) : Ok Tryz.prog 48 [.fv (.lst 1 (ints o)),.fv (.lst 1 (ints text))] [] (.ret (.fv (.bool (goneB o text)))) [] := by
 have hil := ints_length text
 refine ok_start (k := 17) (n0 := 0) (rs := [.tmp 4]) mix Tryz.func48 rfl rfl rfl rfl rfl rfl rfl ?_
 simp -implicitDefEqProofs only [evx,evy,ofValue,ofCell,List.range,List.range.loop,Array.size,Nat.reduceAdd,Nat.reduceSub,Nat.reduceEqDiff,List.replicate,if_true,if_false,↓reduceIte,reduceCtorEq,elB,evParts,Int.reduceToNat,Int.reduceLE,Int.reduceLT,Int.reduceEq,Nat.reduceMul,Nat.reduceLeDiff,Nat.reduceLT,ty3,ty4,ty9,ty28,ty85,ty22,ty23,ty24,ty25,ty27,ty63]
 refine loop_rule (fun i : Nat => ⟨[.fv (.lst 1 (ints o)),.fv (.lst 1 (ints text)),.any,.any,.any,.fv (.int .i64 i),.any,.any,.any,.any,.any,.any,.any,.any,.any,.any,.any,.any,.any],[],[]⟩)
  (fun i => i ≤ text.length ∧ (text.take i).all (fun n => decide (n ∈ o)) = true) (fun i => text.length - i) 0 (le_wk (by simp [wk])) (by simp) (fun i hi s hs => ?_)
 obtain ⟨hi,hall⟩ := hi
 by_cases hlt : i < text.length
 ·have hr := ints_get text i hlt
  have hst := all_take_succ2 (fun n => decide (n ∈ o)) text hlt
  have hm := List.getElem_mem hlt
  generalize text[i] = n at hr hst hm
  have hh := ok19 o n (by omega)
  rw [hall,Bool.true_and] at hst
  cases hb : decide (n ∈ o) with
  | true =>
   rw [hb] at hh hst
   simp -implicitDefEqProofs only [hil,lt_true hlt,hr,
  evx,evy,ofValue,ofCell,List.range,List.range.loop,Array.size,Nat.reduceAdd,Nat.reduceSub,Nat.reduceEqDiff,List.replicate,if_true,if_false,↓reduceIte,reduceCtorEq,elB,evParts,Int.reduceToNat,Int.reduceLE,Int.reduceLT,Int.reduceEq,Nat.reduceMul,Nat.reduceLeDiff,Nat.reduceLT,ty3,ty4,ty9,ty28,ty85,ty22,ty23,ty24,ty25,ty27,ty63]
   refine callK_ret _ _ _ _ (call_pure (hh) (fun _ => rfl) (fun _ => rfl)) (ok_nil _ _) ?_
   simp -implicitDefEqProofs only [wsucc i (by omega),
  evx,evy,ofValue,ofCell,List.range,List.range.loop,Array.size,Nat.reduceAdd,Nat.reduceSub,Nat.reduceEqDiff,List.replicate,if_true,if_false,↓reduceIte,reduceCtorEq,elB,evParts,Int.reduceToNat,Int.reduceLE,Int.reduceLT,Int.reduceEq,Nat.reduceMul,Nat.reduceLeDiff,Nat.reduceLT,ty3,ty4,ty9,ty28,ty85,ty22,ty23,ty24,ty25,ty27,ty63]
   exact back_intro hs (i + 1) (le_wk (by simp [wk])) ⟨by omega,hst⟩ (by omega)
  | false =>
   rw [hb] at hh
   have e : goneB o text = false := by
    unfold goneB
    rw [List.all_eq_false]
    exact ⟨n,hm,by simp at hb; simpa using hb⟩
   rw [e]
   simp -implicitDefEqProofs only [hil,lt_true hlt,hr,
  evx,evy,ofValue,ofCell,List.range,List.range.loop,Array.size,Nat.reduceAdd,Nat.reduceSub,Nat.reduceEqDiff,List.replicate,if_true,if_false,↓reduceIte,reduceCtorEq,elB,evParts,Int.reduceToNat,Int.reduceLE,Int.reduceLT,Int.reduceEq,Nat.reduceMul,Nat.reduceLeDiff,Nat.reduceLT,ty3,ty4,ty9,ty28,ty85,ty22,ty23,ty24,ty25,ty27,ty63]
   refine callK_ret _ _ _ _ (call_pure (hh) (fun _ => rfl) (fun _ => rfl)) (ok_nil _ _) ?_
   simp -implicitDefEqProofs only [evx,evy,ofValue,ofCell,List.range,List.range.loop,Array.size,Nat.reduceAdd,Nat.reduceSub,Nat.reduceEqDiff,List.replicate,if_true,if_false,↓reduceIte,reduceCtorEq,elB,evParts,Int.reduceToNat,Int.reduceLE,Int.reduceLT,Int.reduceEq,Nat.reduceMul,Nat.reduceLeDiff,Nat.reduceLT,ty3,ty4,ty9,ty28,ty85,ty22,ty23,ty24,ty25,ty27,ty63]
   exact le_flat rfl
 ·obtain rfl : i = text.length := by omega
  rw [List.take_length] at hall
  have e : goneB o text = true := hall
  rw [e]
  simp -implicitDefEqProofs only [hil,lt_false hlt,
  evx,evy,ofValue,ofCell,List.range,List.range.loop,Array.size,Nat.reduceAdd,Nat.reduceSub,Nat.reduceEqDiff,List.replicate,if_true,if_false,↓reduceIte,reduceCtorEq,elB,evParts,Int.reduceToNat,Int.reduceLE,Int.reduceLT,Int.reduceEq,Nat.reduceMul,Nat.reduceLeDiff,Nat.reduceLT,ty3,ty4,ty9,ty28,ty85,ty22,ty23,ty24,ty25,ty27,ty63]
  exact le_flat rfl
theorem look_ints3 {o : List Int} {x : FV} {b : Blk} : [AV.ref 1 1 0 o.length,.fv x].map (subAny (mkSub [] [1] [b,.plain 1 (ints o)])) = [.fv (.lst 1 (ints o)),.fv x] := by
 have h := ints_length o
 simp [subAny,subA,mkSub,idx,← h]
theorem vanC_eq (o : List Int) (p : Prd) : adds vanC o p = if goneB o p.right = true ∧ p.left ∉ o then o ++ [p.left] else o := by
 unfold adds vanC
 by_cases h : (∀ n ∈ p.right,n ∈ o) ∧ p.left ∉ o
 ·rw [if_pos h,if_pos ⟨goneB_iff.2 h.1,h.2⟩]
 ·rw [if_neg h,if_neg fun h2 => h ⟨goneB_iff.1 h2.1,h2.2⟩]
theorem ok45 (g : Gra) (hg : Small g 100) (hsd : g.sound = true) : Ok Tryz.prog 45 [g.av] [] (.ret (.fv (.lst 1 (ints (g.those (Nul g)))))) [] := by
 have hso := g.sound_iff hsd
 rw [← Gra.van_those hso (refVan_mem hso)]
 have hnn := hso.nnonts
 have hnp := hso.nprods
 have htl := hso.terms_le
 refine ok_start (k := 49) (n0 := 0) (rs := [.tmp 2]) mix Tryz.func45 rfl rfl rfl rfl rfl rfl rfl ?_
 simp -implicitDefEqProofs only [Gra.av,Gra.cells,
  evx,evy,ofValue,ofCell,List.range,List.range.loop,Array.size,Nat.reduceAdd,Nat.reduceSub,Nat.reduceEqDiff,List.replicate,if_true,if_false,↓reduceIte,reduceCtorEq,elB,evParts,Int.reduceToNat,Int.reduceLE,Int.reduceLT,Int.reduceEq,Nat.reduceMul,Nat.reduceLeDiff,Nat.reduceLT,ty3,ty4,ty9,ty28,ty85,ty22,ty23,ty24,ty25,ty27,ty63]
 refine loop_rule (fun x : Nat × List Int => ⟨[.any,.ptr 0 0 0 0,.any,.ref 1 1 0 x.2.length,.fv (.int .i64 x.1),.any,.any,.any,.any,.any,.any,.any,.any,.any,.any,.any,.any,.any,.any,.any,.any,.any,.any,.any,.any,.any,.any,.any,.any,.any,.any,.any,.any,.any,.any,.any,.any,.any,.any,.any,.any,.any,.any,.any,.any,.any,.any,.any,.any,.any],[.box g.cells,.plain 1 (ints x.2)],[]⟩)
  (fun x => x.1 ≤ g.nonts.length + 1 ∧ x.2 = iter (vanP g) x.1 [] ∧ x.2.length ≤ x.1 * 50) (fun x => g.nonts.length + 1 - x.1) (0,[]) (Le.trans (le_virt 3 1 rfl) (le_wk (by simp [wk,Gra.cells,ints]))) ⟨by omega,rfl,by simp⟩ (fun x hx s hs => ?_)
 obtain ⟨r,o⟩ := x
 obtain ⟨hr1,hro,hrl⟩ := hx
 simp only at hr1 hro hrl hs ⊢
 by_cases hrlt : (r : Int) ≤ (g.nonts.length : Int)
 ·have hrt : ((r : Int) ≤ (g.nonts.length : Int)) = True := by simpa using hrlt
  simp -implicitDefEqProofs only [Gra.cells,List.length_map,hrt,
  evx,evy,ofValue,ofCell,List.range,List.range.loop,Array.size,Nat.reduceAdd,Nat.reduceSub,Nat.reduceEqDiff,List.replicate,if_true,if_false,↓reduceIte,reduceCtorEq,elB,evParts,Int.reduceToNat,Int.reduceLE,Int.reduceLT,Int.reduceEq,Nat.reduceMul,Nat.reduceLeDiff,Nat.reduceLT,ty3,ty4,ty9,ty28,ty85,ty22,ty23,ty24,ty25,ty27,ty63]
  refine loop_rule (fun x : Nat × List Int => ⟨[.any,.ptr 0 0 0 0,.any,.ref 1 1 0 x.2.length,.fv (.int .i64 r),.fv (.int .i64 x.1),.any,.any,.any,.any,.any,.any,.any,.any,.any,.any,.any,.any,.any,.any,.any,.any,.any,.any,.any,.any,.any,.any,.any,.any,.any,.any,.any,.any,.any,.any,.any,.any,.any,.any,.any,.any,.any,.any,.any,.any,.any,.any,.any,.any],[.box g.cells,.plain 1 (ints x.2)],[]⟩)
   (fun x => x.1 ≤ g.prods.length ∧ x.2 = (g.prods.take x.1).foldl (adds vanC) o ∧ x.2.length ≤ r * 50 + x.1) (fun x => g.prods.length - x.1) (0,o) (le_wk (by simp [wk,Gra.cells])) ⟨by omega,rfl,by simp only; omega⟩ (fun x hx s2 hs2 => ?_)
  obtain ⟨i,o1⟩ := x
  obtain ⟨hi1,hio,hil⟩ := hx
  simp only at hi1 hio hil hs2 ⊢
  by_cases hilt : i < g.prods.length
  ·have hrow := rows_at Prd.row g.prods i hilt
   have hpr8 := (hso.prods _ (List.getElem_mem hilt)).2.2.1
   have hstep := foldl_take_succ (adds vanC) g.prods o hilt
   rw [← hio] at hstep
   generalize g.prods[i] = p at hrow hpr8 hstep
   rw [vanC_eq] at hstep
   have hol := ints_length o1
   have hh1 := ok19 o1 p.left (by omega)
   have hgn := ok48 o1 p.right (by omega) (by omega)
   cases hb : goneB o1 p.right with
   | false =>
    rw [hb] at hgn
    rw [hb,if_neg (by simp)] at hstep
    simp -implicitDefEqProofs only [Gra.cells,List.length_map,lt_true hilt,hrow,Prd.row,
  evx,evy,ofValue,ofCell,List.range,List.range.loop,Array.size,Nat.reduceAdd,Nat.reduceSub,Nat.reduceEqDiff,List.replicate,if_true,if_false,↓reduceIte,reduceCtorEq,elB,evParts,Int.reduceToNat,Int.reduceLE,Int.reduceLT,Int.reduceEq,Nat.reduceMul,Nat.reduceLeDiff,Nat.reduceLT,ty3,ty4,ty9,ty28,ty85,ty22,ty23,ty24,ty25,ty27,ty63]
    refine callK_ret _ _ _ _ (call_look [1] hgn look_ints3 look_fl rfl) (ok_nil _ _) ?_
    simp -implicitDefEqProofs only [wsucc i (by omega),
  evx,evy,ofValue,ofCell,List.range,List.range.loop,Array.size,Nat.reduceAdd,Nat.reduceSub,Nat.reduceEqDiff,List.replicate,if_true,if_false,↓reduceIte,reduceCtorEq,elB,evParts,Int.reduceToNat,Int.reduceLE,Int.reduceLT,Int.reduceEq,Nat.reduceMul,Nat.reduceLeDiff,Nat.reduceLT,ty3,ty4,ty9,ty28,ty85,ty22,ty23,ty24,ty25,ty27,ty63]
    exact back_intro hs2 (i + 1,o1) (le_wk (by simp [wk,Gra.cells])) ⟨by simp only; omega,hstep.symm,by simp only; omega⟩ (by simp only; omega)
   | true =>
    rw [hb] at hgn
    by_cases c2 : p.left ∈ o1
    ·rw [decide_eq_true c2] at hh1
     rw [if_neg (fun h => h.2 c2)] at hstep
     simp -implicitDefEqProofs only [Gra.cells,List.length_map,lt_true hilt,hrow,Prd.row,
  evx,evy,ofValue,ofCell,List.range,List.range.loop,Array.size,Nat.reduceAdd,Nat.reduceSub,Nat.reduceEqDiff,List.replicate,if_true,if_false,↓reduceIte,reduceCtorEq,elB,evParts,Int.reduceToNat,Int.reduceLE,Int.reduceLT,Int.reduceEq,Nat.reduceMul,Nat.reduceLeDiff,Nat.reduceLT,ty3,ty4,ty9,ty28,ty85,ty22,ty23,ty24,ty25,ty27,ty63]
     refine callK_ret _ _ _ _ (call_look [1] hgn look_ints3 look_fl rfl) (ok_nil _ _) ?_
     simp -implicitDefEqProofs only [hrow,Prd.row,
  evx,evy,ofValue,ofCell,List.range,List.range.loop,Array.size,Nat.reduceAdd,Nat.reduceSub,Nat.reduceEqDiff,List.replicate,if_true,if_false,↓reduceIte,reduceCtorEq,elB,evParts,Int.reduceToNat,Int.reduceLE,Int.reduceLT,Int.reduceEq,Nat.reduceMul,Nat.reduceLeDiff,Nat.reduceLT,ty3,ty4,ty9,ty28,ty85,ty22,ty23,ty24,ty25,ty27,ty63]
     refine callK_ret _ _ _ _ (call_look [1] hh1 look_ints2 look_fl rfl) (ok_nil _ _) ?_
     simp -implicitDefEqProofs only [wsucc i (by omega),
  evx,evy,ofValue,ofCell,List.range,List.range.loop,Array.size,Nat.reduceAdd,Nat.reduceSub,Nat.reduceEqDiff,List.replicate,if_true,if_false,↓reduceIte,reduceCtorEq,elB,evParts,Int.reduceToNat,Int.reduceLE,Int.reduceLT,Int.reduceEq,Nat.reduceMul,Nat.reduceLeDiff,Nat.reduceLT,ty3,ty4,ty9,ty28,ty85,ty22,ty23,ty24,ty25,ty27,ty63]
     exact back_intro hs2 (i + 1,o1) (le_wk (by simp [wk,Gra.cells])) ⟨by simp only; omega,hstep.symm,by simp only; omega⟩ (by simp only; omega)
    ·rw [decide_eq_false c2] at hh1
     rw [hb,if_pos ⟨rfl,c2⟩] at hstep
     simp -implicitDefEqProofs only [Gra.cells,List.length_map,lt_true hilt,hrow,Prd.row,
  evx,evy,ofValue,ofCell,List.range,List.range.loop,Array.size,Nat.reduceAdd,Nat.reduceSub,Nat.reduceEqDiff,List.replicate,if_true,if_false,↓reduceIte,reduceCtorEq,elB,evParts,Int.reduceToNat,Int.reduceLE,Int.reduceLT,Int.reduceEq,Nat.reduceMul,Nat.reduceLeDiff,Nat.reduceLT,ty3,ty4,ty9,ty28,ty85,ty22,ty23,ty24,ty25,ty27,ty63]
     refine callK_ret _ _ _ _ (call_look [1] hgn look_ints3 look_fl rfl) (ok_nil _ _) ?_
     simp -implicitDefEqProofs only [hrow,Prd.row,
  evx,evy,ofValue,ofCell,List.range,List.range.loop,Array.size,Nat.reduceAdd,Nat.reduceSub,Nat.reduceEqDiff,List.replicate,if_true,if_false,↓reduceIte,reduceCtorEq,elB,evParts,Int.reduceToNat,Int.reduceLE,Int.reduceLT,Int.reduceEq,Nat.reduceMul,Nat.reduceLeDiff,Nat.reduceLT,ty3,ty4,ty9,ty28,ty85,ty22,ty23,ty24,ty25,ty27,ty63]
     refine callK_ret _ _ _ _ (call_look [1] hh1 look_ints2 look_fl rfl) (ok_nil _ _) ?_
     simp -implicitDefEqProofs only [Gra.cells,List.length_map,hrow,Prd.row,lt_true hilt,wsucc i (by omega),
  evx,evy,ofValue,ofCell,List.range,List.range.loop,Array.size,Nat.reduceAdd,Nat.reduceSub,Nat.reduceEqDiff,List.replicate,if_true,if_false,↓reduceIte,reduceCtorEq,elB,evParts,Int.reduceToNat,Int.reduceLE,Int.reduceLT,Int.reduceEq,Nat.reduceMul,Nat.reduceLeDiff,Nat.reduceLT,ty3,ty4,ty9,ty28,ty85,ty22,ty23,ty24,ty25,ty27,ty63]
     refine ⟨⟨by omega,by omega⟩,back_intro hs2 (i + 1,o1 ++ [p.left]) (le_pk [0,3] rfl (by simp) (by simp) ?_ ?_) ⟨by simp only; omega,hstep.symm,by simp only [List.length_append,List.length_cons,List.length_nil]; omega⟩ (by simp only; omega)⟩
     ·have e : List.take o1.length (ints o1) ++ [[FV.int IntKind.i64 p.left]] = ints (o1 ++ [p.left]) := by
       rw [← hol,List.take_length,ints_append]; rfl
      rw [e]
      simp [subBlk,subAny,subA,Gra.cells]
     ·simp [wk,subAny,subA,mkSub,idx]
  ·obtain rfl : i = g.prods.length := by omega
   rw [List.take_length] at hio
   simp -implicitDefEqProofs only [Gra.cells,List.length_map,lt_false hilt,wsucc r (by omega),
  evx,evy,ofValue,ofCell,List.range,List.range.loop,Array.size,Nat.reduceAdd,Nat.reduceSub,Nat.reduceEqDiff,List.replicate,if_true,if_false,↓reduceIte,reduceCtorEq,elB,evParts,Int.reduceToNat,Int.reduceLE,Int.reduceLT,Int.reduceEq,Nat.reduceMul,Nat.reduceLeDiff,Nat.reduceLT,ty3,ty4,ty9,ty28,ty85,ty22,ty23,ty24,ty25,ty27,ty63]
   exact back_intro hs (r + 1,o1) (le_wk (by simp [wk,Gra.cells])) ⟨by simp only; omega,by simp only; rw [iter_succ,← hro]; exact hio,by simp only; omega⟩ (by simp only; omega)
 ·obtain rfl : r = g.nonts.length + 1 := by omega
  have hrt : (((g.nonts.length + 1 : Nat) : Int) ≤ (g.nonts.length : Int)) = False := by simpa using hrlt
  have ho : o = refVan g := hro
  have hol := ints_length o
  have hof := ok47 o (by omega)
  rw [← ho]
  simp -implicitDefEqProofs only [Gra.cells,List.length_map,hrt,
  evx,evy,ofValue,ofCell,List.range,List.range.loop,Array.size,Nat.reduceAdd,Nat.reduceSub,Nat.reduceEqDiff,List.replicate,if_true,if_false,↓reduceIte,reduceCtorEq,elB,evParts,Int.reduceToNat,Int.reduceLE,Int.reduceLT,Int.reduceEq,Nat.reduceMul,Nat.reduceLeDiff,Nat.reduceLT,ty3,ty4,ty9,ty28,ty85,ty22,ty23,ty24,ty25,ty27,ty63]
  refine callK_ret _ _ _ _ (call_freeze (args' := [.fv (.lst 1 (ints o))]) [1] (by simp) (by simp [subAny,subA,frzSub,← hol]) rfl
   (call_pure hof (fun _ => rfl) (fun _ => rfl)) [1] (by simp) (by simp) (fun i hi hl => by
    have : i = 0 := by simp at hi hl; omega
    subst this; simp [freezeSt,killAll,subBlk,subAny,subA,Gra.cells])) (ok_none _ _) ?_
  simp -implicitDefEqProofs only [subAny,subA,subL,backSub,back,putBack,subBlk,Option.getD_some,List.map_cons,List.map_nil,Nat.not_lt_zero,Nat.sub_zero,Nat.add_zero,List.length_map,freezeSt,
  evx,evy,ofValue,ofCell,List.range,List.range.loop,Array.size,Nat.reduceAdd,Nat.reduceSub,Nat.reduceEqDiff,List.replicate,if_true,if_false,↓reduceIte,reduceCtorEq,elB,evParts,Int.reduceToNat,Int.reduceLE,Int.reduceLT,Int.reduceEq,Nat.reduceMul,Nat.reduceLeDiff,Nat.reduceLT,ty3,ty4,ty9,ty28,ty85,ty22,ty23,ty24,ty25,ty27,ty63]
  exact le_to [] [] rfl (by simp) (by simp) (by simp) (by simp) rfl
end Go.Abs
/- What begins a text: the document's queue. -/
namespace Go.Abs
open Go.Proofs
set_option linter.unusedVariables false
set_option linter.unusedSimpArgs false
set_option maxRecDepth 100000
set_option maxHeartbeats 8000000
theorem look_q {o : List Int} {x : FV} {b c : Blk} : [AV.ref 1 1 0 o.length,.fv x].map (subAny (mkSub [] [1] [b,.plain 1 (ints o),c])) = [.fv (.lst 1 (ints o)),.fv x] := by
 have h := ints_length o
 simp [subAny,subA,mkSub,idx,← h]
theorem look_qfl {o : List Int} {b c : Blk} : ∀ i ∈ [1],∃ es rows,([b,.plain 1 (ints o),c] : List Blk)[i]? = some (.plain es rows) := fun i hi => by
 simp at hi; subst hi; exact ⟨_,_,rfl⟩
def rightsL (l : List Prd) (n : Int) : List (List Int) := l.flatMap fun p => if p.left = n then [p.right] else []
theorem rightsL_succ {l : List Prd} {n : Int} {i : Nat} (h : i < l.length) : rightsL (l.take (i + 1)) n = if l[i].left = n then rightsL (l.take i) n ++ [l[i].right] else rightsL (l.take i) n := by
 unfold rightsL
 rw [List.take_add_one,List.getElem?_eq_getElem h,List.flatMap_append]
 split
 ·rename_i e; simp [e]
 ·rename_i e; simp [e]
theorem rightsL_len (l : List Prd) (n : Int) : (rightsL l n).length ≤ l.length := by
 unfold rightsL
 induction l with
 | nil => simp
 | cons p l ih =>
  rw [List.flatMap_cons,List.length_append,List.length_cons]
  have : (if p.left = n then [p.right] else []).length ≤ 1 := by split <;> simp
  omega
theorem seenT_cons (g : Gra) (null : List Int) (n : Int) (r : List Int) (s : List Int × List (List Int)) : seenT g null (n :: r) s = if n ∈ null then seenT g null r (if n ∈ s.1 then s else (s.1 ++ [n],s.2 ++ g.rights n)) else (if n ∈ s.1 then s else (s.1 ++ [n],s.2 ++ g.rights n)) := rfl
theorem rowsOf_app (a b : List (List Int)) : rowsOf (a ++ b) = rowsOf a ++ rowsOf b := by simp [rowsOf]
theorem rows_cut (pre todo : List (List Int)) (r : List Int) : List.take todo.length (List.drop pre.length (rowsOf (pre ++ todo))) ++ [[FV.lst 1 (ints r)]] = rowsOf (todo ++ [r]) := by
 rw [rowsOf_app,List.drop_append_of_le_length (by rw [rowsOf_length]; exact Nat.le_refl _),List.drop_of_length_le (by rw [rowsOf_length]; exact Nat.le_refl _),List.nil_append,List.take_of_length_le (by rw [rowsOf_length]; exact Nat.le_refl _),rowsOf_app]
 rfl
theorem ok46 (g : Gra) (hsd : g.sound = true) (null : List Int) (hnull : ∀ n,n ∈ null ↔ Nul g n) (hnl : null.length < 1048576) (text : List Int) (ht : text.length ≤ 1000) (hsy : ∀ n ∈ text,1 ≤ n ∧ n ≤ (g.all : Int)) :
  Ok Tryz.prog 46 [g.av,.fv (.lst 1 (ints null)),.fv (.lst 1 (ints text))] [] (.ret (.fv (.lst 1 (ints (startsL g null text))))) [] := by
 have hso := g.sound_iff hsd
 have hnp := hso.nprods
 have hal := hso.all_le
 have hF0 : staM g [] [text] ≤ 1281 := by
  unfold staM
  have : g.all * g.prods.length ≤ 32 * 40 := Nat.mul_le_mul hal hnp
  simp only [List.length_cons,List.length_nil,Nat.sub_zero]
  omega
 refine ok_start (k := 76) (n0 := 0) (rs := [.tmp 6]) mix Tryz.func46 rfl rfl rfl rfl rfl rfl rfl ?_
 simp -implicitDefEqProofs only [awp_draw _ _ Tryzdr46_15,Gra.av,Gra.cells,
  evx,evy,ofValue,ofCell,List.range,List.range.loop,Array.size,Nat.reduceAdd,Nat.reduceSub,Nat.reduceEqDiff,List.replicate,if_true,if_false,↓reduceIte,reduceCtorEq,elB,evParts,Int.reduceToNat,Int.reduceLE,Int.reduceLT,Int.reduceEq,Nat.reduceMul,Nat.reduceLeDiff,Nat.reduceLT,ty3,ty4,ty9,ty28,ty85,ty22,ty23,ty24,ty25,ty27,ty63]
 refine loop_rule (fun x : Nat × List (List Int) × List Int × List (List Int) => ⟨[.any,.fv (.lst 1 (ints null)),.any,.ptr 0 0 0 0,.any,.any,.any,.ref 1 1 0 x.2.2.1.length,.ref 2 1 x.2.2.2.length x.2.1.length,.any,.any,.any,.any,.any,.any,.any,.any,.any,.any,.any,.any,.any,.any,.any,.any,.any,.any,.any,.any,.any,.any,.any,.any,.any,.any,.any,.any,.any,.any,.any,.any,.any,.any,.any,.any,.any,.any,.any,.any,.any,.any,.any,.any,.any,.any,.any,.any,.any,.any,.any,.any,.any,.any,.any,.any,.any,.any,.any,.any,.any,.any,.any,.any,.any,.any,.any,.any,.any,.any],[.box g.cells,.plain 1 (ints x.2.2.1),.plain 1 (rowsOf (x.2.2.2 ++ x.2.1))],[]⟩)
  (fun x => StaI g text x.2.2.1 x.2.1 ∧ startsL g null text = startsR g null x.1 x.2.1 x.2.2.1 ∧ staM g x.2.2.1 x.2.1 ≤ x.1 ∧ x.1 ≤ 1281) (fun x => x.1) (staM g [] [text],[text],[],[])
  (Le.trans (le_virt 7 1 rfl) (le_pk [0,3,2] rfl (by simp) (by simp) (by simp [subBlk,subAny,subA,mkSub,idx,Gra.cells,ints,rowsOf]) (by simp [wk,subAny,subA,mkSub,idx]))) ⟨staI_start hsy,rfl,Nat.le_refl _,hF0⟩ (fun x hx s hs => ?_)
 obtain ⟨f,todo,out,pre⟩ := x
 obtain ⟨hI,hR,hM,hf⟩ := hx
 simp only at hI hR hM hf hs ⊢
 have hol := ints_length out
 have hou := nodup_len hI.nd hI.rg
 cases todo with
 | nil =>
  have hc : ((0 : Int) < (([] : List (List Int)).length : Int)) = False := by simp
  rw [startsR_nil] at hR
  simp -implicitDefEqProofs only [awp_draw _ _ Tryzdr46_15,hc,
  evx,evy,ofValue,ofCell,List.range,List.range.loop,Array.size,Nat.reduceAdd,Nat.reduceSub,Nat.reduceEqDiff,List.replicate,if_true,if_false,↓reduceIte,reduceCtorEq,elB,evParts,Int.reduceToNat,Int.reduceLE,Int.reduceLT,Int.reduceEq,Nat.reduceMul,Nat.reduceLeDiff,Nat.reduceLT,ty3,ty4,ty9,ty28,ty85,ty22,ty23,ty24,ty25,ty27,ty63]
  rw [hR]
  refine le_lst (rows := ints out) rfl (by omega) ?_
  rw [List.drop_zero,← hol,List.take_length]
 | cons t todo =>
  have hM2 := hM
  unfold staM at hM2
  rw [List.length_cons] at hM2
  obtain ⟨f',rfl⟩ : ∃ f',f = f' + 1 := ⟨f - 1,by omega⟩
  have hc : ((0 : Int) < ((todo.length + 1 : Nat) : Int)) = True := by simp only [eq_iff_iff,iff_true]; omega
  have hrow : (rowsOf (pre ++ t :: todo))[pre.length]? = some [.lst 1 (ints t)] := rowsOf_at (by rw [List.getElem?_append_right (Nat.le_refl _),Nat.sub_self]; rfl)
  have htl := hI.short t (by simp)
  have htr := hI.rgT t (by simp)
  have hnext := hI.next hso hnull
  have hless := hI.less hso hnull
  rw [startsR] at hR
  have hpp : pre ++ t :: todo = (pre ++ [t]) ++ todo := by simp
  have hpl : pre.length + 1 = (pre ++ [t]).length := by simp
  have hit := ints_length t
  have hsl : (t :: todo).length - 1 = todo.length := by simp
  simp -implicitDefEqProofs only [awp_draw _ _ Tryzdr46_15,hc,hrow,Nat.add_zero,
  evx,evy,ofValue,ofCell,List.range,List.range.loop,Array.size,Nat.reduceAdd,Nat.reduceSub,Nat.reduceEqDiff,List.replicate,if_true,if_false,↓reduceIte,reduceCtorEq,elB,evParts,Int.reduceToNat,Int.reduceLE,Int.reduceLT,Int.reduceEq,Nat.reduceMul,Nat.reduceLeDiff,Nat.reduceLT,ty3,ty4,ty9,ty28,ty85,ty22,ty23,ty24,ty25,ty27,ty63]
  refine ⟨by omega,?_⟩
  generalize hS : seenT g null t (out,todo) = S at hR hnext hless
  refine loop_rule (fun y : Nat × (List Int × List (List Int)) × List (List Int) => ⟨[.any,.fv (.lst 1 (ints null)),.any,.ptr 0 0 0 0,.any,.any,.any,.ref 1 1 0 y.2.1.1.length,.ref 2 1 y.2.2.length y.2.1.2.length,.fv (.lst 1 (ints t)),.fv (.int .i64 y.1),.any,.any,.any,.any,.any,.any,.any,.any,.any,.any,.any,.any,.any,.any,.any,.any,.any,.any,.any,.any,.any,.any,.any,.any,.any,.any,.any,.any,.any,.any,.any,.any,.any,.any,.any,.any,.any,.any,.any,.any,.any,.any,.any,.any,.any,.any,.any,.any,.any,.any,.any,.any,.any,.any,.any,.any,.any,.any,.any,.any,.any,.any,.any,.any,.any,.any,.any,.any],[.box g.cells,.plain 1 (ints y.2.1.1),.plain 1 (rowsOf (y.2.2 ++ y.2.1.2))],[]⟩)
   (fun y => y.1 ≤ t.length ∧ seenT g null (t.drop y.1) y.2.1 = S ∧ y.2.1.1.length ≤ out.length + y.1 ∧ y.2.1.2.length ≤ todo.length + 40 * y.1) (fun y => t.length - y.1) (0,(out,todo),pre ++ [t])
   (le_pk [0,1,2] rfl (by simp) (by simp) (by simp [subBlk,subAny,subA,mkSub,idx,Gra.cells]) (by simp [wk,subAny,subA,mkSub,idx])) ⟨by omega,hS,by simp,by simp⟩ (fun y hy s2 hs2 => ?_)
  obtain ⟨i,⟨o,q⟩,pr⟩ := y
  obtain ⟨hi,hse,hoL,hqL⟩ := hy
  simp only at hi hse hoL hqL hs2 ⊢
  have hoi := ints_length o
  by_cases hlt : i < t.length
  ·have hr := ints_get t i hlt
   rw [List.drop_eq_getElem_cons hlt,seenT_cons] at hse
   generalize t[i] = n at hr hse
   have hh := ok19 o n (by omega)
   have hh2 := ok19 null n (by omega)
   by_cases hn : n ∈ o
   ·rw [if_pos hn] at hse
    rw [decide_eq_true hn] at hh
    simp -implicitDefEqProofs only [awp_draw _ _ Tryzdr46_15,hit,lt_true hlt,hr,
  evx,evy,ofValue,ofCell,List.range,List.range.loop,Array.size,Nat.reduceAdd,Nat.reduceSub,Nat.reduceEqDiff,List.replicate,if_true,if_false,↓reduceIte,reduceCtorEq,elB,evParts,Int.reduceToNat,Int.reduceLE,Int.reduceLT,Int.reduceEq,Nat.reduceMul,Nat.reduceLeDiff,Nat.reduceLT,ty3,ty4,ty9,ty28,ty85,ty22,ty23,ty24,ty25,ty27,ty63]
    refine callK_ret _ _ _ _ (call_look [1] hh look_q look_qfl rfl) (ok_nil _ _) ?_
    by_cases hu : n ∈ null
    ·rw [if_pos hu] at hse
     rw [decide_eq_true hu] at hh2
     simp -implicitDefEqProofs only [awp_draw _ _ Tryzdr46_15,hr,
  evx,evy,ofValue,ofCell,List.range,List.range.loop,Array.size,Nat.reduceAdd,Nat.reduceSub,Nat.reduceEqDiff,List.replicate,if_true,if_false,↓reduceIte,reduceCtorEq,elB,evParts,Int.reduceToNat,Int.reduceLE,Int.reduceLT,Int.reduceEq,Nat.reduceMul,Nat.reduceLeDiff,Nat.reduceLT,ty3,ty4,ty9,ty28,ty85,ty22,ty23,ty24,ty25,ty27,ty63]
     refine callK_ret _ _ _ _ (call_pure (hh2) (fun _ => rfl) (fun _ => rfl)) (ok_nil _ _) ?_
     simp -implicitDefEqProofs only [awp_draw _ _ Tryzdr46_15,wsucc i (by omega),
  evx,evy,ofValue,ofCell,List.range,List.range.loop,Array.size,Nat.reduceAdd,Nat.reduceSub,Nat.reduceEqDiff,List.replicate,if_true,if_false,↓reduceIte,reduceCtorEq,elB,evParts,Int.reduceToNat,Int.reduceLE,Int.reduceLT,Int.reduceEq,Nat.reduceMul,Nat.reduceLeDiff,Nat.reduceLT,ty3,ty4,ty9,ty28,ty85,ty22,ty23,ty24,ty25,ty27,ty63]
     exact back_intro hs2 (i + 1,(o,q),pr) (le_wk (by simp [wk])) ⟨by simp only; omega,hse,by simp only; omega,by simp only; omega⟩ (by simp only; omega)
    ·rw [if_neg hu] at hse
     rw [decide_eq_false hu] at hh2
     subst hse
     simp -implicitDefEqProofs only [awp_draw _ _ Tryzdr46_15,hr,
  evx,evy,ofValue,ofCell,List.range,List.range.loop,Array.size,Nat.reduceAdd,Nat.reduceSub,Nat.reduceEqDiff,List.replicate,if_true,if_false,↓reduceIte,reduceCtorEq,elB,evParts,Int.reduceToNat,Int.reduceLE,Int.reduceLT,Int.reduceEq,Nat.reduceMul,Nat.reduceLeDiff,Nat.reduceLT,ty3,ty4,ty9,ty28,ty85,ty22,ty23,ty24,ty25,ty27,ty63]
     refine callK_ret _ _ _ _ (call_pure (hh2) (fun _ => rfl) (fun _ => rfl)) (ok_nil _ _) ?_
     simp -implicitDefEqProofs only [awp_draw _ _ Tryzdr46_15,
  evx,evy,ofValue,ofCell,List.range,List.range.loop,Array.size,Nat.reduceAdd,Nat.reduceSub,Nat.reduceEqDiff,List.replicate,if_true,if_false,↓reduceIte,reduceCtorEq,elB,evParts,Int.reduceToNat,Int.reduceLE,Int.reduceLT,Int.reduceEq,Nat.reduceMul,Nat.reduceLeDiff,Nat.reduceLT,ty3,ty4,ty9,ty28,ty85,ty22,ty23,ty24,ty25,ty27,ty63]
     exact back_intro hs (f',q,o,pr) (le_wk (by simp [wk])) ⟨hnext,hR,by simp only at hless ⊢; omega,by simp only; omega⟩ (by simp only; omega)
   ·rw [if_neg hn] at hse
    rw [decide_eq_false hn] at hh
    simp -implicitDefEqProofs only [awp_draw _ _ Tryzdr46_15,hit,lt_true hlt,hr,
  evx,evy,ofValue,ofCell,List.range,List.range.loop,Array.size,Nat.reduceAdd,Nat.reduceSub,Nat.reduceEqDiff,List.replicate,if_true,if_false,↓reduceIte,reduceCtorEq,elB,evParts,Int.reduceToNat,Int.reduceLE,Int.reduceLT,Int.reduceEq,Nat.reduceMul,Nat.reduceLeDiff,Nat.reduceLT,ty3,ty4,ty9,ty28,ty85,ty22,ty23,ty24,ty25,ty27,ty63]
    refine callK_ret _ _ _ _ (call_look [1] hh look_q look_qfl rfl) (ok_nil _ _) ?_
    simp -implicitDefEqProofs only [awp_draw _ _ Tryzdr46_15,hr,
  evx,evy,ofValue,ofCell,List.range,List.range.loop,Array.size,Nat.reduceAdd,Nat.reduceSub,Nat.reduceEqDiff,List.replicate,if_true,if_false,↓reduceIte,reduceCtorEq,elB,evParts,Int.reduceToNat,Int.reduceLE,Int.reduceLT,Int.reduceEq,Nat.reduceMul,Nat.reduceLeDiff,Nat.reduceLT,ty3,ty4,ty9,ty28,ty85,ty22,ty23,ty24,ty25,ty27,ty63]
    refine ⟨⟨by omega,by omega⟩,?_⟩
    refine loop_rule (fun z : Nat × List (List Int) => ⟨[.any,.fv (.lst 1 (ints null)),.any,.ptr 0 0 0 0,.any,.any,.any,.ref 1 1 0 (o.length + 1),.ref 2 1 z.2.length (q.length + (rightsL (g.prods.take z.1) n).length),.fv (.lst 1 (ints t)),.fv (.int .i64 i),.fv (.int .i64 z.1),.any,.any,.any,.any,.any,.any,.any,.any,.any,.any,.any,.any,.any,.any,.any,.any,.any,.any,.any,.any,.any,.any,.any,.any,.any,.any,.any,.any,.any,.any,.any,.any,.any,.any,.any,.any,.any,.any,.any,.any,.any,.any,.any,.any,.any,.any,.any,.any,.any,.any,.any,.any,.any,.any,.any,.any,.any,.any,.any,.any,.any,.any,.any,.any,.any,.any,.any],[.box g.cells,.plain 1 (ints (o ++ [n])),.plain 1 (rowsOf (z.2 ++ (q ++ rightsL (g.prods.take z.1) n)))],[]⟩)
     (fun z => z.1 ≤ g.prods.length) (fun z => g.prods.length - z.1) (0,pr) (le_pk [0,4,2] rfl (by simp) (by simp) ?_ ?_) (by simp) (fun z hz s3 hs3 => ?_)
    ·have e : List.take o.length (ints o) ++ [[FV.int IntKind.i64 n]] = ints (o ++ [n]) := by
      rw [← hoi,List.take_length,ints_append]; rfl
     simp [subBlk,subAny,subA,mkSub,idx,Gra.cells,e,rightsL]
    ·simp [wk,subAny,subA,mkSub,idx,rightsL]
    obtain ⟨k,pk⟩ := z
    simp only at hz hs3 ⊢
    have hrl := rightsL_len (g.prods.take k) n
    rw [List.length_take] at hrl
    have hql : (rightsL (g.prods.take k) n).length ≤ 40 := by omega
    by_cases hklt : k < g.prods.length
    ·have hrow2 := rows_at Prd.row g.prods k hklt
     have hsu := rightsL_succ (n := n) hklt
     generalize g.prods[k] = p at hrow2 hsu
     have hcut : List.take (q ++ rightsL (g.prods.take k) n).length (List.drop pk.length (rowsOf (pk ++ (q ++ rightsL (g.prods.take k) n)))) ++ [[FV.lst 1 (p.right.map iRow)]] = rowsOf ((q ++ rightsL (g.prods.take k) n) ++ [p.right]) := rows_cut pk (q ++ rightsL (g.prods.take k) n) p.right
     have hrl2 := rowsOf_length (pk ++ (q ++ rightsL (g.prods.take k) n))
     rw [List.length_append,List.length_append] at hrl2
     rw [List.length_append] at hcut
     by_cases hpn : p.left = n
     ·have hpt : (p.left = n) = True := by simpa using hpn
      rw [if_pos hpn] at hsu
      have hsu2 : q ++ rightsL (g.prods.take (k + 1)) n = (q ++ rightsL (g.prods.take k) n) ++ [p.right] := by rw [hsu,List.append_assoc]
      have hsl2 : (rightsL (g.prods.take (k + 1)) n).length = (rightsL (g.prods.take k) n).length + 1 := by rw [hsu]; simp
      simp -implicitDefEqProofs only [awp_draw _ _ Tryzdr46_15,Gra.cells,List.length_map,lt_true hklt,hrow2,Prd.row,hr,hpt,wsucc k (by omega),
  evx,evy,ofValue,ofCell,List.range,List.range.loop,Array.size,Nat.reduceAdd,Nat.reduceSub,Nat.reduceEqDiff,List.replicate,if_true,if_false,↓reduceIte,reduceCtorEq,elB,evParts,Int.reduceToNat,Int.reduceLE,Int.reduceLT,Int.reduceEq,Nat.reduceMul,Nat.reduceLeDiff,Nat.reduceLT,ty3,ty4,ty9,ty28,ty85,ty22,ty23,ty24,ty25,ty27,ty63]
      refine ⟨⟨by omega,by omega⟩,back_intro hs3 (k + 1,[]) (le_pk [0,1,4] rfl (by simp) (by simp) ?_ ?_) (by simp only; omega) (by simp only; omega)⟩
      ·simp only [hsu2]
       simp [subBlk,subAny,subA,mkSub,idx,Gra.cells,hcut]
      ·simp [wk,subAny,subA,mkSub,idx,hsl2,Nat.add_assoc]
     ·have hpt : (p.left = n) = False := by simpa using hpn
      rw [if_neg hpn] at hsu
      simp -implicitDefEqProofs only [awp_draw _ _ Tryzdr46_15,Gra.cells,List.length_map,lt_true hklt,hrow2,Prd.row,hr,hpt,wsucc k (by omega),
  evx,evy,ofValue,ofCell,List.range,List.range.loop,Array.size,Nat.reduceAdd,Nat.reduceSub,Nat.reduceEqDiff,List.replicate,if_true,if_false,↓reduceIte,reduceCtorEq,elB,evParts,Int.reduceToNat,Int.reduceLE,Int.reduceLT,Int.reduceEq,Nat.reduceMul,Nat.reduceLeDiff,Nat.reduceLT,ty3,ty4,ty9,ty28,ty85,ty22,ty23,ty24,ty25,ty27,ty63]
      refine back_intro hs3 (k + 1,pk) (le_pk [0,1,2] rfl (by simp) (by simp) ?_ ?_) (by simp only; omega) (by simp only; omega)
      ·simp only [hsu]
       simp [subBlk,subAny,subA,mkSub,idx,Gra.cells]
      ·simp only [hsu]
       simp [wk,subAny,subA,mkSub,idx]
    ·obtain rfl : k = g.prods.length := by omega
     have hge : rightsL (g.prods.take g.prods.length) n = g.rights n := by rw [List.take_length]; rfl
     rw [hge] at hql ⊢
     have hoL2 : (o ++ [n]).length = o.length + 1 := by simp
     have hqL2 : (q ++ g.rights n).length = q.length + (g.rights n).length := by simp
     by_cases hu : n ∈ null
     ·rw [if_pos hu] at hse
      rw [decide_eq_true hu] at hh2
      simp -implicitDefEqProofs only [awp_draw _ _ Tryzdr46_15,Gra.cells,List.length_map,lt_false hklt,hr,
  evx,evy,ofValue,ofCell,List.range,List.range.loop,Array.size,Nat.reduceAdd,Nat.reduceSub,Nat.reduceEqDiff,List.replicate,if_true,if_false,↓reduceIte,reduceCtorEq,elB,evParts,Int.reduceToNat,Int.reduceLE,Int.reduceLT,Int.reduceEq,Nat.reduceMul,Nat.reduceLeDiff,Nat.reduceLT,ty3,ty4,ty9,ty28,ty85,ty22,ty23,ty24,ty25,ty27,ty63]
      refine callK_ret _ _ _ _ (call_pure (hh2) (fun _ => rfl) (fun _ => rfl)) (ok_nil _ _) ?_
      simp -implicitDefEqProofs only [awp_draw _ _ Tryzdr46_15,wsucc i (by omega),
  evx,evy,ofValue,ofCell,List.range,List.range.loop,Array.size,Nat.reduceAdd,Nat.reduceSub,Nat.reduceEqDiff,List.replicate,if_true,if_false,↓reduceIte,reduceCtorEq,elB,evParts,Int.reduceToNat,Int.reduceLE,Int.reduceLT,Int.reduceEq,Nat.reduceMul,Nat.reduceLeDiff,Nat.reduceLT,ty3,ty4,ty9,ty28,ty85,ty22,ty23,ty24,ty25,ty27,ty63]
      refine back_intro hs2 (i + 1,(o ++ [n],q ++ g.rights n),pk) (le_pk [0,1,2] rfl (by simp) (by simp) ?_ ?_) ⟨by simp only; omega,hse,by simp only; omega,by simp only; omega⟩ (by simp only; omega)
      ·simp [subBlk,subAny,subA,mkSub,idx,Gra.cells]
      ·simp [wk,subAny,subA,mkSub,idx]
     ·rw [if_neg hu] at hse
      rw [decide_eq_false hu] at hh2
      subst hse
      simp -implicitDefEqProofs only [awp_draw _ _ Tryzdr46_15,Gra.cells,List.length_map,lt_false hklt,hr,
  evx,evy,ofValue,ofCell,List.range,List.range.loop,Array.size,Nat.reduceAdd,Nat.reduceSub,Nat.reduceEqDiff,List.replicate,if_true,if_false,↓reduceIte,reduceCtorEq,elB,evParts,Int.reduceToNat,Int.reduceLE,Int.reduceLT,Int.reduceEq,Nat.reduceMul,Nat.reduceLeDiff,Nat.reduceLT,ty3,ty4,ty9,ty28,ty85,ty22,ty23,ty24,ty25,ty27,ty63]
      refine callK_ret _ _ _ _ (call_pure (hh2) (fun _ => rfl) (fun _ => rfl)) (ok_nil _ _) ?_
      simp -implicitDefEqProofs only [awp_draw _ _ Tryzdr46_15,
  evx,evy,ofValue,ofCell,List.range,List.range.loop,Array.size,Nat.reduceAdd,Nat.reduceSub,Nat.reduceEqDiff,List.replicate,if_true,if_false,↓reduceIte,reduceCtorEq,elB,evParts,Int.reduceToNat,Int.reduceLE,Int.reduceLT,Int.reduceEq,Nat.reduceMul,Nat.reduceLeDiff,Nat.reduceLT,ty3,ty4,ty9,ty28,ty85,ty22,ty23,ty24,ty25,ty27,ty63]
      refine back_intro hs (f',q ++ g.rights n,o ++ [n],pk) (le_pk [0,1,2] rfl (by simp) (by simp) ?_ ?_) ⟨hnext,hR,by simp only at hless ⊢; omega,by simp only; omega⟩ (by simp only; omega)
      ·simp [subBlk,subAny,subA,mkSub,idx,Gra.cells]
      ·simp [wk,subAny,subA,mkSub,idx]
  ·obtain rfl : i = t.length := by omega
   rw [List.drop_length] at hse
   have hse : (o,q) = S := hse
   subst hse
   simp -implicitDefEqProofs only [awp_draw _ _ Tryzdr46_15,hit,lt_false hlt,
  evx,evy,ofValue,ofCell,List.range,List.range.loop,Array.size,Nat.reduceAdd,Nat.reduceSub,Nat.reduceEqDiff,List.replicate,if_true,if_false,↓reduceIte,reduceCtorEq,elB,evParts,Int.reduceToNat,Int.reduceLE,Int.reduceLT,Int.reduceEq,Nat.reduceMul,Nat.reduceLeDiff,Nat.reduceLT,ty3,ty4,ty9,ty28,ty85,ty22,ty23,ty24,ty25,ty27,ty63]
   exact back_intro hs (f',q,o,pr) (le_wk (by simp [wk])) ⟨hnext,hR,by simp only at hless ⊢; omega,by simp only; omega⟩ (by simp only; omega)
end Go.Abs
