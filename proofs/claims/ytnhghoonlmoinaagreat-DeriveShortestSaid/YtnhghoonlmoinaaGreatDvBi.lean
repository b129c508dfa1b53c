/- Productions, one behind the other: the program's answer. -/
import Derived.Test.YtnhghoonlmoinaaGreatTyTryzi
import Derived.Test.YtnhghoonlmoinaaGreatDrTryzi
import Derived.Test.YtnhghoonlmoinaaGreatAbsNil
import Derived.Test.YtnhghoonlmoinaaGreatItAi
import Derived.Test.YtnhghoonlmoinaaGreatCkKi
namespace Go.Abs
open Go.Proofs
set_option linter.unusedVariables false
set_option linter.unusedSimpArgs false
set_option maxRecDepth 100000
set_option maxHeartbeats 8000000
theorem ok12 (g : Gra) : Ok Tryz.prog 12 [g.av] [] (.ret (.fv (.bool (g.heavyB)))) [] := by
 refine ok_start (k := 81) (n0 := 0) (rs := [.tmp 2]) mix Tryz.func12 rfl rfl rfl rfl rfl rfl rfl ?_
 by_cases a1 : (14 : Int) < (g.prods.length : Int)
 ·simp -implicitDefEqProofs only [Gra.av,List.length_map,lit_true a1,
  evx,evy,ofValue,ofCell,List.range,List.range.loop,Array.size,Nat.reduceAdd,Nat.reduceSub,Nat.reduceEqDiff,List.replicate,if_true,if_false,↓reduceIte,reduceCtorEq,elB,evParts,Int.reduceToNat,Int.reduceLE,Int.reduceLT,Int.reduceEq,Nat.reduceMul,Nat.reduceLeDiff,Nat.reduceLT,ty3,ty4,ty9,ty28,ty85,ty22,ty23,ty24,ty25,ty27,ty63,ty59,ty61,ty127,ty52,ty43,ty31]
  rw [heavy_of (by simp; omega)]
  exact le_flat rfl
 by_cases a2 : (10 : Int) < (g.rules.length : Int)
 ·simp -implicitDefEqProofs only [Gra.av,List.length_map,lit_false a1,lit_true a2,
  evx,evy,ofValue,ofCell,List.range,List.range.loop,Array.size,Nat.reduceAdd,Nat.reduceSub,Nat.reduceEqDiff,List.replicate,if_true,if_false,↓reduceIte,reduceCtorEq,elB,evParts,Int.reduceToNat,Int.reduceLE,Int.reduceLT,Int.reduceEq,Nat.reduceMul,Nat.reduceLeDiff,Nat.reduceLT,ty3,ty4,ty9,ty28,ty85,ty22,ty23,ty24,ty25,ty27,ty63,ty59,ty61,ty127,ty52,ty43,ty31]
  rw [heavy_of (by simp; omega)]
  exact le_flat rfl
 by_cases a3 : (8 : Int) < (g.nonts.length : Int)
 ·simp -implicitDefEqProofs only [Gra.av,List.length_map,lit_false a1,lit_false a2,lit_true a3,
  evx,evy,ofValue,ofCell,List.range,List.range.loop,Array.size,Nat.reduceAdd,Nat.reduceSub,Nat.reduceEqDiff,List.replicate,if_true,if_false,↓reduceIte,reduceCtorEq,elB,evParts,Int.reduceToNat,Int.reduceLE,Int.reduceLT,Int.reduceEq,Nat.reduceMul,Nat.reduceLeDiff,Nat.reduceLT,ty3,ty4,ty9,ty28,ty85,ty22,ty23,ty24,ty25,ty27,ty63,ty59,ty61,ty127,ty52,ty43,ty31]
  rw [heavy_of (by simp; omega)]
  exact le_flat rfl
 by_cases a4 : (20 : Int) < (g.levels.length : Int)
 ·simp -implicitDefEqProofs only [Gra.av,List.length_map,lit_false a1,lit_false a2,lit_false a3,lit_true a4,
  evx,evy,ofValue,ofCell,List.range,List.range.loop,Array.size,Nat.reduceAdd,Nat.reduceSub,Nat.reduceEqDiff,List.replicate,if_true,if_false,↓reduceIte,reduceCtorEq,elB,evParts,Int.reduceToNat,Int.reduceLE,Int.reduceLT,Int.reduceEq,Nat.reduceMul,Nat.reduceLeDiff,Nat.reduceLT,ty3,ty4,ty9,ty28,ty85,ty22,ty23,ty24,ty25,ty27,ty63,ty59,ty61,ty127,ty52,ty43,ty31]
  rw [heavy_of (by simp; omega)]
  exact le_flat rfl
 have hb : g.heavyB = (g.rules.any Rul.heavyB || g.nonts.any (fun s => decide (40 < s.length)) || g.prods.any fun p => decide (8 < p.right.length)) := by
  unfold Gra.heavyB
  have b1 : decide (14 < g.prods.length) = false := by simp; omega
  have b2 : decide (10 < g.rules.length) = false := by simp; omega
  have b3 : decide (8 < g.nonts.length) = false := by simp; omega
  have b4 : decide (20 < g.levels.length) = false := by simp; omega
  rw [b1,b2,b3,b4]
  simp
 rw [hb]
 simp -implicitDefEqProofs only [Gra.av,List.length_map,lit_false a1,lit_false a2,lit_false a3,lit_false a4,
  evx,evy,ofValue,ofCell,List.range,List.range.loop,Array.size,Nat.reduceAdd,Nat.reduceSub,Nat.reduceEqDiff,List.replicate,if_true,if_false,↓reduceIte,reduceCtorEq,elB,evParts,Int.reduceToNat,Int.reduceLE,Int.reduceLT,Int.reduceEq,Nat.reduceMul,Nat.reduceLeDiff,Nat.reduceLT,ty3,ty4,ty9,ty28,ty85,ty22,ty23,ty24,ty25,ty27,ty63,ty59,ty61,ty127,ty52,ty43,ty31]
 refine loop_rule (fun i : Nat => ⟨[.any,.ptr 0 0 0 0,.any,.any,.any,.any,.any,.any,.any,.any,.any,.any,.any,.any,.any,.any,.any,.any,.any,.any,.any,.any,.any,.any,.any,.any,.any,.any,.any,.any,.fv (.int .i64 g.rules.length),.fv (.int .i64 i),.any,.any,.any,.any,.any,.any,.any,.any,.any,.any,.any,.any,.any,.any,.any,.any,.any,.any,.any,.any,.any,.any,.any,.any,.any,.any,.any,.any,.any,.any,.any,.any,.any,.any,.any,.any,.any,.any,.any,.any,.any,.any,.any,.any,.any,.any,.any,.any,.any,.any],[.box g.cells],[]⟩)
  (fun i => i ≤ g.rules.length ∧ (g.rules.take i).any Rul.heavyB = false) (fun i => g.rules.length - i) 0 (le_wk (by simp [wk])) (by simp) (fun i hi s hs => ?_)
 obtain ⟨hi,hno⟩ := hi
 by_cases hlt : i < g.rules.length
 ·have hr := rows_at Rul.row g.rules i hlt
  have hst := any_take_succ Rul.heavyB g.rules i hlt
  have hany := fun h : g.rules[i].heavyB = true => List.any_eq_true.2 ⟨g.rules[i],List.getElem_mem hlt,h⟩
  generalize g.rules[i] = r at hr hst hany
  by_cases c1 : (30 : Int) < (r.re.length : Int)
  ·simp -implicitDefEqProofs only [Gra.cells,List.length_map,lt_true hlt,hr,Rul.row,lit_true c1,
  evx,evy,ofValue,ofCell,List.range,List.range.loop,Array.size,Nat.reduceAdd,Nat.reduceSub,Nat.reduceEqDiff,List.replicate,if_true,if_false,↓reduceIte,reduceCtorEq,elB,evParts,Int.reduceToNat,Int.reduceLE,Int.reduceLT,Int.reduceEq,Nat.reduceMul,Nat.reduceLeDiff,Nat.reduceLT,ty3,ty4,ty9,ty28,ty85,ty22,ty23,ty24,ty25,ty27,ty63,ty59,ty61,ty127,ty52,ty43,ty31]
   rw [hany (by simp [Rul.heavyB]; omega)]
   exact le_flat rfl
  ·by_cases c2 : (40 : Int) < (r.name.length : Int)
   ·simp -implicitDefEqProofs only [Gra.cells,List.length_map,lt_true hlt,hr,Rul.row,lit_false c1,lit_true c2,
  evx,evy,ofValue,ofCell,List.range,List.range.loop,Array.size,Nat.reduceAdd,Nat.reduceSub,Nat.reduceEqDiff,List.replicate,if_true,if_false,↓reduceIte,reduceCtorEq,elB,evParts,Int.reduceToNat,Int.reduceLE,Int.reduceLT,Int.reduceEq,Nat.reduceMul,Nat.reduceLeDiff,Nat.reduceLT,ty3,ty4,ty9,ty28,ty85,ty22,ty23,ty24,ty25,ty27,ty63,ty59,ty61,ty127,ty52,ty43,ty31]
    rw [hany (by simp [Rul.heavyB]; omega)]
    exact le_flat rfl
   ·simp -implicitDefEqProofs only [Gra.cells,List.length_map,lt_true hlt,hr,Rul.row,lit_false c1,lit_false c2,wsucc i (by omega),
  evx,evy,ofValue,ofCell,List.range,List.range.loop,Array.size,Nat.reduceAdd,Nat.reduceSub,Nat.reduceEqDiff,List.replicate,if_true,if_false,↓reduceIte,reduceCtorEq,elB,evParts,Int.reduceToNat,Int.reduceLE,Int.reduceLT,Int.reduceEq,Nat.reduceMul,Nat.reduceLeDiff,Nat.reduceLT,ty3,ty4,ty9,ty28,ty85,ty22,ty23,ty24,ty25,ty27,ty63,ty59,ty61,ty127,ty52,ty43,ty31]
    refine back_intro hs (i + 1) (le_wk ?_) ⟨by omega,by rw [hst,hno]; simp [Rul.heavyB]; omega⟩ (by omega)
    simp [wk]
 ·have hie : i = g.rules.length := by omega
  subst hie
  rw [List.take_length] at hno
  rw [hno,Bool.false_or]
  simp -implicitDefEqProofs only [Gra.cells,List.length_map,lt_false hlt,
  evx,evy,ofValue,ofCell,List.range,List.range.loop,Array.size,Nat.reduceAdd,Nat.reduceSub,Nat.reduceEqDiff,List.replicate,if_true,if_false,↓reduceIte,reduceCtorEq,elB,evParts,Int.reduceToNat,Int.reduceLE,Int.reduceLT,Int.reduceEq,Nat.reduceMul,Nat.reduceLeDiff,Nat.reduceLT,ty3,ty4,ty9,ty28,ty85,ty22,ty23,ty24,ty25,ty27,ty63,ty59,ty61,ty127,ty52,ty43,ty31]
  refine loop_rule (fun i : Nat => ⟨[.any,.ptr 0 0 0 0,.any,.any,.any,.any,.any,.any,.any,.any,.any,.any,.any,.any,.any,.any,.any,.any,.any,.any,.any,.any,.any,.any,.any,.any,.any,.any,.any,.any,.any,.any,.any,.any,.any,.any,.any,.any,.any,.any,.any,.any,.any,.any,.any,.any,.any,.any,.any,.any,.any,.any,.any,.any,.any,.fv (.int .i64 g.nonts.length),.fv (.int .i64 i),.any,.any,.any,.any,.any,.any,.any,.any,.any,.any,.any,.any,.any,.any,.any,.any,.any,.any,.any,.any,.any,.any,.any,.any,.any],[.box g.cells],[]⟩)
   (fun i => i ≤ g.nonts.length ∧ (g.nonts.take i).any (fun s => decide (40 < s.length)) = false) (fun i => g.nonts.length - i) 0 (le_wk (by simp [wk,Gra.cells])) (by simp) (fun i hi s hs => ?_)
  obtain ⟨hi,hno2⟩ := hi
  by_cases hlt2 : i < g.nonts.length
  ·have hr := rows_at sRow g.nonts i hlt2
   have hst := any_take_succ (fun s : Bs => decide (40 < s.length)) g.nonts i hlt2
   have hany := fun h : decide (40 < g.nonts[i].length) = true => List.any_eq_true (p := fun s : Bs => decide (40 < s.length)).2 ⟨g.nonts[i],List.getElem_mem hlt2,h⟩
   generalize g.nonts[i] = r at hr hst hany
   by_cases c1 : (40 : Int) < (r.length : Int)
   ·simp -implicitDefEqProofs only [Gra.cells,List.length_map,lt_true hlt2,hr,sRow,lit_true c1,
  evx,evy,ofValue,ofCell,List.range,List.range.loop,Array.size,Nat.reduceAdd,Nat.reduceSub,Nat.reduceEqDiff,List.replicate,if_true,if_false,↓reduceIte,reduceCtorEq,elB,evParts,Int.reduceToNat,Int.reduceLE,Int.reduceLT,Int.reduceEq,Nat.reduceMul,Nat.reduceLeDiff,Nat.reduceLT,ty3,ty4,ty9,ty28,ty85,ty22,ty23,ty24,ty25,ty27,ty63,ty59,ty61,ty127,ty52,ty43,ty31]
    rw [hany (by simp; omega)]
    exact le_flat rfl
   ·simp -implicitDefEqProofs only [Gra.cells,List.length_map,lt_true hlt2,hr,sRow,lit_false c1,wsucc i (by omega),
  evx,evy,ofValue,ofCell,List.range,List.range.loop,Array.size,Nat.reduceAdd,Nat.reduceSub,Nat.reduceEqDiff,List.replicate,if_true,if_false,↓reduceIte,reduceCtorEq,elB,evParts,Int.reduceToNat,Int.reduceLE,Int.reduceLT,Int.reduceEq,Nat.reduceMul,Nat.reduceLeDiff,Nat.reduceLT,ty3,ty4,ty9,ty28,ty85,ty22,ty23,ty24,ty25,ty27,ty63,ty59,ty61,ty127,ty52,ty43,ty31]
    refine back_intro hs (i + 1) (le_wk ?_) ⟨by omega,by rw [hst,hno2]; simp; omega⟩ (by omega)
    simp [wk]
  ·have hie2 : i = g.nonts.length := by omega
   subst hie2
   rw [List.take_length] at hno2
   rw [hno2,Bool.false_or]
   simp -implicitDefEqProofs only [Gra.cells,List.length_map,lt_false hlt2,
  evx,evy,ofValue,ofCell,List.range,List.range.loop,Array.size,Nat.reduceAdd,Nat.reduceSub,Nat.reduceEqDiff,List.replicate,if_true,if_false,↓reduceIte,reduceCtorEq,elB,evParts,Int.reduceToNat,Int.reduceLE,Int.reduceLT,Int.reduceEq,Nat.reduceMul,Nat.reduceLeDiff,Nat.reduceLT,ty3,ty4,ty9,ty28,ty85,ty22,ty23,ty24,ty25,ty27,ty63,ty59,ty61,ty127,ty52,ty43,ty31]
   refine loop_rule (fun i : Nat => ⟨[.any,.ptr 0 0 0 0,.any,.any,.any,.any,.any,.any,.any,.any,.any,.any,.any,.any,.any,.any,.any,.any,.any,.any,.any,.any,.any,.any,.any,.any,.any,.any,.any,.any,.any,.any,.any,.any,.any,.any,.any,.any,.any,.any,.any,.any,.any,.any,.any,.any,.any,.any,.any,.any,.any,.any,.any,.any,.any,.any,.any,.any,.any,.any,.any,.any,.any,.any,.any,.any,.any,.any,.any,.fv (.int .i64 g.prods.length),.fv (.int .i64 i),.any,.any,.any,.any,.any,.any,.any,.any,.any,.any,.any],[.box g.cells],[]⟩)
    (fun i => i ≤ g.prods.length ∧ (g.prods.take i).any (fun p => decide (8 < p.right.length)) = false) (fun i => g.prods.length - i) 0 (le_wk (by simp [wk,Gra.cells])) (by simp) (fun i hi s hs => ?_)
   obtain ⟨hi,hno3⟩ := hi
   by_cases hlt3 : i < g.prods.length
   ·have hr := rows_at Prd.row g.prods i hlt3
    have hst := any_take_succ (fun p : Prd => decide (8 < p.right.length)) g.prods i hlt3
    have hany := fun h : decide (8 < g.prods[i].right.length) = true => List.any_eq_true (p := fun p : Prd => decide (8 < p.right.length)).2 ⟨g.prods[i],List.getElem_mem hlt3,h⟩
    generalize g.prods[i] = r at hr hst hany
    by_cases c1 : (8 : Int) < (r.right.length : Int)
    ·simp -implicitDefEqProofs only [Gra.cells,List.length_map,lt_true hlt3,hr,Prd.row,lit_true c1,
  evx,evy,ofValue,ofCell,List.range,List.range.loop,Array.size,Nat.reduceAdd,Nat.reduceSub,Nat.reduceEqDiff,List.replicate,if_true,if_false,↓reduceIte,reduceCtorEq,elB,evParts,Int.reduceToNat,Int.reduceLE,Int.reduceLT,Int.reduceEq,Nat.reduceMul,Nat.reduceLeDiff,Nat.reduceLT,ty3,ty4,ty9,ty28,ty85,ty22,ty23,ty24,ty25,ty27,ty63,ty59,ty61,ty127,ty52,ty43,ty31]
     rw [hany (by simp; omega)]
     exact le_flat rfl
    ·simp -implicitDefEqProofs only [Gra.cells,List.length_map,lt_true hlt3,hr,Prd.row,lit_false c1,wsucc i (by omega),
  evx,evy,ofValue,ofCell,List.range,List.range.loop,Array.size,Nat.reduceAdd,Nat.reduceSub,Nat.reduceEqDiff,List.replicate,if_true,if_false,↓reduceIte,reduceCtorEq,elB,evParts,Int.reduceToNat,Int.reduceLE,Int.reduceLT,Int.reduceEq,Nat.reduceMul,Nat.reduceLeDiff,Nat.reduceLT,ty3,ty4,ty9,ty28,ty85,ty22,ty23,ty24,ty25,ty27,ty63,ty59,ty61,ty127,ty52,ty43,ty31]
     refine back_intro hs (i + 1) (le_wk ?_) ⟨by omega,by rw [hst,hno3]; simp; omega⟩ (by omega)
     simp [wk]
   ·have hie3 : i = g.prods.length := by omega
    subst hie3
    rw [List.take_length] at hno3
    rw [hno3]
    simp -implicitDefEqProofs only [Gra.cells,List.length_map,lt_false hlt3,
  evx,evy,ofValue,ofCell,List.range,List.range.loop,Array.size,Nat.reduceAdd,Nat.reduceSub,Nat.reduceEqDiff,List.replicate,if_true,if_false,↓reduceIte,reduceCtorEq,elB,evParts,Int.reduceToNat,Int.reduceLE,Int.reduceLT,Int.reduceEq,Nat.reduceMul,Nat.reduceLeDiff,Nat.reduceLT,ty3,ty4,ty9,ty28,ty85,ty22,ty23,ty24,ty25,ty27,ty63,ty59,ty61,ty127,ty52,ty43,ty31]
    exact le_flat rfl
theorem right_nil {g : Gra} : g.rightI [] = g.usB := by simp [Gra.rightI]
end Go.Abs
