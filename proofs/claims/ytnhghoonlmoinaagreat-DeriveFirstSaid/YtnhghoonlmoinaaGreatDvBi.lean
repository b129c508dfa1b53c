/- Productions, one behind the other: the program's answer. -/
import Derived.Test.YtnhghoonlmoinaaGreatTyTryzi
import Derived.Test.YtnhghoonlmoinaaGreatDrTryzi
import Derived.Test.YtnhghoonlmoinaaGreatAbsNil
import Derived.Test.YtnhghoonlmoinaaGreatItAi
import Derived.Test.YtnhghoonlmoinaaGreatCkKi
namespace Go.Abs
open Go.Proofs
set_option linter.unusedVariables false
set_option linter.unusedSimpArgs false
set_option maxRecDepth 100000
set_option maxHeartbeats 8000000
theorem ok12 (g : Gra) : Ok Tryz.prog 12 [g.av] [] (.ret (.fv (.bool (g.heavyB)))) [] := by
 refine ok_start (k := 81) (n0 := 0) (rs := [.tmp 2]) mix Tryz.func12 rfl rfl rfl rfl rfl rfl rfl ?_
 by_cases a1 : (14 : Int) < (g.prods.length : Int)
 ·simp -implicitDefEqProofs only [Gra.av,List.length_map,lit_true a1,
  evx,evy,ofValue,ofCell,List.range,List.range.loop,Array.size,Nat.reduceAdd,Nat.reduceSub,Nat.reduceEqDiff,List.replicate,if_true,if_false,↓reduceIte,reduceCtorEq,elB,evParts,Int.reduceToNat,Int.reduceLE,Int.reduceLT,Int.reduceEq,Nat.reduceMul,Nat.reduceLeDiff,Nat.reduceLT,ty3,ty4,ty9,ty28,ty85,ty22,ty23,ty24,ty25,ty27,ty63,ty59,ty61,ty127,ty52,ty43,ty31]
  rw [heavy_of (by simp; omega)]
  exact le_flat rfl
 by_cases a2 : (10 : Int) < (g.rules.length : Int)
 ·simp -implicitDefEqProofs only [Gra.av,List.length_map,lit_false a1,lit_true a2,
  evx,evy,ofValue,ofCell,List.range,List.range.loop,Array.size,Nat.reduceAdd,Nat.reduceSub,Nat.reduceEqDiff,List.replicate,if_true,if_false,↓reduceIte,reduceCtorEq,elB,evParts,Int.reduceToNat,Int.reduceLE,Int.reduceLT,Int.reduceEq,Nat.reduceMul,Nat.reduceLeDiff,Nat.reduceLT,ty3,ty4,ty9,ty28,ty85,ty22,ty23,ty24,ty25,ty27,ty63,ty59,ty61,ty127,ty52,ty43,ty31]
  rw [heavy_of (by simp; omega)]
  exact le_flat rfl
 by_cases a3 : (8 : Int) < (g.nonts.length : Int)
 ·simp -implicitDefEqProofs only [Gra.av,List.length_map,lit_false a1,lit_false a2,lit_true a3,
  evx,evy,ofValue,ofCell,List.range,List.range.loop,Array.size,Nat.reduceAdd,Nat.reduceSub,Nat.reduceEqDiff,List.replicate,if_true,if_false,↓reduceIte,reduceCtorEq,elB,evParts,Int.reduceToNat,Int.reduceLE,Int.reduceLT,Int.reduceEq,Nat.reduceMul,Nat.reduceLeDiff,Nat.reduceLT,ty3,ty4,ty9,ty28,ty85,ty22,ty23,ty24,ty25,ty27,ty63,ty59,ty61,ty127,ty52,ty43,ty31]
  rw [heavy_of (by simp; omega)]
  exact le_flat rfl
 by_cases a4 : (20 : Int) < (g.levels.length : Int)
 ·simp -implicitDefEqProofs only [Gra.av,List.length_map,lit_false a1,lit_false a2,lit_false a3,lit_true a4,
  evx,evy,ofValue,ofCell,List.range,List.range.loop,Array.size,Nat.reduceAdd,Nat.reduceSub,Nat.reduceEqDiff,List.replicate,if_true,if_false,↓reduceIte,reduceCtorEq,elB,evParts,Int.reduceToNat,Int.reduceLE,Int.reduceLT,Int.reduceEq,Nat.reduceMul,Nat.reduceLeDiff,Nat.reduceLT,ty3,ty4,ty9,ty28,ty85,ty22,ty23,ty24,ty25,ty27,ty63,ty59,ty61,ty127,ty52,ty43,ty31]
  rw [heavy_of (by simp; omega)]
  exact le_flat rfl
 have hb : g.heavyB = (g.rules.any Rul.heavyB || g.nonts.any (fun s => decide (40 < s.length)) || g.prods.any fun p => decide (8 < p.right.length)) := by
  unfold Gra.heavyB
  have b1 : decide (14 < g.prods.length) = false := by simp; omega
  have b2 : decide (10 < g.rules.length) = false := by simp; omega
  have b3 : decide (8 < g.nonts.length) = false := by simp; omega
  have b4 : decide (20 < g.levels.length) = false := by simp; omega
  rw [b1,b2,b3,b4]
  simp
 rw [hb]
 simp -implicitDefEqProofs only [Gra.av,List.length_map,lit_false a1,lit_false a2,lit_false a3,lit_false a4,
  evx,evy,ofValue,ofCell,List.range,List.range.loop,Array.size,Nat.reduceAdd,Nat.reduceSub,Nat.reduceEqDiff,List.replicate,if_true,if_false,↓reduceIte,reduceCtorEq,elB,evParts,Int.reduceToNat,Int.reduceLE,Int.reduceLT,Int.reduceEq,Nat.reduceMul,Nat.reduceLeDiff,Nat.reduceLT,ty3,ty4,ty9,ty28,ty85,ty22,ty23,ty24,ty25,ty27,ty63,ty59,ty61,ty127,ty52,ty43,ty31]
 refine loop_rule (fun i : Nat => ⟨[.any,.ptr 0 0 0 0,.any,.any,.any,.any,.any,.any,.any,.any,.any,.any,.any,.any,.any,.any,.any,.any,.any,.any,.any,.any,.any,.any,.any,.any,.any,.any,.any,.any,.fv (.int .i64 g.rules.length),.fv (.int .i64 i),.any,.any,.any,.any,.any,.any,.any,.any,.any,.any,.any,.any,.any,.any,.any,.any,.any,.any,.any,.any,.any,.any,.any,.any,.any,.any,.any,.any,.any,.any,.any,.any,.any,.any,.any,.any,.any,.any,.any,.any,.any,.any,.any,.any,.any,.any,.any,.any,.any,.any],[.box g.cells],[]⟩)
  (fun i => i ≤ g.rules.length ∧ (g.rules.take i).any Rul.heavyB = false) (fun i => g.rules.length - i) 0 (le_wk (by simp [wk])) (by simp) (fun i hi s hs => ?_)
 obtain ⟨hi,hno⟩ := hi
 by_cases hlt : i < g.rules.length
 ·have hr := rows_at Rul.row g.rules i hlt
  have hst := any_take_succ Rul.heavyB g.rules i hlt
  have hany := fun h : g.rules[i].heavyB = true => List.any_eq_true.2 ⟨g.rules[i],List.getElem_mem hlt,h⟩
  generalize g.rules[i] = r at hr hst hany
  by_cases c1 : (30 : Int) < (r.re.length : Int)
  ·simp -implicitDefEqProofs only [Gra.cells,List.length_map,lt_true hlt,hr,Rul.row,lit_true c1,
  evx,evy,ofValue,ofCell,List.range,List.range.loop,Array.size,Nat.reduceAdd,Nat.reduceSub,Nat.reduceEqDiff,List.replicate,if_true,if_false,↓reduceIte,reduceCtorEq,elB,evParts,Int.reduceToNat,Int.reduceLE,Int.reduceLT,Int.reduceEq,Nat.reduceMul,Nat.reduceLeDiff,Nat.reduceLT,ty3,ty4,ty9,ty28,ty85,ty22,ty23,ty24,ty25,ty27,ty63,ty59,ty61,ty127,ty52,ty43,ty31]
   rw [hany (by simp [Rul.heavyB]; omega)]
   exact le_flat rfl
  ·by_cases c2 : (40 : Int) < (r.name.length : Int)
   ·simp -implicitDefEqProofs only [Gra.cells,List.length_map,lt_true hlt,hr,Rul.row,lit_false c1,lit_true c2,
  evx,evy,ofValue,ofCell,List.range,List.range.loop,Array.size,Nat.reduceAdd,Nat.reduceSub,Nat.reduceEqDiff,List.replicate,if_true,if_false,↓reduceIte,reduceCtorEq,elB,evParts,Int.reduceToNat,Int.reduceLE,Int.reduceLT,Int.reduceEq,Nat.reduceMul,Nat.reduceLeDiff,Nat.reduceLT,ty3,ty4,ty9,ty28,ty85,ty22,ty23,ty24,ty25,ty27,ty63,ty59,ty61,ty127,ty52,ty43,ty31]
    rw [hany (by simp [Rul.heavyB]; omega)]
    exact le_flat rfl
   ·simp -implicitDefEqProofs only [Gra.cells,List.length_map,lt_true hlt,hr,Rul.row,lit_false c1,lit_false c2,wsucc i (by omega),
  evx,evy,ofValue,ofCell,List.range,List.range.loop,Array.size,Nat.reduceAdd,Nat.reduceSub,Nat.reduceEqDiff,List.replicate,if_true,if_false,↓reduceIte,reduceCtorEq,elB,evParts,Int.reduceToNat,Int.reduceLE,Int.reduceLT,Int.reduceEq,Nat.reduceMul,Nat.reduceLeDiff,Nat.reduceLT,ty3,ty4,ty9,ty28,ty85,ty22,ty23,ty24,ty25,ty27,ty63,ty59,ty61,ty127,ty52,ty43,ty31]
    refine back_intro hs (i + 1) (le_wk ?_) ⟨by omega,by rw [hst,hno]; simp [Rul.heavyB]; omega⟩ (by omega)
    simp [wk]
 ·have hie : i = g.rules.length := by omega
  subst hie
  rw [List.take_length] at hno
  rw [hno,Bool.false_or]
  simp -implicitDefEqProofs only [Gra.cells,List.length_map,lt_false hlt,
  evx,evy,ofValue,ofCell,List.range,List.range.loop,Array.size,Nat.reduceAdd,Nat.reduceSub,Nat.reduceEqDiff,List.replicate,if_true,if_false,↓reduceIte,reduceCtorEq,elB,evParts,Int.reduceToNat,Int.reduceLE,Int.reduceLT,Int.reduceEq,Nat.reduceMul,Nat.reduceLeDiff,Nat.reduceLT,ty3,ty4,ty9,ty28,ty85,ty22,ty23,ty24,ty25,ty27,ty63,ty59,ty61,ty127,ty52,ty43,ty31]
  refine loop_rule (fun i : Nat => ⟨[.any,.ptr 0 0 0 0,.any,.any,.any,.any,.any,.any,.any,.any,.any,.any,.any,.any,.any,.any,.any,.any,.any,.any,.any,.any,.any,.any,.any,.any,.any,.any,.any,.any,.any,.any,.any,.any,.any,.any,.any,.any,.any,.any,.any,.any,.any,.any,.any,.any,.any,.any,.any,.any,.any,.any,.any,.any,.any,.fv (.int .i64 g.nonts.length),.fv (.int .i64 i),.any,.any,.any,.any,.any,.any,.any,.any,.any,.any,.any,.any,.any,.any,.any,.any,.any,.any,.any,.any,.any,.any,.any,.any,.any],[.box g.cells],[]⟩)
   (fun i => i ≤ g.nonts.length ∧ (g.nonts.take i).any (fun s => decide (40 < s.length)) = false) (fun i => g.nonts.length - i) 0 (le_wk (by simp [wk,Gra.cells])) (by simp) (fun i hi s hs => ?_)
  obtain ⟨hi,hno2⟩ := hi
  by_cases hlt2 : i < g.nonts.length
  ·have hr := rows_at sRow g.nonts i hlt2
   have hst := any_take_succ (fun s : Bs => decide (40 < s.length)) g.nonts i hlt2
   have hany := fun h : decide (40 < g.nonts[i].length) = true => List.any_eq_true (p := fun s : Bs => decide (40 < s.length)).2 ⟨g.nonts[i],List.getElem_mem hlt2,h⟩
   generalize g.nonts[i] = r at hr hst hany
   by_cases c1 : (40 : Int) < (r.length : Int)
   ·simp -implicitDefEqProofs only [Gra.cells,List.length_map,lt_true hlt2,hr,sRow,lit_true c1,
  evx,evy,ofValue,ofCell,List.range,List.range.loop,Array.size,Nat.reduceAdd,Nat.reduceSub,Nat.reduceEqDiff,List.replicate,if_true,if_false,↓reduceIte,reduceCtorEq,elB,evParts,Int.reduceToNat,Int.reduceLE,Int.reduceLT,Int.reduceEq,Nat.reduceMul,Nat.reduceLeDiff,Nat.reduceLT,ty3,ty4,ty9,ty28,ty85,ty22,ty23,ty24,ty25,ty27,ty63,ty59,ty61,ty127,ty52,ty43,ty31]
    rw [hany (by simp; omega)]
    exact le_flat rfl
   ·simp -implicitDefEqProofs only [Gra.cells,List.length_map,lt_true hlt2,hr,sRow,lit_false c1,wsucc i (by omega),
  evx,evy,ofValue,ofCell,List.range,List.range.loop,Array.size,Nat.reduceAdd,Nat.reduceSub,Nat.reduceEqDiff,List.replicate,if_true,if_false,↓reduceIte,reduceCtorEq,elB,evParts,Int.reduceToNat,Int.reduceLE,Int.reduceLT,Int.reduceEq,Nat.reduceMul,Nat.reduceLeDiff,Nat.reduceLT,ty3,ty4,ty9,ty28,ty85,ty22,ty23,ty24,ty25,ty27,ty63,ty59,ty61,ty127,ty52,ty43,ty31]
    refine back_intro hs (i + 1) (le_wk ?_) ⟨by omega,by rw [hst,hno2]; simp; omega⟩ (by omega)
    simp [wk]
  ·have hie2 : i = g.nonts.length := by omega
   subst hie2
   rw [List.take_length] at hno2
   rw [hno2,Bool.false_or]
   simp -implicitDefEqProofs only [Gra.cells,List.length_map,lt_false hlt2,
  evx,evy,ofValue,ofCell,List.range,List.range.loop,Array.size,Nat.reduceAdd,Nat.reduceSub,Nat.reduceEqDiff,List.replicate,if_true,if_false,↓reduceIte,reduceCtorEq,elB,evParts,Int.reduceToNat,Int.reduceLE,Int.reduceLT,Int.reduceEq,Nat.reduceMul,Nat.reduceLeDiff,Nat.reduceLT,ty3,ty4,ty9,ty28,ty85,ty22,ty23,ty24,ty25,ty27,ty63,ty59,ty61,ty127,ty52,ty43,ty31]
   refine loop_rule (fun i : Nat => ⟨[.any,.ptr 0 0 0 0,.any,.any,.any,.any,.any,.any,.any,.any,.any,.any,.any,.any,.any,.any,.any,.any,.any,.any,.any,.any,.any,.any,.any,.any,.any,.any,.any,.any,.any,.any,.any,.any,.any,.any,.any,.any,.any,.any,.any,.any,.any,.any,.any,.any,.any,.any,.any,.any,.any,.any,.any,.any,.any,.any,.any,.any,.any,.any,.any,.any,.any,.any,.any,.any,.any,.any,.any,.fv (.int .i64 g.prods.length),.fv (.int .i64 i),.any,.any,.any,.any,.any,.any,.any,.any,.any,.any,.any],[.box g.cells],[]⟩)
    (fun i => i ≤ g.prods.length ∧ (g.prods.take i).any (fun p => decide (8 < p.right.length)) = false) (fun i => g.prods.length - i) 0 (le_wk (by simp [wk,Gra.cells])) (by simp) (fun i hi s hs => ?_)
   obtain ⟨hi,hno3⟩ := hi
   by_cases hlt3 : i < g.prods.length
   ·have hr := rows_at Prd.row g.prods i hlt3
    have hst := any_take_succ (fun p : Prd => decide (8 < p.right.length)) g.prods i hlt3
    have hany := fun h : decide (8 < g.prods[i].right.length) = true => List.any_eq_true (p := fun p : Prd => decide (8 < p.right.length)).2 ⟨g.prods[i],List.getElem_mem hlt3,h⟩
    generalize g.prods[i] = r at hr hst hany
    by_cases c1 : (8 : Int) < (r.right.length : Int)
    ·simp -implicitDefEqProofs only [Gra.cells,List.length_map,lt_true hlt3,hr,Prd.row,lit_true c1,
  evx,evy,ofValue,ofCell,List.range,List.range.loop,Array.size,Nat.reduceAdd,Nat.reduceSub,Nat.reduceEqDiff,List.replicate,if_true,if_false,↓reduceIte,reduceCtorEq,elB,evParts,Int.reduceToNat,Int.reduceLE,Int.reduceLT,Int.reduceEq,Nat.reduceMul,Nat.reduceLeDiff,Nat.reduceLT,ty3,ty4,ty9,ty28,ty85,ty22,ty23,ty24,ty25,ty27,ty63,ty59,ty61,ty127,ty52,ty43,ty31]
     rw [hany (by simp; omega)]
     exact le_flat rfl
    ·simp -implicitDefEqProofs only [Gra.cells,List.length_map,lt_true hlt3,hr,Prd.row,lit_false c1,wsucc i (by omega),
  evx,evy,ofValue,ofCell,List.range,List.range.loop,Array.size,Nat.reduceAdd,Nat.reduceSub,Nat.reduceEqDiff,List.replicate,if_true,if_false,↓reduceIte,reduceCtorEq,elB,evParts,Int.reduceToNat,Int.reduceLE,Int.reduceLT,Int.reduceEq,Nat.reduceMul,Nat.reduceLeDiff,Nat.reduceLT,ty3,ty4,ty9,ty28,ty85,ty22,ty23,ty24,ty25,ty27,ty63,ty59,ty61,ty127,ty52,ty43,ty31]
     refine back_intro hs (i + 1) (le_wk ?_) ⟨by omega,by rw [hst,hno3]; simp; omega⟩ (by omega)
     simp [wk]
   ·have hie3 : i = g.prods.length := by omega
    subst hie3
    rw [List.take_length] at hno3
    rw [hno3]
    simp -implicitDefEqProofs only [Gra.cells,List.length_map,lt_false hlt3,
  evx,evy,ofValue,ofCell,List.range,List.range.loop,Array.size,Nat.reduceAdd,Nat.reduceSub,Nat.reduceEqDiff,List.replicate,if_true,if_false,↓reduceIte,reduceCtorEq,elB,evParts,Int.reduceToNat,Int.reduceLE,Int.reduceLT,Int.reduceEq,Nat.reduceMul,Nat.reduceLeDiff,Nat.reduceLT,ty3,ty4,ty9,ty28,ty85,ty22,ty23,ty24,ty25,ty27,ty63,ty59,ty61,ty127,ty52,ty43,ty31]
    exact le_flat rfl
theorem le_pkf2 {n0 : Nat} (keep frz : List Nat) {t t' : List AV} {h h' : List Blk} (hpre : keep.take n0 = List.range n0) (hnd : keep.Nodup) (hlt : ∀ i ∈ keep,i < h.length) (hdis : ∀ i ∈ frz,i ∉ keep)
  (hfl : ∀ i ∈ frz,∃ es rows,h[i]? = some (.plain es rows)) (hh : keep.map (fun i => subBlk (mkSub keep frz h) (h.getD i .dead)) = h') (hw : wk (t.map (subAny (mkSub keep frz h))) t') : Le n0 ⟨t,h,[]⟩ ⟨t',h',[]⟩ := by
 subst hh
 refine Le.trans (le_to keep frz hpre hnd hlt hdis hfl rfl) ?_
 simp only [subSt,List.map_nil]
 exact le_wk hw
def badP (n : Nat) (p : Int) : Bool := decide (p < 0) || decide ((n : Int) ≤ p)
theorem ok42 (g : Gra) (p : Int) : Ok Tryz.prog 42 [.fv (.int .i64 p),.fptr g.row] [] (.ret (.fv (.bool (badP g.prods.length p)))) [] := by
 refine ok_start (k := 11) (n0 := 0) (rs := [.tmp 3]) mix Tryz.func42 rfl rfl rfl rfl rfl rfl rfl ?_
 by_cases h1 : p < 0
 ·have h1t : (p < 0) = True := by simpa using h1
  have e : badP g.prods.length p = true := by unfold badP; rw [decide_eq_true h1]; rfl
  rw [e]
  simp -implicitDefEqProofs only [h1t,
  evx,evy,ofValue,ofCell,List.range,List.range.loop,Array.size,Nat.reduceAdd,Nat.reduceSub,Nat.reduceEqDiff,List.replicate,if_true,if_false,↓reduceIte,reduceCtorEq,elB,evParts,Int.reduceToNat,Int.reduceLE,Int.reduceLT,Int.reduceEq,Nat.reduceMul,Nat.reduceLeDiff,Nat.reduceLT,ty3,ty4,ty9,ty28,ty85,ty22,ty23,ty24,ty25,ty27,ty63,ty59,ty61,ty127,ty52,ty43,ty31]
  exact le_flat rfl
 ·have h1t : (p < 0) = False := by simpa using h1
  by_cases h2 : (g.prods.length : Int) ≤ p
  ·have h2t : ((g.prods.length : Int) ≤ p) = True := by simpa using h2
   have e : badP g.prods.length p = true := by unfold badP; rw [decide_eq_true h2]; simp
   rw [e]
   simp -implicitDefEqProofs only [h1t,Gra.row,List.length_map,h2t,
  evx,evy,ofValue,ofCell,List.range,List.range.loop,Array.size,Nat.reduceAdd,Nat.reduceSub,Nat.reduceEqDiff,List.replicate,if_true,if_false,↓reduceIte,reduceCtorEq,elB,evParts,Int.reduceToNat,Int.reduceLE,Int.reduceLT,Int.reduceEq,Nat.reduceMul,Nat.reduceLeDiff,Nat.reduceLT,ty3,ty4,ty9,ty28,ty85,ty22,ty23,ty24,ty25,ty27,ty63,ty59,ty61,ty127,ty52,ty43,ty31]
   exact le_flat rfl
  ·have h2t : ((g.prods.length : Int) ≤ p) = False := by simpa using h2
   have e : badP g.prods.length p = false := by unfold badP; rw [decide_eq_false h1,decide_eq_false h2]; rfl
   rw [e]
   simp -implicitDefEqProofs only [h1t,Gra.row,List.length_map,h2t,
  evx,evy,ofValue,ofCell,List.range,List.range.loop,Array.size,Nat.reduceAdd,Nat.reduceSub,Nat.reduceEqDiff,List.replicate,if_true,if_false,↓reduceIte,reduceCtorEq,elB,evParts,Int.reduceToNat,Int.reduceLE,Int.reduceLT,Int.reduceEq,Nat.reduceMul,Nat.reduceLeDiff,Nat.reduceLT,ty3,ty4,ty9,ty28,ty85,ty22,ty23,ty24,ty25,ty27,ty63,ty59,ty61,ty127,ty52,ty43,ty31]
   exact le_flat rfl
theorem badP_any {g : Gra} {l : List Int} : l.any (badP g.prods.length) = !g.prodsB l := by
 rw [Gra.prodsB,List.not_all_eq_any_not]
 congr 1
 funext p
 simp only [badP]
 by_cases h1 : p < 0 <;> by_cases h2 : (g.prods.length : Int) ≤ p <;> simp [h1,h2] <;> omega
theorem right_nil {g : Gra} : g.rightI [] = g.usB := by simp [Gra.rightI]
theorem ok15 (g : Gra) (hg : Small g 100) (hl : ∀ q ∈ g.prods,q.right.length ≤ 8) (list : List Int) (hll : list.length ≤ 1000) :
  Ok Tryz.prog 15 [g.av,.fv (.lst 1 (ints list))] [] (.ret (.tuple [.fv (.lst 1 (ints (replA g g.usB list).1)),.fv (.int .i64 (replA g g.usB list).2)])) [] := by
 have hri := ok36 g hg [] (by simp)
 rw [right_nil] at hri
 have hrn : Ok Tryz.prog 36 [g.av,.fv .nils] [] (.ret (.fv (.bool g.usB))) [] := ok_args hri fun w S m vs h => ⟨h.1,fun i v x hv hx => by
  match i,hx with
  | 0,hx => exact h.2 0 v _ hv hx
  | 1,hx => simp at hx; subst hx; exact nils_lst 2 (h.2 1 v _ hv rfl)
  | i + 2,hx => simp at hx⟩
 have hcf := ok37 (f := 42) (caps := [.fptr g.row]) (p := badP g.prods.length) list (by omega) (fun _ => rfl) (fun _ => rfl) (fun n _ => ok42 g n)
 rw [badP_any] at hcf
 have hterms := ok35 g hg.nrules
 have hil := ints_length list
 refine ok_start (k := 78) (n0 := 0) (rs := [.tmp 4,.tmp 5]) mix Tryz.func15 rfl rfl rfl rfl rfl rfl rfl ?_
 cases hu : g.usB with
 | false =>
  rw [hu] at hrn
  have e : replA g false list = ([],10) := by unfold replA; rw [if_neg (by simp)]
  rw [e]
  simp -implicitDefEqProofs only [awp_draw _ _ Tryzdr15_11,awp_draw _ _ Tryzdr15_13,Gra.av,
  evx,evy,ofValue,ofCell,List.range,List.range.loop,Array.size,Nat.reduceAdd,Nat.reduceSub,Nat.reduceEqDiff,List.replicate,if_true,if_false,↓reduceIte,reduceCtorEq,elB,evParts,Int.reduceToNat,Int.reduceLE,Int.reduceLT,Int.reduceEq,Nat.reduceMul,Nat.reduceLeDiff,Nat.reduceLT,ty3,ty4,ty9,ty28,ty85,ty22,ty23,ty24,ty25,ty27,ty63,ty59,ty61,ty127,ty52,ty43,ty31]
  refine callK_ret _ _ _ _ (call_pure (hrn) (fun _ => rfl) (fun _ => rfl)) (ok_nil _ _) ?_
  simp -implicitDefEqProofs only [awp_draw _ _ Tryzdr15_11,awp_draw _ _ Tryzdr15_13,
  evx,evy,ofValue,ofCell,List.range,List.range.loop,Array.size,Nat.reduceAdd,Nat.reduceSub,Nat.reduceEqDiff,List.replicate,if_true,if_false,↓reduceIte,reduceCtorEq,elB,evParts,Int.reduceToNat,Int.reduceLE,Int.reduceLT,Int.reduceEq,Nat.reduceMul,Nat.reduceLeDiff,Nat.reduceLT,ty3,ty4,ty9,ty28,ty85,ty22,ty23,ty24,ty25,ty27,ty63,ty59,ty61,ty127,ty52,ty43,ty31]
  exact Le.trans (le_tn 1 _ _) (le_to [] [] rfl (by simp) (by simp) (by simp) (by simp) rfl)
 | true =>
  rw [hu] at hrn
  cases hpb : g.prodsB list with
  | false =>
   rw [hpb] at hcf
   have e : replA g true list = ([],10) := by unfold replA; rw [if_neg (by simp [hpb])]
   rw [e]
   simp -implicitDefEqProofs only [awp_draw _ _ Tryzdr15_11,awp_draw _ _ Tryzdr15_13,Gra.av,
  evx,evy,ofValue,ofCell,List.range,List.range.loop,Array.size,Nat.reduceAdd,Nat.reduceSub,Nat.reduceEqDiff,List.replicate,if_true,if_false,↓reduceIte,reduceCtorEq,elB,evParts,Int.reduceToNat,Int.reduceLE,Int.reduceLT,Int.reduceEq,Nat.reduceMul,Nat.reduceLeDiff,Nat.reduceLT,ty3,ty4,ty9,ty28,ty85,ty22,ty23,ty24,ty25,ty27,ty63,ty59,ty61,ty127,ty52,ty43,ty31]
   refine callK_ret _ _ _ _ (call_pure (hrn) (fun _ => rfl) (fun _ => rfl)) (ok_nil _ _) ?_
   simp -implicitDefEqProofs only [awp_draw _ _ Tryzdr15_11,awp_draw _ _ Tryzdr15_13,
  evx,evy,ofValue,ofCell,List.range,List.range.loop,Array.size,Nat.reduceAdd,Nat.reduceSub,Nat.reduceEqDiff,List.replicate,if_true,if_false,↓reduceIte,reduceCtorEq,elB,evParts,Int.reduceToNat,Int.reduceLE,Int.reduceLT,Int.reduceEq,Nat.reduceMul,Nat.reduceLeDiff,Nat.reduceLT,ty3,ty4,ty9,ty28,ty85,ty22,ty23,ty24,ty25,ty27,ty63,ty59,ty61,ty127,ty52,ty43,ty31]
   refine callK_ret _ _ _ _ (call_deep hcf (by rfl) rfl) (ok_nil _ _) ?_
   simp -implicitDefEqProofs only [awp_draw _ _ Tryzdr15_11,awp_draw _ _ Tryzdr15_13,
  evx,evy,ofValue,ofCell,List.range,List.range.loop,Array.size,Nat.reduceAdd,Nat.reduceSub,Nat.reduceEqDiff,List.replicate,if_true,if_false,↓reduceIte,reduceCtorEq,elB,evParts,Int.reduceToNat,Int.reduceLE,Int.reduceLT,Int.reduceEq,Nat.reduceMul,Nat.reduceLeDiff,Nat.reduceLT,ty3,ty4,ty9,ty28,ty85,ty22,ty23,ty24,ty25,ty27,ty63,ty59,ty61,ty127,ty52,ty43,ty31]
   exact Le.trans (le_tn 1 _ _) (le_to [] [] rfl (by simp) (by simp) (by simp) (by simp) rfl)
  | true =>
   rw [hpb] at hcf
   have e : replA g true list = replG g list [g.start] := by unfold replA; rw [if_pos ⟨rfl,hpb⟩]
   rw [e]
   have hpp := prodsB_iff.1 hpb
   simp -implicitDefEqProofs only [awp_draw _ _ Tryzdr15_11,awp_draw _ _ Tryzdr15_13,Gra.av,
  evx,evy,ofValue,ofCell,List.range,List.range.loop,Array.size,Nat.reduceAdd,Nat.reduceSub,Nat.reduceEqDiff,List.replicate,if_true,if_false,↓reduceIte,reduceCtorEq,elB,evParts,Int.reduceToNat,Int.reduceLE,Int.reduceLT,Int.reduceEq,Nat.reduceMul,Nat.reduceLeDiff,Nat.reduceLT,ty3,ty4,ty9,ty28,ty85,ty22,ty23,ty24,ty25,ty27,ty63,ty59,ty61,ty127,ty52,ty43,ty31]
   refine callK_ret _ _ _ _ (call_pure (hrn) (fun _ => rfl) (fun _ => rfl)) (ok_nil _ _) ?_
   simp -implicitDefEqProofs only [awp_draw _ _ Tryzdr15_11,awp_draw _ _ Tryzdr15_13,
  evx,evy,ofValue,ofCell,List.range,List.range.loop,Array.size,Nat.reduceAdd,Nat.reduceSub,Nat.reduceEqDiff,List.replicate,if_true,if_false,↓reduceIte,reduceCtorEq,elB,evParts,Int.reduceToNat,Int.reduceLE,Int.reduceLT,Int.reduceEq,Nat.reduceMul,Nat.reduceLeDiff,Nat.reduceLT,ty3,ty4,ty9,ty28,ty85,ty22,ty23,ty24,ty25,ty27,ty63,ty59,ty61,ty127,ty52,ty43,ty31]
   refine callK_ret _ _ _ _ (call_deep hcf (by rfl) rfl) (ok_nil _ _) ?_
   simp -implicitDefEqProofs only [awp_draw _ _ Tryzdr15_11,awp_draw _ _ Tryzdr15_13,
  evx,evy,ofValue,ofCell,List.range,List.range.loop,Array.size,Nat.reduceAdd,Nat.reduceSub,Nat.reduceEqDiff,List.replicate,if_true,if_false,↓reduceIte,reduceCtorEq,elB,evParts,Int.reduceToNat,Int.reduceLE,Int.reduceLT,Int.reduceEq,Nat.reduceMul,Nat.reduceLeDiff,Nat.reduceLT,ty3,ty4,ty9,ty28,ty85,ty22,ty23,ty24,ty25,ty27,ty63,ty59,ty61,ty127,ty52,ty43,ty31]
   refine callK_ret _ _ _ _ (call_pure (hterms) (fun _ => rfl) (fun _ => rfl)) (ok_nil _ _) ?_
   simp -implicitDefEqProofs only [awp_draw _ _ Tryzdr15_11,awp_draw _ _ Tryzdr15_13,
  evx,evy,ofValue,ofCell,List.range,List.range.loop,Array.size,Nat.reduceAdd,Nat.reduceSub,Nat.reduceEqDiff,List.replicate,if_true,if_false,↓reduceIte,reduceCtorEq,elB,evParts,Int.reduceToNat,Int.reduceLE,Int.reduceLT,Int.reduceEq,Nat.reduceMul,Nat.reduceLeDiff,Nat.reduceLT,ty3,ty4,ty9,ty28,ty85,ty22,ty23,ty24,ty25,ty27,ty63,ty59,ty61,ty127,ty52,ty43,ty31]
   refine loop_rule (fun x : Nat × List Int => ⟨[.any,.any,.ptr 0 0 0 0,.any,.any,.any,.fv (.int .i64 g.terms),.fv (.lst 1 (ints x.2)),.any,.any,.any,.any,.any,.any,.any,.any,.any,.any,.any,.any,.any,.any,.any,.any,.fv (.lst 1 (ints list)),.fv (.int .i64 list.length),.fv (.int .i64 x.1),.any,.any,.any,.any,.any,.any,.any,.any,.any,.any,.any,.any,.any,.any,.any,.any,.any,.any,.any,.any,.any,.any,.any,.any,.any,.any,.any,.any,.any,.any,.any,.any,.any,.any,.any,.any,.any,.any,.any,.any,.any,.any,.any,.any,.any,.any,.any,.any,.any,.any,.any,.any,.any],[.box g.cells],[]⟩)
    (fun x => x.1 ≤ list.length ∧ x.2.length ≤ 400 ∧ replG g list [g.start] = replG g (list.drop x.1) x.2) (fun x => list.length - x.1) (0,[g.start])
    (le_pkf2 [0] [1] rfl (by simp) (by simp) (by simp) (fun i hi => by simp at hi; subst hi; exact ⟨_,_,rfl⟩) (by simp [subBlk,subAny,subA,mkSub,idx,Gra.cells]) (by simp [wk,subAny,subA,mkSub,idx,ints,hil])) ⟨by omega,by simp,rfl⟩ (fun x hx s hs => ?_)
   obtain ⟨i,t⟩ := x
   obtain ⟨hi,ht,hre⟩ := hx
   simp only at hi ht hre hs ⊢
   have htl := ints_length t
   by_cases hlt : i < list.length
   ·have hr := ints_get list i hlt
    have hpi := hpp _ (List.getElem_mem hlt)
    rw [List.drop_eq_getElem_cons hlt] at hre
    generalize list[i] = p at hr hpi hre
    obtain ⟨hprow,hpm⟩ := pr_at (g := g) hpi.1 hpi.2
    have hpl := hl _ hpm
    have hw1 : IntKind.wrap .i64 ((t.length : Int) - 1) = (t.length : Int) - 1 := wrap_small (by omega) (by omega)
    have hp0t : (0 ≤ p) = True := by simpa using hpi.1
    simp -implicitDefEqProofs only [awp_draw _ _ Tryzdr15_11,awp_draw _ _ Tryzdr15_13,hil,lt_true hlt,hr,htl,hw1,
  evx,evy,ofValue,ofCell,List.range,List.range.loop,Array.size,Nat.reduceAdd,Nat.reduceSub,Nat.reduceEqDiff,List.replicate,if_true,if_false,↓reduceIte,reduceCtorEq,elB,evParts,Int.reduceToNat,Int.reduceLE,Int.reduceLT,Int.reduceEq,Nat.reduceMul,Nat.reduceLeDiff,Nat.reduceLT,ty3,ty4,ty9,ty28,ty85,ty22,ty23,ty24,ty25,ty27,ty63,ty59,ty61,ty127,ty52,ty43,ty31]
    refine loop_rule (fun k : Nat => ⟨[.any,.any,.ptr 0 0 0 0,.any,.any,.any,.fv (.int .i64 g.terms),.fv (.lst 1 (ints t)),.any,.fv (.int .i64 p),.fv (.int .i64 ((k : Int) - 1)),.any,.any,.any,.any,.any,.any,.any,.any,.any,.any,.any,.any,.any,.fv (.lst 1 (ints list)),.fv (.int .i64 list.length),.fv (.int .i64 i),.any,.any,.any,.any,.any,.any,.any,.any,.any,.any,.any,.any,.any,.any,.any,.any,.any,.any,.any,.any,.any,.any,.any,.any,.any,.any,.any,.any,.any,.any,.any,.any,.any,.any,.any,.any,.any,.any,.any,.any,.any,.any,.any,.any,.any,.any,.any,.any,.any,.any,.any,.any,.any],[.box g.cells],[]⟩)
     (fun k => k ≤ t.length ∧ lastNt g.terms t t.length = lastNt g.terms t k) (fun k => k) t.length (le_wk (by simp [wk])) ⟨by omega,rfl⟩ (fun k hk s2 hs2 => ?_)
    obtain ⟨hk,hla⟩ := hk
    cases k with
    | zero =>
     rw [hre,replG_none hla]
     rw [show (((0 : Nat) : Int) - 1) = -1 from rfl]
     simp -implicitDefEqProofs only [awp_draw _ _ Tryzdr15_11,awp_draw _ _ Tryzdr15_13,
  evx,evy,ofValue,ofCell,List.range,List.range.loop,Array.size,Nat.reduceAdd,Nat.reduceSub,Nat.reduceEqDiff,List.replicate,if_true,if_false,↓reduceIte,reduceCtorEq,elB,evParts,Int.reduceToNat,Int.reduceLE,Int.reduceLT,Int.reduceEq,Nat.reduceMul,Nat.reduceLeDiff,Nat.reduceLT,ty3,ty4,ty9,ty28,ty85,ty22,ty23,ty24,ty25,ty27,ty63,ty59,ty61,ty127,ty52,ty43,ty31]
     exact Le.trans (le_tn 1 _ _) (le_to [] [] rfl (by simp) (by simp) (by simp) (by simp) rfl)
    | succ k =>
     have hrk := ints_get t k (by omega)
     have hgd : t.getD k 0 = t[k]'(by omega) := by rw [List.getD_eq_getElem?_getD,List.getElem?_eq_getElem (by omega)]; rfl
     rw [lastNt,hgd] at hla
     rw [show (((k + 1 : Nat) : Int) - 1) = (k : Int) from by omega]
     have hkn : ((k : Int) < 0) = False := by simp
     have hwk : IntKind.wrap .i64 ((k : Int) - 1) = (k : Int) - 1 := wrap_small (by omega) (by omega)
     have hws : IntKind.wrap .i64 ((k : Int) + 1) = ((k + 1 : Nat) : Int) := wsucc k (by omega)
     generalize t[k]'(by omega) = n at hrk hla hgd
     by_cases hc : n ≤ (g.terms : Int)
     ·have hct : (n ≤ (g.terms : Int)) = True := by simpa using hc
      rw [if_neg (by omega)] at hla
      simp -implicitDefEqProofs only [awp_draw _ _ Tryzdr15_11,awp_draw _ _ Tryzdr15_13,hrk,hct,hwk,
  evx,evy,ofValue,ofCell,List.range,List.range.loop,Array.size,Nat.reduceAdd,Nat.reduceSub,Nat.reduceEqDiff,List.replicate,if_true,if_false,↓reduceIte,reduceCtorEq,elB,evParts,Int.reduceToNat,Int.reduceLE,Int.reduceLT,Int.reduceEq,Nat.reduceMul,Nat.reduceLeDiff,Nat.reduceLT,ty3,ty4,ty9,ty28,ty85,ty22,ty23,ty24,ty25,ty27,ty63,ty59,ty61,ty127,ty52,ty43,ty31]
      exact back_intro hs2 k (le_wk (by simp [wk])) ⟨by omega,hla⟩ (by omega)
     ·have hct : (n ≤ (g.terms : Int)) = False := by simpa using hc
      rw [if_pos (by omega)] at hla
      by_cases he : n = (g.pr p).left
      ·have hnt : (n ≠ (g.pr p).left) = False := by simpa using he
       have hnt2 : (n = (g.pr p).left) = True := by simpa using he
       have e1 : List.take k (ints t) = ints (t.take k) := by simp [ints,List.map_take]
       have e2 : List.drop (k + 1) (List.take (ints t).length (ints t)) = ints (t.drop (k + 1)) := by rw [List.take_length]; simp [ints,List.map_drop]
       have e3 : List.map iRow (g.pr p).right = ints (g.pr p).right := rfl
       have hfl : [t.take k,(g.pr p).right,t.drop (k + 1)].flatten = madeT t (g.pr p).right k := by simp [madeT]
       have hml : (madeT t (g.pr p).right k).length ≤ 1000 := by unfold madeT; simp only [List.length_append,List.length_take,List.length_drop]; omega
       have hcc := ok43 [t.take k,(g.pr p).right,t.drop (k + 1)] (by simp) (by rw [total_flatten,hfl]; omega)
       rw [hfl] at hcc
       have hmil := ints_length (madeT t (g.pr p).right k)
       have hfull := @replG_full g p (list.drop (i + 1)) t k hla (by rw [hgd]; exact he)
       have hgo := @replG_go g p (list.drop (i + 1)) t k hla (by rw [hgd]; exact he)
       generalize madeT t (g.pr p).right k = t2 at hcc hmil hml hfull hgo
       simp -implicitDefEqProofs only [awp_draw _ _ Tryzdr15_11,awp_draw _ _ Tryzdr15_13,hrk,hct,hkn,hp0t,hprow,Prd.row,hnt,hnt2,Gra.cells,hws,e1,e2,e3,
  evx,evy,ofValue,ofCell,List.range,List.range.loop,Array.size,Nat.reduceAdd,Nat.reduceSub,Nat.reduceEqDiff,List.replicate,if_true,if_false,↓reduceIte,reduceCtorEq,elB,evParts,Int.reduceToNat,Int.reduceLE,Int.reduceLT,Int.reduceEq,Nat.reduceMul,Nat.reduceLeDiff,Nat.reduceLT,ty3,ty4,ty9,ty28,ty85,ty22,ty23,ty24,ty25,ty27,ty63,ty59,ty61,ty127,ty52,ty43,ty31]
       refine ⟨⟨by omega,by omega⟩,⟨by omega,by omega⟩,?_⟩
       refine callK_ret _ _ _ _ (call_freeze (args' := [.fv (.lst 1 (rowsOf [t.take k,(g.pr p).right,t.drop (k + 1)]))]) [1] (fun i hi => by simp at hi; subst hi; exact ⟨_,_,rfl⟩) (by simp [subAny,subA,frzSub,rowsOf]) rfl
        (call_lent [] hcc rfl rfl (by simp) (by simp)) [1] (by simp) (by simp) (fun i hi hl => by
         match i,hi,hl with
         | 0,_,_ => simp [freezeSt,killAll,subBlk,subAny,subA]
         | 1,hi,_ => exact absurd (by simp) hi
         | i + 2,_,hl => simp at hl; omega)) (by kernel_rfl) ?_
       by_cases h4 : (400 : Int) < (t2.length : Int)
       ·have h4t : ((400 : Int) < (t2.length : Int)) = True := by simpa using h4
        rw [hre,hfull (by omega)]
        simp -implicitDefEqProofs only [awp_draw _ _ Tryzdr15_11,awp_draw _ _ Tryzdr15_13,subAny,subA,subL,backSub,back,putBack,subBlk,Option.getD_some,List.map_cons,List.map_nil,Nat.not_lt_zero,Nat.sub_zero,Nat.add_zero,List.length_map,freezeSt,frzSub,killAll,List.contains_cons,List.contains_nil,Nat.reduceBEq,Bool.or_false,h4t,
  evx,evy,ofValue,ofCell,List.range,List.range.loop,Array.size,Nat.reduceAdd,Nat.reduceSub,Nat.reduceEqDiff,List.replicate,if_true,if_false,↓reduceIte,reduceCtorEq,elB,evParts,Int.reduceToNat,Int.reduceLE,Int.reduceLT,Int.reduceEq,Nat.reduceMul,Nat.reduceLeDiff,Nat.reduceLT,ty3,ty4,ty9,ty28,ty85,ty22,ty23,ty24,ty25,ty27,ty63,ty59,ty61,ty127,ty52,ty43,ty31]
        exact Le.trans (le_tn 1 _ _) (le_to [] [] rfl (by simp) (by simp) (by simp) (by simp) rfl)
       ·have h4t : ((400 : Int) < (t2.length : Int)) = False := by simpa using h4
        rw [hgo (by omega)] at hre
        simp -implicitDefEqProofs only [awp_draw _ _ Tryzdr15_11,awp_draw _ _ Tryzdr15_13,subAny,subA,subL,backSub,back,putBack,subBlk,Option.getD_some,List.map_cons,List.map_nil,Nat.not_lt_zero,Nat.sub_zero,Nat.add_zero,List.length_map,freezeSt,frzSub,killAll,List.contains_cons,List.contains_nil,Nat.reduceBEq,Bool.or_false,h4t,wsucc i (by omega),
  evx,evy,ofValue,ofCell,List.range,List.range.loop,Array.size,Nat.reduceAdd,Nat.reduceSub,Nat.reduceEqDiff,List.replicate,if_true,if_false,↓reduceIte,reduceCtorEq,elB,evParts,Int.reduceToNat,Int.reduceLE,Int.reduceLT,Int.reduceEq,Nat.reduceMul,Nat.reduceLeDiff,Nat.reduceLT,ty3,ty4,ty9,ty28,ty85,ty22,ty23,ty24,ty25,ty27,ty63,ty59,ty61,ty127,ty52,ty43,ty31]
        refine back_intro hs (i + 1,t2) (le_pkf2 [0] [2] rfl (by simp) (by simp) (by simp) (fun i hi => by simp at hi; subst hi; exact ⟨_,_,rfl⟩) ?_ ?_) ⟨by simp only; omega,by simp only; omega,hre⟩ (by simp only; omega)
        ·simp [subBlk,subAny,subA,mkSub,idx,Gra.cells]
        ·simp [wk,subAny,subA,mkSub,idx,hmil,List.take_of_length_le]
      ·have hnt : (n ≠ (g.pr p).left) = True := by simpa using he
       have hnt2 : (n = (g.pr p).left) = False := by simpa using he
       rw [hre,replG_bad hla (by rw [hgd]; exact he)]
       simp -implicitDefEqProofs only [awp_draw _ _ Tryzdr15_11,awp_draw _ _ Tryzdr15_13,hrk,hct,hkn,hp0t,hprow,Prd.row,hnt,hnt2,Gra.cells,
  evx,evy,ofValue,ofCell,List.range,List.range.loop,Array.size,Nat.reduceAdd,Nat.reduceSub,Nat.reduceEqDiff,List.replicate,if_true,if_false,↓reduceIte,reduceCtorEq,elB,evParts,Int.reduceToNat,Int.reduceLE,Int.reduceLT,Int.reduceEq,Nat.reduceMul,Nat.reduceLeDiff,Nat.reduceLT,ty3,ty4,ty9,ty28,ty85,ty22,ty23,ty24,ty25,ty27,ty63,ty59,ty61,ty127,ty52,ty43,ty31]
       exact Le.trans (le_tn 1 _ _) (le_to [] [] rfl (by simp) (by simp) (by simp) (by simp) rfl)
   ·obtain rfl : i = list.length := by omega
    rw [List.drop_length] at hre
    rw [hre,replG]
    simp -implicitDefEqProofs only [awp_draw _ _ Tryzdr15_11,awp_draw _ _ Tryzdr15_13,hil,lt_false hlt,
  evx,evy,ofValue,ofCell,List.range,List.range.loop,Array.size,Nat.reduceAdd,Nat.reduceSub,Nat.reduceEqDiff,List.replicate,if_true,if_false,↓reduceIte,reduceCtorEq,elB,evParts,Int.reduceToNat,Int.reduceLE,Int.reduceLT,Int.reduceEq,Nat.reduceMul,Nat.reduceLeDiff,Nat.reduceLT,ty3,ty4,ty9,ty28,ty85,ty22,ty23,ty24,ty25,ty27,ty63,ty59,ty61,ty127,ty52,ty43,ty31]
    exact le_to [] [] rfl (by simp) (by simp) (by simp) (by simp) rfl
end Go.Abs
