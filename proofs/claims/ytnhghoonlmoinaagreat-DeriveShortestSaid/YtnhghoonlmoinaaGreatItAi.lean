/- Items: sides of productions, what is an item. -/
import Derived.Test.YtnhghoonlmoinaaGreatTyTryzi
import Derived.Test.YtnhghoonlmoinaaGreatDrTryzi
import Derived.Test.YtnhghoonlmoinaaGreatItNi
import Derived.Test.YtnhghoonlmoinaaGreatCkKi
import Derived.Test.YtnhghoonlmoinaaGreatCkGi
import Derived.Test.YtnhghoonlmoinaaGreatCkIi
import Derived.Test.YtnhghoonlmoinaaGreatZopHi
import Derived.Test.YtnhghoonlmoinaaGreatAbsW
namespace Go.Abs
open Go.Proofs
set_option linter.unusedVariables false
set_option linter.unusedSimpArgs false
set_option maxRecDepth 100000
set_option maxHeartbeats 8000000
def Gra.usB (g : Gra) : Bool := decide (g.nonts.length ≠ 0) && g.sound
def sideL (g : Gra) (p : Int) : List Int := if p < 0 then [g.start] else ((g.prods[p.toNat]?).map Prd.right).getD []
def Gra.isProd (g : Gra) (p : Int) : Bool := decide (-1 ≤ p) && decide (p < (g.prods.length : Int))
def Gra.isItm (g : Gra) (x : Itm) : Bool := g.isProd x.prod && (decide (0 ≤ x.dot) && decide (x.dot ≤ ((sideL g x.prod).length : Int)))
theorem ok66 (g : Gra) (hg : Small g 100) : Ok Tryz.prog 66 [g.av] [] (.ret (.fv (.bool g.usB))) [] := by
 have hs := ok83 g hg
 refine ok_start (k := 10) (n0 := 0) (rs := [.tmp 2]) mix Tryz.func66 rfl rfl rfl rfl rfl rfl rfl ?_
 by_cases h0 : g.nonts.length = 0
 ·have hc : ((0 : Int) < (g.nonts.length : Int)) = False := by simp [h0]
  have e : g.usB = false := by simp [Gra.usB,h0]
  rw [e]
  simp -implicitDefEqProofs only [Gra.av,Gra.cells,List.length_map,hc,
  evx,evy,ofValue,ofCell,List.range,List.range.loop,Array.size,Nat.reduceAdd,Nat.reduceSub,Nat.reduceEqDiff,List.replicate,if_true,if_false,↓reduceIte,reduceCtorEq,elB,evParts,Int.reduceToNat,Int.reduceLE,Int.reduceLT,Int.reduceEq,Nat.reduceMul,Nat.reduceLeDiff,Nat.reduceLT,ty3,ty4,ty9,ty28,ty22,ty23,ty24,ty25,ty27,ty63,ty52,ty43]
  exact le_flat rfl
 ·have hc : ((0 : Int) < (g.nonts.length : Int)) = True := by simp; omega
  have e : g.usB = g.sound := by simp [Gra.usB,h0]
  rw [e]
  simp -implicitDefEqProofs only [Gra.av,Gra.cells,List.length_map,hc,
  evx,evy,ofValue,ofCell,List.range,List.range.loop,Array.size,Nat.reduceAdd,Nat.reduceSub,Nat.reduceEqDiff,List.replicate,if_true,if_false,↓reduceIte,reduceCtorEq,elB,evParts,Int.reduceToNat,Int.reduceLE,Int.reduceLT,Int.reduceEq,Nat.reduceMul,Nat.reduceLeDiff,Nat.reduceLT,ty3,ty4,ty9,ty28,ty22,ty23,ty24,ty25,ty27,ty63,ty52,ty43]
  refine callK_ret _ _ _ _ (call_pure (hs) (fun _ => rfl) (fun _ => rfl)) (ok_nil _ _) ?_
  simp -implicitDefEqProofs only [evx,evy,ofValue,ofCell,List.range,List.range.loop,Array.size,Nat.reduceAdd,Nat.reduceSub,Nat.reduceEqDiff,List.replicate,if_true,if_false,↓reduceIte,reduceCtorEq,elB,evParts,Int.reduceToNat,Int.reduceLE,Int.reduceLT,Int.reduceEq,Nat.reduceMul,Nat.reduceLeDiff,Nat.reduceLT,ty3,ty4,ty9,ty28,ty22,ty23,ty24,ty25,ty27,ty63,ty52,ty43]
  cases g.sound <;> exact le_flat rfl
theorem ok17 (g : Gra) (hg : Small g 100) : Ok Tryz.prog 17 [g.av] [] (.ret (.fv (.bool g.usB))) [] := by
 have hs := ok44 g hg
 refine ok_start (k := 10) (n0 := 0) (rs := [.tmp 2]) mix Tryz.func17 rfl rfl rfl rfl rfl rfl rfl ?_
 by_cases h0 : g.nonts.length = 0
 ·have hc : ((0 : Int) < (g.nonts.length : Int)) = False := by simp [h0]
  have e : g.usB = false := by simp [Gra.usB,h0]
  rw [e]
  simp -implicitDefEqProofs only [Gra.av,Gra.cells,List.length_map,hc,
  evx,evy,ofValue,ofCell,List.range,List.range.loop,Array.size,Nat.reduceAdd,Nat.reduceSub,Nat.reduceEqDiff,List.replicate,if_true,if_false,↓reduceIte,reduceCtorEq,elB,evParts,Int.reduceToNat,Int.reduceLE,Int.reduceLT,Int.reduceEq,Nat.reduceMul,Nat.reduceLeDiff,Nat.reduceLT,ty3,ty4,ty9,ty28,ty22,ty23,ty24,ty25,ty27,ty63,ty52,ty43]
  exact le_flat rfl
 ·have hc : ((0 : Int) < (g.nonts.length : Int)) = True := by simp; omega
  have e : g.usB = g.sound := by simp [Gra.usB,h0]
  rw [e]
  simp -implicitDefEqProofs only [Gra.av,Gra.cells,List.length_map,hc,
  evx,evy,ofValue,ofCell,List.range,List.range.loop,Array.size,Nat.reduceAdd,Nat.reduceSub,Nat.reduceEqDiff,List.replicate,if_true,if_false,↓reduceIte,reduceCtorEq,elB,evParts,Int.reduceToNat,Int.reduceLE,Int.reduceLT,Int.reduceEq,Nat.reduceMul,Nat.reduceLeDiff,Nat.reduceLT,ty3,ty4,ty9,ty28,ty22,ty23,ty24,ty25,ty27,ty63,ty52,ty43]
  refine callK_ret _ _ _ _ (call_pure (hs) (fun _ => rfl) (fun _ => rfl)) (ok_nil _ _) ?_
  simp -implicitDefEqProofs only [evx,evy,ofValue,ofCell,List.range,List.range.loop,Array.size,Nat.reduceAdd,Nat.reduceSub,Nat.reduceEqDiff,List.replicate,if_true,if_false,↓reduceIte,reduceCtorEq,elB,evParts,Int.reduceToNat,Int.reduceLE,Int.reduceLT,Int.reduceEq,Nat.reduceMul,Nat.reduceLeDiff,Nat.reduceLT,ty3,ty4,ty9,ty28,ty22,ty23,ty24,ty25,ty27,ty63,ty52,ty43]
  cases g.sound <;> exact le_flat rfl
theorem side_at {g : Gra} {p : Int} (h0 : 0 ≤ p) (h : p < (g.prods.length : Int)) : ∃ q,g.prods[p.toNat]? = some q ∧ sideL g p = q.right ∧ (g.prods.map Prd.row)[p.toNat]? = some q.row := by
 have hlt : p.toNat < g.prods.length := by omega
 refine ⟨g.prods[p.toNat],List.getElem?_eq_getElem hlt,?_,by rw [List.getElem?_map,List.getElem?_eq_getElem hlt]; rfl⟩
 unfold sideL
 rw [if_neg (by omega),List.getElem?_eq_getElem hlt]
 rfl
theorem ok76 (g : Gra) (p : Int) (h : g.isProd p = true) : Ok Tryz.prog 76 [g.av,.fv (.int .i64 p)] [] (.ret (.fv (.lst 1 (ints (sideL g p))))) [] := by
 simp only [Gra.isProd,Bool.and_eq_true,decide_eq_true_eq] at h
 refine ok_start (k := 14) (n0 := 0) (rs := [.tmp 4]) mix Tryz.func76 rfl rfl rfl rfl rfl rfl rfl ?_
 by_cases hp : p = -1
 ·have hpt : (p = -1) = True := by simpa using hp
  have e : sideL g p = [g.start] := by unfold sideL; rw [if_pos (by omega)]
  rw [e]
  simp -implicitDefEqProofs only [Gra.av,Gra.cells,hpt,
  evx,evy,ofValue,ofCell,List.range,List.range.loop,Array.size,Nat.reduceAdd,Nat.reduceSub,Nat.reduceEqDiff,List.replicate,if_true,if_false,↓reduceIte,reduceCtorEq,elB,evParts,Int.reduceToNat,Int.reduceLE,Int.reduceLT,Int.reduceEq,Nat.reduceMul,Nat.reduceLeDiff,Nat.reduceLT,ty3,ty4,ty9,ty28,ty22,ty23,ty24,ty25,ty27,ty63,ty52,ty43]
  exact le_lst (rows := [[.int .i64 g.start]]) rfl (by simp) rfl
 ·have hpt : (p = -1) = False := by simpa using hp
  obtain ⟨q,_,e,hr⟩ := side_at (g := g) (p := p) (by omega) h.2
  have h0 : (0 ≤ p) = True := by simp; omega
  rw [e]
  simp -implicitDefEqProofs only [Gra.av,Gra.cells,hpt,h0,hr,Prd.row,
  evx,evy,ofValue,ofCell,List.range,List.range.loop,Array.size,Nat.reduceAdd,Nat.reduceSub,Nat.reduceEqDiff,List.replicate,if_true,if_false,↓reduceIte,reduceCtorEq,elB,evParts,Int.reduceToNat,Int.reduceLE,Int.reduceLT,Int.reduceEq,Nat.reduceMul,Nat.reduceLeDiff,Nat.reduceLT,ty3,ty4,ty9,ty28,ty22,ty23,ty24,ty25,ty27,ty63,ty52,ty43]
  exact le_to [] [] rfl (by simp) (by simp) (by simp) (by simp) rfl
end Go.Abs
/- Items: whether they are a grammar's, their sides, the symbol behind the dot. -/
namespace Go.Abs
open Go.Proofs
set_option linter.unusedVariables false
set_option linter.unusedSimpArgs false
set_option maxRecDepth 100000
set_option maxHeartbeats 8000000
theorem isProd_iff {g : Gra} {p : Int} : g.isProd p = true ↔ -1 ≤ p ∧ p < (g.prods.length : Int) := by simp [Gra.isProd]
theorem ok69 (g : Gra) (x : Itm) : Ok Tryz.prog 69 [g.av,x.av] [] (.ret (.fv (.bool (g.isItm x)))) [] := by
 refine ok_start (k := 29) (n0 := 0) (rs := [.tmp 4]) mix Tryz.func69 rfl rfl rfl rfl rfl rfl rfl ?_
 by_cases c1 : -1 ≤ x.prod
 ·have c1t : (-1 ≤ x.prod) = True := by simpa using c1
  by_cases c2 : x.prod < (g.prods.length : Int)
  ·have c2t : (x.prod < (g.prods.length : Int)) = True := by simpa using c2
   have hp : g.isProd x.prod = true := isProd_iff.2 ⟨c1,c2⟩
   have hsd := ok76 g x.prod hp
   have hil := ints_length (sideL g x.prod)
   by_cases c3 : 0 ≤ x.dot
   ·have c3t : (0 ≤ x.dot) = True := by simpa using c3
    by_cases c4 : x.dot ≤ ((sideL g x.prod).length : Int)
    ·have c4t : (x.dot ≤ ((sideL g x.prod).length : Int)) = True := by simpa using c4
     have e : g.isItm x = true := by simp [Gra.isItm,hp,c3,c4]
     rw [e]
     simp -implicitDefEqProofs only [awp_draw _ _ Tryzdr69_1,Gra.av,Itm.av,Gra.cells,List.length_map,c1t,c2t,c3t,
  evx,evy,ofValue,ofCell,List.range,List.range.loop,Array.size,Nat.reduceAdd,Nat.reduceSub,Nat.reduceEqDiff,List.replicate,if_true,if_false,↓reduceIte,reduceCtorEq,elB,evParts,Int.reduceToNat,Int.reduceLE,Int.reduceLT,Int.reduceEq,Nat.reduceMul,Nat.reduceLeDiff,Nat.reduceLT,ty3,ty4,ty9,ty28,ty22,ty23,ty24,ty25,ty27,ty63,ty52,ty43]
     refine callK_ret _ _ _ _ (call_pure (hsd) (fun _ => rfl) (fun _ => rfl)) (ok_nil _ _) ?_
     simp -implicitDefEqProofs only [awp_draw _ _ Tryzdr69_1,hil,c4t,
  evx,evy,ofValue,ofCell,List.range,List.range.loop,Array.size,Nat.reduceAdd,Nat.reduceSub,Nat.reduceEqDiff,List.replicate,if_true,if_false,↓reduceIte,reduceCtorEq,elB,evParts,Int.reduceToNat,Int.reduceLE,Int.reduceLT,Int.reduceEq,Nat.reduceMul,Nat.reduceLeDiff,Nat.reduceLT,ty3,ty4,ty9,ty28,ty22,ty23,ty24,ty25,ty27,ty63,ty52,ty43]
     exact le_flat rfl
    ·have c4t : (x.dot ≤ ((sideL g x.prod).length : Int)) = False := by simpa using c4
     have e : g.isItm x = false := by simp [Gra.isItm,hp,c3]; omega
     rw [e]
     simp -implicitDefEqProofs only [awp_draw _ _ Tryzdr69_1,Gra.av,Itm.av,Gra.cells,List.length_map,c1t,c2t,c3t,
  evx,evy,ofValue,ofCell,List.range,List.range.loop,Array.size,Nat.reduceAdd,Nat.reduceSub,Nat.reduceEqDiff,List.replicate,if_true,if_false,↓reduceIte,reduceCtorEq,elB,evParts,Int.reduceToNat,Int.reduceLE,Int.reduceLT,Int.reduceEq,Nat.reduceMul,Nat.reduceLeDiff,Nat.reduceLT,ty3,ty4,ty9,ty28,ty22,ty23,ty24,ty25,ty27,ty63,ty52,ty43]
     refine callK_ret _ _ _ _ (call_pure (hsd) (fun _ => rfl) (fun _ => rfl)) (ok_nil _ _) ?_
     simp -implicitDefEqProofs only [awp_draw _ _ Tryzdr69_1,hil,c4t,
  evx,evy,ofValue,ofCell,List.range,List.range.loop,Array.size,Nat.reduceAdd,Nat.reduceSub,Nat.reduceEqDiff,List.replicate,if_true,if_false,↓reduceIte,reduceCtorEq,elB,evParts,Int.reduceToNat,Int.reduceLE,Int.reduceLT,Int.reduceEq,Nat.reduceMul,Nat.reduceLeDiff,Nat.reduceLT,ty3,ty4,ty9,ty28,ty22,ty23,ty24,ty25,ty27,ty63,ty52,ty43]
     exact le_flat rfl
   ·have c3t : (0 ≤ x.dot) = False := by simpa using c3
    have e : g.isItm x = false := by simp [Gra.isItm,hp]; omega
    rw [e]
    simp -implicitDefEqProofs only [awp_draw _ _ Tryzdr69_1,Gra.av,Itm.av,Gra.cells,List.length_map,c1t,c2t,c3t,
  evx,evy,ofValue,ofCell,List.range,List.range.loop,Array.size,Nat.reduceAdd,Nat.reduceSub,Nat.reduceEqDiff,List.replicate,if_true,if_false,↓reduceIte,reduceCtorEq,elB,evParts,Int.reduceToNat,Int.reduceLE,Int.reduceLT,Int.reduceEq,Nat.reduceMul,Nat.reduceLeDiff,Nat.reduceLT,ty3,ty4,ty9,ty28,ty22,ty23,ty24,ty25,ty27,ty63,ty52,ty43]
    exact le_flat rfl
  ·have c2t : (x.prod < (g.prods.length : Int)) = False := by simpa using c2
   have e : g.isItm x = false := by simp [Gra.isItm,Gra.isProd]; omega
   rw [e]
   simp -implicitDefEqProofs only [awp_draw _ _ Tryzdr69_1,Gra.av,Itm.av,Gra.cells,List.length_map,c1t,c2t,
  evx,evy,ofValue,ofCell,List.range,List.range.loop,Array.size,Nat.reduceAdd,Nat.reduceSub,Nat.reduceEqDiff,List.replicate,if_true,if_false,↓reduceIte,reduceCtorEq,elB,evParts,Int.reduceToNat,Int.reduceLE,Int.reduceLT,Int.reduceEq,Nat.reduceMul,Nat.reduceLeDiff,Nat.reduceLT,ty3,ty4,ty9,ty28,ty22,ty23,ty24,ty25,ty27,ty63,ty52,ty43]
   exact le_flat rfl
 ·have c1t : (-1 ≤ x.prod) = False := by simpa using c1
  have e : g.isItm x = false := by simp [Gra.isItm,Gra.isProd]; omega
  rw [e]
  simp -implicitDefEqProofs only [awp_draw _ _ Tryzdr69_1,Gra.av,Itm.av,Gra.cells,List.length_map,c1t,
  evx,evy,ofValue,ofCell,List.range,List.range.loop,Array.size,Nat.reduceAdd,Nat.reduceSub,Nat.reduceEqDiff,List.replicate,if_true,if_false,↓reduceIte,reduceCtorEq,elB,evParts,Int.reduceToNat,Int.reduceLE,Int.reduceLT,Int.reduceEq,Nat.reduceMul,Nat.reduceLeDiff,Nat.reduceLT,ty3,ty4,ty9,ty28,ty22,ty23,ty24,ty25,ty27,ty63,ty52,ty43]
  exact le_flat rfl
theorem ok68 (g : Gra) (x : Itm) : Ok Tryz.prog 68 [x.av,.fptr g.row] [] (.ret (.fv (.bool (!g.isItm x)))) [] := by
 have hi := ok69 g x
 refine ok_start (k := 6) (n0 := 0) (rs := [.tmp 3]) mix Tryz.func68 rfl rfl rfl rfl rfl rfl rfl ?_
 simp -implicitDefEqProofs only [Itm.av,Gra.row,
  evx,evy,ofValue,ofCell,List.range,List.range.loop,Array.size,Nat.reduceAdd,Nat.reduceSub,Nat.reduceEqDiff,List.replicate,if_true,if_false,↓reduceIte,reduceCtorEq,elB,evParts,Int.reduceToNat,Int.reduceLE,Int.reduceLT,Int.reduceEq,Nat.reduceMul,Nat.reduceLeDiff,Nat.reduceLT,ty3,ty4,ty9,ty28,ty22,ty23,ty24,ty25,ty27,ty63,ty52,ty43]
 refine callK_ret _ _ _ _ (call_pure (hi) (fun _ => rfl) (fun _ => rfl)) (ok_nil _ _) ?_
 simp -implicitDefEqProofs only [evx,evy,ofValue,ofCell,List.range,List.range.loop,Array.size,Nat.reduceAdd,Nat.reduceSub,Nat.reduceEqDiff,List.replicate,if_true,if_false,↓reduceIte,reduceCtorEq,elB,evParts,Int.reduceToNat,Int.reduceLE,Int.reduceLT,Int.reduceEq,Nat.reduceMul,Nat.reduceLeDiff,Nat.reduceLT,ty3,ty4,ty9,ty28,ty22,ty23,ty24,ty25,ty27,ty63,ty52,ty43]
 exact le_flat rfl
def ixI (p : Itm → Bool) : List Itm → Nat → Int
 | [],_ => -1
 | x :: l,i => if p x then i else ixI p l (i + 1)
theorem ixI_any (p : Itm → Bool) : ∀ (l : List Itm) (i : Nat),(0 ≤ ixI p l i) = (l.any p = true)
 | [],i => by simp [ixI]
 | x :: l,i => by
  unfold ixI
  cases h : p x with
  | true => simp [h]
  | false => simp only [Bool.false_eq_true,if_false,ixI_any p l,List.any_cons,h,Bool.false_or]
theorem ok101 {f : FuncId} {caps : List AV} {p : Itm → Bool} (l : List Itm) (hl : l.length ≤ 100000) (hc : ∀ σ,caps.map (subAny σ) = caps)
  (hf : ∀ x ∈ l,Ok Tryz.prog f (x.av :: caps) [] (.ret (.fv (.bool (p x)))) []) : Ok Tryz.prog 101 [.fv (.lst 2 (l.map Itm.row)),.func f caps] [] (.ret (.fv (.int .i64 (ixI p l 0)))) [] := by
 refine ok_start (k := 17) (n0 := 0) (rs := [.tmp 4]) mix Tryz.func101 rfl rfl rfl rfl rfl rfl rfl ?_
 simp -implicitDefEqProofs only [List.length_map,
  evx,evy,ofValue,ofCell,List.range,List.range.loop,Array.size,Nat.reduceAdd,Nat.reduceSub,Nat.reduceEqDiff,List.replicate,if_true,if_false,↓reduceIte,reduceCtorEq,elB,evParts,Int.reduceToNat,Int.reduceLE,Int.reduceLT,Int.reduceEq,Nat.reduceMul,Nat.reduceLeDiff,Nat.reduceLT,ty3,ty4,ty9,ty28,ty22,ty23,ty24,ty25,ty27,ty63,ty52,ty43]
 refine loop_rule (fun i : Nat => ⟨[.fv (.lst 2 (l.map Itm.row)),.func f caps,.any,.any,.any,.any,.any,.fv (.int .i64 l.length),.fv (.int .i64 i),.any,.any,.any,.any,.any,.any,.any,.any,.any,.any],[],[]⟩)
  (fun i => i ≤ l.length ∧ ixI p l 0 = ixI p (l.drop i) i) (fun i => l.length - i) 0 (le_wk (by simp [wk])) (by simp) (fun i hi s hs2 => ?_)
 obtain ⟨hi,hx⟩ := hi
 by_cases hlt : i < l.length
 ·have hr := rows_at Itm.row l i hlt
  have hfi := hf l[i] (List.getElem_mem hlt)
  rw [List.drop_eq_getElem_cons hlt] at hx
  generalize l[i] = x at hr hfi hx
  simp -implicitDefEqProofs only [List.length_map,lt_true hlt,hr,Itm.row,
  evx,evy,ofValue,ofCell,List.range,List.range.loop,Array.size,Nat.reduceAdd,Nat.reduceSub,Nat.reduceEqDiff,List.replicate,if_true,if_false,↓reduceIte,reduceCtorEq,elB,evParts,Int.reduceToNat,Int.reduceLE,Int.reduceLT,Int.reduceEq,Nat.reduceMul,Nat.reduceLeDiff,Nat.reduceLT,ty3,ty4,ty9,ty28,ty22,ty23,ty24,ty25,ty27,ty63,ty52,ty43]
  refine callK_ret _ _ _ _ (call_pure hfi (fun σ => by rw [List.map_cons,hc]; rfl) (fun _ => rfl)) (ok_nil _ _) ?_
  cases hp : p x with
  | true =>
   simp -implicitDefEqProofs only [evx,evy,ofValue,ofCell,List.range,List.range.loop,Array.size,Nat.reduceAdd,Nat.reduceSub,Nat.reduceEqDiff,List.replicate,if_true,if_false,↓reduceIte,reduceCtorEq,elB,evParts,Int.reduceToNat,Int.reduceLE,Int.reduceLT,Int.reduceEq,Nat.reduceMul,Nat.reduceLeDiff,Nat.reduceLT,ty3,ty4,ty9,ty28,ty22,ty23,ty24,ty25,ty27,ty63,ty52,ty43]
   rw [hx,ixI,hp,if_pos rfl]
   exact le_flat rfl
  | false =>
   simp -implicitDefEqProofs only [wsucc i (by omega),
  evx,evy,ofValue,ofCell,List.range,List.range.loop,Array.size,Nat.reduceAdd,Nat.reduceSub,Nat.reduceEqDiff,List.replicate,if_true,if_false,↓reduceIte,reduceCtorEq,elB,evParts,Int.reduceToNat,Int.reduceLE,Int.reduceLT,Int.reduceEq,Nat.reduceMul,Nat.reduceLeDiff,Nat.reduceLT,ty3,ty4,ty9,ty28,ty22,ty23,ty24,ty25,ty27,ty63,ty52,ty43]
   refine back_intro hs2 (i + 1) (le_wk (by simp [wk])) ⟨by omega,?_⟩ (by omega)
   rw [hx,ixI,hp,if_neg (by simp)]
 ·obtain rfl : i = l.length := by omega
  simp -implicitDefEqProofs only [lt_false hlt,
  evx,evy,ofValue,ofCell,List.range,List.range.loop,Array.size,Nat.reduceAdd,Nat.reduceSub,Nat.reduceEqDiff,List.replicate,if_true,if_false,↓reduceIte,reduceCtorEq,elB,evParts,Int.reduceToNat,Int.reduceLE,Int.reduceLT,Int.reduceEq,Nat.reduceMul,Nat.reduceLeDiff,Nat.reduceLT,ty3,ty4,ty9,ty28,ty22,ty23,ty24,ty25,ty27,ty63,ty52,ty43]
  rw [hx,List.drop_length,ixI]
  exact le_flat rfl
theorem ok67 {f : FuncId} {caps : List AV} {p : Itm → Bool} (l : List Itm) (hl : l.length ≤ 100000) (hc : ∀ σ,caps.map (subAny σ) = caps) (hc2 : ∀ σ,subAny σ (.func f caps) = .func f caps)
  (hf : ∀ x ∈ l,Ok Tryz.prog f (x.av :: caps) [] (.ret (.fv (.bool (p x)))) []) : Ok Tryz.prog 67 [.fv (.lst 2 (l.map Itm.row)),.func f caps] [] (.ret (.fv (.bool (l.any p)))) [] := by
 refine ok_start (k := 7) (n0 := 0) (rs := [.tmp 4]) mix Tryz.func67 rfl rfl rfl rfl rfl rfl rfl ?_
 simp -implicitDefEqProofs only [evx,evy,ofValue,ofCell,List.range,List.range.loop,Array.size,Nat.reduceAdd,Nat.reduceSub,Nat.reduceEqDiff,List.replicate,if_true,if_false,↓reduceIte,reduceCtorEq,elB,evParts,Int.reduceToNat,Int.reduceLE,Int.reduceLT,Int.reduceEq,Nat.reduceMul,Nat.reduceLeDiff,Nat.reduceLT,ty3,ty4,ty9,ty28,ty22,ty23,ty24,ty25,ty27,ty63,ty52,ty43]
 refine callK_ret _ _ _ _ (call_pure (ok101 l hl hc hf) (fun σ => by rw [List.map_cons,List.map_cons,List.map_nil,hc2]; rfl) (fun _ => rfl)) (ok_nil _ _) ?_
 have hx := ixI_any p l 0
 cases ha : l.any p with
 | true =>
  rw [ha] at hx
  have h0 : (0 ≤ ixI p l 0) = True := by rw [hx]; simp
  simp -implicitDefEqProofs only [h0,
  evx,evy,ofValue,ofCell,List.range,List.range.loop,Array.size,Nat.reduceAdd,Nat.reduceSub,Nat.reduceEqDiff,List.replicate,if_true,if_false,↓reduceIte,reduceCtorEq,elB,evParts,Int.reduceToNat,Int.reduceLE,Int.reduceLT,Int.reduceEq,Nat.reduceMul,Nat.reduceLeDiff,Nat.reduceLT,ty3,ty4,ty9,ty28,ty22,ty23,ty24,ty25,ty27,ty63,ty52,ty43]
  exact le_flat rfl
 | false =>
  rw [ha] at hx
  have h0 : (0 ≤ ixI p l 0) = False := by rw [hx]; simp
  simp -implicitDefEqProofs only [h0,
  evx,evy,ofValue,ofCell,List.range,List.range.loop,Array.size,Nat.reduceAdd,Nat.reduceSub,Nat.reduceEqDiff,List.replicate,if_true,if_false,↓reduceIte,reduceCtorEq,elB,evParts,Int.reduceToNat,Int.reduceLE,Int.reduceLT,Int.reduceEq,Nat.reduceMul,Nat.reduceLeDiff,Nat.reduceLT,ty3,ty4,ty9,ty28,ty22,ty23,ty24,ty25,ty27,ty63,ty52,ty43]
  exact le_flat rfl
def Gra.rightI (g : Gra) (l : List Itm) : Bool := g.usB && l.all g.isItm
theorem ok36 (g : Gra) (hg : Small g 100) (l : List Itm) (hl : l.length ≤ 100000) : Ok Tryz.prog 36 [g.av,.fv (.lst 2 (l.map Itm.row))] [] (.ret (.fv (.bool (g.rightI l)))) [] := by
 have hu := ok66 g hg
 have hcf := ok67 (f := 68) (caps := [.fptr g.row]) (p := fun x => !g.isItm x) l hl (fun _ => rfl) (fun _ => rfl) (fun x _ => ok68 g x)
 rw [show (l.any fun x => !g.isItm x) = !(l.all g.isItm) from by rw [List.not_all_eq_any_not]] at hcf
 refine ok_start (k := 11) (n0 := 0) (rs := [.tmp 4]) mix Tryz.func36 rfl rfl rfl rfl rfl rfl rfl ?_
 cases hb : g.usB with
 | false =>
  rw [hb] at hu
  have e : g.rightI l = false := by simp [Gra.rightI,hb]
  rw [e]
  simp -implicitDefEqProofs only [Gra.av,
  evx,evy,ofValue,ofCell,List.range,List.range.loop,Array.size,Nat.reduceAdd,Nat.reduceSub,Nat.reduceEqDiff,List.replicate,if_true,if_false,↓reduceIte,reduceCtorEq,elB,evParts,Int.reduceToNat,Int.reduceLE,Int.reduceLT,Int.reduceEq,Nat.reduceMul,Nat.reduceLeDiff,Nat.reduceLT,ty3,ty4,ty9,ty28,ty22,ty23,ty24,ty25,ty27,ty63,ty52,ty43]
  refine callK_ret _ _ _ _ (call_pure (hu) (fun _ => rfl) (fun _ => rfl)) (ok_nil _ _) ?_
  simp -implicitDefEqProofs only [evx,evy,ofValue,ofCell,List.range,List.range.loop,Array.size,Nat.reduceAdd,Nat.reduceSub,Nat.reduceEqDiff,List.replicate,if_true,if_false,↓reduceIte,reduceCtorEq,elB,evParts,Int.reduceToNat,Int.reduceLE,Int.reduceLT,Int.reduceEq,Nat.reduceMul,Nat.reduceLeDiff,Nat.reduceLT,ty3,ty4,ty9,ty28,ty22,ty23,ty24,ty25,ty27,ty63,ty52,ty43]
  exact le_flat rfl
 | true =>
  rw [hb] at hu
  have e : g.rightI l = l.all g.isItm := by simp [Gra.rightI,hb]
  rw [e]
  simp -implicitDefEqProofs only [Gra.av,
  evx,evy,ofValue,ofCell,List.range,List.range.loop,Array.size,Nat.reduceAdd,Nat.reduceSub,Nat.reduceEqDiff,List.replicate,if_true,if_false,↓reduceIte,reduceCtorEq,elB,evParts,Int.reduceToNat,Int.reduceLE,Int.reduceLT,Int.reduceEq,Nat.reduceMul,Nat.reduceLeDiff,Nat.reduceLT,ty3,ty4,ty9,ty28,ty22,ty23,ty24,ty25,ty27,ty63,ty52,ty43]
  refine callK_ret _ _ _ _ (call_pure (hu) (fun _ => rfl) (fun _ => rfl)) (ok_nil _ _) ?_
  simp -implicitDefEqProofs only [evx,evy,ofValue,ofCell,List.range,List.range.loop,Array.size,Nat.reduceAdd,Nat.reduceSub,Nat.reduceEqDiff,List.replicate,if_true,if_false,↓reduceIte,reduceCtorEq,elB,evParts,Int.reduceToNat,Int.reduceLE,Int.reduceLT,Int.reduceEq,Nat.reduceMul,Nat.reduceLeDiff,Nat.reduceLT,ty3,ty4,ty9,ty28,ty22,ty23,ty24,ty25,ty27,ty63,ty52,ty43]
  refine callK_ret _ _ _ _ (call_deep hcf (by rfl) rfl) (ok_nil _ _) ?_
  simp -implicitDefEqProofs only [evx,evy,ofValue,ofCell,List.range,List.range.loop,Array.size,Nat.reduceAdd,Nat.reduceSub,Nat.reduceEqDiff,List.replicate,if_true,if_false,↓reduceIte,reduceCtorEq,elB,evParts,Int.reduceToNat,Int.reduceLE,Int.reduceLT,Int.reduceEq,Nat.reduceMul,Nat.reduceLeDiff,Nat.reduceLT,ty3,ty4,ty9,ty28,ty22,ty23,ty24,ty25,ty27,ty63,ty52,ty43]
  cases l.all g.isItm <;> exact le_flat rfl
end Go.Abs
