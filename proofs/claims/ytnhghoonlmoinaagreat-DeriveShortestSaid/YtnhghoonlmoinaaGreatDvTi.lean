/- Which word is better. -/
import Derived.Test.YtnhghoonlmoinaaGreatTyTryzi
import Derived.Test.YtnhghoonlmoinaaGreatDrTryzi
import Derived.Test.YtnhghoonlmoinaaGreatTopGi
import Derived.Test.YtnhghoonlmoinaaGreatCkKi
import Derived.Test.YtnhghoonlmoinaaGreatItOi
import Derived.Test.YtnhghoonlmoinaaGreatDvAE
import Derived.Test.YtnhghoonlmoinaaGreatDvBi
import Derived.Test.YtnhghoonlmoinaaGreatDvHi
import Derived.Test.YtnhghoonlmoinaaGreatDvIi
import Derived.Test.YtnhghoonlmoinaaGreatCkLi
import Derived.Test.YtnhghoonlmoinaaGreatFiCi
namespace Go.Abs
set_option linter.unusedSectionVars false
variable [Kn]
open Go.Proofs
set_option linter.unusedVariables false
set_option linter.unusedSimpArgs false
set_option maxRecDepth 100000
set_option maxHeartbeats 8000000
theorem ok81 (a b : List Int) (ha : a.length < 4611686018427387904) (hb : b.length < 4611686018427387904) :
  Ok Tryz.prog 81 [.fv (.lst 1 (ints a)),.fv (.lst 1 (ints b))] [] (.ret (.fv (.int .i64 (cmpL a b)))) [] := by
 have hla := ints_length a
 have hlb := ints_length b
 refine ok_start (k := 34) (n0 := 0) (rs := [.tmp 4]) mix Tryz.func81 rfl rfl rfl rfl rfl rfl rfl ?_
 simp -implicitDefEqProofs only [hla,
  evx,evy,ofValue,ofCell,List.range,List.range.loop,Array.size,Nat.reduceAdd,Nat.reduceSub,Nat.reduceEqDiff,List.replicate,if_true,if_false,↓reduceIte,reduceCtorEq,elB,evParts,Int.reduceToNat,Int.reduceLE,Int.reduceLT,Int.reduceEq,Nat.reduceMul,Nat.reduceLeDiff,Nat.reduceLT,ty3,ty4,ty28]
 refine loop_rule (fun i : Nat => ⟨[.fv (.lst 1 (ints a)),.fv (.lst 1 (ints b)),.any,.any,.any,.any,.any,.any,.any,.fv (.lst 1 (ints a)),.fv (.int .i64 a.length),.fv (.int .i64 i),.any,.any,.any,.any,.any,.any,.any,.any,.any,.any,.any,.any,.any,.any,.any,.any,.any,.any,.any,.any,.any,.any,.any,.any],[],[]⟩)
  (fun i => i ≤ a.length ∧ i ≤ b.length ∧ cmpL a b = cmpL (a.drop i) (b.drop i)) (fun i => a.length - i) 0 (le_wk (by simp [wk])) (by simp) (fun i hp s hs => ?_)
 obtain ⟨h1,h2,h3⟩ := hp
 by_cases hia : i < a.length
 ·have hra := ints_get a i hia
  by_cases hib : i < b.length
  ·have hc2 : ((b.length : Int) ≤ (i : Int)) = False := eq_false (by omega)
   have hrb := ints_get b i hib
   have hs3 := cmpL_step a b i hia hib
   have hcm := ok108 a[i] b[i]
   generalize a[i] = x at hra hs3 hcm
   generalize b[i] = y at hrb hs3 hcm
   simp -implicitDefEqProofs only [lt_true hia,hla,hlb,hra,hc2,hrb,
  evx,evy,ofValue,ofCell,List.range,List.range.loop,Array.size,Nat.reduceAdd,Nat.reduceSub,Nat.reduceEqDiff,List.replicate,if_true,if_false,↓reduceIte,reduceCtorEq,elB,evParts,Int.reduceToNat,Int.reduceLE,Int.reduceLT,Int.reduceEq,Nat.reduceMul,Nat.reduceLeDiff,Nat.reduceLT,ty3,ty4,ty28]
   refine callK_ret _ _ _ _ (call_pure (hcm) (fun _ => rfl) (fun _ => rfl)) (ok_nil _ _) ?_
   by_cases hz : cmpI x y = 0
   ·have hzt : (cmpI x y = 0) = True := eq_true hz
    simp -implicitDefEqProofs only [hzt,wsucc i (by omega),
  evx,evy,ofValue,ofCell,List.range,List.range.loop,Array.size,Nat.reduceAdd,Nat.reduceSub,Nat.reduceEqDiff,List.replicate,if_true,if_false,↓reduceIte,reduceCtorEq,elB,evParts,Int.reduceToNat,Int.reduceLE,Int.reduceLT,Int.reduceEq,Nat.reduceMul,Nat.reduceLeDiff,Nat.reduceLT,ty3,ty4,ty28]
    exact back_intro hs (i + 1) (le_wk (by simp [wk])) ⟨by omega,by omega,by rw [h3,hs3,if_pos hz]⟩ (by omega)
   ·have hzt : (cmpI x y = 0) = False := eq_false hz
    rw [h3,hs3,if_neg hz]
    simp -implicitDefEqProofs only [hzt,
  evx,evy,ofValue,ofCell,List.range,List.range.loop,Array.size,Nat.reduceAdd,Nat.reduceSub,Nat.reduceEqDiff,List.replicate,if_true,if_false,↓reduceIte,reduceCtorEq,elB,evParts,Int.reduceToNat,Int.reduceLE,Int.reduceLT,Int.reduceEq,Nat.reduceMul,Nat.reduceLeDiff,Nat.reduceLT,ty3,ty4,ty28]
    exact Le.refl _ _
  ·have hc2 : ((b.length : Int) ≤ (i : Int)) = True := eq_true (by omega)
   rw [h3,List.drop_eq_getElem_cons hia,List.drop_eq_nil_of_le (Nat.le_of_not_lt hib)]
   simp -implicitDefEqProofs only [lt_true hia,hla,hlb,hra,hc2,
  evx,evy,ofValue,ofCell,List.range,List.range.loop,Array.size,Nat.reduceAdd,Nat.reduceSub,Nat.reduceEqDiff,List.replicate,if_true,if_false,↓reduceIte,reduceCtorEq,elB,evParts,Int.reduceToNat,Int.reduceLE,Int.reduceLT,Int.reduceEq,Nat.reduceMul,Nat.reduceLeDiff,Nat.reduceLT,ty3,ty4,ty28]
   exact Le.refl _ _
 ·rw [List.drop_eq_nil_of_le (Nat.le_of_not_lt hia)] at h3
  by_cases hib : i < b.length
  ·have hc2 : ((a.length : Int) < (b.length : Int)) = True := eq_true (by omega)
   rw [h3,List.drop_eq_getElem_cons hib]
   simp -implicitDefEqProofs only [lt_false hia,hla,hlb,hc2,
  evx,evy,ofValue,ofCell,List.range,List.range.loop,Array.size,Nat.reduceAdd,Nat.reduceSub,Nat.reduceEqDiff,List.replicate,if_true,if_false,↓reduceIte,reduceCtorEq,elB,evParts,Int.reduceToNat,Int.reduceLE,Int.reduceLT,Int.reduceEq,Nat.reduceMul,Nat.reduceLeDiff,Nat.reduceLT,ty3,ty4,ty28]
   exact Le.refl _ _
  ·have hc2 : ((a.length : Int) < (b.length : Int)) = False := eq_false (by omega)
   rw [h3,List.drop_eq_nil_of_le (Nat.le_of_not_lt hib)]
   simp -implicitDefEqProofs only [lt_false hia,hla,hlb,hc2,
  evx,evy,ofValue,ofCell,List.range,List.range.loop,Array.size,Nat.reduceAdd,Nat.reduceSub,Nat.reduceEqDiff,List.replicate,if_true,if_false,↓reduceIte,reduceCtorEq,elB,evParts,Int.reduceToNat,Int.reduceLE,Int.reduceLT,Int.reduceEq,Nat.reduceMul,Nat.reduceLeDiff,Nat.reduceLT,ty3,ty4,ty28]
   exact Le.refl _ _
def betterL (a b : List Int) : Bool := decide (a.length < b.length) || (decide (a.length = b.length) && decide (cmpL a b < 0))
theorem ok54 (a b : List Int) (ha : a.length < 4611686018427387904) (hb : b.length < 4611686018427387904) :
  Ok Tryz.prog 54 [.fv (.lst 1 (ints a)),.fv (.lst 1 (ints b))] [] (.ret (.fv (.bool (betterL a b)))) [] := by
 have hla := ints_length a
 have hlb := ints_length b
 have hcm := ok81 a b ha hb
 refine ok_start (k := 21) (n0 := 0) (rs := [.tmp 4]) mix Tryz.func54 rfl rfl rfl rfl rfl rfl rfl ?_
 by_cases h1 : a.length < b.length
 ·have e : betterL a b = true := by unfold betterL; rw [decide_eq_true h1]; rfl
  rw [e]
  simp -implicitDefEqProofs only [hla,hlb,lt_true h1,
  evx,evy,ofValue,ofCell,List.range,List.range.loop,Array.size,Nat.reduceAdd,Nat.reduceSub,Nat.reduceEqDiff,List.replicate,if_true,if_false,↓reduceIte,reduceCtorEq,elB,evParts,Int.reduceToNat,Int.reduceLE,Int.reduceLT,Int.reduceEq,Nat.reduceMul,Nat.reduceLeDiff,Nat.reduceLT,ty3,ty4,ty28]
  exact Le.refl _ _
 ·by_cases h2 : a.length = b.length
  ·have h2t : ((a.length : Int) = (b.length : Int)) = True := eq_true (by omega)
   have e : betterL a b = decide (cmpL a b < 0) := by unfold betterL; rw [decide_eq_false h1,decide_eq_true h2]; simp
   rw [e]
   simp -implicitDefEqProofs only [hla,hlb,lt_false h1,h2t,
  evx,evy,ofValue,ofCell,List.range,List.range.loop,Array.size,Nat.reduceAdd,Nat.reduceSub,Nat.reduceEqDiff,List.replicate,if_true,if_false,↓reduceIte,reduceCtorEq,elB,evParts,Int.reduceToNat,Int.reduceLE,Int.reduceLT,Int.reduceEq,Nat.reduceMul,Nat.reduceLeDiff,Nat.reduceLT,ty3,ty4,ty28]
   refine callK_ret _ _ _ _ (call_pure (hcm) (fun _ => rfl) (fun _ => rfl)) (ok_nil _ _) ?_
   simp -implicitDefEqProofs only [evx,evy,ofValue,ofCell,List.range,List.range.loop,Array.size,Nat.reduceAdd,Nat.reduceSub,Nat.reduceEqDiff,List.replicate,if_true,if_false,↓reduceIte,reduceCtorEq,elB,evParts,Int.reduceToNat,Int.reduceLE,Int.reduceLT,Int.reduceEq,Nat.reduceMul,Nat.reduceLeDiff,Nat.reduceLT,ty3,ty4,ty28]
   exact Le.refl _ _
  ·have h2t : ((a.length : Int) = (b.length : Int)) = False := eq_false (by omega)
   have e : betterL a b = false := by unfold betterL; rw [decide_eq_false h1,decide_eq_false h2]; rfl
   rw [e]
   simp -implicitDefEqProofs only [hla,hlb,lt_false h1,h2t,
  evx,evy,ofValue,ofCell,List.range,List.range.loop,Array.size,Nat.reduceAdd,Nat.reduceSub,Nat.reduceEqDiff,List.replicate,if_true,if_false,↓reduceIte,reduceCtorEq,elB,evParts,Int.reduceToNat,Int.reduceLE,Int.reduceLT,Int.reduceEq,Nat.reduceMul,Nat.reduceLeDiff,Nat.reduceLT,ty3,ty4,ty28]
   exact Le.refl _ _
theorem cmp_val {T : Nat} : ∀ {a b : List Int},okW T a → okW T b → a.length = b.length → (cmpL a b < 0 ↔ valW T a < valW T b)
 | [],[],_,_,_ => by simp [cmpL,valW]
 | [],_ :: _,_,_,h => by simp at h
 | _ :: _,[],_,_,h => by simp at h
 | x :: a,y :: b,ha,hb,h => by
  have hl : a.length = b.length := by simpa using h
  have ih := cmp_val ha.tail hb.tail hl
  have hx := ha x (by simp)
  have hy := hb y (by simp)
  rw [cmpL]
  rcases Int.lt_trichotomy x y with c | c | c
  ·have e : cmpI x y = -1 := by unfold cmpI; rw [if_pos c]
   have := val_cons_lt hx.1 hy.1 ha.tail hb.tail hl c
   rw [e]
   simp [this]
  ·subst c
   have e : cmpI x x = 0 := by unfold cmpI; rw [if_neg (Int.lt_irrefl x),if_neg (Int.lt_irrefl x)]
   rw [e,if_pos rfl,ih,valW,valW,hl]
   omega
  ·have e : cmpI x y = 1 := by unfold cmpI; rw [if_neg (by omega),if_pos c]
   have := val_cons_lt hy.1 hx.1 hb.tail ha.tail hl.symm c
   rw [e]
   simp
   omega
theorem better_val {T : Nat} {a b : List Int} (ha : okW T a) (hb : okW T b) : betterL a b = decide (valW T a < valW T b) := by
 unfold betterL
 rcases Nat.lt_trichotomy a.length b.length with c | c | c
 ·have h1 := val_len hb ha
  rw [decide_eq_true c,decide_eq_true (show valW T a < valW T b by
   rcases Nat.lt_or_ge (valW T a) (valW T b) with h | h
   ·exact h
   ·have := h1 h; omega)]
  rfl
 ·rw [decide_eq_false (by omega),decide_eq_true c,Bool.false_or,Bool.true_and,decide_eq_decide]
  exact cmp_val ha hb c
 ·have h1 := val_len ha hb
  rw [decide_eq_false (by omega),decide_eq_false (by omega),decide_eq_false (show ¬ valW T a < valW T b from fun h => by have := h1 (by omega); omega)]
  rfl
end Go.Abs
/- The program's Shortest. -/
namespace Go.Abs
open Go.Proofs
set_option linter.unusedVariables false
set_option linter.unusedSimpArgs false
set_option maxRecDepth 100000
set_option maxHeartbeats 8000000
open Classical in
/-- The shortest word; or why there is none. -/
noncomputable def shortA (g : Gra) : List Int × Int :=
 if g.usB = false then ([],10) else if h : ∃ w,Least g w then (h.choose,0) else if g.start ∈ g.those (Ended g) then ([],3) else ([],4)
theorem graF_of {g : Gra} (hu : g.usB = true) : GraF g := by
 obtain ⟨_,h⟩ := us_facts hu
 exact ⟨fun p hp => (h p hp).1,fun p hp n hn => ((h p hp).2.2 n hn).1⟩
theorem short_some {g : Gra} (hu : g.usB = true) {w : List Int} (h : Least g w) : shortA g = (w,0) := by
 have hs := (us_facts hu).1
 have hx : ∃ w,Least g w := ⟨w,h⟩
 unfold shortA
 rw [if_neg (by simp [hu]),dif_pos hx]
 rw [Least.uniq (graF_of hu) (by omega) hx.choose_spec h]
theorem short_none {g : Gra} (hu : g.usB = true) (h : ¬ ∃ w,Least g w) : shortA g = if g.start ∈ g.those (Ended g) then ([],3) else ([],4) := by
 unfold shortA
 rw [if_neg (by simp [hu]),dif_neg h]
/-- The tables of the first terminals. -/
def tabO (m i : Nat) : List (List Int) := (List.range m).map fun k => if 1 ≤ k ∧ k < i then [(k : Int)] else []
def tabK (m i : Nat) : List Bool := (List.range m).map fun k => decide (1 ≤ k ∧ k < i)
theorem tabO_len (m i : Nat) : (tabO m i).length = m := by simp [tabO]
theorem tabK_len (m i : Nat) : (tabK m i).length = m := by simp [tabK]
theorem tabO_set {m i : Nat} (h : i < m) (h1 : 1 ≤ i) : (tabO m i).set i [(i : Int)] = tabO m (i + 1) := by
 apply List.ext_getElem?
 intro j
 rw [List.getElem?_set]
 have hg : ∀ a,(tabO m a)[j]? = if j < m then some (if 1 ≤ j ∧ j < a then [(j : Int)] else []) else none := fun a => by
  unfold tabO
  rw [List.getElem?_map]
  by_cases c : j < m
  ·rw [List.getElem?_range c,if_pos c]; rfl
  ·rw [List.getElem?_eq_none (by simp; omega),if_neg c]; rfl
 rw [hg,hg]
 by_cases c : i = j
 ·subst c
  rw [if_pos rfl,if_pos (by rw [tabO_len]; exact h),if_pos h,if_pos ⟨h1,by omega⟩]
 ·rw [if_neg c]
  by_cases c2 : j < m
  ·rw [if_pos c2,if_pos c2]
   by_cases c3 : 1 ≤ j ∧ j < i
   ·rw [if_pos c3,if_pos ⟨c3.1,by omega⟩]
   ·rw [if_neg c3,if_neg (by omega)]
  ·rw [if_neg c2,if_neg c2]
theorem tabK_set {m i : Nat} (h : i < m) (h1 : 1 ≤ i) : (tabK m i).set i true = tabK m (i + 1) := by
 apply List.ext_getElem?
 intro j
 rw [List.getElem?_set]
 have hg : ∀ a,(tabK m a)[j]? = if j < m then some (decide (1 ≤ j ∧ j < a)) else none := fun a => by
  unfold tabK
  rw [List.getElem?_map]
  by_cases c : j < m
  ·rw [List.getElem?_range c,if_pos c]; rfl
  ·rw [List.getElem?_eq_none (by simp; omega),if_neg c]; rfl
 rw [hg,hg]
 by_cases c : i = j
 ·subst c
  rw [if_pos rfl,if_pos (by rw [tabK_len]; exact h),if_pos h,decide_eq_true ⟨h1,by omega⟩]
 ·rw [if_neg c]
  by_cases c2 : j < m
  ·rw [if_pos c2,if_pos c2]
   congr 1
   rw [decide_eq_decide]
   omega
  ·rw [if_neg c2,if_neg c2]
theorem tabO_getD {m i k : Nat} : (tabO m i).getD k [] = if k < m ∧ 1 ≤ k ∧ k < i then [(k : Int)] else [] := by
 rw [List.getD_eq_getElem?_getD]
 unfold tabO
 rw [List.getElem?_map]
 by_cases c : k < m
 ·rw [List.getElem?_range c]
  by_cases c2 : 1 ≤ k ∧ k < i
  ·rw [if_pos ⟨c,c2⟩]; simp [c2]
  ·rw [if_neg (fun h => c2 h.2)]; simp [c2]
 ·rw [List.getElem?_eq_none (by simp; omega),if_neg (fun h => c h.1)]; rfl
theorem tabK_getD {m i k : Nat} : (tabK m i).getD k false = decide (k < m ∧ 1 ≤ k ∧ k < i) := by
 rw [List.getD_eq_getElem?_getD]
 unfold tabK
 rw [List.getElem?_map]
 by_cases c : k < m
 ·rw [List.getElem?_range c]
  simp [c]
 ·rw [List.getElem?_eq_none (by simp; omega),decide_eq_false (fun h => c h.1)]; rfl
theorem rowsOf_set2 (F : List (List Int)) (k : Nat) (l : List Int) : (rowsOf F).set k [.lst 1 (ints l)] = rowsOf (F.set k l) := by
 simp [rowsOf,List.map_set]
theorem rowsOf_getD {B : List (List Int)} {k : Nat} (h : k < B.length) : (rowsOf B)[k]? = some [.lst 1 (ints (B.getD k []))] := by
 rw [rowsOf_get B k h,List.getD_eq_getElem?_getD,List.getElem?_eq_getElem h]; rfl
theorem nilrows (m : Nat) : (List.replicate m [FV.nils]).map (fun r => r.map (fixNil 1)) = rowsOf (tabO m 1) := by
 rw [List.map_replicate]
 apply List.ext_getElem?
 intro j
 rw [List.getElem?_replicate]
 unfold rowsOf tabO
 rw [List.map_map,List.getElem?_map]
 by_cases h : j < m
 ·rw [if_pos h,List.getElem?_range h]
  have : ¬ (1 ≤ j ∧ j < 1) := by omega
  simp only [Option.map_some,Function.comp,if_neg this]
  rfl
 ·rw [if_neg h,List.getElem?_eq_none (by simp; omega)]; rfl
theorem falserows (m : Nat) : List.replicate m [FV.bool false] = bRows (tabK m 1) := by
 apply List.ext_getElem?
 intro j
 rw [List.getElem?_replicate]
 unfold bRows tabK
 rw [List.map_map,List.getElem?_map]
 by_cases h : j < m
 ·rw [if_pos h,List.getElem?_range h]
  have : decide (1 ≤ j ∧ j < 1) = false := decide_eq_false (by omega)
  simp only [Option.map_some,Function.comp,this]
 ·rw [if_neg h,List.getElem?_eq_none (by simp; omega)]; rfl
theorem bRows_set2 (L : List Bool) (k : Nat) : (bRows L).set k [.bool true] = bRows (L.set k true) := by simp [bRows,List.map_set]
/-- What the program's tables keep to. -/
structure TermT (g : Gra) (K : List Bool) (B : List (List Int)) : Prop where
 term : ∀ i : Nat,1 ≤ i → i ≤ g.terms → K.getD i false = true ∧ B.getD i [] = [(i : Int)]
 len : ∀ i : Nat,(B.getD i []).length ≤ 400
theorem TermT.step {g : Gra} {K : List Bool} {B : List (List Int)} (h : TermT g K B) (hI : ShI g K B) (hg : GraF g) {p : Prd} (hp : p ∈ g.prods) {w : List Int} (hw : w.length ≤ 400) : TermT g (K.set p.left.toNat true) (B.set p.left.toNat w) := by
 have hl := hg.left p hp
 refine ⟨fun i h1 h2 => ?_,fun i => ?_⟩
 ·rw [getD_set_b (by rw [hI.lenK]; omega),getD_set_b (by rw [hI.lenB]; omega),if_neg (by omega),if_neg (by omega)]
  exact h.term i h1 h2
 ·rw [getD_set_b (by rw [hI.lenB]; omega)]
  split
  ·exact hw
  ·exact h.len i
theorem TermT.b {g : Gra} {K : List Bool} {B : List (List Int)} (h : TermT g K B) {n : Int} (hn : 1 ≤ n) : bOf g.terms B n = B.getD n.toNat [] := by
 unfold bOf
 by_cases c : n ≤ (g.terms : Int)
 ·rw [if_pos c,(h.term n.toNat (by omega) (by omega)).2,Int.toNat_of_nonneg (by omega)]
 ·rw [if_neg c]
theorem TermT.k {g : Gra} {K : List Bool} {B : List (List Int)} (h : TermT g K B) {n : Int} (hn : 1 ≤ n) : kOf g.terms K n = K.getD n.toNat false := by
 unfold kOf
 by_cases c : n ≤ (g.terms : Int)
 ·rw [decide_eq_true c,(h.term n.toNat (by omega) (by omega)).1]; rfl
 ·rw [decide_eq_false c]; rfl
theorem wordS_take {T : Nat} {B : List (List Int)} {ts : List Int} {j : Nat} (h : j < ts.length) : wordS T B (ts.take (j + 1)) = wordS T B (ts.take j) ++ bOf T B ts[j] := by
 unfold wordS
 rw [List.take_succ_eq_append_getElem h,List.flatMap_append]
 simp
theorem allS_take {T : Nat} {K : List Bool} {ts : List Int} {j : Nat} (h : j < ts.length) : allS T K (ts.take (j + 1)) = (allS T K (ts.take j) && kOf T K ts[j]) := by
 unfold allS
 rw [List.take_succ_eq_append_getElem h,List.all_append]
 simp
theorem ShI.ini (g : Gra) : ShI g (tabK (g.all + 1) (g.terms + 1)) (tabO (g.all + 1) (g.terms + 1)) where
 lenK := tabK_len _ _
 lenB := tabO_len _ _
 snd n hn h := by
  rw [tabK_getD,decide_eq_true_eq] at h
  omega
theorem TermT.ini (g : Gra) : TermT g (tabK (g.all + 1) (g.terms + 1)) (tabO (g.all + 1) (g.terms + 1)) := by
 have hta : g.terms ≤ g.all := by unfold Gra.all; omega
 refine ⟨fun i h1 h2 => ?_,fun i => ?_⟩
 ·rw [tabK_getD,tabO_getD,decide_eq_true (⟨by omega,h1,by omega⟩ : i < g.all + 1 ∧ 1 ≤ i ∧ i < g.terms + 1),if_pos ⟨by omega,h1,by omega⟩]
  exact ⟨rfl,rfl⟩
 ·rw [tabO_getD]
  split <;> simp
def HT (g : Gra) (K : List Bool) (B : List (List Int)) : List Blk := [.box g.cells,.plain 1 (rowsOf B),.plain 1 (bRows K)]
theorem cells_frz {σ : Nat → Option Sb} {B : List (List Int)} {i id : Nat} {w : List Int} (hσ : subAny σ (.ref id 1 0 w.length) = .fv (.lst 1 (ints w))) : ((thaw (rowsOf B)).set i (.ref id 1 0 w.length)).map (subAny σ) = thaw (rowsOf (B.set i w)) := by
 rw [List.map_set,hσ,thaw_rows,map_sub_lsts,thaw_rows,List.map_set]
theorem le_kept {g : Gra} {K : List Bool} {B : List (List Int)} {i : Nat} {w : List Int} {t t' : List AV} (ht : wk (t.map (subAny (mkSub [0,1,2] [3] [.box g.cells,.box ((thaw (rowsOf B)).set i (.ref 3 1 0 w.length)),.plain 1 (bRows K),.plain 1 (ints w)]))) t') :
  Le 0 ⟨t,[.box g.cells,.box ((thaw (rowsOf B)).set i (.ref 3 1 0 w.length)),.plain 1 (bRows K),.plain 1 (ints w)],[]⟩ ⟨t',HT g K (B.set i w),[]⟩ := by
 have hil := ints_length w
 have e := cells_frz (σ := mkSub [0,1,2] [3] [.box g.cells,.box ((thaw (rowsOf B)).set i (.ref 3 1 0 w.length)),.plain 1 (bRows K),.plain 1 (ints w)]) (B := B) (i := i) (id := 3) (w := w) (by simp [subAny,subA,mkSub,idx,← hil])
 refine Le.trans (le_pkfz [0,1,2] [3] (h' := [.box g.cells,.box (thaw (rowsOf (B.set i w))),.plain 1 (bRows K)]) rfl (by simp) (by simp) (by simp) rfl ?_ ht) (le_plain 1 1 _ rfl (rows_one _))
 simp only [List.map_cons,List.map_nil,List.getD_cons_zero,List.getD_cons_succ,subBlk,e]
 simp [Gra.cells,subAny,subA]
theorem le_kept2 {g : Gra} {K : List Bool} {B : List (List Int)} {i : Nat} {w : List Int} {cs : List AV} {t t' : List AV} (ht : wk (t.map (subAny (mkSub [0,1,2] [4] [.box g.cells,.box ((thaw (rowsOf B)).set i (.ref 4 1 0 w.length)),.plain 1 (bRows K),.box cs,.plain 1 (ints w)]))) t') :
  Le 0 ⟨t,[.box g.cells,.box ((thaw (rowsOf B)).set i (.ref 4 1 0 w.length)),.plain 1 (bRows K),.box cs,.plain 1 (ints w)],[]⟩ ⟨t',HT g K (B.set i w),[]⟩ := by
 have hil := ints_length w
 have e := cells_frz (σ := mkSub [0,1,2] [4] [.box g.cells,.box ((thaw (rowsOf B)).set i (.ref 4 1 0 w.length)),.plain 1 (bRows K),.box cs,.plain 1 (ints w)]) (B := B) (i := i) (id := 4) (w := w) (by simp [subAny,subA,mkSub,idx,← hil])
 refine Le.trans (le_pkfz [0,1,2] [4] (h' := [.box g.cells,.box (thaw (rowsOf (B.set i w))),.plain 1 (bRows K)]) rfl (by simp) (by simp) (by simp) rfl ?_ ht) (le_plain 1 1 _ rfl (rows_one _))
 simp only [List.map_cons,List.map_nil,List.getD_cons_zero,List.getD_cons_succ,subBlk,e]
 simp [Gra.cells,subAny,subA]
theorem ok31 (g : Gra) (hg : Small g 100) : Ok Tryz.prog 31 [g.av] [] (.ret (.tuple [.fv (.lst 1 (ints (shortA g).1)),.fv (.int .i64 (shortA g).2)])) [] := by
 have hri := ok36 g hg [] (by simp)
 rw [right_nil] at hri
 have hrn : Ok Tryz.prog 36 [g.av,.fv .nils] [] (.ret (.fv (.bool g.usB))) [] := ok_args hri fun w S m vs h => ⟨h.1,fun i v x hv hx => by
  match i,hx with
  | 0,hx => exact h.2 0 v _ hv hx
  | 1,hx => simp at hx; subst hx; exact nils_lst 2 (h.2 1 v _ hv rfl)
  | i + 2,hx => simp at hx⟩
 have hterms := ok35 g hg.nrules
 refine ok_start (k := 131) (n0 := 0) (rs := [.tmp 2,.tmp 3]) mix Tryz.func31 rfl rfl rfl rfl rfl rfl rfl ?_
 simp -implicitDefEqProofs only [awp_draw _ _ Tryzdr31_24,awp_draw _ _ Tryzdr31_27,Gra.av,
  evx,evy,ofValue,ofCell,List.range,List.range.loop,Array.size,Nat.reduceAdd,Nat.reduceSub,Nat.reduceEqDiff,List.replicate,if_true,if_false,↓reduceIte,reduceCtorEq,elB,evParts,Int.reduceToNat,Int.reduceLE,Int.reduceLT,Int.reduceEq,Nat.reduceMul,Nat.reduceLeDiff,Nat.reduceLT,ty3,ty4,ty9,ty28,ty85,ty73,ty22,ty23,ty24,ty25,ty27,ty63,ty31]
 cases hu : g.usB with
 | false =>
  rw [hu] at hrn
  have e : shortA g = ([],10) := by unfold shortA; rw [if_pos hu]
  rw [e]
  refine callK_ret _ _ _ _ (call_pure (hrn) (fun _ => rfl) (fun _ => rfl)) (ok_nil _ _) ?_
  simp -implicitDefEqProofs only [awp_draw _ _ Tryzdr31_24,awp_draw _ _ Tryzdr31_27,
  evx,evy,ofValue,ofCell,List.range,List.range.loop,Array.size,Nat.reduceAdd,Nat.reduceSub,Nat.reduceEqDiff,List.replicate,if_true,if_false,↓reduceIte,reduceCtorEq,elB,evParts,Int.reduceToNat,Int.reduceLE,Int.reduceLT,Int.reduceEq,Nat.reduceMul,Nat.reduceLeDiff,Nat.reduceLT,ty3,ty4,ty9,ty28,ty85,ty73,ty22,ty23,ty24,ty25,ty27,ty63,ty31]
  exact Le.trans (le_tn 1 _ _) (le_to [] [] rfl (by simp) (by simp) (by simp) (by simp) rfl)
 | true =>
  rw [hu] at hrn
  obtain ⟨hst,hps⟩ := us_facts hu
  have hgf := graF_of hu
  have htr : g.terms ≤ g.rules.length := by unfold Gra.terms; exact List.length_filter_le _ _
  have hnr := hg.nrules
  have hnn := hg.nnonts
  have hnp := hg.nprods
  have hw1 : IntKind.wrap .i64 ((g.terms : Int) + (g.nonts.length : Int)) = (g.terms : Int) + (g.nonts.length : Int) := wrap_small (by omega) (by omega)
  obtain ⟨m,hm⟩ : ∃ m,m = g.all + 1 := ⟨_,rfl⟩
  have hmb : m ≤ 100 := by unfold Gra.all at hm; omega
  have hta : g.terms + 1 ≤ m := by unfold Gra.all at hm; omega
  have hw2 : IntKind.wrap .i64 ((g.terms : Int) + (g.nonts.length : Int) + 1) = (m : Int) := by rw [wrap_small (by omega) (by omega)]; unfold Gra.all at hm; omega
  refine callK_ret _ _ _ _ (call_pure (hrn) (fun _ => rfl) (fun _ => rfl)) (ok_nil _ _) ?_
  simp -implicitDefEqProofs only [awp_draw _ _ Tryzdr31_24,awp_draw _ _ Tryzdr31_27,Gra.cells,
  evx,evy,ofValue,ofCell,List.range,List.range.loop,Array.size,Nat.reduceAdd,Nat.reduceSub,Nat.reduceEqDiff,List.replicate,if_true,if_false,↓reduceIte,reduceCtorEq,elB,evParts,Int.reduceToNat,Int.reduceLE,Int.reduceLT,Int.reduceEq,Nat.reduceMul,Nat.reduceLeDiff,Nat.reduceLT,ty3,ty4,ty9,ty28,ty85,ty73,ty22,ty23,ty24,ty25,ty27,ty63,ty31]
  refine callK_ret _ _ _ _ (call_pure (hterms) (fun _ => rfl) (fun _ => rfl)) (ok_nil _ _) ?_
  simp -implicitDefEqProofs only [awp_draw _ _ Tryzdr31_24,awp_draw _ _ Tryzdr31_27,Gra.cells,List.length_map,hw1,hw2,
  evx,evy,ofValue,ofCell,List.range,List.range.loop,Array.size,Nat.reduceAdd,Nat.reduceSub,Nat.reduceEqDiff,List.replicate,if_true,if_false,↓reduceIte,reduceCtorEq,elB,evParts,Int.reduceToNat,Int.reduceLE,Int.reduceLT,Int.reduceEq,Nat.reduceMul,Nat.reduceLeDiff,Nat.reduceLT,ty3,ty4,ty9,ty28,ty85,ty73,ty22,ty23,ty24,ty25,ty27,ty63,ty31]
  refine ⟨⟨by omega,by omega⟩,⟨by omega,by omega⟩,?_⟩
  rw [falserows]
  have hH0 : ∀ K B L,(HT g K B ++ L)[0]? = some (.box g.cells) := fun _ _ _ => rfl
  have hH1 : ∀ K B L,(HT g K B ++ L)[1]? = some (.plain 1 (rowsOf B)) := fun _ _ _ => rfl
  have hH2 : ∀ K B L,(HT g K B ++ L)[2]? = some (.plain 1 (bRows K)) := fun _ _ _ => rfl
  refine loop_rule (fun i : Nat => ⟨[.any,.ptr 0 0 0 0,.any,.any,.fv (.int .i64 g.terms),.ref 1 1 0 m,.ref 2 1 0 m,.fv (.int .i64 (i : Int)),.any,.any,.any,.any,.any,.any,.any,.any,.any,.any,.any,.any,.any,.any,.any,.any,.any,.any,.any,.any,.any,.any,.any,.any,.any,.any,.any,.any,.any,.any,.any,.any,.any,.any,.any,.any,.any,.any,.any,.any,.any,.any,.any,.any,.any,.any,.any,.any,.any,.any,.any,.any,.any,.any,.any,.any,.any,.any,.any,.any,.any,.any,.any,.any,.any,.any,.any,.any,.any,.any,.any,.any,.any,.any,.any,.any,.any,.any,.any,.any,.any,.any,.any,.any,.any,.any,.any,.any,.any,.any,.any,.any,.any,.any,.any,.any,.any,.any,.any,.any,.any,.any,.any,.any,.any,.any,.any,.any,.any,.any,.any,.any,.any,.any,.any,.any,.any,.any,.any,.any,.any,.any,.any,.any],HT g (tabK m i) (tabO m i),[]⟩)
   (fun i => 1 ≤ i ∧ i ≤ g.terms + 1) (fun i => g.terms + 1 - i) 1 (Le.trans (le_nilrows 1 1 1 _ rfl) (le_eqwk (by rw [nilrows]; rfl) (by simp [wk]))) ⟨Nat.le_refl _,by omega⟩ (fun i hi s1 hs1 => ?_)
  by_cases hlt : i ≤ g.terms
  ·have hc : ((i : Int) ≤ (g.terms : Int)) = True := eq_true (by omega)
   have hc2 : ((i : Int) < (m : Int)) = True := eq_true (by omega)
   have hrw := rowsOf_getD (B := tabO m i) (k := i) (by rw [tabO_len]; omega)
   have hrk := bRows_get (tabK m i) i (by rw [tabK_len]; omega)
   have hk : i * 1 + 0 < (thaw (rowsOf (tabO m i))).length := by rw [thaw_rows,List.length_map,tabO_len]; omega
   simp -implicitDefEqProofs only [awp_draw _ _ Tryzdr31_24,awp_draw _ _ Tryzdr31_27,HT,hc,hc2,hrw,hrk,stB_ref1 (hk := hk),Nat.zero_add,bRows_set2,tabK_set (m := m) (i := i) (by omega) hi.1,wsucc i (by omega),
  evx,evy,ofValue,ofCell,List.range,List.range.loop,Array.size,Nat.reduceAdd,Nat.reduceSub,Nat.reduceEqDiff,List.replicate,if_true,if_false,↓reduceIte,reduceCtorEq,elB,evParts,Int.reduceToNat,Int.reduceLE,Int.reduceLT,Int.reduceEq,Nat.reduceMul,Nat.reduceLeDiff,Nat.reduceLT,ty3,ty4,ty9,ty28,ty85,ty73,ty22,ty23,ty24,ty25,ty27,ty63,ty31]
   refine back_intro hs1 (i + 1) (Le.trans (le_kept (w := [(i : Int)]) (t' := [.any,.ptr 0 0 0 0,.any,.any,.fv (.int .i64 g.terms),.ref 1 1 0 m,.ref 2 1 0 m,.fv (.int .i64 ((i + 1 : Nat) : Int)),.any,.any,.any,.any,.any,.any,.any,.any,.any,.any,.any,.any,.any,.any,.any,.any,.any,.any,.any,.any,.any,.any,.any,.any,.any,.any,.any,.any,.any,.any,.any,.any,.any,.any,.any,.any,.any,.any,.any,.any,.any,.any,.any,.any,.any,.any,.any,.any,.any,.any,.any,.any,.any,.any,.any,.any,.any,.any,.any,.any,.any,.any,.any,.any,.any,.any,.any,.any,.any,.any,.any,.any,.any,.any,.any,.any,.any,.any,.any,.any,.any,.any,.any,.any,.any,.any,.any,.any,.any,.any,.any,.any,.any,.any,.any,.any,.any,.any,.any,.any,.any,.any,.any,.any,.any,.any,.any,.any,.any,.any,.any,.any,.any,.any,.any,.any,.any,.any,.any,.any,.any,.any,.any,.any]) (by simp [wk,subAny,subA,mkSub,idx])) (le_eqwk (by show HT g _ ((tabO m i).set i [(i : Int)]) = _; rw [tabO_set (m := m) (by omega) hi.1]; rfl) (by simp [wk]))) (by omega) (by omega)
  ·obtain rfl : i = g.terms + 1 := by omega
   have hc : (((g.terms + 1 : Nat) : Int) ≤ (g.terms : Int)) = False := eq_false (by omega)
   simp -implicitDefEqProofs only [awp_draw _ _ Tryzdr31_24,awp_draw _ _ Tryzdr31_27,hc,
  evx,evy,ofValue,ofCell,List.range,List.range.loop,Array.size,Nat.reduceAdd,Nat.reduceSub,Nat.reduceEqDiff,List.replicate,if_true,if_false,↓reduceIte,reduceCtorEq,elB,evParts,Int.reduceToNat,Int.reduceLE,Int.reduceLT,Int.reduceEq,Nat.reduceMul,Nat.reduceLeDiff,Nat.reduceLT,ty3,ty4,ty9,ty28,ty85,ty73,ty22,ty23,ty24,ty25,ty27,ty63,ty31]
   refine loop_rule (fun x : Bool × List Bool × List (List Int) => ⟨[.any,.ptr 0 0 0 0,.any,.any,.any,.ref 1 1 0 m,.ref 2 1 0 m,.any,.fv (.bool x.1),.any,.any,.any,.any,.any,.any,.any,.any,.any,.any,.any,.any,.any,.any,.any,.any,.any,.any,.any,.any,.any,.any,.any,.any,.any,.any,.any,.any,.any,.any,.any,.any,.any,.any,.any,.any,.any,.any,.any,.any,.any,.any,.any,.any,.any,.any,.any,.any,.any,.any,.any,.any,.any,.any,.any,.any,.any,.any,.any,.any,.any,.any,.any,.any,.any,.any,.any,.any,.any,.any,.any,.any,.any,.any,.any,.any,.any,.any,.any,.any,.any,.any,.any,.any,.any,.any,.any,.any,.any,.any,.any,.any,.any,.any,.any,.any,.any,.any,.any,.any,.any,.any,.any,.any,.any,.any,.any,.any,.any,.any,.any,.any,.any,.any,.any,.any,.any,.any,.any,.any,.any,.any,.any],HT g x.2.1 x.2.2,[]⟩)
    (fun x => ShI g x.2.1 x.2.2 ∧ TermT g x.2.1 x.2.2 ∧ (x.1 = false → ShC g x.2.1 x.2.2)) (fun x => if x.1 then 1 + muS g x.2.1 x.2.2 else 0) (true,tabK m (g.terms + 1),tabO m (g.terms + 1))
    (le_wk (by simp [wk])) ⟨by rw [hm]; exact ShI.ini g,by rw [hm]; exact TermT.ini g,fun e => by cases e⟩ (fun x hx s2 hs2 => ?_)
   obtain ⟨grew,K0,B0⟩ := x
   obtain ⟨hI0,hT0,hC0⟩ := hx
   simp only at hI0 hT0 hC0 hs2 ⊢
   cases grew with
   | false =>
    have hC := hC0 rfl
    obtain ⟨hl1,hl2⟩ := tables_least hgf hst.1 hI0 hC
    have hsd : g.sound = true := by
     have hu2 := hu
     simp only [Gra.usB,Bool.and_eq_true] at hu2
     exact hu2.2
    have hkn := bRows_get K0 g.start.toNat (by rw [hI0.lenK]; omega)
    have hbn := rowsOf_getD (B := B0) (k := g.start.toNat) (by rw [hI0.lenB]; omega)
    have hc0 : (0 ≤ g.start) = True := eq_true (by omega)
    have hcm : (g.start < (m : Int)) = True := eq_true (by omega)
    cases hk : K0.getD g.start.toNat false with
    | true =>
     rw [short_some hu (hl1 hk)]
     rw [hk] at hkn
     simp -implicitDefEqProofs only [awp_draw _ _ Tryzdr31_24,awp_draw _ _ Tryzdr31_27,HT,Gra.cells,hc0,hcm,hkn,hbn,
  evx,evy,ofValue,ofCell,List.range,List.range.loop,Array.size,Nat.reduceAdd,Nat.reduceSub,Nat.reduceEqDiff,List.replicate,if_true,if_false,↓reduceIte,reduceCtorEq,elB,evParts,Int.reduceToNat,Int.reduceLE,Int.reduceLT,Int.reduceEq,Nat.reduceMul,Nat.reduceLeDiff,Nat.reduceLT,ty3,ty4,ty9,ty28,ty85,ty73,ty22,ty23,ty24,ty25,ty27,ty63,ty31]
     exact le_to [] [] rfl (by simp) (by simp) (by simp) (by simp) rfl
    | false =>
     rw [short_none hu (hl2 hk)]
     rw [hk] at hkn
     have hen := ok56 g hg hsd
     have hcn := ok55 (g.those (Ended g)) g.start (by
      have : (g.those (Ended g)).length ≤ g.nonts.length := g.those_length _
      omega)
     generalize g.those (Ended g) = EL at hen hcn ⊢
     simp -implicitDefEqProofs only [awp_draw _ _ Tryzdr31_24,awp_draw _ _ Tryzdr31_27,HT,Gra.cells,hc0,hcm,hkn,
  evx,evy,ofValue,ofCell,List.range,List.range.loop,Array.size,Nat.reduceAdd,Nat.reduceSub,Nat.reduceEqDiff,List.replicate,if_true,if_false,↓reduceIte,reduceCtorEq,elB,evParts,Int.reduceToNat,Int.reduceLE,Int.reduceLT,Int.reduceEq,Nat.reduceMul,Nat.reduceLeDiff,Nat.reduceLT,ty3,ty4,ty9,ty28,ty85,ty73,ty22,ty23,ty24,ty25,ty27,ty63,ty31]
     refine callK_ret _ _ _ _ (call_pure (hen) (fun _ => rfl) (fun _ => rfl)) (ok_nil _ _) ?_
     simp -implicitDefEqProofs only [awp_draw _ _ Tryzdr31_24,awp_draw _ _ Tryzdr31_27,
  evx,evy,ofValue,ofCell,List.range,List.range.loop,Array.size,Nat.reduceAdd,Nat.reduceSub,Nat.reduceEqDiff,List.replicate,if_true,if_false,↓reduceIte,reduceCtorEq,elB,evParts,Int.reduceToNat,Int.reduceLE,Int.reduceLT,Int.reduceEq,Nat.reduceMul,Nat.reduceLeDiff,Nat.reduceLT,ty3,ty4,ty9,ty28,ty85,ty73,ty22,ty23,ty24,ty25,ty27,ty63,ty31]
     refine callK_ret _ _ _ _ (call_pure (hcn) (fun _ => rfl) (fun _ => rfl)) (ok_nil _ _) ?_
     by_cases hmem : g.start ∈ EL
     ·rw [decide_eq_true hmem,if_pos hmem]
      simp -implicitDefEqProofs only [awp_draw _ _ Tryzdr31_24,awp_draw _ _ Tryzdr31_27,
  evx,evy,ofValue,ofCell,List.range,List.range.loop,Array.size,Nat.reduceAdd,Nat.reduceSub,Nat.reduceEqDiff,List.replicate,if_true,if_false,↓reduceIte,reduceCtorEq,elB,evParts,Int.reduceToNat,Int.reduceLE,Int.reduceLT,Int.reduceEq,Nat.reduceMul,Nat.reduceLeDiff,Nat.reduceLT,ty3,ty4,ty9,ty28,ty85,ty73,ty22,ty23,ty24,ty25,ty27,ty63,ty31]
      exact Le.trans (le_tn 1 _ _) (le_to [] [] rfl (by simp) (by simp) (by simp) (by simp) rfl)
     ·rw [decide_eq_false hmem,if_neg hmem]
      simp -implicitDefEqProofs only [awp_draw _ _ Tryzdr31_24,awp_draw _ _ Tryzdr31_27,Gra.cells,hc0,hcm,hkn,
  evx,evy,ofValue,ofCell,List.range,List.range.loop,Array.size,Nat.reduceAdd,Nat.reduceSub,Nat.reduceEqDiff,List.replicate,if_true,if_false,↓reduceIte,reduceCtorEq,elB,evParts,Int.reduceToNat,Int.reduceLE,Int.reduceLT,Int.reduceEq,Nat.reduceMul,Nat.reduceLeDiff,Nat.reduceLT,ty3,ty4,ty9,ty28,ty85,ty73,ty22,ty23,ty24,ty25,ty27,ty63,ty31]
      exact Le.trans (le_tn 1 _ _) (le_to [] [] rfl (by simp) (by simp) (by simp) (by simp) rfl)
   | true =>
    simp -implicitDefEqProofs only [awp_draw _ _ Tryzdr31_24,awp_draw _ _ Tryzdr31_27,HT,Gra.cells,List.length_map,
  evx,evy,ofValue,ofCell,List.range,List.range.loop,Array.size,Nat.reduceAdd,Nat.reduceSub,Nat.reduceEqDiff,List.replicate,if_true,if_false,↓reduceIte,reduceCtorEq,elB,evParts,Int.reduceToNat,Int.reduceLE,Int.reduceLT,Int.reduceEq,Nat.reduceMul,Nat.reduceLeDiff,Nat.reduceLT,ty3,ty4,ty9,ty28,ty85,ty73,ty22,ty23,ty24,ty25,ty27,ty63,ty31]
    refine loop_rule (fun x : Nat × Bool × List Bool × List (List Int) => ⟨[.any,.ptr 0 0 0 0,.any,.any,.any,.ref 1 1 0 m,.ref 2 1 0 m,.any,.fv (.bool x.2.1),.any,.any,.any,.any,.any,.any,.any,.any,.any,.any,.any,.any,.any,.any,.any,.any,.any,.any,.any,.any,.any,.any,.any,.any,.any,.any,.any,.any,.any,.any,.any,.any,.any,.any,.any,.any,.fv (.lst 3 (g.prods.map Prd.row)),.fv (.int .i64 g.prods.length),.fv (.int .i64 x.1),.any,.any,.any,.any,.any,.any,.any,.any,.any,.any,.any,.any,.any,.any,.any,.any,.any,.any,.any,.any,.any,.any,.any,.any,.any,.any,.any,.any,.any,.any,.any,.any,.any,.any,.any,.any,.any,.any,.any,.any,.any,.any,.any,.any,.any,.any,.any,.any,.any,.any,.any,.any,.any,.any,.any,.any,.any,.any,.any,.any,.any,.any,.any,.any,.any,.any,.any,.any,.any,.any,.any,.any,.any,.any,.any,.any,.any,.any,.any,.any,.any,.any,.any,.any],HT g x.2.2.1 x.2.2.2,[]⟩)
     (fun x => x.1 ≤ g.prods.length ∧ RndI g K0 B0 (g.prods.take x.1) x.2.2.1 x.2.2.2 x.2.1 ∧ TermT g x.2.2.1 x.2.2.2) (fun x => g.prods.length - x.1) (0,false,K0,B0) (le_wk (by simp [wk,Gra.cells])) ⟨Nat.zero_le _,RndI.start hI0,hT0⟩ (fun x hx s3 hs3 => ?_)
    obtain ⟨q,b,K,B⟩ := x
    obtain ⟨hq,hR,hT⟩ := hx
    simp only at hq hR hT hs3 ⊢
    by_cases hql : q < g.prods.length
    ·have hrw := rows_at Prd.row g.prods q hql
     have hpm := List.getElem_mem hql
     have hptk : ∀ r ∈ g.prods.take (q + 1),r = g.prods[q] ∨ r ∈ g.prods.take q := fun r hr => by
      rw [List.take_succ_eq_append_getElem hql] at hr
      rcases List.mem_append.1 hr with h | h
      ·exact .inr h
      ·exact .inl (by simpa using h)
     generalize g.prods[q] = p at hrw hpm hptk
     have hpl := hgf.left p hpm
     have hpr := hgf.right p hpm
     have hp8 := (hps p hpm).2.1
     have hpa := (hps p hpm).2.2
     have hir : p.right.map iRow = ints p.right := rfl
     have hprl := ints_length p.right
     have hlK := hR.inv.lenK
     have hlB := hR.inv.lenB
     simp -implicitDefEqProofs only [awp_draw _ _ Tryzdr31_24,awp_draw _ _ Tryzdr31_27,HT,lt_true hql,hrw,Prd.row,hir,hprl,stB_boxA,splice_all,List.all_cons,List.all_nil,Bool.and_self,
  evx,evy,ofValue,ofCell,List.range,List.range.loop,Array.size,Nat.reduceAdd,Nat.reduceSub,Nat.reduceEqDiff,List.replicate,if_true,if_false,↓reduceIte,reduceCtorEq,elB,evParts,Int.reduceToNat,Int.reduceLE,Int.reduceLT,Int.reduceEq,Nat.reduceMul,Nat.reduceLeDiff,Nat.reduceLT,ty3,ty4,ty9,ty28,ty85,ty73,ty22,ty23,ty24,ty25,ty27,ty63,ty31]
     refine loop_rule (fun j : Nat => ⟨[.any,.ptr 0 0 0 0,.any,.any,.any,.ref 1 1 0 m,.ref 2 1 0 m,.any,.fv (.bool b),.any,.ptr 3 0 0 0,.ref 4 1 0 (wordS g.terms B (p.right.take j)).length,.fv (.bool (allS g.terms K (p.right.take j))),.any,.any,.any,.any,.any,.any,.any,.any,.any,.any,.any,.any,.any,.any,.any,.any,.any,.any,.any,.any,.any,.any,.any,.any,.any,.any,.any,.any,.any,.any,.any,.any,.fv (.lst 3 (g.prods.map Prd.row)),.fv (.int .i64 g.prods.length),.fv (.int .i64 q),.any,.any,.any,.any,.any,.fv (.lst 1 (ints p.right)),.fv (.int .i64 p.right.length),.fv (.int .i64 (j : Int)),.any,.any,.any,.any,.any,.any,.any,.any,.any,.any,.any,.any,.any,.any,.any,.any,.any,.any,.any,.any,.any,.any,.any,.any,.any,.any,.any,.any,.any,.any,.any,.any,.any,.any,.any,.any,.any,.any,.any,.any,.any,.any,.any,.any,.any,.any,.any,.any,.any,.any,.any,.any,.any,.any,.any,.any,.any,.any,.any,.any,.any,.any,.any,.any,.any,.any,.any,.any,.any,.any,.any,.any,.any,.any,.any,.any],HT g K B ++ [.box [.fv (.int .i64 p.left),.fv (.lst 1 (ints p.right)),.fv (.int .i64 p.prec)],.plain 1 (ints (wordS g.terms B (p.right.take j)))],[]⟩)
      (fun j => j ≤ p.right.length ∧ (wordS g.terms B (p.right.take j)).length ≤ j * 400) (fun j => p.right.length - j) 0 (le_eqwk rfl (by simp [wk,wordS,allS])) ⟨Nat.zero_le _,by simp [wordS]⟩ (fun j hj s4 hs4 => ?_)
     obtain ⟨hj,hjl⟩ := hj
     by_cases hlt : j < p.right.length
     ·have hrj := ints_get p.right j hlt
      have hmn := List.getElem_mem hlt
      have hwt := wordS_take (T := g.terms) (B := B) hlt
      have hat := allS_take (T := g.terms) (K := K) hlt
      generalize p.right[j] = n at hrj hmn hwt hat
      have hn1 := hpr n hmn
      have hna := (hpa n hmn).2
      rw [hT.b hn1] at hwt
      rw [hT.k hn1] at hat
      have hkn := bRows_get K n.toNat (by omega)
      have hbn := rowsOf_getD (B := B) (k := n.toNat) (by omega)
      have hc0 : (0 ≤ n) = True := eq_true (by omega)
      have hcm : (n < (m : Int)) = True := eq_true (by omega)
      have hbl := hT.len n.toNat
      have hbil := ints_length (B.getD n.toNat [])
      generalize B.getD n.toNat [] = bn at hwt hbn hbl hbil
      generalize K.getD n.toNat false = kn at hat hkn
      generalize wordS g.terms B (p.right.take j) = wd at hwt hjl ⊢
      have hwil := ints_length wd
      have hwl : wd.length ≤ 3200 := by omega
      generalize allS g.terms K (p.right.take j) = al at hat ⊢
      have hbe : List.take wd.length (ints wd) ++ ints bn = ints (wd ++ bn) := by
       have : List.take wd.length (ints wd) = ints wd := by rw [← hwil,List.take_length]
       rw [this,ints_append]
      cases al with
      | false =>
       rw [Bool.false_and] at hat
       simp -implicitDefEqProofs only [awp_draw _ _ Tryzdr31_24,awp_draw _ _ Tryzdr31_27,HT,lt_true hlt,hrj,hc0,hcm,hkn,hbn,hwil,hbil,wsucc j (by omega),
  evx,evy,ofValue,ofCell,List.range,List.range.loop,Array.size,Nat.reduceAdd,Nat.reduceSub,Nat.reduceEqDiff,List.replicate,if_true,if_false,↓reduceIte,reduceCtorEq,elB,evParts,Int.reduceToNat,Int.reduceLE,Int.reduceLT,Int.reduceEq,Nat.reduceMul,Nat.reduceLeDiff,Nat.reduceLT,ty3,ty4,ty9,ty28,ty85,ty73,ty22,ty23,ty24,ty25,ty27,ty63,ty31]
       refine ⟨⟨by omega,by omega⟩,back_intro hs4 (j + 1) (le_pk [0,1,2,3,5] rfl (by simp) (by simp) ?_ ?_) ⟨by omega,by rw [hwt,List.length_append]; omega⟩ (by omega)⟩
       ·simp [HT,subBlk,subAny,subA,mkSub,idx,Gra.cells,hwt,hbe]
       ·simp [wk,subAny,subA,mkSub,idx,hwt,hat]
      | true =>
       rw [Bool.true_and] at hat
       simp -implicitDefEqProofs only [awp_draw _ _ Tryzdr31_24,awp_draw _ _ Tryzdr31_27,HT,lt_true hlt,hrj,hc0,hcm,hkn,hbn,hwil,hbil,wsucc j (by omega),
  evx,evy,ofValue,ofCell,List.range,List.range.loop,Array.size,Nat.reduceAdd,Nat.reduceSub,Nat.reduceEqDiff,List.replicate,if_true,if_false,↓reduceIte,reduceCtorEq,elB,evParts,Int.reduceToNat,Int.reduceLE,Int.reduceLT,Int.reduceEq,Nat.reduceMul,Nat.reduceLeDiff,Nat.reduceLT,ty3,ty4,ty9,ty28,ty85,ty73,ty22,ty23,ty24,ty25,ty27,ty63,ty31]
       refine ⟨⟨by omega,by omega⟩,back_intro hs4 (j + 1) (le_pk [0,1,2,3,5] rfl (by simp) (by simp) ?_ ?_) ⟨by omega,by rw [hwt,List.length_append]; omega⟩ (by omega)⟩
       ·simp [HT,subBlk,subAny,subA,mkSub,idx,Gra.cells,hwt,hbe]
       ·simp [wk,subAny,subA,mkSub,idx,hwt,hat]
     ·obtain rfl : j = p.right.length := by omega
      rw [List.take_length] at hjl ⊢
      have hwil := ints_length (wordS g.terms B p.right)
      have hpt : IntKind.wrap .i64 ((q : Int) + 1) = ((q + 1 : Nat) : Int) := wsucc q (by omega)
      have hlw : (wordS g.terms B p.right).length ≤ 3200 := by omega
      cases hal : allS g.terms K p.right with
      | false =>
       have hns : ¬ stepC g K B p := fun h => by have := h.1; rw [hal] at this; cases this
       simp -implicitDefEqProofs only [awp_draw _ _ Tryzdr31_24,awp_draw _ _ Tryzdr31_27,HT,lt_false hlt,hpt,
  evx,evy,ofValue,ofCell,List.range,List.range.loop,Array.size,Nat.reduceAdd,Nat.reduceSub,Nat.reduceEqDiff,List.replicate,if_true,if_false,↓reduceIte,reduceCtorEq,elB,evParts,Int.reduceToNat,Int.reduceLE,Int.reduceLT,Int.reduceEq,Nat.reduceMul,Nat.reduceLeDiff,Nat.reduceLT,ty3,ty4,ty9,ty28,ty85,ty73,ty22,ty23,ty24,ty25,ty27,ty63,ty31]
       exact back_intro hs3 (q + 1,b,K,B) (le_pk [0,1,2] rfl (by simp) (by simp) (by simp [HT,subBlk,subAny,subA,mkSub,idx,Gra.cells]) (by simp [wk,subAny,subA,mkSub,idx])) ⟨by simp only; omega,hR.no hns hptk,hT⟩ (by simp only; omega)
      | true =>
       by_cases h400 : (wordS g.terms B p.right).length ≤ 400
       ·have h400t : (((wordS g.terms B p.right).length : Int) ≤ 400) = True := eq_true (by omega)
        have hlt2 : p.left.toNat < m := by omega
        have hkn := bRows_get K p.left.toNat (by omega)
        have hbn := rowsOf_getD (B := B) (k := p.left.toNat) (by omega)
        have hc0 : (0 ≤ p.left) = True := eq_true (by omega)
        have hcm : (p.left < (m : Int)) = True := eq_true (by omega)
        have hbl := hT.len p.left.toNat
        have hyw := (hR.inv.yld hpr hal).ok hgf.right hpr
        have hk1 : p.left.toNat * 1 + 0 < (thaw (rowsOf B)).length := by rw [thaw_rows,List.length_map]; omega
        have hyes := fun h => hR.yes (qs := g.prods.take (q + 1)) hgf hpm (⟨hal,h400,h⟩ : stepC g K B p)
        have hTy := hT.step hR.inv hgf hpm h400
        have hsn := fun h => hR.inv.snd p.left.toNat (by omega) h
        have hno := fun h : ¬ stepC g K B p => hR.no h hptk
        have hnc : K.getD p.left.toNat false = true → ¬ valW g.terms (wordS g.terms B p.right) < valW g.terms (B.getD p.left.toNat []) → ¬ stepC g K B p := fun h1 h2 h => by
         rcases h.2.2 with h3 | h3
         ·rw [h1] at h3; cases h3
         ·exact h2 h3
        have hbe := ok54 (wordS g.terms B p.right) (B.getD p.left.toNat []) (by omega) (by omega)
        have hb2 : ((if True then p.left.toNat else 0) : Nat) = p.left.toNat := if_pos trivial
        cases hkl : K.getD p.left.toNat false with
        | false =>
         have hR2 := hyes (.inl hkl)
         rw [hkl] at hkn
         generalize wordS g.terms B p.right = wd at hwil hlw h400 h400t hyw hTy hR2 ⊢
         simp -implicitDefEqProofs only [awp_draw _ _ Tryzdr31_24,awp_draw _ _ Tryzdr31_27,HT,lt_false hlt,hpt,h400t,hc0,hcm,hkn,hbn,stB_ref1 (hk := hk1),bRows_set2,Nat.add_zero,Nat.mul_one,
  evx,evy,ofValue,ofCell,List.range,List.range.loop,Array.size,Nat.reduceAdd,Nat.reduceSub,Nat.reduceEqDiff,List.replicate,if_true,if_false,↓reduceIte,reduceCtorEq,elB,evParts,Int.reduceToNat,Int.reduceLE,Int.reduceLT,Int.reduceEq,Nat.reduceMul,Nat.reduceLeDiff,Nat.reduceLT,ty3,ty4,ty9,ty28,ty85,ty73,ty22,ty23,ty24,ty25,ty27,ty63,ty31]
         refine ⟨by kernel_rfl,by kernel_rfl,back_intro hs3 (q + 1,true,K.set p.left.toNat true,B.set p.left.toNat wd) (le_kept2 (by simp [wk,subAny,subA,mkSub,idx])) ⟨by simp only; omega,hR2,hTy⟩ (by simp only; omega)⟩
        | true =>
         have hoB := ((hsn hkl).1).ok hgf.right (by simp; omega)
         have hbv := better_val hyw hoB
         have hnc2 := hnc hkl
         have hyes2 := fun h => hyes (.inr h)
         rw [hkl] at hkn
         rw [hbv] at hbe
         have hbil := ints_length (B.getD p.left.toNat [])
         generalize B.getD p.left.toNat [] = bl0 at hbn hbe hnc2 hyes2 hbil
         generalize wordS g.terms B p.right = wd at hwil hlw h400 h400t hyw hTy hyes2 hbe hnc2 ⊢
         simp -implicitDefEqProofs only [awp_draw _ _ Tryzdr31_24,awp_draw _ _ Tryzdr31_27,HT,lt_false hlt,hpt,h400t,hc0,hcm,hkn,hbn,
  evx,evy,ofValue,ofCell,List.range,List.range.loop,Array.size,Nat.reduceAdd,Nat.reduceSub,Nat.reduceEqDiff,List.replicate,if_true,if_false,↓reduceIte,reduceCtorEq,elB,evParts,Int.reduceToNat,Int.reduceLE,Int.reduceLT,Int.reduceEq,Nat.reduceMul,Nat.reduceLeDiff,Nat.reduceLT,ty3,ty4,ty9,ty28,ty85,ty73,ty22,ty23,ty24,ty25,ty27,ty63,ty31]
         refine callK_ret _ _ _ _ (call_look [4] hbe (by simp [subAny,subA,mkSub,idx,← hwil]) (fun i hi => by simp at hi; subst hi; exact ⟨_,_,rfl⟩) rfl) (by first | exact ok_none _ _ | exact ok_nil _ _) ?_
         by_cases hv : valW g.terms wd < valW g.terms bl0
         ·have hR2 := hyes2 hv
          rw [decide_eq_true hv]
          simp -implicitDefEqProofs only [awp_draw _ _ Tryzdr31_24,awp_draw _ _ Tryzdr31_27,hpt,hc0,hcm,hkn,stB_ref1 (hk := hk1),bRows_set2,Nat.add_zero,Nat.mul_one,
  evx,evy,ofValue,ofCell,List.range,List.range.loop,Array.size,Nat.reduceAdd,Nat.reduceSub,Nat.reduceEqDiff,List.replicate,if_true,if_false,↓reduceIte,reduceCtorEq,elB,evParts,Int.reduceToNat,Int.reduceLE,Int.reduceLT,Int.reduceEq,Nat.reduceMul,Nat.reduceLeDiff,Nat.reduceLT,ty3,ty4,ty9,ty28,ty85,ty73,ty22,ty23,ty24,ty25,ty27,ty63,ty31]
          refine ⟨by kernel_rfl,by kernel_rfl,back_intro hs3 (q + 1,true,K.set p.left.toNat true,B.set p.left.toNat wd) (le_kept2 (by simp [wk,subAny,subA,mkSub,idx])) ⟨by simp only; omega,hR2,hTy⟩ (by simp only; omega)⟩
         ·rw [decide_eq_false hv]
          simp -implicitDefEqProofs only [awp_draw _ _ Tryzdr31_24,awp_draw _ _ Tryzdr31_27,hpt,
  evx,evy,ofValue,ofCell,List.range,List.range.loop,Array.size,Nat.reduceAdd,Nat.reduceSub,Nat.reduceEqDiff,List.replicate,if_true,if_false,↓reduceIte,reduceCtorEq,elB,evParts,Int.reduceToNat,Int.reduceLE,Int.reduceLT,Int.reduceEq,Nat.reduceMul,Nat.reduceLeDiff,Nat.reduceLT,ty3,ty4,ty9,ty28,ty85,ty73,ty22,ty23,ty24,ty25,ty27,ty63,ty31]
          exact back_intro hs3 (q + 1,b,K,B) (le_pk [0,1,2] rfl (by simp) (by simp) (by simp [HT,subBlk,subAny,subA,mkSub,idx,Gra.cells]) (by simp [wk,subAny,subA,mkSub,idx])) ⟨by simp only; omega,hno (hnc2 hv),hT⟩ (by simp only; omega)
       ·have h400t : (((wordS g.terms B p.right).length : Int) ≤ 400) = False := eq_false (by omega)
        have hns : ¬ stepC g K B p := fun h => h400 h.2.1
        simp -implicitDefEqProofs only [awp_draw _ _ Tryzdr31_24,awp_draw _ _ Tryzdr31_27,HT,lt_false hlt,hpt,h400t,
  evx,evy,ofValue,ofCell,List.range,List.range.loop,Array.size,Nat.reduceAdd,Nat.reduceSub,Nat.reduceEqDiff,List.replicate,if_true,if_false,↓reduceIte,reduceCtorEq,elB,evParts,Int.reduceToNat,Int.reduceLE,Int.reduceLT,Int.reduceEq,Nat.reduceMul,Nat.reduceLeDiff,Nat.reduceLT,ty3,ty4,ty9,ty28,ty85,ty73,ty22,ty23,ty24,ty25,ty27,ty63,ty31]
        exact back_intro hs3 (q + 1,b,K,B) (le_pk [0,1,2] rfl (by simp) (by simp) (by simp [HT,subBlk,subAny,subA,mkSub,idx,Gra.cells]) (by simp [wk,subAny,subA,mkSub,idx])) ⟨by simp only; omega,hR.no hns hptk,hT⟩ (by simp only; omega)
    ·obtain rfl : q = g.prods.length := by omega
     simp -implicitDefEqProofs only [awp_draw _ _ Tryzdr31_24,awp_draw _ _ Tryzdr31_27,lt_false hql,
  evx,evy,ofValue,ofCell,List.range,List.range.loop,Array.size,Nat.reduceAdd,Nat.reduceSub,Nat.reduceEqDiff,List.replicate,if_true,if_false,↓reduceIte,reduceCtorEq,elB,evParts,Int.reduceToNat,Int.reduceLE,Int.reduceLT,Int.reduceEq,Nat.reduceMul,Nat.reduceLeDiff,Nat.reduceLT,ty3,ty4,ty9,ty28,ty85,ty73,ty22,ty23,ty24,ty25,ty27,ty63,ty31]
     exact back_intro hs2 (b,K,B) (le_eqwk rfl (by simp [wk])) ⟨hR.inv,hT,fun e => by
      simp only at e
      subst e
      exact (hR.closed fun p hp => by rw [List.take_length]; exact hp).2.2⟩ (by
      cases b with
      | true => have := hR.on rfl; simp only [if_true]; omega
      | false => simp; omega)
end Go.Abs
