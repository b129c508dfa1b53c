/- The program's chart: over. -/
import Derived.Test.YtnhghoonlmoinaaGreatTyTryzi
import Derived.Test.YtnhghoonlmoinaaGreatDrTryzi
import Derived.Test.YtnhghoonlmoinaaGreatAbsZ
import Derived.Test.YtnhghoonlmoinaaGreatAbsW
import Derived.Test.YtnhghoonlmoinaaGreatCkKi
import Derived.Test.YtnhghoonlmoinaaGreatZopHi
import Derived.Test.YtnhghoonlmoinaaGreatDvAB
import Derived.Test.YtnhghoonlmoinaaGreatAbsCut
namespace Go.Abs
set_option linter.unusedSectionVars false
variable [Kn]
open Go.Proofs
set_option linter.unusedVariables false
set_option linter.unusedSimpArgs false
set_option maxRecDepth 100000
set_option maxHeartbeats 8000000
/-- 41 cells of yes or no. -/
def blF (f : Nat → Bool) : List FV := (List.range 41).map fun i => .bool (f i)
def bl (f : Nat → Bool) : List AV := (blF f).map .fv
theorem blF_len (f : Nat → Bool) : (blF f).length = 41 := by simp [blF]
theorem bl_len (f : Nat → Bool) : (bl f).length = 41 := by simp [bl,blF_len]
theorem bl_get (f : Nat → Bool) (i : Nat) (h : i < 41) : (bl f)[i]? = some (.fv (.bool (f i))) := by
 simp [bl,blF,h]
theorem bl_congr {f h : Nat → Bool} (e : ∀ j,j < 41 → f j = h j) : bl f = bl h := by
 unfold bl blF
 congr 1
 exact List.map_congr_left fun j hj => by rw [e j (List.mem_range.1 hj)]
theorem bl_set (f : Nat → Bool) (i : Nat) (h : i < 41) (b : Bool) : splice (bl f) i [.fv (.bool b)] = some (bl fun j => if j = i then b else f j) := by
 unfold splice
 rw [if_pos (by rw [bl_len]; simp; omega)]
 congr 1
 apply List.ext_getElem?
 intro j
 rcases Nat.lt_or_ge j 41 with hj | hj
 ·rw [bl_get _ j hj]
  rcases Nat.lt_trichotomy j i with c | c | c
  ·rw [List.append_assoc,List.getElem?_append_left (by rw [List.length_take,bl_len]; omega),List.getElem?_take,if_pos c,bl_get _ j hj,if_neg (by omega)]
  ·subst c
   rw [List.append_assoc,List.getElem?_append_right (by rw [List.length_take,bl_len]; omega),List.length_take,bl_len,Nat.min_eq_left (by omega),Nat.sub_self]
   simp
  ·rw [List.getElem?_append_right (by rw [List.length_append,List.length_take,bl_len]; simp; omega),List.length_append,List.length_take,bl_len,Nat.min_eq_left (by omega),List.getElem?_drop]
   simp only [List.length_cons,List.length_nil]
   rw [show i + (0 + 1) + (j - (i + (0 + 1))) = j from by omega,bl_get _ j hj,if_neg (by omega)]
 ·rw [List.getElem?_eq_none (by simp only [List.length_append,List.length_take,List.length_drop,bl_len,List.length_cons,List.length_nil]; omega),List.getElem?_eq_none (by rw [bl_len]; omega)]
theorem bl_ok (f : Nat → Bool) : (bl f).all okCell = true := by
 simp [bl,blF,okCell]
theorem bl_take (f : Nat → Bool) : List.take 41 (bl f) = bl f := List.take_of_length_le (by rw [bl_len]; omega)
def zrow : List FV := blF fun _ => false
theorem tySpan : tiOf Tryz.prog 72 = some ⟨.array 41 4,41,41,some zrow⟩ := by kernel_rfl
theorem zrow_bl : zrow.map AV.fv = bl fun _ => false := rfl
theorem flat_bl (f : Nat → Bool) : flatA (.agg (bl f)) = true := by
 simp [flatA,bl,blF,flatF]
theorem bl_sub (σ : Nat → Option Sb) (f : Nat → Bool) : (bl f).map (subAny σ) = bl f := by
 unfold bl
 rw [List.map_map]
 rfl
theorem box_bl (h : List Blk) (f : Nat → Bool) : boxK h (some (.agg (bl f))) = some (.ptr h.length 0 0 0,h ++ [.box (bl f)],[]) := by
 rfl
/-- Of each symbol, by the place where it begins, where it may end. -/
def rowsE (n1 : Nat) (R : Nat → Nat → Bool) : List (List FV) := (List.range n1).map fun i => blF (R i)
theorem rowsE_get {n1 : Nat} {R : Nat → Nat → Bool} {i : Nat} (h : i < n1) : (rowsE n1 R)[i]? = some (blF (R i)) := by simp [rowsE,h]
theorem rowsE_len (n1 : Nat) (R : Nat → Nat → Bool) : (rowsE n1 R).length = n1 := by simp [rowsE]
def endsF (m n1 : Nat) (E : Nat → Nat → Nat → Bool) : List (List FV) := (List.range m).map fun n => [.lst 41 (rowsE n1 (E n))]
def chartF (g : Gra) (w : List Int) (m : Nat) (E : Nat → Nat → Nat → Bool) : List FV := [.lst 3 (g.rules.map Rul.row),.lst 1 (g.nonts.map sRow),.lst 2 (g.levels.map Lev.row),.lst 3 (g.prods.map Prd.row),.int .i64 g.start,.int .i64 g.terms,.lst 1 (ints w),.lst 1 (endsF m (w.length + 1) E)]
theorem endsF_get {m n1 : Nat} {E : Nat → Nat → Nat → Bool} {n : Nat} (h : n < m) : (endsF m n1 E)[n]? = some [.lst 41 (rowsE n1 (E n))] := by
 simp [endsF,h]
/-- What comes of the first places. -/
def stepTo (T : Nat) (w : List Int) (E : Nat → Nat → Nat → Bool) (n : Int) (f : Nat → Bool) (i k : Nat) : Bool :=
 (List.range i).any fun i => f i && (if n ≤ (T : Int) then decide (k = i + 1 ∧ w[i]? = some n) else E n.toNat i k)
theorem stepTo_succ (T : Nat) (w : List Int) (E : Nat → Nat → Nat → Bool) (n : Int) (f : Nat → Bool) (i k : Nat) :
  stepTo T w E n f (i + 1) k = (stepTo T w E n f i k || (f i && (if n ≤ (T : Int) then decide (k = i + 1 ∧ w[i]? = some n) else E n.toNat i k))) := by
 simp [stepTo,List.range_succ]
theorem stepTo_all (T : Nat) (w : List Int) (E : Nat → Nat → Nat → Bool) (n : Int) (f : Nat → Bool) : stepTo T w E n f (w.length + 1) = stepE T w E n f := rfl
theorem textE_snoc (T : Nat) (w : List Int) (E : Nat → Nat → Nat → Bool) (ts : List Int) (n : Int) (f : Nat → Bool) : textE T w E (ts ++ [n]) f = stepE T w E n (textE T w E ts f) := by
 simp [textE]
def mixB (S R : Nat → Bool) (k j : Nat) : Bool := S j || (decide (j < k) && R j)
theorem mix_at (S R : Nat → Bool) (k : Nat) : mixB S R k k = S k := by simp [mixB]
theorem mix_zero (S R : Nat → Bool) : mixB S R 0 = S := by funext j; simp [mixB]
theorem mix_succ (S R : Nat → Bool) (k : Nat) : bl (mixB S R (k + 1)) = bl (fun j => if j = k then (S k || R k) else mixB S R k j) := bl_congr fun j _ => by
 unfold mixB
 by_cases c : j = k
 ·subst c; simp
 ·have : decide (j < k + 1) = decide (j < k) := by rw [decide_eq_decide]; omega
  rw [if_neg c,this]
theorem mix_all (S R : Nat → Bool) : bl (mixB S R 41) = bl (fun j => S j || R j) := bl_congr fun j hj => by simp [mixB,hj]
theorem nckF (row : List FV) : nckA (.fptr row) = some (.fptr row) := nck_solid rfl
theorem ok71 (g : Gra) (w : List Int) (m : Nat) (E : Nat → Nat → Nat → Bool) (text : List Int) (f0 : Nat → Bool) (hw : w.length ≤ 40) (htl : text.length ≤ 1000) (ht : ∀ n ∈ text,n ≤ (g.terms : Int) ∨ ((g.terms : Int) < n ∧ n < (m : Int))) :
  Ok Tryz.prog 71 [.fptr (chartF g w m E),.fv (.lst 1 (ints text)),.agg (bl f0)] [] (.ret (.agg (bl (textE g.terms w E text f0)))) [] := by
 refine ok_start (k := 83) (n0 := 0) (rs := [.cell 6 72]) mix Tryz.func71 rfl rfl rfl rfl rfl rfl rfl ?_
 simp -implicitDefEqProofs only [box_bl,tySpan,zrow_bl,ints_length,
  evx,evy,ofValue,ofCell,List.range,List.range.loop,Array.size,Nat.reduceAdd,Nat.reduceSub,Nat.reduceEqDiff,List.replicate,if_true,if_false,↓reduceIte,reduceCtorEq,elB,evParts,Int.reduceToNat,Int.reduceLE,Int.reduceLT,Int.reduceEq,Nat.reduceMul,Nat.reduceLeDiff,Nat.reduceLT,ty3,ty4,ty28,ty69,ty67,ty70]
 refine loop_rule (fun q : Nat => ⟨[.fptr (chartF g w m E),.any,.any,.any,.any,.ptr 0 0 0 0,.ptr 1 0 0 0,.any,.any,.any,.any,.any,.any,.fv (.lst 1 (ints text)),.fv (.int .i64 text.length),.fv (.int .i64 q),.any,.any,.any,.any,.any,.any,.any,.any,.any,.any,.any,.any,.any,.any,.any,.any,.any,.any,.any,.any,.any,.any,.any,.any,.any,.any,.any,.any,.any,.any,.any,.any,.any,.any,.any,.any,.any,.any,.any,.any,.any,.any,.any,.any,.any,.any,.any,.any,.any,.any,.any,.any,.any,.any,.any,.any,.any,.any,.any,.any,.any,.any,.any,.any,.any,.any,.any,.any,.any,.any],[.box (bl (textE g.terms w E (text.take q) f0)),.box (bl fun _ => false)],[]⟩)
  (fun q => q ≤ text.length) (fun q => text.length - q) 0 (le_wk (by simp [wk])) (by simp) (fun q hq s hs => ?_)
 by_cases hlt : q < text.length
 ·have hr := ints_get text q hlt
  have htk := List.take_succ_eq_append_getElem hlt
  have hn := ht _ (List.getElem_mem hlt)
  generalize text[q] = n at hr htk hn
  generalize hF : textE g.terms w E (text.take q) f0 = F
  simp -implicitDefEqProofs only [lt_true hlt,hr,tySpan,zrow_bl,chartF,nckF,ints_length,wsucc w.length (by omega),
  evx,evy,ofValue,ofCell,List.range,List.range.loop,Array.size,Nat.reduceAdd,Nat.reduceSub,Nat.reduceEqDiff,List.replicate,if_true,if_false,↓reduceIte,reduceCtorEq,elB,evParts,Int.reduceToNat,Int.reduceLE,Int.reduceLT,Int.reduceEq,Nat.reduceMul,Nat.reduceLeDiff,Nat.reduceLT,ty3,ty4,ty28,ty69,ty67,ty70]
  refine loop_rule (fun i : Nat => ⟨[.fptr (chartF g w m E),.any,.any,.any,.any,.ptr 0 0 0 0,.ptr 1 0 0 0,.any,.fv (.int .i64 n),.ptr 2 0 0 0,.any,.any,.any,.fv (.lst 1 (ints text)),.fv (.int .i64 text.length),.fv (.int .i64 q),.any,.any,.any,.any,.any,.any,.any,.any,.fv (.int .i64 ((w.length + 1 : Nat) : Int)),.fv (.int .i64 i),.any,.any,.any,.any,.any,.any,.any,.any,.any,.any,.any,.any,.any,.any,.any,.any,.any,.any,.any,.any,.any,.any,.any,.any,.any,.any,.any,.any,.any,.any,.any,.any,.any,.any,.any,.any,.any,.any,.any,.any,.any,.any,.any,.any,.any,.any,.any,.any,.any,.any,.any,.any,.any,.any,.any,.any,.any,.any,.any,.any],[.box (bl F),.box (bl fun _ => false),.box (bl (stepTo g.terms w E n F i))],[]⟩)
   (fun i => i ≤ w.length + 1) (fun i => w.length + 1 - i) 0 (le_eqwk (by rw [show stepTo g.terms w E n F 0 = fun _ => false from rfl]) (by simp [wk,chartF])) (by simp) (fun i hi s2 hs2 => ?_)
  by_cases hil : i < w.length + 1
  ·have hi41 : i < 41 := by omega
   have hil2 : ((i : Int) < ((w.length + 1 : Nat) : Int)) = True := eq_true (by omega)
   have hi41t : ((i : Int) < ((41 : Nat) : Int)) = True := eq_true (by omega)
   have hst := stepTo_succ g.terms w E n F i
   cases hf : F i with
   | false =>
    have e : bl (stepTo g.terms w E n F (i + 1)) = bl (stepTo g.terms w E n F i) := bl_congr fun j _ => by rw [hst,hf]; simp
    simp -implicitDefEqProofs only [hil2,tySpan,hi41t,bl_get F i hi41,hf,wsucc i (by omega),
  evx,evy,ofValue,ofCell,List.range,List.range.loop,Array.size,Nat.reduceAdd,Nat.reduceSub,Nat.reduceEqDiff,List.replicate,if_true,if_false,↓reduceIte,reduceCtorEq,elB,evParts,Int.reduceToNat,Int.reduceLE,Int.reduceLT,Int.reduceEq,Nat.reduceMul,Nat.reduceLeDiff,Nat.reduceLT,ty3,ty4,ty28,ty69,ty67,ty70]
    exact back_intro hs2 (i + 1) (le_eqwk (by rw [e]) (by simp [wk,chartF])) (by omega) (by omega)
   | true =>
    rcases hn with hnT | ⟨hnT,hnm⟩
    ·have hnt : (n ≤ (g.terms : Int)) = True := eq_true hnT
     by_cases hil3 : i < w.length
     ·have hwr := ints_get w i hil3
      have hwi : w[i]? = some w[i] := List.getElem?_eq_getElem hil3
      have hlt3 : ((i : Int) < (w.length : Int)) = True := eq_true (by omega)
      generalize w[i] = c at hwr hwi
      by_cases hcn : c = n
      ·have hct : (c = n) = True := eq_true hcn
       have hi1 : i + 1 < 41 := by omega
       have hi1t : (((i + 1 : Nat) : Int) < ((41 : Nat) : Int)) = True := eq_true (by omega)
       have e : bl (stepTo g.terms w E n F (i + 1)) = bl (fun j => if j = i + 1 then true else stepTo g.terms w E n F i j) := bl_congr fun j _ => by
        rw [hst,hf,if_pos hnT,hwi]
        by_cases cj : j = i + 1
        ·simp [cj,hcn]
        ·simp [cj]
       simp -implicitDefEqProofs only [hil2,tySpan,hi41t,bl_get F i hi41,hf,chartF,nckF,hnt,ints_length,hlt3,hwr,hct,hi1t,wsucc i (by omega),bl_set _ (i + 1) hi1,
  evx,evy,ofValue,ofCell,List.range,List.range.loop,Array.size,Nat.reduceAdd,Nat.reduceSub,Nat.reduceEqDiff,List.replicate,if_true,if_false,↓reduceIte,reduceCtorEq,elB,evParts,Int.reduceToNat,Int.reduceLE,Int.reduceLT,Int.reduceEq,Nat.reduceMul,Nat.reduceLeDiff,Nat.reduceLT,ty3,ty4,ty28,ty69,ty67,ty70]
       refine back_intro hs2 (i + 1) (le_eqwk (by rw [e]) (by simp [wk,chartF])) (by omega) (by omega)
      ·have hct : (c = n) = False := eq_false hcn
       have e : bl (stepTo g.terms w E n F (i + 1)) = bl (stepTo g.terms w E n F i) := bl_congr fun j _ => by
        rw [hst,hf,if_pos hnT,hwi]
        simp [hcn]
       simp -implicitDefEqProofs only [hil2,tySpan,hi41t,bl_get F i hi41,hf,chartF,nckF,hnt,ints_length,hlt3,hwr,hct,wsucc i (by omega),
  evx,evy,ofValue,ofCell,List.range,List.range.loop,Array.size,Nat.reduceAdd,Nat.reduceSub,Nat.reduceEqDiff,List.replicate,if_true,if_false,↓reduceIte,reduceCtorEq,elB,evParts,Int.reduceToNat,Int.reduceLE,Int.reduceLT,Int.reduceEq,Nat.reduceMul,Nat.reduceLeDiff,Nat.reduceLT,ty3,ty4,ty28,ty69,ty67,ty70]
       exact back_intro hs2 (i + 1) (le_eqwk (by rw [e]) (by simp [wk,chartF])) (by omega) (by omega)
     ·have hlt3 : ((i : Int) < (w.length : Int)) = False := eq_false (by omega)
      have hwi : w[i]? = none := List.getElem?_eq_none (by omega)
      have e : bl (stepTo g.terms w E n F (i + 1)) = bl (stepTo g.terms w E n F i) := bl_congr fun j _ => by
       rw [hst,hf,if_pos hnT,hwi]
       simp
      simp -implicitDefEqProofs only [hil2,tySpan,hi41t,bl_get F i hi41,hf,chartF,nckF,hnt,ints_length,hlt3,wsucc i (by omega),
  evx,evy,ofValue,ofCell,List.range,List.range.loop,Array.size,Nat.reduceAdd,Nat.reduceSub,Nat.reduceEqDiff,List.replicate,if_true,if_false,↓reduceIte,reduceCtorEq,elB,evParts,Int.reduceToNat,Int.reduceLE,Int.reduceLT,Int.reduceEq,Nat.reduceMul,Nat.reduceLeDiff,Nat.reduceLT,ty3,ty4,ty28,ty69,ty67,ty70]
      exact back_intro hs2 (i + 1) (le_eqwk (by rw [e]) (by simp [wk,chartF])) (by omega) (by omega)
    ·have hnt : (n ≤ (g.terms : Int)) = False := eq_false (by omega)
     have hn0 : (0 ≤ n) = True := eq_true (by omega)
     have her := endsF_get (m := m) (n1 := w.length + 1) (E := E) (n := n.toNat) (by omega)
     have hrow := rowsE_get (R := E n.toNat) hil
     have hbF : (blF (E n.toNat i)).map AV.fv = bl (E n.toNat i) := rfl
     simp -implicitDefEqProofs only [hil2,tySpan,hi41t,bl_get F i hi41,hf,chartF,nckF,hnt,hn0,her,hrow,hbF,bl_len,bl_take,
  evx,evy,ofValue,ofCell,List.range,List.range.loop,Array.size,Nat.reduceAdd,Nat.reduceSub,Nat.reduceEqDiff,List.replicate,if_true,if_false,↓reduceIte,reduceCtorEq,elB,evParts,Int.reduceToNat,Int.reduceLE,Int.reduceLT,Int.reduceEq,Nat.reduceMul,Nat.reduceLeDiff,Nat.reduceLT,ty3,ty4,ty28,ty69,ty67,ty70]
     have e : bl (stepTo g.terms w E n F (i + 1)) = bl (mixB (stepTo g.terms w E n F i) (E n.toNat i) 41) := by
      rw [mix_all]
      exact bl_congr fun j _ => by rw [hst,hf,if_neg (by omega)]; simp
     rw [← mix_zero (stepTo g.terms w E n F i) (E n.toNat i)]
     generalize stepTo g.terms w E n F i = S at e
     generalize E n.toNat i = R at e
     refine loop_rule (fun k : Nat => ⟨[.fptr (chartF g w m E),.any,.any,.any,.any,.ptr 0 0 0 0,.ptr 1 0 0 0,.any,.fv (.int .i64 n),.ptr 2 0 0 0,.any,.any,.any,.fv (.lst 1 (ints text)),.fv (.int .i64 text.length),.fv (.int .i64 q),.any,.any,.any,.any,.any,.any,.any,.any,.fv (.int .i64 ((w.length + 1 : Nat) : Int)),.fv (.int .i64 i),.any,.any,.any,.any,.any,.any,.any,.any,.any,.any,.any,.any,.any,.any,.any,.any,.any,.any,.any,.any,.any,.any,.any,.any,.any,.any,.any,.any,.any,.any,.any,.any,.any,.any,.any,.any,.any,.any,.any,.any,.any,.any,.agg (bl R),.fv (.int .i64 k),.any,.any,.any,.any,.any,.any,.any,.any,.any,.any,.any,.any,.any,.any,.any,.any],[.box (bl F),.box (bl fun _ => false),.box (bl (mixB S R k))],[]⟩)
      (fun k => k ≤ 41) (fun k => 41 - k) 0 (le_wk (by simp [wk,chartF])) (by simp) (fun k hk s3 hs3 => ?_)
     by_cases hkl : k < 41
     ·have hk41 : ((k : Int) < 41) = True := eq_true (by omega)
      have hk41b : ((k : Int) < ((41 : Nat) : Int)) = True := eq_true (by omega)
      cases hv : S k with
      | true =>
       have e2 : bl (mixB S R (k + 1)) = bl (fun j => if j = k then true else mixB S R k j) := by rw [mix_succ,hv]; rfl
       simp -implicitDefEqProofs only [hk41,hk41b,tySpan,bl_get R k hkl,bl_get (mixB S R k) k hkl,mix_at,hv,bl_set _ k hkl,wsucc k (by omega),
  evx,evy,ofValue,ofCell,List.range,List.range.loop,Array.size,Nat.reduceAdd,Nat.reduceSub,Nat.reduceEqDiff,List.replicate,if_true,if_false,↓reduceIte,reduceCtorEq,elB,evParts,Int.reduceToNat,Int.reduceLE,Int.reduceLT,Int.reduceEq,Nat.reduceMul,Nat.reduceLeDiff,Nat.reduceLT,ty3,ty4,ty28,ty69,ty67,ty70]
       exact back_intro hs3 (k + 1) (le_eqwk (by rw [e2]) (by simp [wk,chartF])) (by omega) (by omega)
      | false =>
       have e2 : bl (mixB S R (k + 1)) = bl (fun j => if j = k then R k else mixB S R k j) := by rw [mix_succ,hv]; rfl
       simp -implicitDefEqProofs only [hk41,hk41b,tySpan,bl_get R k hkl,bl_get (mixB S R k) k hkl,mix_at,hv,bl_set _ k hkl,wsucc k (by omega),
  evx,evy,ofValue,ofCell,List.range,List.range.loop,Array.size,Nat.reduceAdd,Nat.reduceSub,Nat.reduceEqDiff,List.replicate,if_true,if_false,↓reduceIte,reduceCtorEq,elB,evParts,Int.reduceToNat,Int.reduceLE,Int.reduceLT,Int.reduceEq,Nat.reduceMul,Nat.reduceLeDiff,Nat.reduceLT,ty3,ty4,ty28,ty69,ty67,ty70]
       exact back_intro hs3 (k + 1) (le_eqwk (by rw [e2]) (by simp [wk,chartF])) (by omega) (by omega)
     ·obtain rfl : k = 41 := by omega
      have hk41 : (((41 : Nat) : Int) < 41) = False := by simp
      simp -implicitDefEqProofs only [hk41,wsucc i (by omega),
  evx,evy,ofValue,ofCell,List.range,List.range.loop,Array.size,Nat.reduceAdd,Nat.reduceSub,Nat.reduceEqDiff,List.replicate,if_true,if_false,↓reduceIte,reduceCtorEq,elB,evParts,Int.reduceToNat,Int.reduceLE,Int.reduceLT,Int.reduceEq,Nat.reduceMul,Nat.reduceLeDiff,Nat.reduceLT,ty3,ty4,ty28,ty69,ty67,ty70]
      exact back_intro hs2 (i + 1) (le_eqwk (by rw [e]) (by simp [wk,chartF])) (by omega) (by omega)
  ·obtain rfl : i = w.length + 1 := by omega
   have hil2 : (((w.length + 1 : Nat) : Int) < ((w.length + 1 : Nat) : Int)) = False := eq_false (by omega)
   rw [stepTo_all,← hF,← textE_snoc,← htk]
   simp -implicitDefEqProofs only [hil2,tySpan,bl_len,bl_take,stB_boxA,splice_all,bl_ok,wsucc q (by omega),
  evx,evy,ofValue,ofCell,List.range,List.range.loop,Array.size,Nat.reduceAdd,Nat.reduceSub,Nat.reduceEqDiff,List.replicate,if_true,if_false,↓reduceIte,reduceCtorEq,elB,evParts,Int.reduceToNat,Int.reduceLE,Int.reduceLT,Int.reduceEq,Nat.reduceMul,Nat.reduceLeDiff,Nat.reduceLT,ty3,ty4,ty28,ty69,ty67,ty70]
   refine back_intro hs (q + 1) (le_pk [0,1] rfl (by simp) (by simp) ?_ ?_) (by omega) (by omega)
   ·simp only [List.map_cons,List.map_nil,List.getD_cons_zero,List.getD_cons_succ,subBlk,bl_sub]
   ·simp [wk,subAny,subA,mkSub,idx,chartF]
 ·obtain rfl : q = text.length := by omega
  rw [List.take_length]
  simp -implicitDefEqProofs only [lt_false hlt,tySpan,bl_len,bl_take,stB_boxA,splice_all,bl_ok,
  evx,evy,ofValue,ofCell,List.range,List.range.loop,Array.size,Nat.reduceAdd,Nat.reduceSub,Nat.reduceEqDiff,List.replicate,if_true,if_false,↓reduceIte,reduceCtorEq,elB,evParts,Int.reduceToNat,Int.reduceLE,Int.reduceLT,Int.reduceEq,Nat.reduceMul,Nat.reduceLeDiff,Nat.reduceLT,ty3,ty4,ty28,ty69,ty67,ty70]
  exact le_flat (flat_bl _)
end Go.Abs
/- The program's chart as it lies: a block for each symbol. -/
namespace Go.Abs
set_option linter.unusedSectionVars false
variable [Kn]
open Go.Proofs
set_option linter.unusedVariables false
set_option linter.unusedSimpArgs false
set_option maxRecDepth 100000
set_option maxHeartbeats 8000000
def chartA (g : Gra) (w : List Int) (m : Nat) : List AV := [.fv (.lst 3 (g.rules.map Rul.row)),.fv (.lst 1 (g.nonts.map sRow)),.fv (.lst 2 (g.levels.map Lev.row)),.fv (.lst 3 (g.prods.map Prd.row)),.fv (.int .i64 g.start),.fv (.int .i64 g.terms),.fv (.lst 1 (ints w)),.ref 1 1 0 m]
def refsA (m n1 : Nat) : List AV := (List.range m).map fun n => .ref (n + 2) 41 0 n1
def hE (g : Gra) (w : List Int) (m : Nat) (E : Nat → Nat → Nat → Bool) : List Blk := .box (chartA g w m) :: .box (refsA m (w.length + 1)) :: (List.range m).map fun n => .plain 41 (rowsE (w.length + 1) (E n))
variable {g : Gra} {w : List Int} {m : Nat} {E : Nat → Nat → Nat → Bool}
theorem hE_len : (hE g w m E).length = m + 2 := by simp [hE]
theorem hE_0 (L : List Blk) : (hE g w m E ++ L)[0]? = some (.box (chartA g w m)) := rfl
theorem hE_1 (L : List Blk) : (hE g w m E ++ L)[1]? = some (.box (refsA m (w.length + 1))) := rfl
theorem hE_n {n : Nat} (h : n < m) (L : List Blk) : (hE g w m E ++ L)[n + 2]? = some (.plain 41 (rowsE (w.length + 1) (E n))) := by
 rw [List.getElem?_append_left (by rw [hE_len]; omega)]
 simp [hE,h]
theorem hE_x (j : Nat) (L : List Blk) : (hE g w m E ++ L)[m + 2 + j]? = L[j]? := by
 rw [List.getElem?_append_right (by rw [hE_len]; omega),hE_len,show m + 2 + j - (m + 2) = j from by omega]
theorem hE_sx (j : Nat) (x : Blk) (L : List Blk) : (hE g w m E ++ L).set (m + 2 + j) x = hE g w m E ++ L.set j x := by
 rw [List.set_append_right _ _ (by rw [hE_len]; omega),hE_len,show m + 2 + j - (m + 2) = j from by omega]
theorem hE_congr {E' : Nat → Nat → Nat → Bool} (h : ∀ a b k,a < m → b < w.length + 1 → k < 41 → E a b k = E' a b k) : hE g w m E = hE g w m E' := by
 unfold hE
 congr 2
 refine List.map_congr_left fun a ha => ?_
 congr 1
 unfold rowsE
 refine List.map_congr_left fun b hb => ?_
 unfold blF
 refine List.map_congr_left fun k hk => ?_
 rw [h a b k (List.mem_range.1 ha) (List.mem_range.1 hb) (List.mem_range.1 hk)]
theorem hE_set {n : Nat} (R : Nat → Nat → Bool) (h : n < m) (L : List Blk) : (hE g w m E ++ L).set (n + 2) (.plain 41 (rowsE (w.length + 1) R)) = hE g w m (fun a => if a = n then R else E a) ++ L := by
 rw [List.set_append_left _ _ (by rw [hE_len]; omega)]
 congr 1
 apply List.ext_getElem?
 intro i
 rw [List.getElem?_set]
 match i with
 | 0 => rfl
 | 1 => rfl
 | i + 2 =>
  have e : ∀ E' : Nat → Nat → Nat → Bool,(hE g w m E')[i + 2]? = if i < m then some (.plain 41 (rowsE (w.length + 1) (E' i))) else none := fun E' => by
   by_cases c : i < m
   ·simp [hE,c]
   ·rw [if_neg c,List.getElem?_eq_none (by rw [hE_len]; omega)]
  rw [e,e]
  by_cases c : n = i
  ·subst c
   rw [if_pos rfl,if_pos h,if_pos (by rw [hE_len]; omega),if_pos rfl]
  ·rw [if_neg (by omega)]
   by_cases c2 : i < m
   ·rw [if_pos c2,if_pos c2,if_neg (fun e => c e.symm)]
   ·rw [if_neg c2,if_neg c2]
theorem rowsE_set {n1 : Nat} {R : Nat → Nat → Bool} {i : Nat} (h : i < n1) (f : Nat → Bool) : (rowsE n1 R).set i (blF f) = rowsE n1 fun b => if b = i then f else R b := by
 apply List.ext_getElem?
 intro j
 rw [List.getElem?_set]
 by_cases c : j < n1
 ·rw [rowsE_get (R := fun b => if b = i then f else R b) c]
  by_cases e : i = j
  ·subst e
   rw [if_pos rfl,if_pos (by rw [rowsE_len]; exact h),if_pos rfl]
  ·rw [if_neg e,rowsE_get c,if_neg (fun x => e x.symm)]
 ·rw [List.getElem?_eq_none (l := rowsE n1 fun b => if b = i then f else R b) (by rw [rowsE_len]; omega)]
  by_cases e : i = j
  ·omega
  ·rw [if_neg e,List.getElem?_eq_none (by rw [rowsE_len]; omega)]
theorem rowsE_cell {n1 : Nat} {R : Nat → Nat → Bool} : ∀ row ∈ rowsE n1 R,row.length = 41 := fun row h => by
 obtain ⟨i,_,rfl⟩ := List.mem_map.1 h
 exact blF_len _
theorem refsA_get {n1 n : Nat} (h : n < m) : (refsA m n1)[n]? = some (.ref (n + 2) 41 0 n1) := by simp [refsA,h]
theorem refsA_len (n1 : Nat) : (refsA m n1).length = m := by simp [refsA]
theorem deepL_map (f : AV → Option FV) (a : Nat → AV) (b : Nat → FV) : ∀ l : List Nat,(∀ n ∈ l,f (a n) = some (b n)) → deepL f (l.map a) = some (l.map b)
 | [],_ => rfl
 | n :: l,h => by
  rw [List.map_cons,deepL,h n (by simp),deepL_map f a b l fun x hx => h x (List.mem_cons_of_mem _ hx)]
  rfl
theorem chunk_one {α : Type} (l : List α) : chunk 1 l.length l = l.map fun x => [x] := by
 have := chunk_flatten 1 (l.map fun x => [x]) (fun r hr => by obtain ⟨x,_,rfl⟩ := List.mem_map.1 hr; rfl)
 rw [List.length_map] at this
 have e : (l.map fun x => [x]).flatten = l := by
  induction l with
  | nil => rfl
  | cons x l ih => rw [List.map_cons,List.flatten_cons,ih (by simpa using chunk_flatten 1 (l.map fun x => [x]) (fun r hr => by obtain ⟨x,_,rfl⟩ := List.mem_map.1 hr; rfl))]; rfl
 rwa [e] at this
theorem deep_row (k : Nat) {n : Nat} (h : n < m) (L : List Blk) : deepF (k + 2) (hE g w m E ++ L) (.ref (n + 2) 41 0 (w.length + 1)) = some (.lst 41 (rowsE (w.length + 1) (E n))) := by
 have hl := rowsE_len (w.length + 1) (E n)
 have hc := chunk_flatten 41 (rowsE (w.length + 1) (E n)) rowsE_cell
 rw [hl] at hc
 have e : refCells (hE g w m E ++ L) (n + 2) 41 0 (w.length + 1) = some (thaw (rowsE (w.length + 1) (E n))) := by
  unfold refCells
  rw [hE_n h]
  simp only [true_and,Nat.zero_add,hl,Nat.le_refl,if_true,List.drop_zero]
  rw [List.take_of_length_le (by rw [hl]; exact Nat.le_refl _)]
 rw [deepF]
 simp only [e]
 rw [thaw,deepL_fv]
 simp only [hc]
theorem deep_ends (k : Nat) (hm : 0 < m) (L : List Blk) : deepF (k + 3) (hE g w m E ++ L) (.ref 1 1 0 m) = some (.lst 1 (endsF m (w.length + 1) E)) := by
 obtain ⟨m',rfl⟩ : ∃ m',m = m' + 1 := ⟨m - 1,by omega⟩
 have e : refCells (hE g w (m' + 1) E ++ L) 1 1 0 (m' + 1) = some (refsA (m' + 1) (w.length + 1)) := by
  unfold refCells
  rw [hE_1]
  simp only [Nat.zero_add,Nat.mul_one,refsA_len,Nat.le_refl,if_true,List.drop_zero]
  rw [List.take_of_length_le (by rw [refsA_len]; exact Nat.le_refl _)]
 have e2 := deepL_map (deepF (k + 2) (hE g w (m' + 1) E ++ L)) (fun n => .ref (n + 2) 41 0 (w.length + 1)) (fun n => .lst 41 (rowsE (w.length + 1) (E n))) (List.range (m' + 1)) fun n hn => deep_row k (List.mem_range.1 hn) L
 rw [deepF]
 simp only [e]
 have e3 : deepL (deepF (k + 2) (hE g w (m' + 1) E ++ L)) (refsA (m' + 1) (w.length + 1)) = some ((List.range (m' + 1)).map fun n => .lst 41 (rowsE (w.length + 1) (E n))) := e2
 simp only [e3]
 have h4 := chunk_one ((List.range (m' + 1)).map fun n => FV.lst 41 (rowsE (w.length + 1) (E n)))
 rw [List.length_map,List.length_range] at h4
 rw [h4]
 simp [endsF]
theorem deepF_fv (n : Nat) (h : List Blk) (x : FV) : deepF (n + 1) h (.fv x) = some x := rfl
theorem deep_chart (hm : 0 < m) (L : List Blk) : deepA 8 (hE g w m E ++ L) (.ptr 0 0 0 0) = some (.fptr (chartF g w m E)) := by
 rw [deepA]
 have e : behindA (hE g w m E ++ L) 0 0 0 0 = some (chartA g w m) := by
  unfold behindA
  rw [hE_0]
  simp
 simp only [e]
 have e2 : deepL (deepF 7 (hE g w m E ++ L)) (chartA g w m) = some (chartF g w m E) := by
  simp only [chartA,deepL,deepF_fv,deep_ends 4 hm L]
  rfl
 simp only [e2]
 rfl
end Go.Abs
/- The program's chart: grow. -/
namespace Go.Abs
set_option linter.unusedSectionVars false
variable [Kn]
open Go.Proofs
set_option linter.unusedVariables false
set_option linter.unusedSimpArgs false
set_option maxRecDepth 100000
set_option maxHeartbeats 8000000
theorem ldB_boxr (i : TI) (cs : List AV) (es r off id : Nat) : ldB i (some (.box cs)) es r off id = (partA i cs (r * es + off)).map fun v => (v,some id) := by simp [ldB]
theorem nckP (id es r off : Nat) : nckA (.ptr id es r off) = some (.ptr id es r off) := nck_solid rfl
/-- The first places that are added. -/
def addK (E : Nat → Nat → Nat → Bool) (n i : Nat) (to : Nat → Bool) (k : Nat) : Nat → Nat → Nat → Bool := fun a b j => if a = n ∧ b = i ∧ j < k then E a b j || to j else E a b j
def newK (E : Nat → Nat → Nat → Bool) (n i : Nat) (to : Nat → Bool) (k : Nat) : Bool := (List.range k).any fun j => to j && !E n i j
theorem addK_zero (E : Nat → Nat → Nat → Bool) (n i : Nat) (to : Nat → Bool) : addK E n i to 0 = E := by
 funext a b j
 simp [addK]
theorem addK_at (E : Nat → Nat → Nat → Bool) (n i : Nat) (to : Nat → Bool) (k : Nat) : addK E n i to k n i k = E n i k := by simp [addK]
theorem addK_succ (E : Nat → Nat → Nat → Bool) (n i : Nat) (to : Nat → Bool) (k a b j : Nat) : addK E n i to (k + 1) a b j = if a = n ∧ b = i ∧ j = k then E n i k || to k else addK E n i to k a b j := by
 unfold addK
 by_cases c : a = n ∧ b = i ∧ j = k
 ·obtain ⟨rfl,rfl,rfl⟩ := c
  simp
 ·rw [if_neg c]
  by_cases c2 : a = n ∧ b = i
  ·obtain ⟨rfl,rfl⟩ := c2
   have : j ≠ k := fun e => c ⟨rfl,rfl,e⟩
   by_cases c3 : j < k
   ·rw [if_pos ⟨rfl,rfl,by omega⟩,if_pos ⟨rfl,rfl,c3⟩]
   ·rw [if_neg (by omega),if_neg (by omega)]
  ·rw [if_neg (fun h => c2 ⟨h.1,h.2.1⟩),if_neg (fun h => c2 ⟨h.1,h.2.1⟩)]
theorem newK_succ (E : Nat → Nat → Nat → Bool) (n i : Nat) (to : Nat → Bool) (k : Nat) : newK E n i to (k + 1) = (newK E n i to k || (to k && !E n i k)) := by
 simp [newK,List.range_succ]
theorem deep_bl (n : Nat) (h : List Blk) (f : Nat → Bool) : deepA (n + 3) h (.agg (bl f)) = some (.agg (bl f)) := by
 have e : subL (deepA (n + 2) h) (bl f) = some (bl f) := by
  unfold bl
  generalize blF f = l
  induction l with
  | nil => rfl
  | cons x l ih => rw [List.map_cons,subL,ih]; rfl
 rw [deepA,e]
 rfl
theorem blF_set (f : Nat → Bool) (i : Nat) (h : i < 41) (b : Bool) : splice (blF f) i [.bool b] = some (blF fun j => if j = i then b else f j) := by
 have h1 := bl_set f i h b
 unfold splice at h1 ⊢
 rw [if_pos (by rw [blF_len]; simp; omega)]
 rw [if_pos (by rw [bl_len]; simp; omega)] at h1
 have h2 := Option.some.inj h1
 have e : ∀ l : List FV,l.map AV.fv = bl (fun j => if j = i then b else f j) → l = blF fun j => if j = i then b else f j := fun l e => by
  unfold bl at e
  exact (List.map_inj_right (f := AV.fv) (fun x y hxy => by injection hxy)).1 e
 refine congrArg some (e _ ?_)
 rw [← h2]
 simp [bl]
theorem hE_cut {g : Gra} {w : List Int} {m M : Nat} {E : Nat → Nat → Nat → Bool} {h : List Blk} (hM : m + 2 ≤ M) : ∀ b ∈ hE g w m E,subBlk (cutS M h) b = b := by
 intro b hb
 rcases List.mem_cons.1 hb with rfl | hb
 ·simp only [subBlk,chartA,List.map_cons,List.map_nil,cut_fv,cut_ref (show 1 < M by omega)]
 rcases List.mem_cons.1 hb with rfl | hb
 ·simp only [subBlk,refsA,List.map_map]
  congr 1
  refine List.map_congr_left fun n hn => ?_
  have := List.mem_range.1 hn
  exact cut_ref (by omega)
 ·obtain ⟨n,_,rfl⟩ := List.mem_map.1 hb
  rfl
def oneB (i : Nat) : Nat → Bool := fun j => decide (j = i)
theorem one_bl (i : Nat) : bl (fun j => if j = i then true else false) = bl (oneB i) := bl_congr fun j _ => by simp [oneB]
theorem ok39 (g : Gra) (w : List Int) (m : Nat) (E : Nat → Nat → Nat → Bool) (hw : w.length ≤ 40) (hp : g.prods.length ≤ 1000) (hl : ∀ p ∈ g.prods,(g.terms : Int) < p.left ∧ p.left < (m : Int))
  (hr : ∀ p ∈ g.prods,p.right.length ≤ 1000 ∧ ∀ n ∈ p.right,n ≤ (g.terms : Int) ∨ ((g.terms : Int) < n ∧ n < (m : Int))) :
  Ok Tryz.prog 39 [.ptr 0 0 0 0] (hE g w m E) (.ret (.fv (.bool (rndG g w E g.prods.length).2))) (hE g w m (rndG g w E g.prods.length).1) := by
 obtain ⟨NN,hNN⟩ : ∃ NN,(hE g w m E).length = NN := ⟨_,rfl⟩
 have hN : NN = m + 2 := by rw [← hNN,hE_len]
 rw [← List.append_nil (hE g w m E)] at hNN ⊢
 refine ok_start (k := 69) (n0 := NN) (rs := [.tmp 2]) mix Tryz.func39 rfl rfl rfl rfl (by assumption) rfl rfl ?_
 have h00 : ∀ E',(hE g w m E')[0]? = some (.box (chartA g w m)) := fun _ => rfl
 have hlen0 : ∀ E',(hE g w m E').length = NN := fun _ => by rw [hE_len,hN]
 have hlenL : ∀ E' L,(hE g w m E' ++ L).length = NN + L.length := fun _ _ => by rw [List.length_append,hE_len,hN]
 have hx0 : ∀ E' L,(hE g w m E' ++ L)[NN]? = L[0]? := fun E' L => by rw [hN]; exact hE_x 0 L
 have hx : ∀ E' L j,(hE g w m E' ++ L)[NN + j]? = L[j]? := fun E' L j => by rw [hN]; exact hE_x j L
 have hs0 : ∀ E' L x,(hE g w m E' ++ L).set NN x = hE g w m E' ++ L.set 0 x := fun E' L x => by rw [hN]; exact hE_sx 0 x L
 have hs : ∀ E' L j x,(hE g w m E' ++ L).set (NN + j) x = hE g w m E' ++ L.set j x := fun E' L j x => by rw [hN]; exact hE_sx j x L
 simp -implicitDefEqProofs only [awp_draw _ _ Tryzdr39_11,h00,chartA,nckP,List.length_map,
  evx,evy,ofValue,ofCell,List.range,List.range.loop,Array.size,Nat.reduceAdd,Nat.reduceSub,Nat.reduceEqDiff,List.replicate,if_true,if_false,↓reduceIte,reduceCtorEq,elB,evParts,Int.reduceToNat,Int.reduceLE,Int.reduceLT,Int.reduceEq,Nat.reduceMul,Nat.reduceLeDiff,Nat.reduceLT,ty3,ty4,ty28,ty25,ty63,ty27,ty69,ty67,ty70]
 refine loop_rule (fun q : Nat => ⟨[.ptr 0 0 0 0,.any,.any,.fv (.bool (rndG g w E q).2),.any,.any,.any,.any,.any,.any,.any,.any,.any,.any,.any,.any,.fv (.lst 3 (g.prods.map Prd.row)),.fv (.int .i64 g.prods.length),.fv (.int .i64 q),.any,.any,.any,.any,.any,.any,.any,.any,.any,.any,.any,.any,.any,.any,.any,.any,.any,.any,.any,.any,.any,.any,.any,.any,.any,.any,.any,.any,.any,.any,.any,.any,.any,.any,.any,.any,.any,.any,.any,.any,.any,.any,.any,.any,.any,.any,.any,.any,.any,.any,.any],hE g w m (rndG g w E q).1,[]⟩)
  (fun q => q ≤ g.prods.length) (fun q => g.prods.length - q) 0 (le_wk (by simp [wk,rndG])) (Nat.zero_le _) (fun q hq st hst => ?_)
 by_cases hlt : q < g.prods.length
 ·have hrw := rows_at Prd.row g.prods q hlt
  have hpq : g.prods[q]? = some g.prods[q] := List.getElem?_eq_getElem hlt
  have hmem := List.getElem_mem hlt
  have hsq := rndG_succ g w E q _ hpq
  generalize g.prods[q] = p at hrw hpq hmem hsq
  obtain ⟨hp1,hp2⟩ := hl p hmem
  obtain ⟨hr1,hr2⟩ := hr p hmem
  generalize rndG g w E q = s0 at hsq ⊢
  have hir : p.right.map iRow = ints p.right := rfl
  simp -implicitDefEqProofs only [awp_draw _ _ Tryzdr39_11,lt_true hlt,hrw,Prd.row,hir,hlen0,hlenL,hx0,h00,hE_0,chartA,nckP,ints_length,wsucc w.length (by omega),stB_boxA,splice_all,List.all_cons,List.all_nil,Bool.and_self,hs0,List.set_cons_zero,
  evx,evy,ofValue,ofCell,List.range,List.range.loop,Array.size,Nat.reduceAdd,Nat.reduceSub,Nat.reduceEqDiff,List.replicate,if_true,if_false,↓reduceIte,reduceCtorEq,elB,evParts,Int.reduceToNat,Int.reduceLE,Int.reduceLT,Int.reduceEq,Nat.reduceMul,Nat.reduceLeDiff,Nat.reduceLT,ty3,ty4,ty28,ty25,ty63,ty27,ty69,ty67,ty70]
  refine loop_rule (fun i : Nat => ⟨[.ptr 0 0 0 0,.any,.any,.fv (.bool (prodG g w s0 p i).2),.any,.ptr NN 0 0 0,.any,.any,.any,.any,.any,.any,.any,.any,.any,.any,.fv (.lst 3 (g.prods.map Prd.row)),.fv (.int .i64 g.prods.length),.fv (.int .i64 q),.any,.any,.any,.any,.any,.any,.any,.any,.fv (.int .i64 ((w.length + 1 : Nat) : Int)),.fv (.int .i64 i),.any,.any,.any,.any,.any,.any,.any,.any,.any,.any,.any,.any,.any,.any,.any,.any,.any,.any,.any,.any,.any,.any,.any,.any,.any,.any,.any,.any,.any,.any,.any,.any,.any,.any,.any,.any,.any,.any,.any,.any,.any],hE g w m (prodG g w s0 p i).1 ++ [.box [.fv (.int .i64 p.left),.fv (.lst 1 (ints p.right)),.fv (.int .i64 p.prec)]],[]⟩)
   (fun i => i ≤ w.length + 1) (fun i => w.length + 1 - i) 0 (le_wk (by simp [wk,prodG])) (Nat.zero_le _) (fun i hi st2 hst2 => ?_)
  by_cases hil : i < w.length + 1
  ·have hil2 : ((i : Int) < ((w.length + 1 : Nat) : Int)) = True := eq_true (by omega)
   have hi41 : i < 41 := by omega
   have hi41t : ((i : Int) < ((41 : Nat) : Int)) = True := eq_true (by omega)
   have hsp := prodG_succ g w s0 p i
   have hov := fun E' => ok71 g w m E' p.right (oneB i) hw hr1 hr2
   generalize prodG g w s0 p i = s1 at hsp ⊢
   have hto : (textE g.terms w s1.1 p.right fun j => decide (j = i)) = textE g.terms w s1.1 p.right (oneB i) := rfl
   rw [stepG,hto] at hsp
   have hov1 := hov s1.1
   generalize textE g.terms w s1.1 p.right (oneB i) = to at hsp hov1
   have hm0 : 0 < m := by omega
   have hl0 : (0 ≤ p.left) = True := eq_true (by omega)
   have hlm : (p.left < (m : Int)) = True := eq_true hp2
   have hrf := refsA_get (m := m) (n1 := w.length + 1) (n := p.left.toNat) (by omega)
   simp -implicitDefEqProofs only [awp_draw _ _ Tryzdr39_11,hil2,tySpan,zrow_bl,hlenL,hx,hx0,List.append_assoc,List.cons_append,List.nil_append,hi41t,bl_set _ i hi41,hs,one_bl,bl_len,bl_take,List.set_cons_succ,List.set_cons_zero,
  evx,evy,ofValue,ofCell,List.range,List.range.loop,Array.size,Nat.reduceAdd,Nat.reduceSub,Nat.reduceEqDiff,List.replicate,if_true,if_false,↓reduceIte,reduceCtorEq,elB,evParts,Int.reduceToNat,Int.reduceLE,Int.reduceLT,Int.reduceEq,Nat.reduceMul,Nat.reduceLeDiff,Nat.reduceLT,ty3,ty4,ty28,ty25,ty63,ty27,ty69,ty67,ty70]
   refine callK_ret _ _ _ _ (call_deep hov1 (by simp only [deepAs,deep_chart hm0,deep_bl]; rfl) (flat_bl _)) (by first | exact ok_none _ _ | exact ok_nil _ _) ?_
   simp -implicitDefEqProofs only [awp_draw _ _ Tryzdr39_11,hlenL,hx,hx0,tySpan,zrow_bl,List.append_assoc,List.cons_append,List.nil_append,stB_boxA,splice_all,bl_len,bl_ok,hs,List.set_cons_succ,List.set_cons_zero,hE_0,hE_1,chartA,nckP,hl0,hlm,ldB_boxr,Nat.add_zero,hrf,hil2,
  evx,evy,ofValue,ofCell,List.range,List.range.loop,Array.size,Nat.reduceAdd,Nat.reduceSub,Nat.reduceEqDiff,List.replicate,if_true,if_false,↓reduceIte,reduceCtorEq,elB,evParts,Int.reduceToNat,Int.reduceLE,Int.reduceLT,Int.reduceEq,Nat.reduceMul,Nat.reduceLeDiff,Nat.reduceLT,ty3,ty4,ty28,ty25,ty63,ty27,ty69,ty67,ty70]
   refine loop_rule (fun k : Nat => ⟨[.ptr 0 0 0 0,.any,.any,.fv (.bool (s1.2 || newK s1.1 p.left.toNat i to k)),.any,.ptr NN 0 0 0,.any,.any,.any,.ptr (p.left.toNat + 2) 41 i 0,.any,.any,.any,.any,.any,.any,.fv (.lst 3 (g.prods.map Prd.row)),.fv (.int .i64 g.prods.length),.fv (.int .i64 q),.any,.any,.any,.any,.any,.any,.any,.any,.fv (.int .i64 ((w.length + 1 : Nat) : Int)),.fv (.int .i64 i),.any,.any,.any,.any,.any,.any,.any,.any,.any,.any,.any,.any,.any,.any,.any,.any,.any,.any,.any,.agg (bl to),.fv (.int .i64 k),.any,.any,.any,.any,.any,.any,.any,.any,.any,.any,.any,.any,.any,.any,.any,.any,.any,.any,.any,.any],
     hE g w m (addK s1.1 p.left.toNat i to k) ++ [.box [.fv (.int .i64 p.left),.fv (.lst 1 (ints p.right)),.fv (.int .i64 p.prec)],.box (bl (oneB i)),.box (bl to)],[]⟩)
    (fun k => k ≤ 41) (fun k => 41 - k) 0 (le_eqwk (by rw [addK_zero]) (by simp [wk,newK,bl_take])) (Nat.zero_le _) (fun k hk st3 hst3 => ?_)
   by_cases hkl : k < 41
   ·have hk41 : ((k : Int) < 41) = True := eq_true (by omega)
    have hk41b : ((k : Int) < ((41 : Nat) : Int)) = True := eq_true (by omega)
    have hln : p.left.toNat < m := by omega
    have hEn := fun E' => @hE_n _ g w m E' p.left.toNat hln
    have hrw2 := fun R => rowsE_get (n1 := w.length + 1) (R := R) hil
    have hbF : ∀ f,(blF f).map AV.fv = bl f := fun _ => rfl
    have hnk := newK_succ s1.1 p.left.toNat i to k
    have hak := addK_succ s1.1 p.left.toNat i to k
    have hat := addK_at s1.1 p.left.toNat i to k
    cases hto1 : to k with
    | false =>
     have e1 : newK s1.1 p.left.toNat i to (k + 1) = newK s1.1 p.left.toNat i to k := by rw [hnk,hto1]; simp
     have e2 : addK s1.1 p.left.toNat i to (k + 1) = addK s1.1 p.left.toNat i to k := by
      funext a b j
      rw [hak]
      split
      ·rename_i c
       obtain ⟨rfl,rfl,rfl⟩ := c
       rw [hto1,hat]; simp
      ·rfl
     simp -implicitDefEqProofs only [awp_draw _ _ Tryzdr39_11,hk41,hk41b,tySpan,bl_get to k hkl,hto1,wsucc k (by omega),
  evx,evy,ofValue,ofCell,List.range,List.range.loop,Array.size,Nat.reduceAdd,Nat.reduceSub,Nat.reduceEqDiff,List.replicate,if_true,if_false,↓reduceIte,reduceCtorEq,elB,evParts,Int.reduceToNat,Int.reduceLE,Int.reduceLT,Int.reduceEq,Nat.reduceMul,Nat.reduceLeDiff,Nat.reduceLT,ty3,ty4,ty28,ty25,ty63,ty27,ty69,ty67,ty70]
     exact back_intro hst3 (k + 1) (le_eqwk (by rw [e2]) (by simp [wk,e1])) (by omega) (by omega)
    | true =>
     cases hEk : s1.1 p.left.toNat i k with
     | true =>
      have e1 : newK s1.1 p.left.toNat i to (k + 1) = newK s1.1 p.left.toNat i to k := by rw [hnk,hto1,hEk]; simp
      have e2 : addK s1.1 p.left.toNat i to (k + 1) = addK s1.1 p.left.toNat i to k := by
       funext a b j
       rw [hak]
       split
       ·rename_i c
        obtain ⟨rfl,rfl,rfl⟩ := c
        rw [hto1,hat,hEk]; simp
       ·rfl
      rw [hEk] at hat
      simp -implicitDefEqProofs only [awp_draw _ _ Tryzdr39_11,hk41,hk41b,tySpan,bl_get to k hkl,hto1,nckP,hEn,hrw2,hbF,bl_get _ k hkl,hat,wsucc k (by omega),
  evx,evy,ofValue,ofCell,List.range,List.range.loop,Array.size,Nat.reduceAdd,Nat.reduceSub,Nat.reduceEqDiff,List.replicate,if_true,if_false,↓reduceIte,reduceCtorEq,elB,evParts,Int.reduceToNat,Int.reduceLE,Int.reduceLT,Int.reduceEq,Nat.reduceMul,Nat.reduceLeDiff,Nat.reduceLT,ty3,ty4,ty28,ty25,ty63,ty27,ty69,ty67,ty70]
      exact back_intro hst3 (k + 1) (le_eqwk (by rw [e2]) (by simp [wk,e1])) (by omega) (by omega)
     | false =>
      have e1 : newK s1.1 p.left.toNat i to (k + 1) = true := by rw [hnk,hto1,hEk]; simp
      rw [hEk] at hat
      simp -implicitDefEqProofs only [awp_draw _ _ Tryzdr39_11,hk41,hk41b,tySpan,bl_get to k hkl,hto1,nckP,hEn,hrw2,hbF,bl_get _ k hkl,hat,blF_set _ k hkl,rowsE_set hil,hE_set _ hln,wsucc k (by omega),
  evx,evy,ofValue,ofCell,List.range,List.range.loop,Array.size,Nat.reduceAdd,Nat.reduceSub,Nat.reduceEqDiff,List.replicate,if_true,if_false,↓reduceIte,reduceCtorEq,elB,evParts,Int.reduceToNat,Int.reduceLE,Int.reduceLT,Int.reduceEq,Nat.reduceMul,Nat.reduceLeDiff,Nat.reduceLT,ty3,ty4,ty28,ty25,ty63,ty27,ty69,ty67,ty70]
      refine back_intro hst3 (k + 1) (le_eqwk ?_ (by simp [wk,e1])) (by omega) (by omega)
      congr 1
      apply hE_congr
      intro a b j _ _ _
      rw [hak]
      by_cases c1 : a = p.left.toNat
      ·by_cases c2 : b = i
       ·by_cases c3 : j = k
        ·simp [c1,c2,c3,hto1]
        ·simp [c1,c2,c3]
       ·simp [c1,c2]
      ·simp [c1]
   ·obtain rfl : k = 41 := by omega
    have hk41 : (((41 : Nat) : Int) < 41) = False := by simp
    have e1 : (s1.2 || newK s1.1 p.left.toNat i to 41) = (prodG g w s0 p (i + 1)).2 := by rw [hsp]; rfl
    have e2 : addK s1.1 p.left.toNat i to 41 = (prodG g w s0 p (i + 1)).1 := by rw [hsp]; rfl
    rw [e1,e2]
    simp -implicitDefEqProofs only [awp_draw _ _ Tryzdr39_11,hk41,wsucc i (by omega),
  evx,evy,ofValue,ofCell,List.range,List.range.loop,Array.size,Nat.reduceAdd,Nat.reduceSub,Nat.reduceEqDiff,List.replicate,if_true,if_false,↓reduceIte,reduceCtorEq,elB,evParts,Int.reduceToNat,Int.reduceLE,Int.reduceLT,Int.reduceEq,Nat.reduceMul,Nat.reduceLeDiff,Nat.reduceLT,ty3,ty4,ty28,ty25,ty63,ty27,ty69,ty67,ty70]
    refine back_intro hst2 (i + 1) (Le.trans (le_wk (t' := [.ptr 0 0 0 0,.any,.any,.fv (.bool (prodG g w s0 p (i + 1)).2),.any,.ptr NN 0 0 0,.any,.any,.any,.any,.any,.any,.any,.any,.any,.any,.fv (.lst 3 (g.prods.map Prd.row)),.fv (.int .i64 g.prods.length),.fv (.int .i64 q),.any,.any,.any,.any,.any,.any,.any,.any,.fv (.int .i64 ((w.length + 1 : Nat) : Int)),.fv (.int .i64 ((i + 1 : Nat) : Int)),.any,.any,.any,.any,.any,.any,.any,.any,.any,.any,.any,.any,.any,.any,.any,.any,.any,.any,.any,.any,.any,.any,.any,.any,.any,.any,.any,.any,.any,.any,.any,.any,.any,.any,.any,.any,.any,.any,.any,.any,.any]) (by simp [wk])) (le_cut (NN + 1) (by rw [hlenL]; simp) (by omega) ?_ ?_ ?_)) (by omega) (by omega)
    ·rw [List.take_append,hlen0,List.take_of_length_le (by rw [hlen0]; omega),show NN + 1 - NN = 1 from by omega]
     rfl
    ·intro b hb
     rcases List.mem_append.1 hb with hb | hb
     ·exact hE_cut (by omega) b hb
     ·obtain rfl := List.mem_singleton.1 hb
      simp only [subBlk,List.map_cons,List.map_nil,cut_fv]
    ·simp only [List.map_cons,List.map_nil,cut_ptr (show 0 < NN + 1 by omega),cut_ptr (show NN < NN + 1 by omega),cut_any,cut_fv]
  ·obtain rfl : i = w.length + 1 := by omega
   have hil2 : (((w.length + 1 : Nat) : Int) < ((w.length + 1 : Nat) : Int)) = False := eq_false (by omega)
   rw [← hsq]
   simp -implicitDefEqProofs only [awp_draw _ _ Tryzdr39_11,hil2,wsucc q (by omega),
  evx,evy,ofValue,ofCell,List.range,List.range.loop,Array.size,Nat.reduceAdd,Nat.reduceSub,Nat.reduceEqDiff,List.replicate,if_true,if_false,↓reduceIte,reduceCtorEq,elB,evParts,Int.reduceToNat,Int.reduceLE,Int.reduceLT,Int.reduceEq,Nat.reduceMul,Nat.reduceLeDiff,Nat.reduceLT,ty3,ty4,ty28,ty25,ty63,ty27,ty69,ty67,ty70]
   refine back_intro hst (q + 1) (Le.trans (le_wk (t' := [.ptr 0 0 0 0,.any,.any,.fv (.bool (rndG g w E (q + 1)).2),.any,.any,.any,.any,.any,.any,.any,.any,.any,.any,.any,.any,.fv (.lst 3 (g.prods.map Prd.row)),.fv (.int .i64 g.prods.length),.fv (.int .i64 ((q + 1 : Nat) : Int)),.any,.any,.any,.any,.any,.any,.any,.any,.any,.any,.any,.any,.any,.any,.any,.any,.any,.any,.any,.any,.any,.any,.any,.any,.any,.any,.any,.any,.any,.any,.any,.any,.any,.any,.any,.any,.any,.any,.any,.any,.any,.any,.any,.any,.any,.any,.any,.any,.any,.any,.any]) (by simp [wk])) (le_cut NN (by rw [hlenL]; omega) (Nat.le_refl _) ?_ ?_ ?_)) (by omega) (by omega)
   ·rw [List.take_left' (hlen0 _)]
   ·exact hE_cut (by omega)
   ·simp only [List.map_cons,List.map_nil,cut_ptr (show 0 < NN by omega),cut_any,cut_fv]
 ·obtain rfl : q = g.prods.length := by omega
  simp -implicitDefEqProofs only [awp_draw _ _ Tryzdr39_11,lt_false hlt,
  evx,evy,ofValue,ofCell,List.range,List.range.loop,Array.size,Nat.reduceAdd,Nat.reduceSub,Nat.reduceEqDiff,List.replicate,if_true,if_false,↓reduceIte,reduceCtorEq,elB,evParts,Int.reduceToNat,Int.reduceLE,Int.reduceLT,Int.reduceEq,Nat.reduceMul,Nat.reduceLeDiff,Nat.reduceLT,ty3,ty4,ty28,ty25,ty63,ty27,ty69,ty67,ty70]
  exact Le.refl _ _
end Go.Abs
