/- The document's chart: places, whole symbols, words. -/
import Derived.Test.YtnhghoonlmoinaaGreatTyTryzi
import Derived.Test.YtnhghoonlmoinaaGreatDrTryzi
import Derived.Test.YtnhghoonlmoinaaGreatDvAB
import Derived.Test.YtnhghoonlmoinaaGreatItAi
import Derived.Test.YtnhghoonlmoinaaGreatTopGi
import Derived.Test.YtnhghoonlmoinaaGreatAbsW
import Derived.Test.YtnhghoonlmoinaaGreatDvHi
import Derived.Test.YtnhghoonlmoinaaGreatAbsCut
namespace Go.Abs
open Go.Proofs
set_option linter.unusedVariables false
set_option linter.unusedSimpArgs false
set_option maxRecDepth 100000
set_option maxHeartbeats 8000000
def bRows (L : List Bool) : List (List FV) := L.map fun b => [.bool b]
theorem bRows_len (L : List Bool) : (bRows L).length = L.length := by simp [bRows]
theorem bRows_get (L : List Bool) (k : Nat) (h : k < L.length) : (bRows L)[k]? = some [.bool (L.getD k false)] := by
 simp [bRows,List.getD_eq_getElem?_getD,h]
theorem ok41 (W q d i j : Nat) (p : Int) (hp : p + 1 = (q : Int)) (R : List (List FV)) (hW : W ≤ 50) (hq : q ≤ 1000) (hd : d ≤ 1000) (hi : i ≤ 1000) (hj : j ≤ 1000) :
  Ok Tryz.prog 41 [.agg [.fv (.int .i64 (W : Int)),.fv (.lst 1 R)],.fv (.int .i64 p),.fv (.int .i64 (d : Int)),.fv (.int .i64 (i : Int)),.fv (.int .i64 (j : Int))] [] (.ret (.fv (.int .i64 ((atR W q d i j : Nat) : Int)))) [] := by
 have b1 : (q * 9 + d) * W ≤ 10000 * 50 := Nat.mul_le_mul (by omega) hW
 have b2 : ((q * 9 + d) * W + i) * W ≤ 501000 * 50 := Nat.mul_le_mul (by omega) hW
 have w1 : IntKind.wrap .i64 (p + 1) = (q : Int) := by rw [hp]; exact wrap_small (by omega) (by omega)
 have w2 : IntKind.wrap .i64 ((q : Int) * 9) = ((q * 9 : Nat) : Int) := by rw [wrap_small (by omega) (by omega)]; omega
 have w3 : IntKind.wrap .i64 (((q * 9 : Nat) : Int) + (d : Int)) = ((q * 9 + d : Nat) : Int) := by rw [wrap_small (by omega) (by omega)]; omega
 have w4 : IntKind.wrap .i64 (((q * 9 + d : Nat) : Int) * (W : Int)) = (((q * 9 + d) * W : Nat) : Int) := by rw [← Int.natCast_mul]; exact wrap_small (by omega) (by omega)
 have w5 : IntKind.wrap .i64 ((((q * 9 + d) * W : Nat) : Int) + (i : Int)) = (((q * 9 + d) * W + i : Nat) : Int) := by rw [← Int.natCast_add]; exact wrap_small (by omega) (by omega)
 have w6 : IntKind.wrap .i64 ((((q * 9 + d) * W + i : Nat) : Int) * (W : Int)) = ((((q * 9 + d) * W + i) * W : Nat) : Int) := by rw [← Int.natCast_mul]; exact wrap_small (by omega) (by omega)
 have w7 : IntKind.wrap .i64 (((((q * 9 + d) * W + i) * W : Nat) : Int) + (j : Int)) = ((((q * 9 + d) * W + i) * W + j : Nat) : Int) := by rw [← Int.natCast_add]; exact wrap_small (by omega) (by omega)
 refine ok_start (k := 21) (n0 := 0) (rs := [.tmp 10]) mix Tryz.func41 rfl rfl rfl rfl rfl rfl rfl ?_
 simp -implicitDefEqProofs only [w1,w2,w3,w4,w5,w6,w7,
  evx,evy,ofValue,ofCell,List.range,List.range.loop,Array.size,Nat.reduceAdd,Nat.reduceSub,Nat.reduceEqDiff,List.replicate,if_true,if_false,↓reduceIte,reduceCtorEq,elB,evParts,Int.reduceToNat,Int.reduceLE,Int.reduceLT,Int.reduceEq,Nat.reduceMul,Nat.reduceLeDiff,Nat.reduceLT,ty3,ty4,ty28,ty73,ty22,ty23,ty24,ty25,ty27,ty63,ty75]
 exact le_flat rfl
def wholeF (g : Gra) (On : Nat → Nat → Nat → Nat → Bool) (n : Int) (j k q : Nat) : Bool := match g.prods[q]? with
 | some p => decide (p.left = n) && On (q + 1) p.right.length j k
 | none => false
theorem any_range_succ (f : Nat → Bool) (a : Nat) : (List.range (a + 1)).any f = ((List.range a).any f || f a) := by simp [List.range_succ]
theorem ok102 (g : Gra) (hg : Small g 100) (hn : Narrow g) (w : List Int) (hw : w.length ≤ 40) (L : List Bool) (hL : L.length = (g.prods.length + 1) * 9 * (w.length + 1) * (w.length + 1)) (n : Int) (j k : Nat) (hj : j ≤ w.length) (hk : k ≤ w.length) :
  Ok Tryz.prog 102 [g.av,.agg [.fv (.int .i64 ((w.length + 1 : Nat) : Int)),.fv (.lst 1 (bRows L))],.fv (.lst 1 (ints w)),.fv (.int .i64 n),.fv (.int .i64 (j : Int)),.fv (.int .i64 (k : Int))] [] (.ret (.fv (.bool (wholeR g w (onR (w.length + 1) L) n j k)))) [] := by
 have hterms := ok20 g hg.nrules
 have hil := ints_length w
 have hnp := hg.nprods
 refine ok_start (k := 57) (n0 := 0) (rs := [.tmp 12]) mix Tryz.func102 rfl rfl rfl rfl rfl rfl rfl ?_
 simp -implicitDefEqProofs only [awp_draw _ _ Tryzdr102_6,Gra.av,
  evx,evy,ofValue,ofCell,List.range,List.range.loop,Array.size,Nat.reduceAdd,Nat.reduceSub,Nat.reduceEqDiff,List.replicate,if_true,if_false,↓reduceIte,reduceCtorEq,elB,evParts,Int.reduceToNat,Int.reduceLE,Int.reduceLT,Int.reduceEq,Nat.reduceMul,Nat.reduceLeDiff,Nat.reduceLT,ty3,ty4,ty28,ty73,ty22,ty23,ty24,ty25,ty27,ty63,ty75]
 refine callK_ret _ _ _ _ (call_pure (hterms) (fun _ => rfl) (fun _ => rfl)) (ok_nil _ _) ?_
 by_cases hc : n ≤ (g.terms : Int)
 ·have hct : (n ≤ (g.terms : Int)) = True := eq_true hc
  have hws := wsucc j (by omega)
  by_cases h1 : k = j + 1
  ·subst h1
   have hr := ints_get w j (by omega)
   have hjk : ((j + 1 : Nat) : Int) = ((j : Int) + 1) := by omega
   by_cases h2 : w[j] = n
   ·have e : wholeR g w (onR (w.length + 1) L) n j (j + 1) = true := wholeR_iff.2 (.inl ⟨hc,rfl,by rw [List.getElem?_eq_getElem (by omega),h2]⟩)
    rw [e]
    rw [h2] at hr
    simp -implicitDefEqProofs only [awp_draw _ _ Tryzdr102_6,hct,hws,hr,beq_self_eq_true,
  evx,evy,ofValue,ofCell,List.range,List.range.loop,Array.size,Nat.reduceAdd,Nat.reduceSub,Nat.reduceEqDiff,List.replicate,if_true,if_false,↓reduceIte,reduceCtorEq,elB,evParts,Int.reduceToNat,Int.reduceLE,Int.reduceLT,Int.reduceEq,Nat.reduceMul,Nat.reduceLeDiff,Nat.reduceLT,ty3,ty4,ty28,ty73,ty22,ty23,ty24,ty25,ty27,ty63,ty75]
    exact le_flat rfl
   ·have e : wholeR g w (onR (w.length + 1) L) n j (j + 1) = false := Bool.eq_false_iff.2 fun h => by
     rcases wholeR_iff.1 h with ⟨_,_,h3⟩ | ⟨h3,_⟩
     ·rw [List.getElem?_eq_getElem (by omega)] at h3
      exact h2 (Option.some.inj h3)
     ·omega
    rw [e]
    have h2f : (w[j] = n) = False := eq_false h2
    simp -implicitDefEqProofs only [awp_draw _ _ Tryzdr102_6,hct,hws,hr,beq_self_eq_true,h2f,
  evx,evy,ofValue,ofCell,List.range,List.range.loop,Array.size,Nat.reduceAdd,Nat.reduceSub,Nat.reduceEqDiff,List.replicate,if_true,if_false,↓reduceIte,reduceCtorEq,elB,evParts,Int.reduceToNat,Int.reduceLE,Int.reduceLT,Int.reduceEq,Nat.reduceMul,Nat.reduceLeDiff,Nat.reduceLT,ty3,ty4,ty28,ty73,ty22,ty23,ty24,ty25,ty27,ty63,ty75]
    exact le_flat rfl
  ·have e : wholeR g w (onR (w.length + 1) L) n j k = false := Bool.eq_false_iff.2 fun h => by
    rcases wholeR_iff.1 h with ⟨_,h3,_⟩ | ⟨h3,_⟩
    ·exact h1 h3
    ·omega
   rw [e]
   have hkf : ((k : Int) = ((j + 1 : Nat) : Int)) = False := eq_false (by omega)
   simp -implicitDefEqProofs only [awp_draw _ _ Tryzdr102_6,hct,hws,hkf,
  evx,evy,ofValue,ofCell,List.range,List.range.loop,Array.size,Nat.reduceAdd,Nat.reduceSub,Nat.reduceEqDiff,List.replicate,if_true,if_false,↓reduceIte,reduceCtorEq,elB,evParts,Int.reduceToNat,Int.reduceLE,Int.reduceLT,Int.reduceEq,Nat.reduceMul,Nat.reduceLeDiff,Nat.reduceLT,ty3,ty4,ty28,ty73,ty22,ty23,ty24,ty25,ty27,ty63,ty75]
   exact le_flat rfl
 ·have hct : (n ≤ (g.terms : Int)) = False := eq_false hc
  have e : wholeR g w (onR (w.length + 1) L) n j k = (List.range g.prods.length).any (wholeF g (onR (w.length + 1) L) n j k) := by
   unfold wholeR
   rw [if_neg hc]
   rfl
  rw [e]
  generalize hR : (List.range g.prods.length).any (wholeF g (onR (w.length + 1) L) n j k) = R
  simp -implicitDefEqProofs only [awp_draw _ _ Tryzdr102_6,hct,
  evx,evy,ofValue,ofCell,List.range,List.range.loop,Array.size,Nat.reduceAdd,Nat.reduceSub,Nat.reduceEqDiff,List.replicate,if_true,if_false,↓reduceIte,reduceCtorEq,elB,evParts,Int.reduceToNat,Int.reduceLE,Int.reduceLT,Int.reduceEq,Nat.reduceMul,Nat.reduceLeDiff,Nat.reduceLT,ty3,ty4,ty28,ty73,ty22,ty23,ty24,ty25,ty27,ty63,ty75]
  refine loop_rule (fun a : Nat => ⟨[.any,.any,.any,.fv (.int .i64 n),.fv (.int .i64 (j : Int)),.fv (.int .i64 (k : Int)),.ptr 0 0 0 0,.ptr 1 0 0 0,.any,.any,.any,.any,.any,.fv (.int .i64 (a : Int)),.any,.any,.any,.any,.any,.any,.any,.any,.any,.any,.any,.any,.any,.any,.any,.any,.any,.any,.any,.any,.any,.any,.any,.any,.any,.any,.any,.any,.any,.any,.any,.any,.any,.any,.any,.any,.any,.any,.any,.any,.any,.any,.any,.any,.any,.any,.any,.any,.any],[.box g.cells,.box [.fv (.int .i64 ((w.length + 1 : Nat) : Int)),.fv (.lst 1 (bRows L))]],[]⟩)
   (fun a => a ≤ g.prods.length ∧ (List.range a).any (wholeF g (onR (w.length + 1) L) n j k) = false) (fun a => g.prods.length - a) 0 (le_wk (by simp [wk])) ⟨Nat.zero_le _,rfl⟩ (fun a ha s1 hs1 => ?_)
  obtain ⟨ha,hno⟩ := ha
  by_cases hlt : a < g.prods.length
  ·have hrw := rows_at Prd.row g.prods a hlt
   have hpq : g.prods[a]? = some g.prods[a] := List.getElem?_eq_getElem hlt
   have hmem := List.getElem_mem hlt
   have hsu := any_range_succ (wholeF g (onR (w.length + 1) L) n j k) a
   rw [hno,Bool.false_or,wholeF,hpq] at hsu
   generalize g.prods[a] = p at hrw hpq hmem hsu
   simp only at hsu
   have hpr := hn p hmem
   have hir : p.right.map iRow = ints p.right := rfl
   have hbl := bnd_lt (g := g) (w := w) hL (q := a + 1) (d := p.right.length) (i := j) (j := k) (by omega) (by omega) (by omega) (by omega)
   have hbr := bRows_get L _ hbl
   have hon : onR (w.length + 1) L (a + 1) p.right.length j k = L.getD (atR (w.length + 1) (a + 1) p.right.length j k) false := by
    unfold onR
    rw [decide_eq_true (⟨by omega,by omega,by omega⟩ : p.right.length < 9 ∧ j < w.length + 1 ∧ k < w.length + 1),Bool.true_and]
   rw [hon] at hsu
   have hat := ok41 (w.length + 1) (a + 1) p.right.length j k (a : Int) (by omega) (bRows L) (by omega) (by omega) (by omega) (by omega) (by omega)
   by_cases hpl : p.left = n
   ·have hplt : (p.left = n) = True := eq_true hpl
    rw [decide_eq_true hpl,Bool.true_and] at hsu
    generalize L.getD (atR (w.length + 1) (a + 1) p.right.length j k) false = b at hbr hsu
    generalize atR (w.length + 1) (a + 1) p.right.length j k = z at hbr hat hbl
    simp -implicitDefEqProofs only [awp_draw _ _ Tryzdr102_6,Gra.cells,List.length_map,lt_true hlt,hrw,Prd.row,hir,hplt,ints_length,
  evx,evy,ofValue,ofCell,List.range,List.range.loop,Array.size,Nat.reduceAdd,Nat.reduceSub,Nat.reduceEqDiff,List.replicate,if_true,if_false,↓reduceIte,reduceCtorEq,elB,evParts,Int.reduceToNat,Int.reduceLE,Int.reduceLT,Int.reduceEq,Nat.reduceMul,Nat.reduceLeDiff,Nat.reduceLT,ty3,ty4,ty28,ty73,ty22,ty23,ty24,ty25,ty27,ty63,ty75]
    refine callK_ret _ _ _ _ (call_pure (hat) (fun _ => rfl) (fun _ => rfl)) (ok_nil _ _) ?_
    cases b with
    | true =>
     have e2 : R = true := by
      obtain ⟨x,hx,hx2⟩ := List.any_eq_true.1 hsu
      rw [← hR]
      exact List.any_eq_true.2 ⟨x,List.mem_range.2 (by have := List.mem_range.1 hx; omega),hx2⟩
     rw [e2]
     simp -implicitDefEqProofs only [awp_draw _ _ Tryzdr102_6,hbr,
  evx,evy,ofValue,ofCell,List.range,List.range.loop,Array.size,Nat.reduceAdd,Nat.reduceSub,Nat.reduceEqDiff,List.replicate,if_true,if_false,↓reduceIte,reduceCtorEq,elB,evParts,Int.reduceToNat,Int.reduceLE,Int.reduceLT,Int.reduceEq,Nat.reduceMul,Nat.reduceLeDiff,Nat.reduceLT,ty3,ty4,ty28,ty73,ty22,ty23,ty24,ty25,ty27,ty63,ty75]
     exact le_flat rfl
    | false =>
     simp -implicitDefEqProofs only [awp_draw _ _ Tryzdr102_6,hbr,wsucc a (by omega),
  evx,evy,ofValue,ofCell,List.range,List.range.loop,Array.size,Nat.reduceAdd,Nat.reduceSub,Nat.reduceEqDiff,List.replicate,if_true,if_false,↓reduceIte,reduceCtorEq,elB,evParts,Int.reduceToNat,Int.reduceLE,Int.reduceLT,Int.reduceEq,Nat.reduceMul,Nat.reduceLeDiff,Nat.reduceLT,ty3,ty4,ty28,ty73,ty22,ty23,ty24,ty25,ty27,ty63,ty75]
     exact back_intro hs1 (a + 1) (le_wk (by simp [wk,Gra.cells])) ⟨by omega,hsu⟩ (by omega)
   ·have hplf : (p.left = n) = False := eq_false hpl
    rw [decide_eq_false hpl,Bool.false_and] at hsu
    simp -implicitDefEqProofs only [awp_draw _ _ Tryzdr102_6,Gra.cells,List.length_map,lt_true hlt,hrw,Prd.row,hir,hplf,ints_length,wsucc a (by omega),
  evx,evy,ofValue,ofCell,List.range,List.range.loop,Array.size,Nat.reduceAdd,Nat.reduceSub,Nat.reduceEqDiff,List.replicate,if_true,if_false,↓reduceIte,reduceCtorEq,elB,evParts,Int.reduceToNat,Int.reduceLE,Int.reduceLT,Int.reduceEq,Nat.reduceMul,Nat.reduceLeDiff,Nat.reduceLT,ty3,ty4,ty28,ty73,ty22,ty23,ty24,ty25,ty27,ty63,ty75]
    exact back_intro hs1 (a + 1) (le_wk (by simp [wk,Gra.cells])) ⟨by omega,hsu⟩ (by omega)
  ·obtain rfl : a = g.prods.length := by omega
   rw [hno] at hR
   rw [← hR]
   simp -implicitDefEqProofs only [awp_draw _ _ Tryzdr102_6,Gra.cells,List.length_map,lt_false hlt,
  evx,evy,ofValue,ofCell,List.range,List.range.loop,Array.size,Nat.reduceAdd,Nat.reduceSub,Nat.reduceEqDiff,List.replicate,if_true,if_false,↓reduceIte,reduceCtorEq,elB,evParts,Int.reduceToNat,Int.reduceLE,Int.reduceLT,Int.reduceEq,Nat.reduceMul,Nat.reduceLeDiff,Nat.reduceLT,ty3,ty4,ty28,ty73,ty22,ty23,ty24,ty25,ty27,ty63,ty75]
   exact le_flat rfl
end Go.Abs
/- The document's chart: rounds, and Member. -/
namespace Go.Abs
open Go.Proofs
set_option linter.unusedVariables false
set_option linter.unusedSimpArgs false
set_option maxRecDepth 100000
set_option maxHeartbeats 8000000
theorem ok16 (g : Gra) (hg : Small g 100) (w : List Int) (hw : w.length ≤ 1000) : Ok Tryz.prog 16 [g.av,.fv (.lst 1 (ints w))] [] (.ret (.fv (.bool (!w.any (badW g.terms))))) [] := by
 have hterms := ok20 g hg.nrules
 have hil := ints_length w
 obtain ⟨R,hR⟩ : ∃ R,R = !w.any (badW g.terms) := ⟨_,rfl⟩
 rw [← hR]
 refine ok_start (k := 24) (n0 := 0) (rs := [.tmp 4]) mix Tryz.func16 rfl rfl rfl rfl rfl rfl rfl ?_
 simp -implicitDefEqProofs only [awp_draw _ _ Tryzdr16_4,Gra.av,
  evx,evy,ofValue,ofCell,List.range,List.range.loop,Array.size,Nat.reduceAdd,Nat.reduceSub,Nat.reduceEqDiff,List.replicate,if_true,if_false,↓reduceIte,reduceCtorEq,elB,evParts,Int.reduceToNat,Int.reduceLE,Int.reduceLT,Int.reduceEq,Nat.reduceMul,Nat.reduceLeDiff,Nat.reduceLT,ty3,ty4,ty28,ty73,ty22,ty23,ty24,ty25,ty27,ty63,ty75]
 refine loop_rule (fun a : Nat => ⟨[.any,.fv (.lst 1 (ints w)),.ptr 0 0 0 0,.any,.any,.fv (.int .i64 (a : Int)),.any,.any,.any,.any,.any,.any,.any,.any,.any,.any,.any,.any,.any,.any,.any,.any,.any,.any,.any,.any],[.box g.cells],[]⟩)
  (fun a => a ≤ w.length ∧ (w.take a).any (badW g.terms) = false) (fun a => w.length - a) 0 (le_wk (by simp [wk,Gra.cells])) ⟨Nat.zero_le _,rfl⟩ (fun a ha s1 hs1 => ?_)
 obtain ⟨ha,hno⟩ := ha
 by_cases hlt : a < w.length
 ·have hr := ints_get w a hlt
  have hta : (w.take (a + 1)).any (badW g.terms) = badW g.terms w[a] := by
   rw [List.take_succ_eq_append_getElem hlt,List.any_append,hno]
   simp
  have hin : badW g.terms w[a] = true → R = false := fun h => by
   rw [hR,Bool.not_eq_false']
   exact List.any_eq_true.2 ⟨_,List.getElem_mem hlt,h⟩
  generalize w[a] = n at hr hta hin
  by_cases h1 : n < 1
  ·have h1t : (n < 1) = True := eq_true h1
   rw [hin (by unfold badW; rw [decide_eq_true h1]; rfl)]
   simp -implicitDefEqProofs only [awp_draw _ _ Tryzdr16_4,hil,lt_true hlt,hr,h1t,
  evx,evy,ofValue,ofCell,List.range,List.range.loop,Array.size,Nat.reduceAdd,Nat.reduceSub,Nat.reduceEqDiff,List.replicate,if_true,if_false,↓reduceIte,reduceCtorEq,elB,evParts,Int.reduceToNat,Int.reduceLE,Int.reduceLT,Int.reduceEq,Nat.reduceMul,Nat.reduceLeDiff,Nat.reduceLT,ty3,ty4,ty28,ty73,ty22,ty23,ty24,ty25,ty27,ty63,ty75]
   exact le_flat rfl
  ·have h1t : (n < 1) = False := eq_false h1
   by_cases h2 : (g.terms : Int) < n
   ·have h2t : ((g.terms : Int) < n) = True := eq_true h2
    rw [hin (by unfold badW; rw [decide_eq_true h2]; simp)]
    simp -implicitDefEqProofs only [awp_draw _ _ Tryzdr16_4,hil,lt_true hlt,hr,h1t,Gra.cells,
  evx,evy,ofValue,ofCell,List.range,List.range.loop,Array.size,Nat.reduceAdd,Nat.reduceSub,Nat.reduceEqDiff,List.replicate,if_true,if_false,↓reduceIte,reduceCtorEq,elB,evParts,Int.reduceToNat,Int.reduceLE,Int.reduceLT,Int.reduceEq,Nat.reduceMul,Nat.reduceLeDiff,Nat.reduceLT,ty3,ty4,ty28,ty73,ty22,ty23,ty24,ty25,ty27,ty63,ty75]
    refine callK_ret _ _ _ _ (call_pure (hterms) (fun _ => rfl) (fun _ => rfl)) (ok_nil _ _) ?_
    simp -implicitDefEqProofs only [awp_draw _ _ Tryzdr16_4,h2t,
  evx,evy,ofValue,ofCell,List.range,List.range.loop,Array.size,Nat.reduceAdd,Nat.reduceSub,Nat.reduceEqDiff,List.replicate,if_true,if_false,↓reduceIte,reduceCtorEq,elB,evParts,Int.reduceToNat,Int.reduceLE,Int.reduceLT,Int.reduceEq,Nat.reduceMul,Nat.reduceLeDiff,Nat.reduceLT,ty3,ty4,ty28,ty73,ty22,ty23,ty24,ty25,ty27,ty63,ty75]
    exact le_flat rfl
   ·have h2t : ((g.terms : Int) < n) = False := eq_false h2
    simp -implicitDefEqProofs only [awp_draw _ _ Tryzdr16_4,hil,lt_true hlt,hr,h1t,Gra.cells,
  evx,evy,ofValue,ofCell,List.range,List.range.loop,Array.size,Nat.reduceAdd,Nat.reduceSub,Nat.reduceEqDiff,List.replicate,if_true,if_false,↓reduceIte,reduceCtorEq,elB,evParts,Int.reduceToNat,Int.reduceLE,Int.reduceLT,Int.reduceEq,Nat.reduceMul,Nat.reduceLeDiff,Nat.reduceLT,ty3,ty4,ty28,ty73,ty22,ty23,ty24,ty25,ty27,ty63,ty75]
    refine callK_ret _ _ _ _ (call_pure (hterms) (fun _ => rfl) (fun _ => rfl)) (ok_nil _ _) ?_
    simp -implicitDefEqProofs only [awp_draw _ _ Tryzdr16_4,h2t,wsucc a (by omega),
  evx,evy,ofValue,ofCell,List.range,List.range.loop,Array.size,Nat.reduceAdd,Nat.reduceSub,Nat.reduceEqDiff,List.replicate,if_true,if_false,↓reduceIte,reduceCtorEq,elB,evParts,Int.reduceToNat,Int.reduceLE,Int.reduceLT,Int.reduceEq,Nat.reduceMul,Nat.reduceLeDiff,Nat.reduceLT,ty3,ty4,ty28,ty73,ty22,ty23,ty24,ty25,ty27,ty63,ty75]
    exact back_intro hs1 (a + 1) (le_wk (by simp [wk,Gra.cells])) ⟨by omega,by rw [hta]; unfold badW; rw [decide_eq_false h1,decide_eq_false h2]; rfl⟩ (by omega)
 ·obtain rfl : a = w.length := by omega
  rw [List.take_length] at hno
  rw [hno] at hR
  rw [hR]
  simp -implicitDefEqProofs only [awp_draw _ _ Tryzdr16_4,hil,lt_false hlt,
  evx,evy,ofValue,ofCell,List.range,List.range.loop,Array.size,Nat.reduceAdd,Nat.reduceSub,Nat.reduceEqDiff,List.replicate,if_true,if_false,↓reduceIte,reduceCtorEq,elB,evParts,Int.reduceToNat,Int.reduceLE,Int.reduceLT,Int.reduceEq,Nat.reduceMul,Nat.reduceLeDiff,Nat.reduceLT,ty3,ty4,ty28,ty73,ty22,ty23,ty24,ty25,ty27,ty63,ty75]
  exact le_flat rfl
theorem side_N {g : Gra} {q : Nat} (hq : q ≤ g.prods.length) : sideL g ((q : Int) - 1) = sideN g q := by
 cases q with
 | zero => rfl
 | succ q =>
  obtain ⟨p,h1,h2,_⟩ := side_at (g := g) (p := ((q + 1 : Nat) : Int) - 1) (by omega) (by omega)
  rw [h2]
  have : (((q + 1 : Nat) : Int) - 1).toNat = q := by omega
  rw [this] at h1
  show _ = ((Option.map Prd.right g.prods[q]?).getD [])
  rw [h1]; rfl
def hL (g : Gra) (w : List Int) (N : Nat) (L : List Bool) : List Blk := [.plain 1 (bRows L),.box g.cells,.box [.fv (.int .i64 ((w.length + 1 : Nat) : Int)),.ref 0 1 0 N]]
theorem deepF_L {h : List Blk} {i k : Nat} {L : List Bool} (hi : h[i]? = some (.plain 1 (bRows L))) (hp : 0 < L.length) : deepF (k + 2) h (.ref i 1 0 L.length) = some (.lst 1 (bRows L)) := by
 obtain ⟨n,hn⟩ : ∃ n,L.length = n + 1 := ⟨L.length - 1,by omega⟩
 have e : refCells h i 1 0 (n + 1) = some (thaw (bRows L)) := by
  unfold refCells
  rw [hi]
  simp only [true_and,Nat.zero_add,bRows_len,hn,Nat.le_refl,if_true,List.drop_zero]
  rw [List.take_of_length_le (by rw [bRows_len,hn]; exact Nat.le_refl _)]
 rw [hn,deepF]
 simp only [e]
 rw [thaw,deepL_fv]
 have hc := chunk_flatten 1 (bRows L) (fun r hr => by obtain ⟨b,_,rfl⟩ := List.mem_map.1 hr; rfl)
 rw [bRows_len,hn] at hc
 simp only [hc]
theorem deep_i {h : List Blk} {i : Nat} {x : FV} {N : Nat} {L : List Bool} (hi : h[i]? = some (.plain 1 (bRows L))) (hN : L.length = N) (hp : 0 < N) : deepA 8 h (.agg [.fv x,.ref i 1 0 N]) = some (.agg [.fv x,.fv (.lst 1 (bRows L))]) := by
 have e := deepF_L (k := 4) hi (by omega)
 rw [hN] at e
 have e1 : deepA 7 h (.ref i 1 0 N) = some (.fv (.lst 1 (bRows L))) := by
  show (match deepF 6 h (.ref i 1 0 N) with
   | some x => some (AV.fv x)
   | none => none) = _
  rw [e]
 have e2 : ∀ x,deepA 7 h (.fv x) = some (.fv x) := fun _ => rfl
 show (subL (deepA 7 h) [.fv x,.ref i 1 0 N]).map AV.agg = _
 simp only [subL,e1,e2,Option.map_some]
theorem deep_L {g : Gra} {w : List Int} {N : Nat} {L : List Bool} (hN : L.length = N) (hp : 0 < N) : deepA 8 (hL g w N L) (.agg [.fv (.int .i64 ((w.length + 1 : Nat) : Int)),.ref 0 1 0 N]) = some (.agg [.fv (.int .i64 ((w.length + 1 : Nat) : Int)),.fv (.lst 1 (bRows L))]) := deep_i rfl hN hp
def hC (g : Gra) (w : List Int) (N : Nat) (L : List Bool) : List Blk := [.box g.cells,.box [.fv (.int .i64 0),.fv .nils],.box [.fv (.int .i64 ((w.length + 1 : Nat) : Int)),.ref 3 1 0 N],.plain 1 (bRows L)]
theorem deep_C {g : Gra} {w : List Int} {N : Nat} {L : List Bool} (hN : L.length = N) (hp : 0 < N) : deepA 8 (hC g w N L) (.agg [.fv (.int .i64 ((w.length + 1 : Nat) : Int)),.ref 3 1 0 N]) = some (.agg [.fv (.int .i64 ((w.length + 1 : Nat) : Int)),.fv (.lst 1 (bRows L))]) := deep_i rfl hN hp
theorem bRows_set (L : List Bool) (k : Nat) : (bRows L).set k [.bool true] = bRows (L.set k true) := by
 simp [bRows,List.map_set]
theorem on_get {W : Nat} {L : List Bool} {q d i j : Nat} (hd : d < 9) (hi : i < W) (hj : j < W) : onR W L q d i j = L.getD (atR W q d i j) false := by
 unfold onR
 rw [decide_eq_true (⟨hd,hi,hj⟩ : d < 9 ∧ i < W ∧ j < W),Bool.true_and]
theorem ok72 (g : Gra) (hg : Small g 100) (hn : Narrow g) (w : List Int) (hw : w.length ≤ 40) (L : List Bool) (N : Nat) (hNe : N = (g.prods.length + 1) * 9 * (w.length + 1) * (w.length + 1)) (hlen : L.length = N) :
  Ok Tryz.prog 72 [g.av,.agg [.fv (.int .i64 ((w.length + 1 : Nat) : Int)),.ref 0 1 0 N],.fv (.lst 1 (ints w))] [.plain 1 (bRows L)] (.ret (.fv (.bool (passS g w L).2))) [.plain 1 (bRows (passS g w L).1)] := by
 have hil := ints_length w
 have hnp := hg.nprods
 have hNp : 0 < N := by
  rw [hNe]
  exact Nat.mul_pos (Nat.mul_pos (Nat.mul_pos (by omega) (by omega)) (by omega)) (by omega)
 have hl1000 : ∀ q ∈ g.prods,q.right.length ≤ 1000 := fun q hq => by have := hn q hq; omega
 refine ok_start (k := 93) (n0 := 1) (rs := [.tmp 6]) mix Tryz.func72 rfl rfl rfl rfl rfl rfl rfl ?_
 simp -implicitDefEqProofs only [awp_draw _ _ Tryzdr72_15,awp_draw _ _ Tryzdr72_19,awp_draw _ _ Tryzdr72_20,Gra.av,
  evx,evy,ofValue,ofCell,List.range,List.range.loop,Array.size,Nat.reduceAdd,Nat.reduceSub,Nat.reduceEqDiff,List.replicate,if_true,if_false,↓reduceIte,reduceCtorEq,elB,evParts,Int.reduceToNat,Int.reduceLE,Int.reduceLT,Int.reduceEq,Nat.reduceMul,Nat.reduceLeDiff,Nat.reduceLT,ty3,ty4,ty28,ty73,ty22,ty23,ty24,ty25,ty27,ty63,ty75]
 refine loop_rule (fun q : Nat => ⟨[.any,.any,.fv (.lst 1 (ints w)),.ptr 1 0 0 0,.ptr 2 0 0 0,.any,.any,.fv (.bool (foldN (qS g w) q (L,false)).2),.fv (.int .i64 ((q : Int) - 1)),.any,.any,.any,.any,.any,.any,.any,.any,.any,.any,.any,.any,.any,.any,.any,.any,.any,.any,.any,.any,.any,.any,.any,.any,.any,.any,.any,.any,.any,.any,.any,.any,.any,.any,.any,.any,.any,.any,.any,.any,.any,.any,.any,.any,.any,.any,.any,.any,.any,.any,.any,.any,.any,.any,.any,.any,.any,.any,.any,.any,.any,.any,.any,.any,.any,.any,.any,.any,.any,.any,.any,.any,.any,.any,.any,.any,.any,.any,.any,.any,.any,.any,.any,.any,.any,.any,.any],hL g w N (foldN (qS g w) q (L,false)).1,[]⟩)
  (fun q => q ≤ g.prods.length + 1) (fun q => g.prods.length + 1 - q) 0 (le_eqwk rfl (by simp [wk,foldN])) (Nat.zero_le _) (fun q hq s1 hs1 => ?_)
 have hq1 := (foldN_stp (f := qS g w) q (L,false) (hlen.trans hNe) (fun t s ht hs => qS_stp hn (by omega) hs)).len
 rw [hlen] at hq1
 have hqs : foldN (qS g w) (q + 1) (L,false) = qS g w q (foldN (qS g w) q (L,false)) := rfl
 by_cases hlt : q ≤ g.prods.length
 ·have hltt : ((q : Int) - 1 < (g.prods.length : Int)) = True := eq_true (by omega)
  generalize foldN (qS g w) q (L,false) = sq at hq1 hqs ⊢
  have hsd := ok50 g ((q : Int) - 1) (isProd_iff.2 ⟨by omega,by omega⟩) hl1000
  rw [side_N hlt] at hsd
  have hd8 := side_narrow hn q
  have hsl := ints_length (sideN g q)
  have hH0 : ∀ M,(hL g w N M)[0]? = some (.plain 1 (bRows M)) := fun _ => rfl
  have hH1 : ∀ M,(hL g w N M)[1]? = some (.box g.cells) := fun _ => rfl
  have hH2 : ∀ M,(hL g w N M)[2]? = some (.box [.fv (.int .i64 ((w.length + 1 : Nat) : Int)),.ref 0 1 0 N]) := fun _ => rfl
  simp -implicitDefEqProofs only [awp_draw _ _ Tryzdr72_15,awp_draw _ _ Tryzdr72_19,awp_draw _ _ Tryzdr72_20,hH1,Gra.cells,List.length_map,hltt,
  evx,evy,ofValue,ofCell,List.range,List.range.loop,Array.size,Nat.reduceAdd,Nat.reduceSub,Nat.reduceEqDiff,List.replicate,if_true,if_false,↓reduceIte,reduceCtorEq,elB,evParts,Int.reduceToNat,Int.reduceLE,Int.reduceLT,Int.reduceEq,Nat.reduceMul,Nat.reduceLeDiff,Nat.reduceLT,ty3,ty4,ty28,ty73,ty22,ty23,ty24,ty25,ty27,ty63,ty75]
  refine callK_ret _ _ _ _ (call_pure (hsd) (fun _ => rfl) (fun _ => rfl)) (ok_nil _ _) ?_
  generalize hside : sideN g q = side at hd8 hsl
  have hqd : qS g w q sq = foldN (fun d s => dS g w q d (side.getD d 0) s) side.length sq := by rw [← hside]; rfl
  rw [hqd] at hqs
  simp -implicitDefEqProofs only [awp_draw _ _ Tryzdr72_15,awp_draw _ _ Tryzdr72_19,awp_draw _ _ Tryzdr72_20,
  evx,evy,ofValue,ofCell,List.range,List.range.loop,Array.size,Nat.reduceAdd,Nat.reduceSub,Nat.reduceEqDiff,List.replicate,if_true,if_false,↓reduceIte,reduceCtorEq,elB,evParts,Int.reduceToNat,Int.reduceLE,Int.reduceLT,Int.reduceEq,Nat.reduceMul,Nat.reduceLeDiff,Nat.reduceLT,ty3,ty4,ty28,ty73,ty22,ty23,ty24,ty25,ty27,ty63,ty75]
  refine loop_rule (fun d : Nat => ⟨[.any,.any,.fv (.lst 1 (ints w)),.ptr 1 0 0 0,.ptr 2 0 0 0,.any,.any,.fv (.bool (foldN (fun d s => dS g w q d (side.getD d 0) s) d sq).2),.fv (.int .i64 ((q : Int) - 1)),.fv (.lst 1 (ints side)),.fv (.int .i64 ((d + 1 : Nat) : Int)),.any,.any,.any,.any,.any,.any,.any,.any,.any,.any,.any,.any,.any,.any,.any,.any,.any,.any,.any,.any,.any,.any,.any,.any,.any,.any,.any,.any,.any,.any,.any,.any,.any,.any,.any,.any,.any,.any,.any,.any,.any,.any,.any,.any,.any,.any,.any,.any,.any,.any,.any,.any,.any,.any,.any,.any,.any,.any,.any,.any,.any,.any,.any,.any,.any,.any,.any,.any,.any,.any,.any,.any,.any,.any,.any,.any,.any,.any,.any,.any,.any,.any,.any,.any,.any],hL g w N (foldN (fun d s => dS g w q d (side.getD d 0) s) d sq).1,[]⟩)
   (fun d => d ≤ side.length) (fun d => side.length - d) 0 (le_eqwk rfl (by simp [wk,foldN])) (Nat.zero_le _) (fun d hd s2 hs2 => ?_)
  have hd1 := (foldN_stp (f := fun d s => dS g w q d (side.getD d 0) s) d sq (hq1.trans hNe) (fun t s ht hs => dS_stp hlt (by omega) hs)).len
  rw [hq1] at hd1
  have hds : foldN (fun d s => dS g w q d (side.getD d 0) s) (d + 1) sq = dS g w q d (side.getD d 0) (foldN (fun d s => dS g w q d (side.getD d 0) s) d sq) := rfl
  by_cases hdl : d < side.length
  ·have hdlt : (((d + 1 : Nat) : Int) ≤ (side.length : Int)) = True := eq_true (by omega)
   generalize foldN (fun d s => dS g w q d (side.getD d 0) s) d sq = sd at hd1 hds ⊢
   have hrd := ints_get side d hdl
   have hgd : side.getD d 0 = side[d] := by rw [List.getD_eq_getElem?_getD,List.getElem?_eq_getElem hdl]; rfl
   rw [hgd] at hds
   generalize side[d] = n at hrd hds
   simp -implicitDefEqProofs only [awp_draw _ _ Tryzdr72_15,awp_draw _ _ Tryzdr72_19,awp_draw _ _ Tryzdr72_20,hsl,hdlt,
  evx,evy,ofValue,ofCell,List.range,List.range.loop,Array.size,Nat.reduceAdd,Nat.reduceSub,Nat.reduceEqDiff,List.replicate,if_true,if_false,↓reduceIte,reduceCtorEq,elB,evParts,Int.reduceToNat,Int.reduceLE,Int.reduceLT,Int.reduceEq,Nat.reduceMul,Nat.reduceLeDiff,Nat.reduceLT,ty3,ty4,ty28,ty73,ty22,ty23,ty24,ty25,ty27,ty63,ty75]
   refine loop_rule (fun i : Nat => ⟨[.any,.any,.fv (.lst 1 (ints w)),.ptr 1 0 0 0,.ptr 2 0 0 0,.any,.any,.fv (.bool (foldN (iS g w q d n) i sd).2),.fv (.int .i64 ((q : Int) - 1)),.fv (.lst 1 (ints side)),.fv (.int .i64 ((d + 1 : Nat) : Int)),.fv (.int .i64 (i : Int)),.any,.any,.any,.any,.any,.any,.any,.any,.any,.any,.any,.any,.any,.any,.any,.any,.any,.any,.any,.any,.any,.any,.any,.any,.any,.any,.any,.any,.any,.any,.any,.any,.any,.any,.any,.any,.any,.any,.any,.any,.any,.any,.any,.any,.any,.any,.any,.any,.any,.any,.any,.any,.any,.any,.any,.any,.any,.any,.any,.any,.any,.any,.any,.any,.any,.any,.any,.any,.any,.any,.any,.any,.any,.any,.any,.any,.any,.any,.any,.any,.any,.any,.any,.any],hL g w N (foldN (iS g w q d n) i sd).1,[]⟩)
    (fun i => i ≤ w.length + 1) (fun i => w.length + 1 - i) 0 (le_eqwk rfl (by simp [wk,foldN])) (Nat.zero_le _) (fun i hi s3 hs3 => ?_)
   have hi1 := (foldN_stp (f := iS g w q d n) i sd (hd1.trans hNe) (fun t s ht hs => iS_stp hlt (by omega) (by omega) hs)).len
   rw [hd1] at hi1
   have his : foldN (iS g w q d n) (i + 1) sd = iS g w q d n i (foldN (iS g w q d n) i sd) := rfl
   by_cases hiw : i ≤ w.length
   ·have hiwt : ((i : Int) ≤ (w.length : Int)) = True := eq_true (by omega)
    generalize foldN (iS g w q d n) i sd = si at hi1 his ⊢
    simp -implicitDefEqProofs only [awp_draw _ _ Tryzdr72_15,awp_draw _ _ Tryzdr72_19,awp_draw _ _ Tryzdr72_20,hil,hiwt,
  evx,evy,ofValue,ofCell,List.range,List.range.loop,Array.size,Nat.reduceAdd,Nat.reduceSub,Nat.reduceEqDiff,List.replicate,if_true,if_false,↓reduceIte,reduceCtorEq,elB,evParts,Int.reduceToNat,Int.reduceLE,Int.reduceLT,Int.reduceEq,Nat.reduceMul,Nat.reduceLeDiff,Nat.reduceLT,ty3,ty4,ty28,ty73,ty22,ty23,ty24,ty25,ty27,ty63,ty75]
    refine loop_rule (fun t : Nat => ⟨[.any,.any,.fv (.lst 1 (ints w)),.ptr 1 0 0 0,.ptr 2 0 0 0,.any,.any,.fv (.bool (foldN (fun t => jS g w q d i n (i + t)) t si).2),.fv (.int .i64 ((q : Int) - 1)),.fv (.lst 1 (ints side)),.fv (.int .i64 ((d + 1 : Nat) : Int)),.fv (.int .i64 (i : Int)),.fv (.int .i64 ((i + t : Nat) : Int)),.any,.any,.any,.any,.any,.any,.any,.any,.any,.any,.any,.any,.any,.any,.any,.any,.any,.any,.any,.any,.any,.any,.any,.any,.any,.any,.any,.any,.any,.any,.any,.any,.any,.any,.any,.any,.any,.any,.any,.any,.any,.any,.any,.any,.any,.any,.any,.any,.any,.any,.any,.any,.any,.any,.any,.any,.any,.any,.any,.any,.any,.any,.any,.any,.any,.any,.any,.any,.any,.any,.any,.any,.any,.any,.any,.any,.any,.any,.any,.any,.any,.any,.any],hL g w N (foldN (fun t => jS g w q d i n (i + t)) t si).1,[]⟩)
     (fun t => t ≤ w.length + 1 - i) (fun t => w.length + 1 - i - t) 0 (le_eqwk rfl (by simp [wk,foldN])) (Nat.zero_le _) (fun t ht s4 hs4 => ?_)
    have hj1 := (foldN_stp (f := fun t => jS g w q d i n (i + t)) t si (hi1.trans hNe) (fun t s ht hs => jS_stp hlt (by omega) (by omega) hs)).len
    rw [hi1] at hj1
    have hjs : foldN (fun t => jS g w q d i n (i + t)) (t + 1) si = jS g w q d i n (i + t) (foldN (fun t => jS g w q d i n (i + t)) t si) := rfl
    by_cases hjw : i + t ≤ w.length
    ·have hjwt : (((i + t : Nat) : Int) ≤ (w.length : Int)) = True := eq_true (by omega)
     generalize foldN (fun t => jS g w q d i n (i + t)) t si = sj at hj1 hjs ⊢
     have hd1w : IntKind.wrap .i64 (((d + 1 : Nat) : Int) - 1) = (d : Int) := by rw [wrap_small (by omega) (by omega)]; omega
     have hat := fun R => ok41 (w.length + 1) q d i (i + t) ((q : Int) - 1) (by omega) R (by omega) (by omega) (by omega) (by omega) (by omega)
     have hbl := bnd_lt (g := g) (w := w) (hj1.trans hNe) (q := q) (d := d) (i := i) (j := i + t) hlt (by omega) (by omega) (by omega)
     have hbr := bRows_get sj.1 _ hbl
     have hon := on_get (W := w.length + 1) (L := sj.1) (q := q) (d := d) (i := i) (j := i + t) (by omega) (by omega) (by omega)
     have hz0 : (0 ≤ ((atR (w.length + 1) q d i (i + t) : Nat) : Int)) = True := eq_true (by omega)
     have hzN : (((atR (w.length + 1) q d i (i + t) : Nat) : Int) < (N : Int)) = True := eq_true (by omega)
     rw [← hon] at hbr
     simp -implicitDefEqProofs only [awp_draw _ _ Tryzdr72_15,awp_draw _ _ Tryzdr72_19,awp_draw _ _ Tryzdr72_20,hil,hjwt,hH2,hd1w,
  evx,evy,ofValue,ofCell,List.range,List.range.loop,Array.size,Nat.reduceAdd,Nat.reduceSub,Nat.reduceEqDiff,List.replicate,if_true,if_false,↓reduceIte,reduceCtorEq,elB,evParts,Int.reduceToNat,Int.reduceLE,Int.reduceLT,Int.reduceEq,Nat.reduceMul,Nat.reduceLeDiff,Nat.reduceLT,ty3,ty4,ty28,ty73,ty22,ty23,ty24,ty25,ty27,ty63,ty75]
     refine callK_ret _ _ _ _ (call_deep (hat _) (by simp only [deepAs,deep_L hj1 hNp]; rfl) rfl) (by first | exact ok_none _ _ | exact ok_nil _ _) ?_
     cases hc : onR (w.length + 1) sj.1 q d i (i + t) with
     | false =>
      rw [hc] at hbr
      have e : jS g w q d i n (i + t) sj = sj := by unfold jS; rw [if_neg (by rw [hc]; simp)]
      rw [e] at hjs
      simp -implicitDefEqProofs only [awp_draw _ _ Tryzdr72_15,awp_draw _ _ Tryzdr72_19,awp_draw _ _ Tryzdr72_20,hzN,hH0,hbr,Nat.zero_add,wsucc (i + t) (by omega),
  evx,evy,ofValue,ofCell,List.range,List.range.loop,Array.size,Nat.reduceAdd,Nat.reduceSub,Nat.reduceEqDiff,List.replicate,if_true,if_false,↓reduceIte,reduceCtorEq,elB,evParts,Int.reduceToNat,Int.reduceLE,Int.reduceLT,Int.reduceEq,Nat.reduceMul,Nat.reduceLeDiff,Nat.reduceLT,ty3,ty4,ty28,ty73,ty22,ty23,ty24,ty25,ty27,ty63,ty75]
      exact back_intro hs4 (t + 1) (le_eqwk (by rw [hjs]) (by simp [wk,hjs]; omega)) (by omega) (by omega)
     | true =>
      rw [hc] at hbr
      have e : jS g w q d i n (i + t) sj = foldN (fun k => cellS g w q d i (i + t) (i + t + k) n) (w.length + 1 - (i + t)) sj := by unfold jS; rw [if_pos hc]
      rw [e] at hjs
      simp -implicitDefEqProofs only [awp_draw _ _ Tryzdr72_15,awp_draw _ _ Tryzdr72_19,awp_draw _ _ Tryzdr72_20,hzN,hH0,hbr,Nat.zero_add,
  evx,evy,ofValue,ofCell,List.range,List.range.loop,Array.size,Nat.reduceAdd,Nat.reduceSub,Nat.reduceEqDiff,List.replicate,if_true,if_false,↓reduceIte,reduceCtorEq,elB,evParts,Int.reduceToNat,Int.reduceLE,Int.reduceLT,Int.reduceEq,Nat.reduceMul,Nat.reduceLeDiff,Nat.reduceLT,ty3,ty4,ty28,ty73,ty22,ty23,ty24,ty25,ty27,ty63,ty75]
      refine loop_rule (fun k : Nat => ⟨[.any,.any,.fv (.lst 1 (ints w)),.ptr 1 0 0 0,.ptr 2 0 0 0,.any,.any,.fv (.bool (foldN (fun k => cellS g w q d i (i + t) (i + t + k) n) k sj).2),.fv (.int .i64 ((q : Int) - 1)),.fv (.lst 1 (ints side)),.fv (.int .i64 ((d + 1 : Nat) : Int)),.fv (.int .i64 (i : Int)),.fv (.int .i64 ((i + t : Nat) : Int)),.fv (.int .i64 ((i + t + k : Nat) : Int)),.any,.any,.any,.any,.any,.any,.any,.any,.any,.any,.any,.any,.any,.any,.any,.any,.any,.any,.any,.any,.any,.any,.any,.any,.any,.any,.any,.any,.any,.any,.any,.any,.any,.any,.any,.any,.any,.any,.any,.any,.any,.any,.any,.any,.any,.any,.any,.any,.any,.any,.any,.any,.any,.any,.any,.any,.any,.any,.any,.any,.any,.any,.any,.any,.any,.any,.any,.any,.any,.any,.any,.any,.any,.any,.any,.any,.any,.any,.any,.any,.any,.any],hL g w N (foldN (fun k => cellS g w q d i (i + t) (i + t + k) n) k sj).1,[]⟩)
       (fun k => k ≤ w.length + 1 - (i + t)) (fun k => w.length + 1 - (i + t) - k) 0 (le_eqwk rfl (by simp [wk,foldN])) (Nat.zero_le _) (fun k hk s5 hs5 => ?_)
      have hk1 := (foldN_stp (f := fun k => cellS g w q d i (i + t) (i + t + k) n) k sj (hj1.trans hNe) (fun k s hk hs => cellS_stp (by omega) (by omega) (by omega) (bnd_lt hs hlt (by omega) (by omega) (by omega)))).len
      rw [hj1] at hk1
      have hks : foldN (fun k => cellS g w q d i (i + t) (i + t + k) n) (k + 1) sj = cellS g w q d i (i + t) (i + t + k) n (foldN (fun k => cellS g w q d i (i + t) (i + t + k) n) k sj) := rfl
      by_cases hkw : i + t + k ≤ w.length
      ·have hkwt : (((i + t + k : Nat) : Int) ≤ (w.length : Int)) = True := eq_true (by omega)
       generalize foldN (fun k => cellS g w q d i (i + t) (i + t + k) n) k sj = sk at hk1 hks ⊢
       have hat2 := fun R => ok41 (w.length + 1) q (d + 1) i (i + t + k) ((q : Int) - 1) (by omega) R (by omega) (by omega) (by omega) (by omega) (by omega)
       have hbl2 := bnd_lt (g := g) (w := w) (hk1.trans hNe) (q := q) (d := d + 1) (i := i) (j := i + t + k) hlt (by omega) (by omega) (by omega)
       have hbr2 := bRows_get sk.1 _ hbl2
       have hon2 := on_get (W := w.length + 1) (L := sk.1) (q := q) (d := d + 1) (i := i) (j := i + t + k) (by omega) (by omega) (by omega)
       have hzN2 : (((atR (w.length + 1) q (d + 1) i (i + t + k) : Nat) : Int) < (N : Int)) = True := eq_true (by omega)
       have hwh := ok102 g hg hn w hw sk.1 (hk1.trans hNe) n (i + t) (i + t + k) (by omega) (by omega)
       rw [← hon2] at hbr2
       simp -implicitDefEqProofs only [awp_draw _ _ Tryzdr72_15,awp_draw _ _ Tryzdr72_19,awp_draw _ _ Tryzdr72_20,hil,hkwt,hH2,
  evx,evy,ofValue,ofCell,List.range,List.range.loop,Array.size,Nat.reduceAdd,Nat.reduceSub,Nat.reduceEqDiff,List.replicate,if_true,if_false,↓reduceIte,reduceCtorEq,elB,evParts,Int.reduceToNat,Int.reduceLE,Int.reduceLT,Int.reduceEq,Nat.reduceMul,Nat.reduceLeDiff,Nat.reduceLT,ty3,ty4,ty28,ty73,ty22,ty23,ty24,ty25,ty27,ty63,ty75]
       refine callK_ret _ _ _ _ (call_deep (hat2 _) (by simp only [deepAs,deep_L hk1 hNp]; rfl) rfl) (by first | exact ok_none _ _ | exact ok_nil _ _) ?_
       cases hc2 : onR (w.length + 1) sk.1 q (d + 1) i (i + t + k) with
       | true =>
        rw [hc2] at hbr2
        have e : cellS g w q d i (i + t) (i + t + k) n sk = sk := by unfold cellS; rw [if_neg (by rw [hc2]; simp)]
        rw [e] at hks
        simp -implicitDefEqProofs only [awp_draw _ _ Tryzdr72_15,awp_draw _ _ Tryzdr72_19,awp_draw _ _ Tryzdr72_20,hzN2,hH0,hbr2,Nat.zero_add,wsucc (i + t + k) (by omega),
  evx,evy,ofValue,ofCell,List.range,List.range.loop,Array.size,Nat.reduceAdd,Nat.reduceSub,Nat.reduceEqDiff,List.replicate,if_true,if_false,↓reduceIte,reduceCtorEq,elB,evParts,Int.reduceToNat,Int.reduceLE,Int.reduceLT,Int.reduceEq,Nat.reduceMul,Nat.reduceLeDiff,Nat.reduceLT,ty3,ty4,ty28,ty73,ty22,ty23,ty24,ty25,ty27,ty63,ty75]
        exact back_intro hs5 (k + 1) (le_eqwk (by rw [hks]) (by simp [wk,hks]; omega)) (by omega) (by omega)
       | false =>
        rw [hc2] at hbr2
        have hd0 : (0 ≤ (d : Int)) = True := eq_true (by omega)
        simp -implicitDefEqProofs only [awp_draw _ _ Tryzdr72_15,awp_draw _ _ Tryzdr72_19,awp_draw _ _ Tryzdr72_20,hzN2,hH0,hH1,hH2,hbr2,Nat.zero_add,Gra.cells,hd1w,hrd,
  evx,evy,ofValue,ofCell,List.range,List.range.loop,Array.size,Nat.reduceAdd,Nat.reduceSub,Nat.reduceEqDiff,List.replicate,if_true,if_false,↓reduceIte,reduceCtorEq,elB,evParts,Int.reduceToNat,Int.reduceLE,Int.reduceLT,Int.reduceEq,Nat.reduceMul,Nat.reduceLeDiff,Nat.reduceLT,ty3,ty4,ty28,ty73,ty22,ty23,ty24,ty25,ty27,ty63,ty75]
        refine callK_ret _ _ _ _ (call_deep hwh (by simp only [deepAs,deep_L hk1 hNp]; rfl) rfl) (by first | exact ok_none _ _ | exact ok_nil _ _) ?_
        cases hc3 : wholeR g w (onR (w.length + 1) sk.1) n (i + t) (i + t + k) with
        | false =>
         have e : cellS g w q d i (i + t) (i + t + k) n sk = sk := by unfold cellS; rw [if_neg (by rw [hc3]; simp)]
         rw [e] at hks
         simp -implicitDefEqProofs only [awp_draw _ _ Tryzdr72_15,awp_draw _ _ Tryzdr72_19,awp_draw _ _ Tryzdr72_20,wsucc (i + t + k) (by omega),
  evx,evy,ofValue,ofCell,List.range,List.range.loop,Array.size,Nat.reduceAdd,Nat.reduceSub,Nat.reduceEqDiff,List.replicate,if_true,if_false,↓reduceIte,reduceCtorEq,elB,evParts,Int.reduceToNat,Int.reduceLE,Int.reduceLT,Int.reduceEq,Nat.reduceMul,Nat.reduceLeDiff,Nat.reduceLT,ty3,ty4,ty28,ty73,ty22,ty23,ty24,ty25,ty27,ty63,ty75]
         exact back_intro hs5 (k + 1) (le_eqwk (by rw [hks]) (by simp [wk,hks]; omega)) (by omega) (by omega)
        | true =>
         have e : cellS g w q d i (i + t) (i + t + k) n sk = (sk.1.set (atR (w.length + 1) q (d + 1) i (i + t + k)) true,true) := by unfold cellS; rw [if_pos ⟨hc2,hc3⟩]
         rw [e] at hks
         simp -implicitDefEqProofs only [awp_draw _ _ Tryzdr72_15,awp_draw _ _ Tryzdr72_19,awp_draw _ _ Tryzdr72_20,hH2,
  evx,evy,ofValue,ofCell,List.range,List.range.loop,Array.size,Nat.reduceAdd,Nat.reduceSub,Nat.reduceEqDiff,List.replicate,if_true,if_false,↓reduceIte,reduceCtorEq,elB,evParts,Int.reduceToNat,Int.reduceLE,Int.reduceLT,Int.reduceEq,Nat.reduceMul,Nat.reduceLeDiff,Nat.reduceLT,ty3,ty4,ty28,ty73,ty22,ty23,ty24,ty25,ty27,ty63,ty75]
         refine callK_ret _ _ _ _ (call_deep (hat2 _) (by simp only [deepAs,deep_L hk1 hNp]; rfl) rfl) (by first | exact ok_none _ _ | exact ok_nil _ _) ?_
         simp -implicitDefEqProofs only [awp_draw _ _ Tryzdr72_15,awp_draw _ _ Tryzdr72_19,awp_draw _ _ Tryzdr72_20,hzN2,hH0,hbr2,Nat.zero_add,wsucc (i + t + k) (by omega),
  evx,evy,ofValue,ofCell,List.range,List.range.loop,Array.size,Nat.reduceAdd,Nat.reduceSub,Nat.reduceEqDiff,List.replicate,if_true,if_false,↓reduceIte,reduceCtorEq,elB,evParts,Int.reduceToNat,Int.reduceLE,Int.reduceLT,Int.reduceEq,Nat.reduceMul,Nat.reduceLeDiff,Nat.reduceLT,ty3,ty4,ty28,ty73,ty22,ty23,ty24,ty25,ty27,ty63,ty75]
         exact ⟨by kernel_rfl,back_intro hs5 (k + 1) (le_eqwk (by rw [hks,bRows_set]; rfl) (by simp [wk,hks]; omega)) (by omega) (by omega)⟩
      ·obtain rfl : k = w.length + 1 - (i + t) := by omega
       have hkwf : (((i + t + (w.length + 1 - (i + t)) : Nat) : Int) ≤ (w.length : Int)) = False := eq_false (by omega)
       rw [← hjs]
       simp -implicitDefEqProofs only [awp_draw _ _ Tryzdr72_15,awp_draw _ _ Tryzdr72_19,awp_draw _ _ Tryzdr72_20,hil,hkwf,wsucc (i + t) (by omega),
  evx,evy,ofValue,ofCell,List.range,List.range.loop,Array.size,Nat.reduceAdd,Nat.reduceSub,Nat.reduceEqDiff,List.replicate,if_true,if_false,↓reduceIte,reduceCtorEq,elB,evParts,Int.reduceToNat,Int.reduceLE,Int.reduceLT,Int.reduceEq,Nat.reduceMul,Nat.reduceLeDiff,Nat.reduceLT,ty3,ty4,ty28,ty73,ty22,ty23,ty24,ty25,ty27,ty63,ty75]
       exact back_intro hs4 (t + 1) (le_wk (by simp [wk]; omega)) (by omega) (by omega)
    ·obtain rfl : t = w.length + 1 - i := by omega
     have hjwf : (((i + (w.length + 1 - i) : Nat) : Int) ≤ (w.length : Int)) = False := eq_false (by omega)
     have e : foldN (fun t => jS g w q d i n (i + t)) (w.length + 1 - i) si = iS g w q d n i si := rfl
     rw [e,← his]
     simp -implicitDefEqProofs only [awp_draw _ _ Tryzdr72_15,awp_draw _ _ Tryzdr72_19,awp_draw _ _ Tryzdr72_20,hil,hjwf,wsucc i (by omega),
  evx,evy,ofValue,ofCell,List.range,List.range.loop,Array.size,Nat.reduceAdd,Nat.reduceSub,Nat.reduceEqDiff,List.replicate,if_true,if_false,↓reduceIte,reduceCtorEq,elB,evParts,Int.reduceToNat,Int.reduceLE,Int.reduceLT,Int.reduceEq,Nat.reduceMul,Nat.reduceLeDiff,Nat.reduceLT,ty3,ty4,ty28,ty73,ty22,ty23,ty24,ty25,ty27,ty63,ty75]
     exact back_intro hs3 (i + 1) (le_wk (by simp [wk])) (by omega) (by omega)
   ·obtain rfl : i = w.length + 1 := by omega
    have hiwf : (((w.length + 1 : Nat) : Int) ≤ (w.length : Int)) = False := eq_false (by omega)
    have e : foldN (iS g w q d n) (w.length + 1) sd = dS g w q d n sd := rfl
    rw [e,← hds]
    simp -implicitDefEqProofs only [awp_draw _ _ Tryzdr72_15,awp_draw _ _ Tryzdr72_19,awp_draw _ _ Tryzdr72_20,hil,hiwf,wsucc (d + 1) (by omega),
  evx,evy,ofValue,ofCell,List.range,List.range.loop,Array.size,Nat.reduceAdd,Nat.reduceSub,Nat.reduceEqDiff,List.replicate,if_true,if_false,↓reduceIte,reduceCtorEq,elB,evParts,Int.reduceToNat,Int.reduceLE,Int.reduceLT,Int.reduceEq,Nat.reduceMul,Nat.reduceLeDiff,Nat.reduceLT,ty3,ty4,ty28,ty73,ty22,ty23,ty24,ty25,ty27,ty63,ty75]
    exact back_intro hs2 (d + 1) (le_wk (by simp [wk])) (by omega) (by omega)
  ·obtain rfl : d = side.length := by omega
   have hdlf : (((side.length + 1 : Nat) : Int) ≤ (side.length : Int)) = False := eq_false (by omega)
   rw [← hqs]
   have hq2 : IntKind.wrap .i64 ((q : Int) - 1 + 1) = ((q + 1 : Nat) : Int) - 1 := by rw [wrap_small (by omega) (by omega)]; omega
   simp -implicitDefEqProofs only [awp_draw _ _ Tryzdr72_15,awp_draw _ _ Tryzdr72_19,awp_draw _ _ Tryzdr72_20,hsl,hdlf,hq2,
  evx,evy,ofValue,ofCell,List.range,List.range.loop,Array.size,Nat.reduceAdd,Nat.reduceSub,Nat.reduceEqDiff,List.replicate,if_true,if_false,↓reduceIte,reduceCtorEq,elB,evParts,Int.reduceToNat,Int.reduceLE,Int.reduceLT,Int.reduceEq,Nat.reduceMul,Nat.reduceLeDiff,Nat.reduceLT,ty3,ty4,ty28,ty73,ty22,ty23,ty24,ty25,ty27,ty63,ty75]
   exact back_intro hs1 (q + 1) (le_wk (by simp [wk])) (by omega) (by omega)
 ·obtain rfl : q = g.prods.length + 1 := by omega
  have hltf : (((g.prods.length + 1 : Nat) : Int) - 1 < (g.prods.length : Int)) = False := eq_false (by omega)
  have hH1 : ∀ M,(hL g w N M)[1]? = some (.box g.cells) := fun _ => rfl
  have e : foldN (qS g w) (g.prods.length + 1) (L,false) = passS g w L := rfl
  rw [e]
  simp -implicitDefEqProofs only [awp_draw _ _ Tryzdr72_15,awp_draw _ _ Tryzdr72_19,awp_draw _ _ Tryzdr72_20,hH1,Gra.cells,List.length_map,hltf,
  evx,evy,ofValue,ofCell,List.range,List.range.loop,Array.size,Nat.reduceAdd,Nat.reduceSub,Nat.reduceEqDiff,List.replicate,if_true,if_false,↓reduceIte,reduceCtorEq,elB,evParts,Int.reduceToNat,Int.reduceLE,Int.reduceLT,Int.reduceEq,Nat.reduceMul,Nat.reduceLeDiff,Nat.reduceLT,ty3,ty4,ty28,ty73,ty22,ty23,ty24,ty25,ty27,ty63,ty75]
  exact le_to [0] [] rfl (by simp) (by simp [hL]) (by simp) (by simp) rfl
theorem foldN_len {f : Nat → List Bool → List Bool} (h : ∀ t L,(f t L).length = L.length) : ∀ (n : Nat) (L : List Bool),(foldN f n L).length = L.length
 | 0,_ => rfl
 | n + 1,L => by
  show (f n (foldN f n L)).length = _
  rw [h,foldN_len h n]
theorem reps (N : Nat) : List.replicate N [FV.bool false] = bRows (List.replicate N false) := by simp [bRows]
theorem ok40 (g : Gra) (hg : Small g 100) (hn : Narrow g) (w : List Int) (hw : w.length ≤ 40) (N : Nat) (hNe : N = (g.prods.length + 1) * 9 * (w.length + 1) * (w.length + 1)) :
  Ok Tryz.prog 40 [g.av,.fv (.lst 1 (ints w))] [] (.ret (.agg [.fv (.int .i64 ((w.length + 1 : Nat) : Int)),.ref 0 1 0 N])) [.plain 1 (bRows (chartS g w))] := by
 have hil := ints_length w
 have hnp := hg.nprods
 have hNp : 0 < N := by
  rw [hNe]
  exact Nat.mul_pos (Nat.mul_pos (Nat.mul_pos (by omega) (by omega)) (by omega)) (by omega)
 have b1 : (g.prods.length + 1) * 9 * (w.length + 1) ≤ 909 * 41 := Nat.mul_le_mul (by omega) (by omega)
 have b2 : N ≤ 909 * 41 * 41 := by rw [hNe]; exact Nat.mul_le_mul b1 (by omega)
 have w1 := wsucc w.length (by omega)
 have w2 := wsucc g.prods.length (by omega)
 have w3 : IntKind.wrap .i64 (((g.prods.length + 1 : Nat) : Int) * 9) = (((g.prods.length + 1) * 9 : Nat) : Int) := by rw [wrap_small (by omega) (by omega)]; omega
 have w4 : IntKind.wrap .i64 ((((g.prods.length + 1) * 9 : Nat) : Int) * ((w.length + 1 : Nat) : Int)) = (((g.prods.length + 1) * 9 * (w.length + 1) : Nat) : Int) := by rw [← Int.natCast_mul]; exact wrap_small (by omega) (by omega)
 have w5 : IntKind.wrap .i64 ((((g.prods.length + 1) * 9 * (w.length + 1) : Nat) : Int) * ((w.length + 1 : Nat) : Int)) = (N : Int) := by rw [← Int.natCast_mul,← hNe]; exact wrap_small (by omega) (by omega)
 refine ok_start (k := 49) (n0 := 0) (rs := [.cell 4 75]) mix Tryz.func40 rfl rfl rfl rfl rfl rfl rfl ?_
 simp -implicitDefEqProofs only [awp_draw _ _ Tryzdr40_9,Gra.av,hil,w1,w2,w3,w4,w5,List.length_map,stB_boxA,splice_all,List.all_cons,List.all_nil,Bool.and_self,reps,
  evx,evy,ofValue,ofCell,List.range,List.range.loop,Array.size,Nat.reduceAdd,Nat.reduceSub,Nat.reduceEqDiff,List.replicate,if_true,if_false,↓reduceIte,reduceCtorEq,elB,evParts,Int.reduceToNat,Int.reduceLE,Int.reduceLT,Int.reduceEq,Nat.reduceMul,Nat.reduceLeDiff,Nat.reduceLT,ty3,ty4,ty28,ty73,ty22,ty23,ty24,ty25,ty27,ty63,ty75]
 refine ⟨⟨by omega,by omega⟩,?_⟩
 have hH0 : ∀ M,(hC g w N M)[0]? = some (.box g.cells) := fun _ => rfl
 have hH1 : ∀ M,(hC g w N M)[1]? = some (.box [.fv (.int .i64 0),.fv .nils]) := fun _ => rfl
 have hH2 : ∀ M,(hC g w N M)[2]? = some (.box [.fv (.int .i64 ((w.length + 1 : Nat) : Int)),.ref 3 1 0 N]) := fun _ => rfl
 have hH3 : ∀ M,(hC g w N M)[3]? = some (.plain 1 (bRows M)) := fun _ => rfl
 refine loop_rule (fun q : Nat => ⟨[.any,.fv (.lst 1 (ints w)),.ptr 0 0 0 0,.any,.ptr 1 0 0 0,.ptr 2 0 0 0,.fv (.int .i64 ((q : Int) - 1)),.any,.any,.any,.any,.any,.any,.any,.any,.any,.any,.any,.any,.any,.any,.any,.any,.any,.any,.any,.any,.any,.any,.any,.any,.any,.any,.any,.any,.any,.any,.any,.any,.any,.any,.any,.any,.any,.any,.any,.any,.any,.any,.any,.any],hC g w N (iniR g w q),[]⟩)
  (fun q => q ≤ g.prods.length + 1) (fun q => g.prods.length + 1 - q) 0 (le_eqwk (by show _ = hC g w N (List.replicate ((g.prods.length + 1) * 9 * (w.length + 1) * (w.length + 1)) false); rw [← hNe]; rfl) (by simp [wk])) (Nat.zero_le _) (fun q hq s1 hs1 => ?_)
 by_cases hlt : q ≤ g.prods.length
 ·have hltt : ((q : Int) - 1 < (g.prods.length : Int)) = True := eq_true (by omega)
  have hqs : iniR g w (q + 1) = iniQ g w q (iniR g w q) (w.length + 1) := rfl
  have hql := iniR_len (g := g) (w := w) q
  generalize iniR g w q = Lq at hqs hql ⊢
  simp -implicitDefEqProofs only [awp_draw _ _ Tryzdr40_9,hH0,Gra.cells,List.length_map,hltt,
  evx,evy,ofValue,ofCell,List.range,List.range.loop,Array.size,Nat.reduceAdd,Nat.reduceSub,Nat.reduceEqDiff,List.replicate,if_true,if_false,↓reduceIte,reduceCtorEq,elB,evParts,Int.reduceToNat,Int.reduceLE,Int.reduceLT,Int.reduceEq,Nat.reduceMul,Nat.reduceLeDiff,Nat.reduceLT,ty3,ty4,ty28,ty73,ty22,ty23,ty24,ty25,ty27,ty63,ty75]
  refine loop_rule (fun i : Nat => ⟨[.any,.fv (.lst 1 (ints w)),.ptr 0 0 0 0,.any,.ptr 1 0 0 0,.ptr 2 0 0 0,.fv (.int .i64 ((q : Int) - 1)),.fv (.int .i64 (i : Int)),.any,.any,.any,.any,.any,.any,.any,.any,.any,.any,.any,.any,.any,.any,.any,.any,.any,.any,.any,.any,.any,.any,.any,.any,.any,.any,.any,.any,.any,.any,.any,.any,.any,.any,.any,.any,.any,.any,.any,.any,.any,.any,.any],hC g w N (iniQ g w q Lq i),[]⟩)
   (fun i => i ≤ w.length + 1) (fun i => w.length + 1 - i) 0 (le_eqwk rfl (by simp [wk])) (Nat.zero_le _) (fun i hi s2 hs2 => ?_)
  by_cases hiw : i ≤ w.length
  ·have hiwt : ((i : Int) ≤ (w.length : Int)) = True := eq_true (by omega)
   have his : iniQ g w q Lq (i + 1) = (iniQ g w q Lq i).set (atR (w.length + 1) q 0 i i) true := rfl
   have hil2 : (iniQ g w q Lq i).length = N := by rw [hNe,← hql]; exact foldN_len (fun _ _ => List.length_set ..) _ _
   generalize iniQ g w q Lq i = Li at his hil2 ⊢
   have hat := fun R => ok41 (w.length + 1) q 0 i i ((q : Int) - 1) (by omega) R (by omega) (by omega) (by omega) (by omega) (by omega)
   have hbl := bnd_lt (g := g) (w := w) (hil2.trans hNe) (q := q) (d := 0) (i := i) (j := i) hlt (by omega) (by omega) (by omega)
   have hbr := bRows_get Li _ hbl
   have hzN : (((atR (w.length + 1) q 0 i i : Nat) : Int) < (N : Int)) = True := eq_true (by omega)
   simp -implicitDefEqProofs only [awp_draw _ _ Tryzdr40_9,hil,hiwt,hH2,
  evx,evy,ofValue,ofCell,List.range,List.range.loop,Array.size,Nat.reduceAdd,Nat.reduceSub,Nat.reduceEqDiff,List.replicate,if_true,if_false,↓reduceIte,reduceCtorEq,elB,evParts,Int.reduceToNat,Int.reduceLE,Int.reduceLT,Int.reduceEq,Nat.reduceMul,Nat.reduceLeDiff,Nat.reduceLT,ty3,ty4,ty28,ty73,ty22,ty23,ty24,ty25,ty27,ty63,ty75]
   refine callK_ret _ _ _ _ (call_deep (hat _) (by simp only [deepAs,deep_C hil2 hNp]; rfl) rfl) (by first | exact ok_none _ _ | exact ok_nil _ _) ?_
   simp -implicitDefEqProofs only [awp_draw _ _ Tryzdr40_9,hzN,hH3,hbr,Nat.zero_add,wsucc i (by omega),
  evx,evy,ofValue,ofCell,List.range,List.range.loop,Array.size,Nat.reduceAdd,Nat.reduceSub,Nat.reduceEqDiff,List.replicate,if_true,if_false,↓reduceIte,reduceCtorEq,elB,evParts,Int.reduceToNat,Int.reduceLE,Int.reduceLT,Int.reduceEq,Nat.reduceMul,Nat.reduceLeDiff,Nat.reduceLT,ty3,ty4,ty28,ty73,ty22,ty23,ty24,ty25,ty27,ty63,ty75]
   exact ⟨by kernel_rfl,back_intro hs2 (i + 1) (le_eqwk (by rw [his,bRows_set]; rfl) (by simp [wk])) (by omega) (by omega)⟩
  ·obtain rfl : i = w.length + 1 := by omega
   have hiwf : (((w.length + 1 : Nat) : Int) ≤ (w.length : Int)) = False := eq_false (by omega)
   have hq2 : IntKind.wrap .i64 ((q : Int) - 1 + 1) = ((q + 1 : Nat) : Int) - 1 := by rw [wrap_small (by omega) (by omega)]; omega
   rw [← hqs]
   simp -implicitDefEqProofs only [awp_draw _ _ Tryzdr40_9,hil,hiwf,hq2,
  evx,evy,ofValue,ofCell,List.range,List.range.loop,Array.size,Nat.reduceAdd,Nat.reduceSub,Nat.reduceEqDiff,List.replicate,if_true,if_false,↓reduceIte,reduceCtorEq,elB,evParts,Int.reduceToNat,Int.reduceLE,Int.reduceLT,Int.reduceEq,Nat.reduceMul,Nat.reduceLeDiff,Nat.reduceLT,ty3,ty4,ty28,ty73,ty22,ty23,ty24,ty25,ty27,ty63,ty75]
   exact back_intro hs1 (q + 1) (le_wk (by simp [wk])) (by omega) (by omega)
 ·obtain rfl : q = g.prods.length + 1 := by omega
  have hltf : (((g.prods.length + 1 : Nat) : Int) - 1 < (g.prods.length : Int)) = False := eq_false (by omega)
  simp -implicitDefEqProofs only [awp_draw _ _ Tryzdr40_9,hH0,Gra.cells,List.length_map,hltf,
  evx,evy,ofValue,ofCell,List.range,List.range.loop,Array.size,Nat.reduceAdd,Nat.reduceSub,Nat.reduceEqDiff,List.replicate,if_true,if_false,↓reduceIte,reduceCtorEq,elB,evParts,Int.reduceToNat,Int.reduceLE,Int.reduceLT,Int.reduceEq,Nat.reduceMul,Nat.reduceLeDiff,Nat.reduceLT,ty3,ty4,ty28,ty73,ty22,ty23,ty24,ty25,ty27,ty63,ty75]
  refine loop_rule (fun L : List Bool => ⟨[.any,.fv (.lst 1 (ints w)),.ptr 0 0 0 0,.any,.ptr 1 0 0 0,.ptr 2 0 0 0,.any,.any,.any,.any,.any,.any,.any,.any,.any,.any,.any,.any,.any,.any,.any,.any,.any,.any,.any,.any,.any,.any,.any,.any,.any,.any,.any,.any,.any,.any,.any,.any,.any,.any,.any,.any,.any,.any,.any,.any,.any,.any,.any,.any,.any],hC g w N L,[]⟩)
   (fun L => L.length = N ∧ lastS g w L = chartS g w) (fun L => lackS L) (iniR g w (g.prods.length + 1)) (le_eqwk rfl (by simp [wk])) ⟨by rw [iniR_len,hNe],rfl⟩ (fun L hL s2 hs2 => ?_)
  obtain ⟨hL1,hL2⟩ := hL
  have hps := ok72 g hg hn w hw L N hNe hL1
  have hlk := fun h => pass_lack (w := w) hn (hL1.trans hNe) h
  have hon := fun h => lastS_on (w := w) hn (hL1.trans hNe) h
  have hof := fun h => lastS_off (g := g) (w := w) (L := L) h
  generalize passS g w L = r at hps hlk hon hof
  obtain ⟨L',b⟩ := r
  simp -implicitDefEqProofs only [awp_draw _ _ Tryzdr40_9,hH0,hH2,Gra.cells,
  evx,evy,ofValue,ofCell,List.range,List.range.loop,Array.size,Nat.reduceAdd,Nat.reduceSub,Nat.reduceEqDiff,List.replicate,if_true,if_false,↓reduceIte,reduceCtorEq,elB,evParts,Int.reduceToNat,Int.reduceLE,Int.reduceLT,Int.reduceEq,Nat.reduceMul,Nat.reduceLeDiff,Nat.reduceLT,ty3,ty4,ty28,ty73,ty22,ty23,ty24,ty25,ty27,ty63,ty75]
  refine callK_ret _ _ _ _ (call_lent [3] hps (by simp [subAny,subA,subL,mkSub,idx,Gra.av]) rfl (by simp) (by simp [hC,Blk.live])) (by first | exact ok_none _ _ | exact ok_nil _ _) ?_
  cases b with
  | true =>
   simp only [AOut.sub]
   simp -implicitDefEqProofs only [awp_draw _ _ Tryzdr40_9,subAny,subA,subL,backSub,back,putBack,subBlk,Option.getD_some,List.map_cons,List.map_nil,Nat.not_lt_zero,Nat.sub_zero,Nat.add_zero,List.length_map,hC,
  evx,evy,ofValue,ofCell,List.range,List.range.loop,Array.size,Nat.reduceAdd,Nat.reduceSub,Nat.reduceEqDiff,List.replicate,if_true,if_false,↓reduceIte,reduceCtorEq,elB,evParts,Int.reduceToNat,Int.reduceLE,Int.reduceLT,Int.reduceEq,Nat.reduceMul,Nat.reduceLeDiff,Nat.reduceLT,ty3,ty4,ty28,ty73,ty22,ty23,ty24,ty25,ty27,ty63,ty75]
   exact back_intro hs2 L' (le_eqwk rfl (by simp [wk])) ⟨by have := (hlk rfl).2; simp only at this; omega,by rw [← hon rfl]; exact hL2⟩ (hlk rfl).1
  | false =>
   simp only [AOut.sub]
   have e := hof rfl
   rw [← hL2,e]
   simp -implicitDefEqProofs only [awp_draw _ _ Tryzdr40_9,subAny,subA,subL,backSub,back,putBack,subBlk,Option.getD_some,List.map_cons,List.map_nil,Nat.not_lt_zero,Nat.sub_zero,Nat.add_zero,List.length_map,hC,stB_boxA,splice_all,List.all_cons,List.all_nil,Bool.and_self,
  evx,evy,ofValue,ofCell,List.range,List.range.loop,Array.size,Nat.reduceAdd,Nat.reduceSub,Nat.reduceEqDiff,List.replicate,if_true,if_false,↓reduceIte,reduceCtorEq,elB,evParts,Int.reduceToNat,Int.reduceLE,Int.reduceLT,Int.reduceEq,Nat.reduceMul,Nat.reduceLeDiff,Nat.reduceLT,ty3,ty4,ty28,ty73,ty22,ty23,ty24,ty25,ty27,ty63,ty75]
   exact le_to [3] [] rfl (by simp) (by simp) (by simp) (by simp) (by simp [subSt,subAny,subA,subL,mkSub,idx,subBlk])
theorem ok14 (g : Gra) (hg : Small g 100) (hn : Narrow g) (w : List Int) (hw : w.length ≤ 1000) :
  Ok Tryz.prog 14 [g.av,.fv (.lst 1 (ints w))] [] (.ret (.tuple [.fv (.bool (memA g w).1),.fv (.int .i64 (memA g w).2)])) [] := by
 have hus := ok17 g hg
 have hwo := ok16 g hg w hw
 have hil := ints_length w
 refine ok_start (k := 28) (n0 := 0) (rs := [.tmp 4,.tmp 5]) mix Tryz.func14 rfl rfl rfl rfl rfl rfl rfl ?_
 cases hu : g.usB with
 | false =>
  rw [hu] at hus
  have e : memA g w = (false,10) := by unfold memA; rw [if_pos (.inl hu)]
  rw [e]
  simp -implicitDefEqProofs only [awp_draw _ _ Tryzdr14_6,Gra.av,
  evx,evy,ofValue,ofCell,List.range,List.range.loop,Array.size,Nat.reduceAdd,Nat.reduceSub,Nat.reduceEqDiff,List.replicate,if_true,if_false,↓reduceIte,reduceCtorEq,elB,evParts,Int.reduceToNat,Int.reduceLE,Int.reduceLT,Int.reduceEq,Nat.reduceMul,Nat.reduceLeDiff,Nat.reduceLT,ty3,ty4,ty28,ty73,ty22,ty23,ty24,ty25,ty27,ty63,ty75]
  refine callK_ret _ _ _ _ (call_pure (hus) (fun _ => rfl) (fun _ => rfl)) (ok_nil _ _) ?_
  simp -implicitDefEqProofs only [awp_draw _ _ Tryzdr14_6,
  evx,evy,ofValue,ofCell,List.range,List.range.loop,Array.size,Nat.reduceAdd,Nat.reduceSub,Nat.reduceEqDiff,List.replicate,if_true,if_false,↓reduceIte,reduceCtorEq,elB,evParts,Int.reduceToNat,Int.reduceLE,Int.reduceLT,Int.reduceEq,Nat.reduceMul,Nat.reduceLeDiff,Nat.reduceLT,ty3,ty4,ty28,ty73,ty22,ty23,ty24,ty25,ty27,ty63,ty75]
  exact le_to [] [] rfl (by simp) (by simp) (by simp) (by simp) rfl
 | true =>
  rw [hu] at hus
  cases hb : w.any (badW g.terms) with
  | true =>
   rw [hb] at hwo
   have e : memA g w = (false,10) := by unfold memA; rw [if_pos (.inr hb)]
   rw [e]
   simp -implicitDefEqProofs only [awp_draw _ _ Tryzdr14_6,Gra.av,
  evx,evy,ofValue,ofCell,List.range,List.range.loop,Array.size,Nat.reduceAdd,Nat.reduceSub,Nat.reduceEqDiff,List.replicate,if_true,if_false,↓reduceIte,reduceCtorEq,elB,evParts,Int.reduceToNat,Int.reduceLE,Int.reduceLT,Int.reduceEq,Nat.reduceMul,Nat.reduceLeDiff,Nat.reduceLT,ty3,ty4,ty28,ty73,ty22,ty23,ty24,ty25,ty27,ty63,ty75]
   refine callK_ret _ _ _ _ (call_pure (hus) (fun _ => rfl) (fun _ => rfl)) (ok_nil _ _) ?_
   simp -implicitDefEqProofs only [awp_draw _ _ Tryzdr14_6,Gra.cells,
  evx,evy,ofValue,ofCell,List.range,List.range.loop,Array.size,Nat.reduceAdd,Nat.reduceSub,Nat.reduceEqDiff,List.replicate,if_true,if_false,↓reduceIte,reduceCtorEq,elB,evParts,Int.reduceToNat,Int.reduceLE,Int.reduceLT,Int.reduceEq,Nat.reduceMul,Nat.reduceLeDiff,Nat.reduceLT,ty3,ty4,ty28,ty73,ty22,ty23,ty24,ty25,ty27,ty63,ty75]
   refine callK_ret _ _ _ _ (call_pure (hwo) (fun _ => rfl) (fun _ => rfl)) (ok_nil _ _) ?_
   simp -implicitDefEqProofs only [awp_draw _ _ Tryzdr14_6,
  evx,evy,ofValue,ofCell,List.range,List.range.loop,Array.size,Nat.reduceAdd,Nat.reduceSub,Nat.reduceEqDiff,List.replicate,if_true,if_false,↓reduceIte,reduceCtorEq,elB,evParts,Int.reduceToNat,Int.reduceLE,Int.reduceLT,Int.reduceEq,Nat.reduceMul,Nat.reduceLeDiff,Nat.reduceLT,ty3,ty4,ty28,ty73,ty22,ty23,ty24,ty25,ty27,ty63,ty75]
   exact le_to [] [] rfl (by simp) (by simp) (by simp) (by simp) rfl
  | false =>
   rw [hb] at hwo
   by_cases h40 : 40 < w.length
   ·have h40t : (40 < (w.length : Int)) = True := eq_true (by omega)
    have e : memA g w = (false,3) := by unfold memA; rw [if_neg (by simp [hu,hb]),if_pos h40]
    rw [e]
    simp -implicitDefEqProofs only [awp_draw _ _ Tryzdr14_6,Gra.av,
  evx,evy,ofValue,ofCell,List.range,List.range.loop,Array.size,Nat.reduceAdd,Nat.reduceSub,Nat.reduceEqDiff,List.replicate,if_true,if_false,↓reduceIte,reduceCtorEq,elB,evParts,Int.reduceToNat,Int.reduceLE,Int.reduceLT,Int.reduceEq,Nat.reduceMul,Nat.reduceLeDiff,Nat.reduceLT,ty3,ty4,ty28,ty73,ty22,ty23,ty24,ty25,ty27,ty63,ty75]
    refine callK_ret _ _ _ _ (call_pure (hus) (fun _ => rfl) (fun _ => rfl)) (ok_nil _ _) ?_
    simp -implicitDefEqProofs only [awp_draw _ _ Tryzdr14_6,Gra.cells,
  evx,evy,ofValue,ofCell,List.range,List.range.loop,Array.size,Nat.reduceAdd,Nat.reduceSub,Nat.reduceEqDiff,List.replicate,if_true,if_false,↓reduceIte,reduceCtorEq,elB,evParts,Int.reduceToNat,Int.reduceLE,Int.reduceLT,Int.reduceEq,Nat.reduceMul,Nat.reduceLeDiff,Nat.reduceLT,ty3,ty4,ty28,ty73,ty22,ty23,ty24,ty25,ty27,ty63,ty75]
    refine callK_ret _ _ _ _ (call_pure (hwo) (fun _ => rfl) (fun _ => rfl)) (ok_nil _ _) ?_
    simp -implicitDefEqProofs only [awp_draw _ _ Tryzdr14_6,hil,h40t,
  evx,evy,ofValue,ofCell,List.range,List.range.loop,Array.size,Nat.reduceAdd,Nat.reduceSub,Nat.reduceEqDiff,List.replicate,if_true,if_false,↓reduceIte,reduceCtorEq,elB,evParts,Int.reduceToNat,Int.reduceLE,Int.reduceLT,Int.reduceEq,Nat.reduceMul,Nat.reduceLeDiff,Nat.reduceLT,ty3,ty4,ty28,ty73,ty22,ty23,ty24,ty25,ty27,ty63,ty75]
    exact le_to [] [] rfl (by simp) (by simp) (by simp) (by simp) rfl
   ·have h40t : (40 < (w.length : Int)) = False := eq_false (by omega)
    have hw40 : w.length ≤ 40 := by omega
    obtain ⟨N,hNe⟩ : ∃ N,N = (g.prods.length + 1) * 9 * (w.length + 1) * (w.length + 1) := ⟨_,rfl⟩
    have hNp : 0 < N := by
     rw [hNe]
     exact Nat.mul_pos (Nat.mul_pos (Nat.mul_pos (by omega) (by omega)) (by omega)) (by omega)
    have hch := ok40 g hg hn w hw40 N hNe
    obtain ⟨hiff,hcl⟩ := chartS_iff (w := w) hn
    generalize chartS g w = L at hch hiff hcl
    rw [← hNe] at hcl
    have e : memA g w = (onR (w.length + 1) L 0 1 0 w.length,0) := by
     unfold memA
     rw [if_neg (by simp [hu,hb]),if_neg h40]
     congr 1
     rw [Bool.eq_iff_iff,hiff]
     simp
    rw [e]
    have hon := on_get (W := w.length + 1) (L := L) (q := 0) (d := 1) (i := 0) (j := w.length) (by omega) (by omega) (by omega)
    have hbl := bnd_lt (g := g) (w := w) (hcl.trans hNe) (q := 0) (d := 1) (i := 0) (j := w.length) (Nat.zero_le _) (by omega) (by omega) (by omega)
    have hbr := bRows_get L _ hbl
    have hzN : (((atR (w.length + 1) 0 1 0 w.length : Nat) : Int) < (N : Int)) = True := eq_true (by omega)
    have hat := fun R => ok41 (w.length + 1) 0 1 0 w.length (-1) (by omega) R (by omega) (by omega) (by omega) (by omega) (by omega)
    rw [hon]
    simp -implicitDefEqProofs only [awp_draw _ _ Tryzdr14_6,Gra.av,
  evx,evy,ofValue,ofCell,List.range,List.range.loop,Array.size,Nat.reduceAdd,Nat.reduceSub,Nat.reduceEqDiff,List.replicate,if_true,if_false,↓reduceIte,reduceCtorEq,elB,evParts,Int.reduceToNat,Int.reduceLE,Int.reduceLT,Int.reduceEq,Nat.reduceMul,Nat.reduceLeDiff,Nat.reduceLT,ty3,ty4,ty28,ty73,ty22,ty23,ty24,ty25,ty27,ty63,ty75]
    refine callK_ret _ _ _ _ (call_pure (hus) (fun _ => rfl) (fun _ => rfl)) (ok_nil _ _) ?_
    simp -implicitDefEqProofs only [awp_draw _ _ Tryzdr14_6,Gra.cells,
  evx,evy,ofValue,ofCell,List.range,List.range.loop,Array.size,Nat.reduceAdd,Nat.reduceSub,Nat.reduceEqDiff,List.replicate,if_true,if_false,↓reduceIte,reduceCtorEq,elB,evParts,Int.reduceToNat,Int.reduceLE,Int.reduceLT,Int.reduceEq,Nat.reduceMul,Nat.reduceLeDiff,Nat.reduceLT,ty3,ty4,ty28,ty73,ty22,ty23,ty24,ty25,ty27,ty63,ty75]
    refine callK_ret _ _ _ _ (call_pure (hwo) (fun _ => rfl) (fun _ => rfl)) (ok_nil _ _) ?_
    simp -implicitDefEqProofs only [awp_draw _ _ Tryzdr14_6,hil,h40t,
  evx,evy,ofValue,ofCell,List.range,List.range.loop,Array.size,Nat.reduceAdd,Nat.reduceSub,Nat.reduceEqDiff,List.replicate,if_true,if_false,↓reduceIte,reduceCtorEq,elB,evParts,Int.reduceToNat,Int.reduceLE,Int.reduceLT,Int.reduceEq,Nat.reduceMul,Nat.reduceLeDiff,Nat.reduceLT,ty3,ty4,ty28,ty73,ty22,ty23,ty24,ty25,ty27,ty63,ty75]
    refine callK_ret _ _ _ _ (call_lent [] hch rfl rfl (by simp) (by simp)) (by first | exact ok_none _ _ | exact ok_nil _ _) ?_
    simp only [AOut.sub]
    simp -implicitDefEqProofs only [awp_draw _ _ Tryzdr14_6,subAny,subA,subL,backSub,back,putBack,subBlk,Option.getD_some,List.map_cons,List.map_nil,Nat.not_lt_zero,Nat.sub_zero,Nat.add_zero,List.length_map,stB_boxA,splice_all,List.all_cons,List.all_nil,Bool.and_self,hil,
  evx,evy,ofValue,ofCell,List.range,List.range.loop,Array.size,Nat.reduceAdd,Nat.reduceSub,Nat.reduceEqDiff,List.replicate,if_true,if_false,↓reduceIte,reduceCtorEq,elB,evParts,Int.reduceToNat,Int.reduceLE,Int.reduceLT,Int.reduceEq,Nat.reduceMul,Nat.reduceLeDiff,Nat.reduceLT,ty3,ty4,ty28,ty73,ty22,ty23,ty24,ty25,ty27,ty63,ty75]
    refine callK_ret _ _ _ _ (call_deep (hat (bRows L)) (by
     have hd := deep_i (h := [Blk.box g.cells,Blk.plain 1 (bRows L),Blk.box [.fv (.int .i64 ((w.length + 1 : Nat) : Int)),.ref 1 1 0 N]]) (i := 1) (x := .int .i64 ((w.length + 1 : Nat) : Int)) rfl hcl hNp
     simp only [Gra.cells] at hd
     simp only [deepAs,hd]
     rfl) rfl) (by first | exact ok_none _ _ | exact ok_nil _ _) ?_
    simp -implicitDefEqProofs only [awp_draw _ _ Tryzdr14_6,hzN,hbr,Nat.zero_add,
  evx,evy,ofValue,ofCell,List.range,List.range.loop,Array.size,Nat.reduceAdd,Nat.reduceSub,Nat.reduceEqDiff,List.replicate,if_true,if_false,↓reduceIte,reduceCtorEq,elB,evParts,Int.reduceToNat,Int.reduceLE,Int.reduceLT,Int.reduceEq,Nat.reduceMul,Nat.reduceLeDiff,Nat.reduceLT,ty3,ty4,ty28,ty73,ty22,ty23,ty24,ty25,ty27,ty63,ty75]
    exact le_flat rfl
end Go.Abs
