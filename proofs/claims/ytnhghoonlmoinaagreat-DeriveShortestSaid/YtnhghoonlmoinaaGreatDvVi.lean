/- The document's Shortest. -/
import Derived.Test.YtnhghoonlmoinaaGreatTyTryzi
import Derived.Test.YtnhghoonlmoinaaGreatDrTryzi
import Derived.Test.YtnhghoonlmoinaaGreatDvTi
import Derived.Test.YtnhghoonlmoinaaGreatCkLi
namespace Go.Abs
open Go.Proofs
set_option linter.unusedVariables false
set_option linter.unusedSimpArgs false
set_option maxRecDepth 100000
set_option maxHeartbeats 8000000
def wordRes (T : Nat) (K : List Bool) (B : List (List Int)) (ts : List Int) : List Int × Bool := if allS T K ts = true then (wordS T B ts,decide ((wordS T B ts).length ≤ 400)) else ([],false)
theorem ok57 (g : Gra) (hg : Small g 100) (K : List Bool) (B : List (List Int)) (m : Nat) (hK : K.length = m) (hB : B.length = m) (hm : m ≤ 100) (hlen : ∀ i : Nat,(B.getD i []).length ≤ 400) (ts : List Int) (ht8 : ts.length ≤ 8) (hts : ∀ n ∈ ts,1 ≤ n ∧ n < (m : Int)) :
  Ok Tryz.prog 57 [g.av,.ref 0 1 0 m,.ref 1 1 0 m,.fv (.lst 1 (ints ts))] [.plain 1 (rowsOf B),.plain 1 (bRows K)] (.ret (.tuple [.fv (.lst 1 (ints (wordRes g.terms K B ts).1)),.fv (.bool (wordRes g.terms K B ts).2)])) [.plain 1 (rowsOf B),.plain 1 (bRows K)] := by
 have hterms := ok20 g hg.nrules
 have htl := ints_length ts
 refine ok_start (k := 49) (n0 := 2) (rs := [.tmp 8,.tmp 9]) mix Tryz.func57 rfl rfl rfl rfl rfl rfl rfl ?_
 simp -implicitDefEqProofs only [awp_draw _ _ Tryzdr57_5,Gra.av,
  evx,evy,ofValue,ofCell,List.range,List.range.loop,Array.size,Nat.reduceAdd,Nat.reduceSub,Nat.reduceEqDiff,List.replicate,if_true,if_false,↓reduceIte,reduceCtorEq,elB,evParts,Int.reduceToNat,Int.reduceLE,Int.reduceLT,Int.reduceEq,Nat.reduceMul,Nat.reduceLeDiff,Nat.reduceLT,ty3,ty4,ty9,ty28,ty85,ty73,ty22,ty23,ty24,ty25,ty27,ty63,ty31]
 refine loop_rule (fun j : Nat => ⟨[.any,.ref 0 1 0 m,.ref 1 1 0 m,.fv (.lst 1 (ints ts)),.ptr 2 0 0 0,.any,.any,.any,.any,.any,.ref 3 1 0 (wordS g.terms B (ts.take j)).length,.fv (.int .i64 (j : Int)),.any,.any,.any,.any,.any,.any,.any,.any,.any,.any,.any,.any,.any,.any,.any,.any,.any,.any,.any,.any,.any,.any,.any,.any,.any,.any,.any,.any,.any,.any,.any,.any,.any,.any,.any,.any,.any,.any,.any,.any,.any],[.plain 1 (rowsOf B),.plain 1 (bRows K),.box g.cells,.plain 1 (ints (wordS g.terms B (ts.take j)))],[]⟩)
  (fun j => j ≤ ts.length ∧ (wordS g.terms B (ts.take j)).length ≤ j * 400 ∧ allS g.terms K (ts.take j) = true) (fun j => ts.length - j) 0 (Le.trans (le_virt 10 1 rfl) (le_eqwk rfl (by simp [wk,wordS]))) ⟨Nat.zero_le _,by simp [wordS],rfl⟩ (fun j hj s1 hs1 => ?_)
 obtain ⟨hj,hjl,hja⟩ := hj
 by_cases hlt : j < ts.length
 ·have hrj := ints_get ts j hlt
  have hmn := List.getElem_mem hlt
  have hwt := wordS_take (T := g.terms) (B := B) hlt
  have hat := allS_take (T := g.terms) (K := K) hlt
  generalize ts[j] = n at hrj hmn hwt hat
  obtain ⟨hn1,hnm⟩ := hts n hmn
  rw [hja,Bool.true_and] at hat
  have hwl : (wordS g.terms B (ts.take j)).length ≤ 3200 := by omega
  generalize wordS g.terms B (ts.take j) = wd at hwt hjl hwl ⊢
  have hwil := ints_length wd
  have hbe : ∀ bn,List.take wd.length (ints wd) ++ ints bn = ints (wd ++ bn) := fun bn => by
   have : List.take wd.length (ints wd) = ints wd := by rw [← hwil,List.take_length]
   rw [this,ints_append]
  by_cases hc : n ≤ (g.terms : Int)
  ·have hct : (n ≤ (g.terms : Int)) = True := eq_true hc
   have e1 : bOf g.terms B n = [n] := by unfold bOf; rw [if_pos hc]
   have e2 : kOf g.terms K n = true := by unfold kOf; rw [decide_eq_true hc]; rfl
   rw [e1] at hwt
   rw [e2] at hat
   have hb1 := hbe [n]
   simp -implicitDefEqProofs only [awp_draw _ _ Tryzdr57_5,htl,lt_true hlt,hrj,Gra.cells,
  evx,evy,ofValue,ofCell,List.range,List.range.loop,Array.size,Nat.reduceAdd,Nat.reduceSub,Nat.reduceEqDiff,List.replicate,if_true,if_false,↓reduceIte,reduceCtorEq,elB,evParts,Int.reduceToNat,Int.reduceLE,Int.reduceLT,Int.reduceEq,Nat.reduceMul,Nat.reduceLeDiff,Nat.reduceLT,ty3,ty4,ty9,ty28,ty85,ty73,ty22,ty23,ty24,ty25,ty27,ty63,ty31]
   refine callK_ret _ _ _ _ (call_pure (hterms) (fun _ => rfl) (fun _ => rfl)) (ok_nil _ _) ?_
   simp -implicitDefEqProofs only [awp_draw _ _ Tryzdr57_5,hct,htl,hrj,hwil,wsucc j (by omega),
  evx,evy,ofValue,ofCell,List.range,List.range.loop,Array.size,Nat.reduceAdd,Nat.reduceSub,Nat.reduceEqDiff,List.replicate,if_true,if_false,↓reduceIte,reduceCtorEq,elB,evParts,Int.reduceToNat,Int.reduceLE,Int.reduceLT,Int.reduceEq,Nat.reduceMul,Nat.reduceLeDiff,Nat.reduceLT,ty3,ty4,ty9,ty28,ty85,ty73,ty22,ty23,ty24,ty25,ty27,ty63,ty31]
   refine ⟨⟨by omega,by omega⟩,back_intro hs1 (j + 1) (le_pk [0,1,2,5] rfl (by simp) (by simp) ?_ ?_) ⟨by omega,by rw [hwt,List.length_append]; simp; omega,hat⟩ (by omega)⟩
   ·have : ints [n] = [[.int .i64 n]] := rfl
    rw [this] at hb1
    simp [subBlk,subAny,subA,mkSub,idx,Gra.cells,hwt,hb1]
   ·simp [wk,subAny,subA,mkSub,idx,hwt]
  ·have hct : (n ≤ (g.terms : Int)) = False := eq_false hc
   have e1 : bOf g.terms B n = B.getD n.toNat [] := by unfold bOf; rw [if_neg hc]
   have e2 : kOf g.terms K n = K.getD n.toNat false := by unfold kOf; rw [decide_eq_false hc]; rfl
   rw [e1] at hwt
   rw [e2] at hat
   have hkn := bRows_get K n.toNat (by omega)
   have hbn := rowsOf_getD (B := B) (k := n.toNat) (by omega)
   have hc0 : (0 ≤ n) = True := eq_true (by omega)
   have hcm : (n < (m : Int)) = True := eq_true (by omega)
   have hbl := hlen n.toNat
   have hbil := ints_length (B.getD n.toNat [])
   generalize B.getD n.toNat [] = bn at hwt hbn hbl hbil
   have hb1 := hbe bn
   cases hkk : K.getD n.toNat false with
   | false =>
    rw [hkk] at hkn
    have hall : allS g.terms K ts = false := by
     unfold allS
     rw [List.all_eq_false]
     exact ⟨n,hmn,by rw [e2,hkk]; simp⟩
    have e : wordRes g.terms K B ts = ([],false) := by unfold wordRes; rw [if_neg (by rw [hall]; simp)]
    rw [e]
    simp -implicitDefEqProofs only [awp_draw _ _ Tryzdr57_5,htl,lt_true hlt,hrj,Gra.cells,
  evx,evy,ofValue,ofCell,List.range,List.range.loop,Array.size,Nat.reduceAdd,Nat.reduceSub,Nat.reduceEqDiff,List.replicate,if_true,if_false,↓reduceIte,reduceCtorEq,elB,evParts,Int.reduceToNat,Int.reduceLE,Int.reduceLT,Int.reduceEq,Nat.reduceMul,Nat.reduceLeDiff,Nat.reduceLT,ty3,ty4,ty9,ty28,ty85,ty73,ty22,ty23,ty24,ty25,ty27,ty63,ty31]
    refine callK_ret _ _ _ _ (call_pure (hterms) (fun _ => rfl) (fun _ => rfl)) (ok_nil _ _) ?_
    simp -implicitDefEqProofs only [awp_draw _ _ Tryzdr57_5,hct,htl,hrj,hc0,hcm,hkn,
  evx,evy,ofValue,ofCell,List.range,List.range.loop,Array.size,Nat.reduceAdd,Nat.reduceSub,Nat.reduceEqDiff,List.replicate,if_true,if_false,↓reduceIte,reduceCtorEq,elB,evParts,Int.reduceToNat,Int.reduceLE,Int.reduceLT,Int.reduceEq,Nat.reduceMul,Nat.reduceLeDiff,Nat.reduceLT,ty3,ty4,ty9,ty28,ty85,ty73,ty22,ty23,ty24,ty25,ty27,ty63,ty31]
    exact Le.trans (le_tn 1 _ _) (le_to [0,1] [] rfl (by simp) (by simp) (by simp) (by simp) rfl)
   | true =>
    rw [hkk] at hkn hat
    simp -implicitDefEqProofs only [awp_draw _ _ Tryzdr57_5,htl,lt_true hlt,hrj,Gra.cells,
  evx,evy,ofValue,ofCell,List.range,List.range.loop,Array.size,Nat.reduceAdd,Nat.reduceSub,Nat.reduceEqDiff,List.replicate,if_true,if_false,↓reduceIte,reduceCtorEq,elB,evParts,Int.reduceToNat,Int.reduceLE,Int.reduceLT,Int.reduceEq,Nat.reduceMul,Nat.reduceLeDiff,Nat.reduceLT,ty3,ty4,ty9,ty28,ty85,ty73,ty22,ty23,ty24,ty25,ty27,ty63,ty31]
    refine callK_ret _ _ _ _ (call_pure (hterms) (fun _ => rfl) (fun _ => rfl)) (ok_nil _ _) ?_
    simp -implicitDefEqProofs only [awp_draw _ _ Tryzdr57_5,hct,htl,hrj,hc0,hcm,hkn,hbn,hwil,hbil,wsucc j (by omega),
  evx,evy,ofValue,ofCell,List.range,List.range.loop,Array.size,Nat.reduceAdd,Nat.reduceSub,Nat.reduceEqDiff,List.replicate,if_true,if_false,↓reduceIte,reduceCtorEq,elB,evParts,Int.reduceToNat,Int.reduceLE,Int.reduceLT,Int.reduceEq,Nat.reduceMul,Nat.reduceLeDiff,Nat.reduceLT,ty3,ty4,ty9,ty28,ty85,ty73,ty22,ty23,ty24,ty25,ty27,ty63,ty31]
    refine ⟨⟨by omega,by omega⟩,back_intro hs1 (j + 1) (le_pk [0,1,2,4] rfl (by simp) (by simp) ?_ ?_) ⟨by omega,by rw [hwt,List.length_append]; omega,hat⟩ (by omega)⟩
    ·simp [subBlk,subAny,subA,mkSub,idx,Gra.cells,hwt,hb1]
    ·simp [wk,subAny,subA,mkSub,idx,hwt]
 ·obtain rfl : j = ts.length := by omega
  rw [List.take_length] at hjl hja ⊢
  have e : wordRes g.terms K B ts = (wordS g.terms B ts,decide ((wordS g.terms B ts).length ≤ 400)) := by unfold wordRes; rw [if_pos hja]
  rw [e]
  generalize wordS g.terms B ts = wd at hjl ⊢
  have hwil := ints_length wd
  have hd : decide ((wd.length : Int) ≤ 400) = decide (wd.length ≤ 400) := by rw [decide_eq_decide]; omega
  simp -implicitDefEqProofs only [awp_draw _ _ Tryzdr57_5,htl,lt_false hlt,
  evx,evy,ofValue,ofCell,List.range,List.range.loop,Array.size,Nat.reduceAdd,Nat.reduceSub,Nat.reduceEqDiff,List.replicate,if_true,if_false,↓reduceIte,reduceCtorEq,elB,evParts,Int.reduceToNat,Int.reduceLE,Int.reduceLT,Int.reduceEq,Nat.reduceMul,Nat.reduceLeDiff,Nat.reduceLT,ty3,ty4,ty9,ty28,ty85,ty73,ty22,ty23,ty24,ty25,ty27,ty63,ty31]
  rw [hd]
  exact le_to [0,1] [3] rfl (by simp) (by simp) (by simp) (fun i hi => by simp at hi; subst hi; exact ⟨_,_,rfl⟩) (by simp [subSt,subAny,subA,subL,mkSub,idx,subBlk,← hwil])
structure LenT (B : List (List Int)) : Prop where
 len : ∀ i : Nat,(B.getD i []).length ≤ 400
theorem LenT.step {B : List (List Int)} (h : LenT B) {k : Nat} (hk : k < B.length) {w : List Int} (hw : w.length ≤ 400) : LenT (B.set k w) := ⟨fun i => by
 rw [getD_set_b hk]
 split
 ·exact hw
 ·exact h.len i⟩
theorem ShI.ini0 (g : Gra) : ShI g (tabK (g.all + 1) 1) (tabO (g.all + 1) 1) where
 lenK := tabK_len _ _
 lenB := tabO_len _ _
 snd n hn h := by
  rw [tabK_getD,decide_eq_true_eq] at h
  omega
theorem LenT.ini (m : Nat) : LenT (tabO m 1) := ⟨fun i => by rw [tabO_getD]; split <;> simp⟩
theorem ok32 (g : Gra) (hg : Small g 100) : Ok Tryz.prog 32 [g.av] [] (.ret (.tuple [.fv (.lst 1 (ints (shortA g).1)),.fv (.int .i64 (shortA g).2)])) [] := by
 have hus := ok17 g hg
 have hterms := ok20 g hg.nrules
 refine ok_start (k := 106) (n0 := 0) (rs := [.tmp 2,.tmp 3]) mix Tryz.func32 rfl rfl rfl rfl rfl rfl rfl ?_
 simp -implicitDefEqProofs only [awp_draw _ _ Tryzdr32_3,awp_draw _ _ Tryzdr32_22,Gra.av,
  evx,evy,ofValue,ofCell,List.range,List.range.loop,Array.size,Nat.reduceAdd,Nat.reduceSub,Nat.reduceEqDiff,List.replicate,if_true,if_false,↓reduceIte,reduceCtorEq,elB,evParts,Int.reduceToNat,Int.reduceLE,Int.reduceLT,Int.reduceEq,Nat.reduceMul,Nat.reduceLeDiff,Nat.reduceLT,ty3,ty4,ty9,ty28,ty85,ty73,ty22,ty23,ty24,ty25,ty27,ty63,ty31]
 refine callK_ret _ _ _ _ (call_pure (hus) (fun _ => rfl) (fun _ => rfl)) (ok_nil _ _) ?_
 cases hu : g.usB with
 | false =>
  have e : shortA g = ([],10) := by unfold shortA; rw [if_pos hu]
  rw [e]
  simp -implicitDefEqProofs only [awp_draw _ _ Tryzdr32_3,awp_draw _ _ Tryzdr32_22,
  evx,evy,ofValue,ofCell,List.range,List.range.loop,Array.size,Nat.reduceAdd,Nat.reduceSub,Nat.reduceEqDiff,List.replicate,if_true,if_false,↓reduceIte,reduceCtorEq,elB,evParts,Int.reduceToNat,Int.reduceLE,Int.reduceLT,Int.reduceEq,Nat.reduceMul,Nat.reduceLeDiff,Nat.reduceLT,ty3,ty4,ty9,ty28,ty85,ty73,ty22,ty23,ty24,ty25,ty27,ty63,ty31]
  exact Le.trans (le_tn 1 _ _) (le_to [] [] rfl (by simp) (by simp) (by simp) (by simp) rfl)
 | true =>
  obtain ⟨hst,hps⟩ := us_facts hu
  have hgf := graF_of hu
  have htr : g.terms ≤ g.rules.length := by unfold Gra.terms; exact List.length_filter_le _ _
  have hnr := hg.nrules
  have hnn := hg.nnonts
  have hnp := hg.nprods
  have hw1 : IntKind.wrap .i64 ((g.terms : Int) + (g.nonts.length : Int)) = (g.terms : Int) + (g.nonts.length : Int) := wrap_small (by omega) (by omega)
  obtain ⟨m,hm⟩ : ∃ m,m = g.all + 1 := ⟨_,rfl⟩
  have hmb : m ≤ 100 := by unfold Gra.all at hm; omega
  have hta : g.terms + 1 ≤ m := by unfold Gra.all at hm; omega
  have hw2 : IntKind.wrap .i64 ((g.terms : Int) + (g.nonts.length : Int) + 1) = (m : Int) := by rw [wrap_small (by omega) (by omega)]; unfold Gra.all at hm; omega
  simp -implicitDefEqProofs only [awp_draw _ _ Tryzdr32_3,awp_draw _ _ Tryzdr32_22,Gra.cells,
  evx,evy,ofValue,ofCell,List.range,List.range.loop,Array.size,Nat.reduceAdd,Nat.reduceSub,Nat.reduceEqDiff,List.replicate,if_true,if_false,↓reduceIte,reduceCtorEq,elB,evParts,Int.reduceToNat,Int.reduceLE,Int.reduceLT,Int.reduceEq,Nat.reduceMul,Nat.reduceLeDiff,Nat.reduceLT,ty3,ty4,ty9,ty28,ty85,ty73,ty22,ty23,ty24,ty25,ty27,ty63,ty31]
  refine callK_ret _ _ _ _ (call_pure (hterms) (fun _ => rfl) (fun _ => rfl)) (ok_nil _ _) ?_
  simp -implicitDefEqProofs only [awp_draw _ _ Tryzdr32_3,awp_draw _ _ Tryzdr32_22,Gra.cells,List.length_map,hw1,hw2,
  evx,evy,ofValue,ofCell,List.range,List.range.loop,Array.size,Nat.reduceAdd,Nat.reduceSub,Nat.reduceEqDiff,List.replicate,if_true,if_false,↓reduceIte,reduceCtorEq,elB,evParts,Int.reduceToNat,Int.reduceLE,Int.reduceLT,Int.reduceEq,Nat.reduceMul,Nat.reduceLeDiff,Nat.reduceLT,ty3,ty4,ty9,ty28,ty85,ty73,ty22,ty23,ty24,ty25,ty27,ty63,ty31]
  refine ⟨⟨by omega,by omega⟩,⟨by omega,by omega⟩,?_⟩
  rw [falserows]
  refine loop_rule (fun x : Bool × List Bool × List (List Int) => ⟨[.any,.ptr 0 0 0 0,.any,.any,.any,.ref 1 1 0 m,.ref 2 1 0 m,.fv (.bool x.1),.any,.any,.any,.any,.any,.any,.any,.any,.any,.any,.any,.any,.any,.any,.any,.any,.any,.any,.any,.any,.any,.any,.any,.any,.any,.any,.any,.any,.any,.any,.any,.any,.any,.any,.any,.any,.any,.any,.any,.any,.any,.any,.any,.any,.any,.any,.any,.any,.any,.any,.any,.any,.any,.any,.any,.any,.any,.any,.any,.any,.any,.any,.any,.any,.any,.any,.any,.any,.any,.any,.any,.any,.any,.any,.any,.any,.any,.any,.any,.any,.any,.any,.any,.any,.any,.any,.any,.any,.any,.any,.any,.any,.any,.any,.any,.any,.any,.any,.any],HT g x.2.1 x.2.2,[]⟩)
   (fun x => ShI g x.2.1 x.2.2 ∧ LenT x.2.2 ∧ (x.1 = false → ShC g x.2.1 x.2.2)) (fun x => if x.1 then 1 + muS g x.2.1 x.2.2 else 0) (true,tabK m 1,tabO m 1)
   (Le.trans (le_nilrows 1 1 1 _ rfl) (le_eqwk (by rw [nilrows]; rfl) (by simp [wk]))) ⟨by rw [hm]; exact ShI.ini0 g,LenT.ini m,fun e => by cases e⟩ (fun x hx s2 hs2 => ?_)
  obtain ⟨grew,K0,B0⟩ := x
  obtain ⟨hI0,hT0,hC0⟩ := hx
  simp only at hI0 hT0 hC0 hs2 ⊢
  cases grew with
  | false =>
   have hC := hC0 rfl
   obtain ⟨hl1,hl2⟩ := tables_least hgf hst.1 hI0 hC
   have hsd : g.sound = true := by
    have hu2 := hu
    simp only [Gra.usB,Bool.and_eq_true] at hu2
    exact hu2.2
   have hkn := bRows_get K0 g.start.toNat (by rw [hI0.lenK]; omega)
   have hbn := rowsOf_getD (B := B0) (k := g.start.toNat) (by rw [hI0.lenB]; omega)
   have hc0 : (0 ≤ g.start) = True := eq_true (by omega)
   have hcm : (g.start < (m : Int)) = True := eq_true (by omega)
   cases hk : K0.getD g.start.toNat false with
   | true =>
    rw [short_some hu (hl1 hk)]
    rw [hk] at hkn
    simp -implicitDefEqProofs only [awp_draw _ _ Tryzdr32_3,awp_draw _ _ Tryzdr32_22,HT,Gra.cells,hc0,hcm,hkn,hbn,
  evx,evy,ofValue,ofCell,List.range,List.range.loop,Array.size,Nat.reduceAdd,Nat.reduceSub,Nat.reduceEqDiff,List.replicate,if_true,if_false,↓reduceIte,reduceCtorEq,elB,evParts,Int.reduceToNat,Int.reduceLE,Int.reduceLT,Int.reduceEq,Nat.reduceMul,Nat.reduceLeDiff,Nat.reduceLT,ty3,ty4,ty9,ty28,ty85,ty73,ty22,ty23,ty24,ty25,ty27,ty63,ty31]
    exact le_to [] [] rfl (by simp) (by simp) (by simp) (by simp) rfl
   | false =>
    rw [short_none hu (hl2 hk)]
    rw [hk] at hkn
    have hen := ok59 g hg hsd
    have hcn := ok19 (g.those (Ended g)) g.start (by
     have : (g.those (Ended g)).length ≤ g.nonts.length := g.those_length _
     omega)
    generalize g.those (Ended g) = EL at hen hcn ⊢
    simp -implicitDefEqProofs only [awp_draw _ _ Tryzdr32_3,awp_draw _ _ Tryzdr32_22,HT,Gra.cells,hc0,hcm,hkn,
  evx,evy,ofValue,ofCell,List.range,List.range.loop,Array.size,Nat.reduceAdd,Nat.reduceSub,Nat.reduceEqDiff,List.replicate,if_true,if_false,↓reduceIte,reduceCtorEq,elB,evParts,Int.reduceToNat,Int.reduceLE,Int.reduceLT,Int.reduceEq,Nat.reduceMul,Nat.reduceLeDiff,Nat.reduceLT,ty3,ty4,ty9,ty28,ty85,ty73,ty22,ty23,ty24,ty25,ty27,ty63,ty31]
    refine callK_ret _ _ _ _ (call_pure (hen) (fun _ => rfl) (fun _ => rfl)) (ok_nil _ _) ?_
    simp -implicitDefEqProofs only [awp_draw _ _ Tryzdr32_3,awp_draw _ _ Tryzdr32_22,
  evx,evy,ofValue,ofCell,List.range,List.range.loop,Array.size,Nat.reduceAdd,Nat.reduceSub,Nat.reduceEqDiff,List.replicate,if_true,if_false,↓reduceIte,reduceCtorEq,elB,evParts,Int.reduceToNat,Int.reduceLE,Int.reduceLT,Int.reduceEq,Nat.reduceMul,Nat.reduceLeDiff,Nat.reduceLT,ty3,ty4,ty9,ty28,ty85,ty73,ty22,ty23,ty24,ty25,ty27,ty63,ty31]
    refine callK_ret _ _ _ _ (call_pure (hcn) (fun _ => rfl) (fun _ => rfl)) (ok_nil _ _) ?_
    by_cases hmem : g.start ∈ EL
    ·rw [decide_eq_true hmem,if_pos hmem]
     simp -implicitDefEqProofs only [awp_draw _ _ Tryzdr32_3,awp_draw _ _ Tryzdr32_22,
  evx,evy,ofValue,ofCell,List.range,List.range.loop,Array.size,Nat.reduceAdd,Nat.reduceSub,Nat.reduceEqDiff,List.replicate,if_true,if_false,↓reduceIte,reduceCtorEq,elB,evParts,Int.reduceToNat,Int.reduceLE,Int.reduceLT,Int.reduceEq,Nat.reduceMul,Nat.reduceLeDiff,Nat.reduceLT,ty3,ty4,ty9,ty28,ty85,ty73,ty22,ty23,ty24,ty25,ty27,ty63,ty31]
     exact Le.trans (le_tn 1 _ _) (le_to [] [] rfl (by simp) (by simp) (by simp) (by simp) rfl)
    ·rw [decide_eq_false hmem,if_neg hmem]
     simp -implicitDefEqProofs only [awp_draw _ _ Tryzdr32_3,awp_draw _ _ Tryzdr32_22,
  evx,evy,ofValue,ofCell,List.range,List.range.loop,Array.size,Nat.reduceAdd,Nat.reduceSub,Nat.reduceEqDiff,List.replicate,if_true,if_false,↓reduceIte,reduceCtorEq,elB,evParts,Int.reduceToNat,Int.reduceLE,Int.reduceLT,Int.reduceEq,Nat.reduceMul,Nat.reduceLeDiff,Nat.reduceLT,ty3,ty4,ty9,ty28,ty85,ty73,ty22,ty23,ty24,ty25,ty27,ty63,ty31]
     exact Le.trans (le_tn 1 _ _) (le_to [] [] rfl (by simp) (by simp) (by simp) (by simp) rfl)
  | true =>
   have hwP : IntKind.wrap .i64 ((g.prods.length : Int) - 1) = (g.prods.length : Int) - 1 - ((0 : Nat) : Int) := by rw [wrap_small (by omega) (by omega)]; omega
   simp -implicitDefEqProofs only [awp_draw _ _ Tryzdr32_3,awp_draw _ _ Tryzdr32_22,HT,Gra.cells,List.length_map,hwP,
  evx,evy,ofValue,ofCell,List.range,List.range.loop,Array.size,Nat.reduceAdd,Nat.reduceSub,Nat.reduceEqDiff,List.replicate,if_true,if_false,↓reduceIte,reduceCtorEq,elB,evParts,Int.reduceToNat,Int.reduceLE,Int.reduceLT,Int.reduceEq,Nat.reduceMul,Nat.reduceLeDiff,Nat.reduceLT,ty3,ty4,ty9,ty28,ty85,ty73,ty22,ty23,ty24,ty25,ty27,ty63,ty31]
   refine loop_rule (fun x : Nat × Bool × List Bool × List (List Int) => ⟨[.any,.ptr 0 0 0 0,.any,.any,.any,.ref 1 1 0 m,.ref 2 1 0 m,.fv (.bool x.2.1),.fv (.int .i64 ((g.prods.length : Int) - 1 - (x.1 : Int))),.any,.any,.any,.any,.any,.any,.any,.any,.any,.any,.any,.any,.any,.any,.any,.any,.any,.any,.any,.any,.any,.any,.any,.any,.any,.any,.any,.any,.any,.any,.any,.any,.any,.any,.any,.any,.any,.any,.any,.any,.any,.any,.any,.any,.any,.any,.any,.any,.any,.any,.any,.any,.any,.any,.any,.any,.any,.any,.any,.any,.any,.any,.any,.any,.any,.any,.any,.any,.any,.any,.any,.any,.any,.any,.any,.any,.any,.any,.any,.any,.any,.any,.any,.any,.any,.any,.any,.any,.any,.any,.any,.any,.any,.any,.any,.any,.any,.any],HT g x.2.2.1 x.2.2.2,[]⟩)
    (fun x => x.1 ≤ g.prods.length ∧ RndI g K0 B0 (g.prods.drop (g.prods.length - x.1)) x.2.2.1 x.2.2.2 x.2.1 ∧ LenT x.2.2.2) (fun x => g.prods.length - x.1) (0,false,K0,B0) (le_wk (by simp [wk,Gra.cells])) ⟨Nat.zero_le _,by rw [Nat.sub_zero,List.drop_length]; exact RndI.start hI0,hT0⟩ (fun x hx s3 hs3 => ?_)
   obtain ⟨q,b,K,B⟩ := x
   obtain ⟨hq,hR,hT⟩ := hx
   simp only at hq hR hT hs3 ⊢
   by_cases hql : q < g.prods.length
   ·have hge : (0 ≤ (g.prods.length : Int) - 1 - (q : Int)) = True := eq_true (by omega)
    have hltp : ((g.prods.length : Int) - 1 - (q : Int) < (g.prods.length : Int)) = True := eq_true (by omega)
    have htn : ((g.prods.length : Int) - 1 - (q : Int)).toNat = g.prods.length - 1 - q := by omega
    have hlt1 : g.prods.length - 1 - q < g.prods.length := by omega
    have hrw := rows_at Prd.row g.prods (g.prods.length - 1 - q) hlt1
    have hpm := List.getElem_mem hlt1
    have hptk : ∀ r ∈ g.prods.drop (g.prods.length - (q + 1)),r = g.prods[g.prods.length - 1 - q] ∨ r ∈ g.prods.drop (g.prods.length - q) := fun r hr => by
     rw [show g.prods.length - (q + 1) = g.prods.length - 1 - q from by omega,List.drop_eq_getElem_cons hlt1] at hr
     rcases List.mem_cons.1 hr with h | h
     ·exact .inl h
     ·rw [show g.prods.length - 1 - q + 1 = g.prods.length - q from by omega] at h
      exact .inr h
    have hwq : IntKind.wrap .i64 ((g.prods.length : Int) - 1 - (q : Int) - 1) = (g.prods.length : Int) - 1 - ((q + 1 : Nat) : Int) := by rw [wrap_small (by omega) (by omega)]; omega
    generalize g.prods[g.prods.length - 1 - q] = p at hrw hpm hptk
    have hpl := hgf.left p hpm
    have hpr := hgf.right p hpm
    have hp8 := (hps p hpm).2.1
    have hpa := (hps p hpm).2.2
    have hir : p.right.map iRow = ints p.right := rfl
    have hprl := ints_length p.right
    have hlK := hR.inv.lenK
    have hlB := hR.inv.lenB
    have hwo := ok57 g hg K B m (by omega) (by omega) hmb hT.len p.right (by omega) (fun n hn => by have := hpa n hn; omega)
    have hwr : wordRes g.terms K B p.right = (if allS g.terms K p.right = true then (wordS g.terms B p.right,decide ((wordS g.terms B p.right).length ≤ 400)) else ([],false)) := rfl
    have hno := fun h : ¬ stepC g K B p => hR.no h hptk
    by_cases hgo : allS g.terms K p.right = true ∧ (wordS g.terms B p.right).length ≤ 400
    ·obtain ⟨hal,h400⟩ := hgo
     rw [if_pos hal,decide_eq_true h400] at hwr
     rw [hwr] at hwo
     have hkn := bRows_get K p.left.toNat (by omega)
     have hbn := rowsOf_getD (B := B) (k := p.left.toNat) (by omega)
     have hc0 : (0 ≤ p.left) = True := eq_true (by omega)
     have hcm : (p.left < (m : Int)) = True := eq_true (by omega)
     have hyw := (hR.inv.yld hpr hal).ok hgf.right hpr
     have hyes := fun h => hR.yes (qs := g.prods.drop (g.prods.length - (q + 1))) hgf hpm (⟨hal,h400,h⟩ : stepC g K B p)
     have hTy := hT.step (k := p.left.toNat) (by omega) h400
     have hsn := fun h => hR.inv.snd p.left.toNat (by omega) h
     have hbl := hT.len p.left.toNat
     have hnc : K.getD p.left.toNat false = true → ¬ valW g.terms (wordS g.terms B p.right) < valW g.terms (B.getD p.left.toNat []) → ¬ stepC g K B p := fun h1 h2 h => by
      rcases h.2.2 with h3 | h3
      ·rw [h1] at h3; cases h3
      ·exact h2 h3
     have hor := ok58 (wordS g.terms B p.right) (B.getD p.left.toNat []) (by omega) (by omega)
     have hrs := fun w => rowsOf_set2 B p.left.toNat w
     cases hkl : K.getD p.left.toNat false with
     | false =>
      have hR2 := hyes (.inl hkl)
      rw [hkl] at hkn
      generalize wordS g.terms B p.right = wd at hwo h400 hyw hTy hR2
      have hwil := ints_length wd
      simp -implicitDefEqProofs only [awp_draw _ _ Tryzdr32_3,awp_draw _ _ Tryzdr32_22,HT,Gra.cells,List.length_map,hge,hltp,htn,hrw,Prd.row,hir,hprl,stB_boxA,splice_all,List.all_cons,List.all_nil,Bool.and_self,
  evx,evy,ofValue,ofCell,List.range,List.range.loop,Array.size,Nat.reduceAdd,Nat.reduceSub,Nat.reduceEqDiff,List.replicate,if_true,if_false,↓reduceIte,reduceCtorEq,elB,evParts,Int.reduceToNat,Int.reduceLE,Int.reduceLT,Int.reduceEq,Nat.reduceMul,Nat.reduceLeDiff,Nat.reduceLT,ty3,ty4,ty9,ty28,ty85,ty73,ty22,ty23,ty24,ty25,ty27,ty63,ty31]
      refine callK_ret _ _ _ _ (call_lent [1,2] hwo (by simp [subAny,subA,subL,mkSub,idx,Gra.av]) rfl (by simp) (by simp [Blk.live])) (by first | exact ok_none _ _ | exact ok_nil _ _) ?_
      simp only [AOut.sub]
      simp -implicitDefEqProofs only [awp_draw _ _ Tryzdr32_3,awp_draw _ _ Tryzdr32_22,subAny,subA,subL,backSub,back,putBack,subBlk,Option.getD_some,List.map_cons,List.map_nil,Nat.not_lt_zero,Nat.sub_zero,Nat.add_zero,List.length_map,HT,hc0,hcm,hkn,hbn,hrs,bRows_set2,Nat.add_zero,Nat.mul_one,hwq,
  evx,evy,ofValue,ofCell,List.range,List.range.loop,Array.size,Nat.reduceAdd,Nat.reduceSub,Nat.reduceEqDiff,List.replicate,if_true,if_false,↓reduceIte,reduceCtorEq,elB,evParts,Int.reduceToNat,Int.reduceLE,Int.reduceLT,Int.reduceEq,Nat.reduceMul,Nat.reduceLeDiff,Nat.reduceLT,ty3,ty4,ty9,ty28,ty85,ty73,ty22,ty23,ty24,ty25,ty27,ty63,ty31]
      exact back_intro hs3 (q + 1,true,K.set p.left.toNat true,B.set p.left.toNat wd) (le_pk [0,1,2] rfl (by simp) (by simp) (by simp [HT,subBlk,subAny,subA,mkSub,idx,Gra.cells]) (by simp [wk,subAny,subA,mkSub,idx])) ⟨by simp only; omega,hR2,hTy⟩ (by simp only; omega)
     | true =>
      have hoB := ((hsn hkl).1).ok hgf.right (by simp; omega)
      have hbv := better_val hyw hoB
      have hnc2 := hnc hkl
      have hyes2 := fun h => hyes (.inr h)
      rw [hkl] at hkn
      have hbil := ints_length (B.getD p.left.toNat [])
      generalize B.getD p.left.toNat [] = bl0 at hbn hor hbv hnc2 hyes2 hbil
      generalize wordS g.terms B p.right = wd at hwo h400 hyw hTy hyes2 hor hbv hnc2
      have hwil := ints_length wd
      simp -implicitDefEqProofs only [awp_draw _ _ Tryzdr32_3,awp_draw _ _ Tryzdr32_22,HT,Gra.cells,List.length_map,hge,hltp,htn,hrw,Prd.row,hir,hprl,stB_boxA,splice_all,List.all_cons,List.all_nil,Bool.and_self,
  evx,evy,ofValue,ofCell,List.range,List.range.loop,Array.size,Nat.reduceAdd,Nat.reduceSub,Nat.reduceEqDiff,List.replicate,if_true,if_false,↓reduceIte,reduceCtorEq,elB,evParts,Int.reduceToNat,Int.reduceLE,Int.reduceLT,Int.reduceEq,Nat.reduceMul,Nat.reduceLeDiff,Nat.reduceLT,ty3,ty4,ty9,ty28,ty85,ty73,ty22,ty23,ty24,ty25,ty27,ty63,ty31]
      refine callK_ret _ _ _ _ (call_lent [1,2] hwo (by simp [subAny,subA,subL,mkSub,idx,Gra.av]) rfl (by simp) (by simp [Blk.live])) (by first | exact ok_none _ _ | exact ok_nil _ _) ?_
      simp only [AOut.sub]
      by_cases c1 : wd.length < bl0.length
      ·have hv : valW g.terms wd < valW g.terms bl0 := by
        have : betterL wd bl0 = true := by unfold betterL; rw [decide_eq_true c1]; rfl
        rw [hbv] at this
        exact of_decide_eq_true this
       have hR2 := hyes2 hv
       simp -implicitDefEqProofs only [awp_draw _ _ Tryzdr32_3,awp_draw _ _ Tryzdr32_22,subAny,subA,subL,backSub,back,putBack,subBlk,Option.getD_some,List.map_cons,List.map_nil,Nat.not_lt_zero,Nat.sub_zero,Nat.add_zero,List.length_map,HT,hc0,hcm,hkn,hbn,hrs,bRows_set2,Nat.add_zero,Nat.mul_one,hwq,hwil,hbil,lt_true c1,
  evx,evy,ofValue,ofCell,List.range,List.range.loop,Array.size,Nat.reduceAdd,Nat.reduceSub,Nat.reduceEqDiff,List.replicate,if_true,if_false,↓reduceIte,reduceCtorEq,elB,evParts,Int.reduceToNat,Int.reduceLE,Int.reduceLT,Int.reduceEq,Nat.reduceMul,Nat.reduceLeDiff,Nat.reduceLT,ty3,ty4,ty9,ty28,ty85,ty73,ty22,ty23,ty24,ty25,ty27,ty63,ty31]
       exact back_intro hs3 (q + 1,true,K.set p.left.toNat true,B.set p.left.toNat wd) (le_pk [0,1,2] rfl (by simp) (by simp) (by simp [HT,subBlk,subAny,subA,mkSub,idx,Gra.cells]) (by simp [wk,subAny,subA,mkSub,idx])) ⟨by simp only; omega,hR2,hTy⟩ (by simp only; omega)
      ·by_cases c2 : wd.length = bl0.length
       ·have c2t : ((wd.length : Int) = (bl0.length : Int)) = True := eq_true (by omega)
        have hb3 : betterL wd bl0 = decide (cmpL wd bl0 < 0) := by unfold betterL; rw [decide_eq_false c1,decide_eq_true c2]; simp
        rw [hbv,decide_eq_decide] at hb3
        simp -implicitDefEqProofs only [awp_draw _ _ Tryzdr32_3,awp_draw _ _ Tryzdr32_22,subAny,subA,subL,backSub,back,putBack,subBlk,Option.getD_some,List.map_cons,List.map_nil,Nat.not_lt_zero,Nat.sub_zero,Nat.add_zero,List.length_map,HT,hc0,hcm,hkn,hbn,hwil,hbil,lt_false c1,c2t,
  evx,evy,ofValue,ofCell,List.range,List.range.loop,Array.size,Nat.reduceAdd,Nat.reduceSub,Nat.reduceEqDiff,List.replicate,if_true,if_false,↓reduceIte,reduceCtorEq,elB,evParts,Int.reduceToNat,Int.reduceLE,Int.reduceLT,Int.reduceEq,Nat.reduceMul,Nat.reduceLeDiff,Nat.reduceLT,ty3,ty4,ty9,ty28,ty85,ty73,ty22,ty23,ty24,ty25,ty27,ty63,ty31]
        refine callK_ret _ _ _ _ (call_pure (hor) (fun _ => rfl) (fun _ => rfl)) (ok_nil _ _) ?_
        by_cases hv : valW g.terms wd < valW g.terms bl0
        ·have hR2 := hyes2 hv
         have hct : (cmpL wd bl0 < 0) = True := eq_true (hb3.1 hv)
         simp -implicitDefEqProofs only [awp_draw _ _ Tryzdr32_3,awp_draw _ _ Tryzdr32_22,hct,hc0,hcm,hkn,hbn,hrs,bRows_set2,Nat.add_zero,Nat.mul_one,hwq,
  evx,evy,ofValue,ofCell,List.range,List.range.loop,Array.size,Nat.reduceAdd,Nat.reduceSub,Nat.reduceEqDiff,List.replicate,if_true,if_false,↓reduceIte,reduceCtorEq,elB,evParts,Int.reduceToNat,Int.reduceLE,Int.reduceLT,Int.reduceEq,Nat.reduceMul,Nat.reduceLeDiff,Nat.reduceLT,ty3,ty4,ty9,ty28,ty85,ty73,ty22,ty23,ty24,ty25,ty27,ty63,ty31]
         exact back_intro hs3 (q + 1,true,K.set p.left.toNat true,B.set p.left.toNat wd) (le_pk [0,1,2] rfl (by simp) (by simp) (by simp [HT,subBlk,subAny,subA,mkSub,idx,Gra.cells]) (by simp [wk,subAny,subA,mkSub,idx])) ⟨by simp only; omega,hR2,hTy⟩ (by simp only; omega)
        ·have hct : (cmpL wd bl0 < 0) = False := eq_false fun h => hv (hb3.2 h)
         simp -implicitDefEqProofs only [awp_draw _ _ Tryzdr32_3,awp_draw _ _ Tryzdr32_22,hct,hwq,
  evx,evy,ofValue,ofCell,List.range,List.range.loop,Array.size,Nat.reduceAdd,Nat.reduceSub,Nat.reduceEqDiff,List.replicate,if_true,if_false,↓reduceIte,reduceCtorEq,elB,evParts,Int.reduceToNat,Int.reduceLE,Int.reduceLT,Int.reduceEq,Nat.reduceMul,Nat.reduceLeDiff,Nat.reduceLT,ty3,ty4,ty9,ty28,ty85,ty73,ty22,ty23,ty24,ty25,ty27,ty63,ty31]
         exact back_intro hs3 (q + 1,b,K,B) (le_pk [0,1,2] rfl (by simp) (by simp) (by simp [HT,subBlk,subAny,subA,mkSub,idx,Gra.cells]) (by simp [wk,subAny,subA,mkSub,idx])) ⟨by simp only; omega,hno (hnc2 hv),hT⟩ (by simp only; omega)
       ·have c2t : ((wd.length : Int) = (bl0.length : Int)) = False := eq_false (by omega)
        have hv : ¬ valW g.terms wd < valW g.terms bl0 := by
         have : betterL wd bl0 = false := by unfold betterL; rw [decide_eq_false c1,decide_eq_false c2]; rfl
         rw [hbv] at this
         exact of_decide_eq_false this
        simp -implicitDefEqProofs only [awp_draw _ _ Tryzdr32_3,awp_draw _ _ Tryzdr32_22,subAny,subA,subL,backSub,back,putBack,subBlk,Option.getD_some,List.map_cons,List.map_nil,Nat.not_lt_zero,Nat.sub_zero,Nat.add_zero,List.length_map,HT,hc0,hcm,hkn,hbn,hwil,hbil,lt_false c1,c2t,hwq,
  evx,evy,ofValue,ofCell,List.range,List.range.loop,Array.size,Nat.reduceAdd,Nat.reduceSub,Nat.reduceEqDiff,List.replicate,if_true,if_false,↓reduceIte,reduceCtorEq,elB,evParts,Int.reduceToNat,Int.reduceLE,Int.reduceLT,Int.reduceEq,Nat.reduceMul,Nat.reduceLeDiff,Nat.reduceLT,ty3,ty4,ty9,ty28,ty85,ty73,ty22,ty23,ty24,ty25,ty27,ty63,ty31]
        exact back_intro hs3 (q + 1,b,K,B) (le_pk [0,1,2] rfl (by simp) (by simp) (by simp [HT,subBlk,subAny,subA,mkSub,idx,Gra.cells]) (by simp [wk,subAny,subA,mkSub,idx])) ⟨by simp only; omega,hno (hnc2 hv),hT⟩ (by simp only; omega)
    ·have hns : ¬ stepC g K B p := fun h => hgo ⟨h.1,h.2.1⟩
     have hwf : (wordRes g.terms K B p.right).2 = false := by
      rw [hwr]
      by_cases c : allS g.terms K p.right = true
      ·rw [if_pos c]; exact decide_eq_false fun h => hgo ⟨c,h⟩
      ·rw [if_neg c]
     rw [hwf] at hwo
     generalize (wordRes g.terms K B p.right).1 = wd at hwo
     simp -implicitDefEqProofs only [awp_draw _ _ Tryzdr32_3,awp_draw _ _ Tryzdr32_22,HT,Gra.cells,List.length_map,hge,hltp,htn,hrw,Prd.row,hir,hprl,stB_boxA,splice_all,List.all_cons,List.all_nil,Bool.and_self,
  evx,evy,ofValue,ofCell,List.range,List.range.loop,Array.size,Nat.reduceAdd,Nat.reduceSub,Nat.reduceEqDiff,List.replicate,if_true,if_false,↓reduceIte,reduceCtorEq,elB,evParts,Int.reduceToNat,Int.reduceLE,Int.reduceLT,Int.reduceEq,Nat.reduceMul,Nat.reduceLeDiff,Nat.reduceLT,ty3,ty4,ty9,ty28,ty85,ty73,ty22,ty23,ty24,ty25,ty27,ty63,ty31]
     refine callK_ret _ _ _ _ (call_lent [1,2] hwo (by simp [subAny,subA,subL,mkSub,idx,Gra.av]) rfl (by simp) (by simp [Blk.live])) (by first | exact ok_none _ _ | exact ok_nil _ _) ?_
     simp only [AOut.sub]
     simp -implicitDefEqProofs only [awp_draw _ _ Tryzdr32_3,awp_draw _ _ Tryzdr32_22,subAny,subA,subL,backSub,back,putBack,subBlk,Option.getD_some,List.map_cons,List.map_nil,Nat.not_lt_zero,Nat.sub_zero,Nat.add_zero,List.length_map,hwq,
  evx,evy,ofValue,ofCell,List.range,List.range.loop,Array.size,Nat.reduceAdd,Nat.reduceSub,Nat.reduceEqDiff,List.replicate,if_true,if_false,↓reduceIte,reduceCtorEq,elB,evParts,Int.reduceToNat,Int.reduceLE,Int.reduceLT,Int.reduceEq,Nat.reduceMul,Nat.reduceLeDiff,Nat.reduceLT,ty3,ty4,ty9,ty28,ty85,ty73,ty22,ty23,ty24,ty25,ty27,ty63,ty31]
     exact back_intro hs3 (q + 1,b,K,B) (le_pk [0,1,2] rfl (by simp) (by simp) (by simp [HT,subBlk,subAny,subA,mkSub,idx,Gra.cells]) (by simp [wk,subAny,subA,mkSub,idx])) ⟨by simp only; omega,hno hns,hT⟩ (by simp only; omega)
   ·obtain rfl : q = g.prods.length := by omega
    have hge : (0 ≤ (g.prods.length : Int) - 1 - (g.prods.length : Int)) = False := eq_false (by omega)
    simp -implicitDefEqProofs only [awp_draw _ _ Tryzdr32_3,awp_draw _ _ Tryzdr32_22,hge,
  evx,evy,ofValue,ofCell,List.range,List.range.loop,Array.size,Nat.reduceAdd,Nat.reduceSub,Nat.reduceEqDiff,List.replicate,if_true,if_false,↓reduceIte,reduceCtorEq,elB,evParts,Int.reduceToNat,Int.reduceLE,Int.reduceLT,Int.reduceEq,Nat.reduceMul,Nat.reduceLeDiff,Nat.reduceLT,ty3,ty4,ty9,ty28,ty85,ty73,ty22,ty23,ty24,ty25,ty27,ty63,ty31]
    exact back_intro hs2 (b,K,B) (le_eqwk rfl (by simp [wk])) ⟨hR.inv,hT,fun e => by
     simp only at e
     subst e
     exact (hR.closed fun p hp => by rw [Nat.sub_self]; exact hp).2.2⟩ (by
     cases b with
     | true => have := hR.on rfl; simp only [if_true]; omega
     | false => simp; omega)
end Go.Abs
