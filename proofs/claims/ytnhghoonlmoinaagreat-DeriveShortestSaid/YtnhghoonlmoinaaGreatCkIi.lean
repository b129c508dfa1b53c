/- Soundness: the document's answer. -/
import Derived.Test.YtnhghoonlmoinaaGreatTyTryzi
import Derived.Test.YtnhghoonlmoinaaGreatDrTryzi
import Derived.Test.YtnhghoonlmoinaaGreatAbsZ
import Derived.Test.YtnhghoonlmoinaaGreatCkGi
namespace Go.Abs
open Go.Proofs
set_option linter.unusedVariables false
set_option linter.unusedSimpArgs false
set_option maxRecDepth 100000
set_option maxHeartbeats 8000000
def Prd.cells (p : Prd) : List AV := [.fv (.int .i64 p.left),.fv (.lst 1 (p.right.map iRow)),.fv (.int .i64 p.prec)]
def symBad (g : Gra) (n : Int) : Bool := decide (n < 1) || decide ((g.all : Int) < n)
theorem any_bad {α : Type} {p : α → Bool} {l : List α} {i : Nat} (hi : i < l.length) (h : p l[i] = true) : l.any p = true := List.any_eq_true.2 ⟨_,List.getElem_mem hi,h⟩
theorem any_step {α : Type} {p : α → Bool} {l : List α} {i : Nat} (hi : i < l.length) (h : (l.take i).any p = false) (h2 : p l[i] = false) : (l.take (i + 1)).any p = false := by
 rw [any_take_succ p l i hi,h,h2]; rfl
theorem ok44 (g : Gra) (hg : Small g 100) : Ok Tryz.prog 44 [g.av] [] (.ret (.fv (.bool g.sound))) [] := by
 have hnr := hg.nrules
 have hnn := hg.nnonts
 have hnl := hg.nlevels
 have hnp := hg.nprods
 refine ok_start (k := 176) (n0 := 0) (rs := [.tmp 2]) mix Tryz.func44 rfl rfl rfl rfl rfl rfl rfl ?_
 by_cases a1 : (16 : Int) < (g.rules.length : Int)
 ·simp -implicitDefEqProofs only [Gra.av,List.length_map,lit_true a1,
  evx,evy,ofValue,ofCell,List.range,List.range.loop,Array.size,Nat.reduceAdd,Nat.reduceSub,Nat.reduceEqDiff,List.replicate,if_true,if_false,↓reduceIte,reduceCtorEq,elB,evParts,Int.reduceToNat,Int.reduceLE,Int.reduceLT,Int.reduceEq,Nat.reduceMul,Nat.reduceLeDiff,Nat.reduceLT,ty3,ty4,ty9,ty22,ty23,ty24,ty25,ty27,ty28,ty63,ty59,ty61,ty127]
  rw [sound_head (.inl (by omega))]
  exact le_flat rfl
 by_cases a2 : (16 : Int) < (g.nonts.length : Int)
 ·simp -implicitDefEqProofs only [Gra.av,List.length_map,lit_false a1,lit_true a2,
  evx,evy,ofValue,ofCell,List.range,List.range.loop,Array.size,Nat.reduceAdd,Nat.reduceSub,Nat.reduceEqDiff,List.replicate,if_true,if_false,↓reduceIte,reduceCtorEq,elB,evParts,Int.reduceToNat,Int.reduceLE,Int.reduceLT,Int.reduceEq,Nat.reduceMul,Nat.reduceLeDiff,Nat.reduceLT,ty3,ty4,ty9,ty22,ty23,ty24,ty25,ty27,ty28,ty63,ty59,ty61,ty127]
  rw [sound_head (.inr (.inl (by omega)))]
  exact le_flat rfl
 by_cases a3 : (40 : Int) < (g.prods.length : Int)
 ·simp -implicitDefEqProofs only [Gra.av,List.length_map,lit_false a1,lit_false a2,lit_true a3,
  evx,evy,ofValue,ofCell,List.range,List.range.loop,Array.size,Nat.reduceAdd,Nat.reduceSub,Nat.reduceEqDiff,List.replicate,if_true,if_false,↓reduceIte,reduceCtorEq,elB,evParts,Int.reduceToNat,Int.reduceLE,Int.reduceLT,Int.reduceEq,Nat.reduceMul,Nat.reduceLeDiff,Nat.reduceLT,ty3,ty4,ty9,ty22,ty23,ty24,ty25,ty27,ty28,ty63,ty59,ty61,ty127]
  rw [sound_head (.inr (.inr (.inl (by omega))))]
  exact le_flat rfl
 have hnames := ok74 g hnr hnn (small_names hg)
 have hterms := ok20 g hnr
 have hall : g.all = g.terms + g.nonts.length := rfl
 have htl : g.terms ≤ g.rules.length := List.length_filter_le _ _
 cases hnm : g.namesB with
 | false =>
  rw [hnm] at hnames
  simp -implicitDefEqProofs only [Gra.av,List.length_map,lit_false a1,lit_false a2,lit_false a3,
  evx,evy,ofValue,ofCell,List.range,List.range.loop,Array.size,Nat.reduceAdd,Nat.reduceSub,Nat.reduceEqDiff,List.replicate,if_true,if_false,↓reduceIte,reduceCtorEq,elB,evParts,Int.reduceToNat,Int.reduceLE,Int.reduceLT,Int.reduceEq,Nat.reduceMul,Nat.reduceLeDiff,Nat.reduceLT,ty3,ty4,ty9,ty22,ty23,ty24,ty25,ty27,ty28,ty63,ty59,ty61,ty127]
  refine callK_ret _ _ _ _ (call_pure (hnames) (fun _ => rfl) (fun _ => rfl)) (ok_nil _ _) ?_
  simp -implicitDefEqProofs only [evx,evy,ofValue,ofCell,List.range,List.range.loop,Array.size,Nat.reduceAdd,Nat.reduceSub,Nat.reduceEqDiff,List.replicate,if_true,if_false,↓reduceIte,reduceCtorEq,elB,evParts,Int.reduceToNat,Int.reduceLE,Int.reduceLT,Int.reduceEq,Nat.reduceMul,Nat.reduceLeDiff,Nat.reduceLT,ty3,ty4,ty9,ty22,ty23,ty24,ty25,ty27,ty28,ty63,ty59,ty61,ty127]
  rw [sound_head (.inr (.inr (.inr hnm)))]
  exact le_flat rfl
 | true =>
 rw [hnm] at hnames
 have hw1 : IntKind.wrap .i64 ((g.terms : Int) + (g.nonts.length : Int)) = (g.all : Int) := by rw [hall]; exact wsum _ _ (by omega)
 simp -implicitDefEqProofs only [Gra.av,List.length_map,lit_false a1,lit_false a2,lit_false a3,
  evx,evy,ofValue,ofCell,List.range,List.range.loop,Array.size,Nat.reduceAdd,Nat.reduceSub,Nat.reduceEqDiff,List.replicate,if_true,if_false,↓reduceIte,reduceCtorEq,elB,evParts,Int.reduceToNat,Int.reduceLE,Int.reduceLT,Int.reduceEq,Nat.reduceMul,Nat.reduceLeDiff,Nat.reduceLT,ty3,ty4,ty9,ty22,ty23,ty24,ty25,ty27,ty28,ty63,ty59,ty61,ty127]
 refine callK_ret _ _ _ _ (call_pure (hnames) (fun _ => rfl) (fun _ => rfl)) (ok_nil _ _) ?_
 simp -implicitDefEqProofs only [evx,evy,ofValue,ofCell,List.range,List.range.loop,Array.size,Nat.reduceAdd,Nat.reduceSub,Nat.reduceEqDiff,List.replicate,if_true,if_false,↓reduceIte,reduceCtorEq,elB,evParts,Int.reduceToNat,Int.reduceLE,Int.reduceLT,Int.reduceEq,Nat.reduceMul,Nat.reduceLeDiff,Nat.reduceLT,ty3,ty4,ty9,ty22,ty23,ty24,ty25,ty27,ty28,ty63,ty59,ty61,ty127]
 refine callK_ret _ _ _ _ (call_pure (hterms) (fun _ => rfl) (fun _ => rfl)) (ok_nil _ _) ?_
 by_cases hL : g.levels.length = g.terms + 1
 ·have hLt : ((g.levels.length : Int) ≠ ((g.terms + 1 : Nat) : Int)) = False := by rw [hL]; simp
  have h0 : 0 < g.levels.length := by omega
  have hfirst := levels_first h0
  have hok := levelsOk_ hL h0
  simp -implicitDefEqProofs only [Gra.cells,List.length_map,hw1,wsucc g.terms (by omega),hLt,
  evx,evy,ofValue,ofCell,List.range,List.range.loop,Array.size,Nat.reduceAdd,Nat.reduceSub,Nat.reduceEqDiff,List.replicate,if_true,if_false,↓reduceIte,reduceCtorEq,elB,evParts,Int.reduceToNat,Int.reduceLE,Int.reduceLT,Int.reduceEq,Nat.reduceMul,Nat.reduceLeDiff,Nat.reduceLT,ty3,ty4,ty9,ty22,ty23,ty24,ty25,ty27,ty28,ty63,ty59,ty61,ty127]
  refine loop_rule (fun i : Nat => ⟨[.any,.ptr 0 0 0 0,.any,.fv (.int .i64 g.terms),.fv (.int .i64 g.all),.fv (.int .i64 i),.any,.any,.any,.any,.any,.any,.any,.any,.any,.any,.any,.any,.any,.any,.any,.any,.any,.any,.any,.any,.any,.any,.any,.any,.any,.any,.any,.any,.any,.any,.any,.any,.any,.any,.any,.any,.any,.any,.any,.any,.any,.any,.any,.any,.any,.any,.any,.any,.any,.any,.any,.any,.any,.any,.any,.any,.any,.any,.any,.any,.any,.any,.any,.any,.any,.any,.any,.any,.any,.any,.any,.any,.any,.any,.any,.any,.any,.any,.any,.any,.any,.any,.any,.any,.any,.any,.any,.any,.any,.any,.any,.any,.any,.any,.any,.any,.any,.any,.any,.any,.any,.any,.any,.any,.any,.any,.any,.any,.any,.any,.any,.any,.any,.any,.any,.any,.any,.any,.any,.any,.any,.any,.any,.any,.any,.any,.any,.any,.any,.any,.any,.any,.any,.any,.any,.any,.any,.any,.any,.any,.any,.any,.any,.any,.any,.any,.any,.any,.any,.any,.any,.any,.any,.any,.any,.any,.any,.any,.any,.any,.any,.any,.any,.any,.any,.any,.any,.any,.any,.any,.any],[.box g.cells],[]⟩)
   (fun i => i ≤ g.levels.length ∧ (g.levels.take i).all Lev.okB = true ∧ (0 < i → g.levels[0].zeroB = true)) (fun i => g.levels.length - i) 0 (le_wk (by simp [wk,Gra.cells])) (by simp) (fun i hi s hs => ?_)
  obtain ⟨hi,hao,hz0⟩ := hi
  by_cases hlt : i < g.levels.length
  ·have hr := rows_at Lev.row g.levels i hlt
   have hbad := @levels_bad g i hlt
   have hgood := all_succ Lev.okB hlt hao
   have hzi : i = 0 → g.levels[0] = g.levels[i] := fun e => by subst e; rfl
   generalize g.levels[i] = l at hr hbad hgood hzi
   by_cases p0 : l.power = 0
   ·have p0t : (l.power = 0) = True := by simpa using p0
    have p0g : (0 < l.power) = False := by simp; omega
    by_cases s0 : l.side = 0
    ·have s0t : (l.side = 0) = True := by simpa using s0
     have hz : l.zeroB = true := by unfold Lev.zeroB; simp [p0,s0]
     simp -implicitDefEqProofs only [Gra.cells,List.length_map,stB_boxA,splice_all,List.all_cons,List.all_nil,lt_true hlt,hr,Lev.row,p0t,p0g,s0t,wsucc i (by omega),
  evx,evy,ofValue,ofCell,List.range,List.range.loop,Array.size,Nat.reduceAdd,Nat.reduceSub,Nat.reduceEqDiff,List.replicate,if_true,if_false,↓reduceIte,reduceCtorEq,elB,evParts,Int.reduceToNat,Int.reduceLE,Int.reduceLT,Int.reduceEq,Nat.reduceMul,Nat.reduceLeDiff,Nat.reduceLT,ty3,ty4,ty9,ty22,ty23,ty24,ty25,ty27,ty28,ty63,ty59,ty61,ty127]
     refine back_intro hs (i + 1) (le_pk [0] rfl (by simp) (by simp) ?_ ?_) ⟨by omega,hgood (lev_zero hz),fun _ => ?_⟩ (by omega)
     ·simp [subBlk,subAny,subA,Gra.cells]
     ·simp [wk,subAny,subA,mkSub,idx]
     ·by_cases e : i = 0
      ·rw [hzi e]; exact hz
      ·exact hz0 (by omega)
    ·have s0t : (l.side = 0) = False := by simpa using s0
     have hz : l.zeroB = false := by unfold Lev.zeroB; simp [s0]
     simp -implicitDefEqProofs only [Gra.cells,List.length_map,stB_boxA,splice_all,List.all_cons,List.all_nil,lt_true hlt,hr,Lev.row,p0t,p0g,s0t,
  evx,evy,ofValue,ofCell,List.range,List.range.loop,Array.size,Nat.reduceAdd,Nat.reduceSub,Nat.reduceEqDiff,List.replicate,if_true,if_false,↓reduceIte,reduceCtorEq,elB,evParts,Int.reduceToNat,Int.reduceLE,Int.reduceLT,Int.reduceEq,Nat.reduceMul,Nat.reduceLeDiff,Nat.reduceLT,ty3,ty4,ty9,ty22,ty23,ty24,ty25,ty27,ty28,ty63,ty59,ty61,ty127]
     rw [sound_levels (hbad (lev_bad hz (.inl (by omega))))]
     exact le_flat rfl
   have p0t : (l.power = 0) = False := by simpa using p0
   have hz : l.zeroB = false := by unfold Lev.zeroB; simp [p0]
   by_cases c1 : 0 < l.power
   ·have c1t : (0 < l.power) = True := by simpa using c1
    by_cases c2 : 0 < l.side
    ·have c2t : (0 < l.side) = True := by simpa using c2
     by_cases c3 : l.side < 4
     ·have c3t : (l.side < 4) = True := by simpa using c3
      by_cases e : i = 0
      ·have et : ((i : Int) = 0) = True := by simpa using e
       simp -implicitDefEqProofs only [Gra.cells,List.length_map,stB_boxA,splice_all,List.all_cons,List.all_nil,lt_true hlt,hr,Lev.row,p0t,c1t,c2t,c3t,et,
  evx,evy,ofValue,ofCell,List.range,List.range.loop,Array.size,Nat.reduceAdd,Nat.reduceSub,Nat.reduceEqDiff,List.replicate,if_true,if_false,↓reduceIte,reduceCtorEq,elB,evParts,Int.reduceToNat,Int.reduceLE,Int.reduceLT,Int.reduceEq,Nat.reduceMul,Nat.reduceLeDiff,Nat.reduceLT,ty3,ty4,ty9,ty22,ty23,ty24,ty25,ty27,ty28,ty63,ty59,ty61,ty127]
       rw [sound_levels (hfirst (by rw [hzi e]; exact hz))]
       exact le_flat rfl
      ·have et : ((i : Int) = 0) = False := by simpa using e
       simp -implicitDefEqProofs only [Gra.cells,List.length_map,stB_boxA,splice_all,List.all_cons,List.all_nil,lt_true hlt,hr,Lev.row,p0t,c1t,c2t,c3t,et,wsucc i (by omega),
  evx,evy,ofValue,ofCell,List.range,List.range.loop,Array.size,Nat.reduceAdd,Nat.reduceSub,Nat.reduceEqDiff,List.replicate,if_true,if_false,↓reduceIte,reduceCtorEq,elB,evParts,Int.reduceToNat,Int.reduceLE,Int.reduceLT,Int.reduceEq,Nat.reduceMul,Nat.reduceLeDiff,Nat.reduceLT,ty3,ty4,ty9,ty22,ty23,ty24,ty25,ty27,ty28,ty63,ty59,ty61,ty127]
       refine back_intro hs (i + 1) (le_pk [0] rfl (by simp) (by simp) ?_ ?_) ⟨by omega,hgood (lev_good (by omega) (by omega) (by omega)),fun _ => hz0 (by omega)⟩ (by omega)
       ·simp [subBlk,subAny,subA,Gra.cells]
       ·simp [wk,subAny,subA,mkSub,idx]
     ·have c3t : (l.side < 4) = False := by simpa using c3
      simp -implicitDefEqProofs only [Gra.cells,List.length_map,stB_boxA,splice_all,List.all_cons,List.all_nil,lt_true hlt,hr,Lev.row,p0t,c1t,c2t,c3t,
  evx,evy,ofValue,ofCell,List.range,List.range.loop,Array.size,Nat.reduceAdd,Nat.reduceSub,Nat.reduceEqDiff,List.replicate,if_true,if_false,↓reduceIte,reduceCtorEq,elB,evParts,Int.reduceToNat,Int.reduceLE,Int.reduceLT,Int.reduceEq,Nat.reduceMul,Nat.reduceLeDiff,Nat.reduceLT,ty3,ty4,ty9,ty22,ty23,ty24,ty25,ty27,ty28,ty63,ty59,ty61,ty127]
      rw [sound_levels (hbad (lev_bad hz (.inr (.inr (by omega)))))]
      exact le_flat rfl
    ·have c2t : (0 < l.side) = False := by simpa using c2
     simp -implicitDefEqProofs only [Gra.cells,List.length_map,stB_boxA,splice_all,List.all_cons,List.all_nil,lt_true hlt,hr,Lev.row,p0t,c1t,c2t,
  evx,evy,ofValue,ofCell,List.range,List.range.loop,Array.size,Nat.reduceAdd,Nat.reduceSub,Nat.reduceEqDiff,List.replicate,if_true,if_false,↓reduceIte,reduceCtorEq,elB,evParts,Int.reduceToNat,Int.reduceLE,Int.reduceLT,Int.reduceEq,Nat.reduceMul,Nat.reduceLeDiff,Nat.reduceLT,ty3,ty4,ty9,ty22,ty23,ty24,ty25,ty27,ty28,ty63,ty59,ty61,ty127]
     rw [sound_levels (hbad (lev_bad hz (.inr (.inl (by omega)))))]
     exact le_flat rfl
   ·have c1t : (0 < l.power) = False := by simpa using c1
    simp -implicitDefEqProofs only [Gra.cells,List.length_map,stB_boxA,splice_all,List.all_cons,List.all_nil,lt_true hlt,hr,Lev.row,p0t,c1t,
  evx,evy,ofValue,ofCell,List.range,List.range.loop,Array.size,Nat.reduceAdd,Nat.reduceSub,Nat.reduceEqDiff,List.replicate,if_true,if_false,↓reduceIte,reduceCtorEq,elB,evParts,Int.reduceToNat,Int.reduceLE,Int.reduceLT,Int.reduceEq,Nat.reduceMul,Nat.reduceLeDiff,Nat.reduceLT,ty3,ty4,ty9,ty22,ty23,ty24,ty25,ty27,ty28,ty63,ty59,ty61,ty127]
    rw [sound_levels (hbad (lev_bad hz (.inl (by omega))))]
    exact le_flat rfl
  ·obtain rfl : i = g.levels.length := by omega
   rw [List.take_length] at hao
   have hlev := hok (hz0 h0) hao
   by_cases n0 : g.nonts.length = 0
   ·have n0a : ((0 : Int) < (g.nonts.length : Int)) = False := lit_false (by omega)
    have n0b : ((g.nonts.length : Int) = 0) = True := by simpa using n0
    by_cases s0 : g.start = 0
    ·have s0t : (g.start ≠ 0) = False := by simpa using s0
     have hst : g.startB = true := by rw [start_none n0]; exact decide_eq_true s0
     simp -implicitDefEqProofs only [Gra.cells,List.length_map,lt_false hlt,n0a,n0b,s0t,
  evx,evy,ofValue,ofCell,List.range,List.range.loop,Array.size,Nat.reduceAdd,Nat.reduceSub,Nat.reduceEqDiff,List.replicate,if_true,if_false,↓reduceIte,reduceCtorEq,elB,evParts,Int.reduceToNat,Int.reduceLE,Int.reduceLT,Int.reduceEq,Nat.reduceMul,Nat.reduceLeDiff,Nat.reduceLT,ty3,ty4,ty9,ty22,ty23,ty24,ty25,ty27,ty28,ty63,ty59,ty61,ty127]
     refine loop_rule (fun i : Nat => ⟨[.any,.ptr 0 0 0 0,.any,.fv (.int .i64 g.terms),.fv (.int .i64 g.all),.any,.any,.any,.any,.fv (.int .i64 i),.any,.any,.any,.any,.any,.any,.any,.any,.any,.any,.any,.any,.any,.any,.any,.any,.any,.any,.any,.any,.any,.any,.any,.any,.any,.any,.any,.any,.any,.any,.any,.any,.any,.any,.any,.any,.any,.any,.any,.any,.any,.any,.any,.any,.any,.any,.any,.any,.any,.any,.any,.any,.any,.any,.any,.any,.any,.any,.any,.any,.any,.any,.any,.any,.any,.any,.any,.any,.any,.any,.any,.any,.any,.any,.any,.any,.any,.any,.any,.any,.any,.any,.any,.any,.any,.any,.any,.any,.any,.any,.any,.any,.any,.any,.any,.any,.any,.any,.any,.any,.any,.any,.any,.any,.any,.any,.any,.any,.any,.any,.any,.any,.any,.any,.any,.any,.any,.any,.any,.any,.any,.any,.any,.any,.any,.any,.any,.any,.any,.any,.any,.any,.any,.any,.any,.any,.any,.any,.any,.any,.any,.any,.any,.any,.any,.any,.any,.any,.any,.any,.any,.any,.any,.any,.any,.any,.any,.any,.any,.any,.any,.any,.any,.any,.any,.any,.any],[.box g.cells],[]⟩)
      (fun i => i ≤ g.prods.length ∧ (g.prods.take i).all (Prd.okB g) = true) (fun i => g.prods.length - i) 0 (le_wk (by simp [wk,Gra.cells])) (by simp) (fun i hi s hs => ?_)
     obtain ⟨hi,hpo⟩ := hi
     by_cases hlt2 : i < g.prods.length
     ·have hr := rows_at Prd.row g.prods i hlt2
      have hbad := @sound_prod g i hlt2
      have hgood := all_succ (Prd.okB g) hlt2 hpo
      have hrl := hg.prods _ (List.getElem_mem hlt2)
      generalize g.prods[i] = p at hr hbad hgood hrl
      have hpb := @prd_bad g p
      have hpg := @prd_good g p
      by_cases b1 : p.left ≤ (g.terms : Int)
      ·have b1t : (p.left ≤ (g.terms : Int)) = True := by simpa using b1
       simp -implicitDefEqProofs only [Gra.cells,List.length_map,stB_boxA,splice_all,List.all_cons,List.all_nil,lt_true hlt2,hr,Prd.row,b1t,
  evx,evy,ofValue,ofCell,List.range,List.range.loop,Array.size,Nat.reduceAdd,Nat.reduceSub,Nat.reduceEqDiff,List.replicate,if_true,if_false,↓reduceIte,reduceCtorEq,elB,evParts,Int.reduceToNat,Int.reduceLE,Int.reduceLT,Int.reduceEq,Nat.reduceMul,Nat.reduceLeDiff,Nat.reduceLT,ty3,ty4,ty9,ty22,ty23,ty24,ty25,ty27,ty28,ty63,ty59,ty61,ty127]
       rw [hbad (hpb (.inl (by omega)))]
       exact le_flat rfl
      have b1t : (p.left ≤ (g.terms : Int)) = False := by simpa using b1
      by_cases b2 : (g.all : Int) < p.left
      ·have b2t : ((g.all : Int) < p.left) = True := by simpa using b2
       simp -implicitDefEqProofs only [Gra.cells,List.length_map,stB_boxA,splice_all,List.all_cons,List.all_nil,lt_true hlt2,hr,Prd.row,b1t,b2t,
  evx,evy,ofValue,ofCell,List.range,List.range.loop,Array.size,Nat.reduceAdd,Nat.reduceSub,Nat.reduceEqDiff,List.replicate,if_true,if_false,↓reduceIte,reduceCtorEq,elB,evParts,Int.reduceToNat,Int.reduceLE,Int.reduceLT,Int.reduceEq,Nat.reduceMul,Nat.reduceLeDiff,Nat.reduceLT,ty3,ty4,ty9,ty22,ty23,ty24,ty25,ty27,ty28,ty63,ty59,ty61,ty127]
       rw [hbad (hpb (.inl (by omega)))]
       exact le_flat rfl
      have b2t : ((g.all : Int) < p.left) = False := by simpa using b2
      by_cases c2 : (8 : Int) < (p.right.length : Int)
      ·simp -implicitDefEqProofs only [Gra.cells,List.length_map,stB_boxA,splice_all,List.all_cons,List.all_nil,lt_true hlt2,hr,Prd.row,b1t,b2t,lit_true c2,
  evx,evy,ofValue,ofCell,List.range,List.range.loop,Array.size,Nat.reduceAdd,Nat.reduceSub,Nat.reduceEqDiff,List.replicate,if_true,if_false,↓reduceIte,reduceCtorEq,elB,evParts,Int.reduceToNat,Int.reduceLE,Int.reduceLT,Int.reduceEq,Nat.reduceMul,Nat.reduceLeDiff,Nat.reduceLT,ty3,ty4,ty9,ty22,ty23,ty24,ty25,ty27,ty28,ty63,ty59,ty61,ty127]
       rw [hbad (hpb (.inr (.inl (by omega))))]
       exact le_flat rfl
      by_cases c3 : p.prec < 0
      ·have c3t : (p.prec < 0) = True := by simpa using c3
       simp -implicitDefEqProofs only [Gra.cells,List.length_map,stB_boxA,splice_all,List.all_cons,List.all_nil,lt_true hlt2,hr,Prd.row,b1t,b2t,lit_false c2,c3t,
  evx,evy,ofValue,ofCell,List.range,List.range.loop,Array.size,Nat.reduceAdd,Nat.reduceSub,Nat.reduceEqDiff,List.replicate,if_true,if_false,↓reduceIte,reduceCtorEq,elB,evParts,Int.reduceToNat,Int.reduceLE,Int.reduceLT,Int.reduceEq,Nat.reduceMul,Nat.reduceLeDiff,Nat.reduceLT,ty3,ty4,ty9,ty22,ty23,ty24,ty25,ty27,ty28,ty63,ty59,ty61,ty127]
       rw [hbad (hpb (.inr (.inr (.inl c3))))]
       exact le_flat rfl
      have c3t : (p.prec < 0) = False := by simpa using c3
      by_cases c4 : (g.terms : Int) < p.prec
      ·have c4t : ((g.terms : Int) < p.prec) = True := by simpa using c4
       simp -implicitDefEqProofs only [Gra.cells,List.length_map,stB_boxA,splice_all,List.all_cons,List.all_nil,lt_true hlt2,hr,Prd.row,b1t,b2t,lit_false c2,c3t,c4t,
  evx,evy,ofValue,ofCell,List.range,List.range.loop,Array.size,Nat.reduceAdd,Nat.reduceSub,Nat.reduceEqDiff,List.replicate,if_true,if_false,↓reduceIte,reduceCtorEq,elB,evParts,Int.reduceToNat,Int.reduceLE,Int.reduceLT,Int.reduceEq,Nat.reduceMul,Nat.reduceLeDiff,Nat.reduceLT,ty3,ty4,ty9,ty22,ty23,ty24,ty25,ty27,ty28,ty63,ty59,ty61,ty127]
       rw [hbad (hpb (.inr (.inr (.inr (.inl c4)))))]
       exact le_flat rfl
      have c4t : ((g.terms : Int) < p.prec) = False := by simpa using c4
      simp -implicitDefEqProofs only [Gra.cells,List.length_map,stB_boxA,splice_all,List.all_cons,List.all_nil,lt_true hlt2,hr,Prd.row,b1t,b2t,lit_false c2,c3t,c4t,
  evx,evy,ofValue,ofCell,List.range,List.range.loop,Array.size,Nat.reduceAdd,Nat.reduceSub,Nat.reduceEqDiff,List.replicate,if_true,if_false,↓reduceIte,reduceCtorEq,elB,evParts,Int.reduceToNat,Int.reduceLE,Int.reduceLT,Int.reduceEq,Nat.reduceMul,Nat.reduceLeDiff,Nat.reduceLT,ty3,ty4,ty9,ty22,ty23,ty24,ty25,ty27,ty28,ty63,ty59,ty61,ty127]
      refine loop_rule (fun k : Nat => ⟨[.any,.ptr 0 0 0 0,.any,.fv (.int .i64 g.terms),.fv (.int .i64 g.all),.any,.any,.any,.any,.fv (.int .i64 i),.ptr 1 0 0 0,.fv (.int .i64 k),.any,.any,.any,.any,.any,.any,.any,.any,.any,.any,.any,.any,.any,.any,.any,.any,.any,.any,.any,.any,.any,.any,.any,.any,.any,.any,.any,.any,.any,.any,.any,.any,.any,.any,.any,.any,.any,.any,.any,.any,.any,.any,.any,.any,.any,.any,.any,.any,.any,.any,.any,.any,.any,.any,.any,.any,.any,.any,.any,.any,.any,.any,.any,.any,.any,.any,.any,.any,.any,.any,.any,.any,.any,.any,.any,.any,.any,.any,.any,.any,.any,.any,.any,.any,.any,.any,.any,.any,.any,.any,.any,.any,.any,.any,.any,.any,.any,.any,.any,.any,.any,.any,.any,.any,.any,.any,.any,.any,.any,.any,.any,.any,.any,.any,.any,.any,.any,.any,.any,.any,.any,.any,.any,.any,.any,.any,.any,.any,.any,.any,.any,.any,.any,.any,.any,.any,.any,.any,.any,.any,.any,.any,.any,.any,.any,.any,.any,.any,.any,.any,.any,.any,.any,.any,.any,.any,.any,.any,.any,.any,.any,.any,.any,.any,.any],[.box g.cells,.box p.cells],[]⟩)
       (fun k => k ≤ p.right.length ∧ (p.right.take k).any (symBad g) = false) (fun k => p.right.length - k) 0 (le_wk (by simp [wk,Gra.cells,Prd.cells])) (by simp) (fun k hk s4 hs4 => ?_)
      obtain ⟨hk,hko⟩ := hk
      by_cases hlt4 : k < p.right.length
      ·have hr2 := rows_at iRow p.right k hlt4
       have hab := @any_bad _ (symBad g) p.right k hlt4
       have hast := any_step hlt4 hko
       generalize p.right[k] = n at hr2 hab hast
       have hsb : symBad g n = (decide (n < 1) || decide ((g.all : Int) < n)) := rfl
       by_cases d1 : n < 1
       ·have d1t : (n < 1) = True := by simpa using d1
        simp -implicitDefEqProofs only [Prd.cells,Gra.cells,List.length_map,stB_boxA,splice_all,List.all_cons,List.all_nil,lt_true hlt4,hr2,iRow,d1t,
  evx,evy,ofValue,ofCell,List.range,List.range.loop,Array.size,Nat.reduceAdd,Nat.reduceSub,Nat.reduceEqDiff,List.replicate,if_true,if_false,↓reduceIte,reduceCtorEq,elB,evParts,Int.reduceToNat,Int.reduceLE,Int.reduceLT,Int.reduceEq,Nat.reduceMul,Nat.reduceLeDiff,Nat.reduceLT,ty3,ty4,ty9,ty22,ty23,ty24,ty25,ty27,ty28,ty63,ty59,ty61,ty127]
        rw [hbad (hpb (.inr (.inr (.inr (.inr (hab (by rw [hsb,decide_eq_true d1]; rfl)))))))]
        exact le_flat rfl
       have d1t : (n < 1) = False := by simpa using d1
       by_cases d2 : (g.all : Int) < n
       ·have d2t : ((g.all : Int) < n) = True := by simpa using d2
        simp -implicitDefEqProofs only [Prd.cells,Gra.cells,List.length_map,stB_boxA,splice_all,List.all_cons,List.all_nil,lt_true hlt4,hr2,iRow,d1t,d2t,
  evx,evy,ofValue,ofCell,List.range,List.range.loop,Array.size,Nat.reduceAdd,Nat.reduceSub,Nat.reduceEqDiff,List.replicate,if_true,if_false,↓reduceIte,reduceCtorEq,elB,evParts,Int.reduceToNat,Int.reduceLE,Int.reduceLT,Int.reduceEq,Nat.reduceMul,Nat.reduceLeDiff,Nat.reduceLT,ty3,ty4,ty9,ty22,ty23,ty24,ty25,ty27,ty28,ty63,ty59,ty61,ty127]
        rw [hbad (hpb (.inr (.inr (.inr (.inr (hab (by rw [hsb,decide_eq_true d2,Bool.or_true])))))))]
        exact le_flat rfl
       ·have d2t : ((g.all : Int) < n) = False := by simpa using d2
        simp -implicitDefEqProofs only [Prd.cells,Gra.cells,List.length_map,stB_boxA,splice_all,List.all_cons,List.all_nil,lt_true hlt4,hr2,iRow,d1t,d2t,wsucc k (by omega),
  evx,evy,ofValue,ofCell,List.range,List.range.loop,Array.size,Nat.reduceAdd,Nat.reduceSub,Nat.reduceEqDiff,List.replicate,if_true,if_false,↓reduceIte,reduceCtorEq,elB,evParts,Int.reduceToNat,Int.reduceLE,Int.reduceLT,Int.reduceEq,Nat.reduceMul,Nat.reduceLeDiff,Nat.reduceLT,ty3,ty4,ty9,ty22,ty23,ty24,ty25,ty27,ty28,ty63,ty59,ty61,ty127]
        exact back_intro hs4 (k + 1) (le_wk (by simp [wk,Prd.cells,Gra.cells])) ⟨by omega,hast (by rw [hsb,decide_eq_false d1,decide_eq_false d2]; rfl)⟩ (by omega)
      ·obtain rfl : k = p.right.length := by omega
       rw [List.take_length] at hko
       simp -implicitDefEqProofs only [Prd.cells,Gra.cells,List.length_map,stB_boxA,splice_all,List.all_cons,List.all_nil,lt_false hlt4,wsucc i (by omega),
  evx,evy,ofValue,ofCell,List.range,List.range.loop,Array.size,Nat.reduceAdd,Nat.reduceSub,Nat.reduceEqDiff,List.replicate,if_true,if_false,↓reduceIte,reduceCtorEq,elB,evParts,Int.reduceToNat,Int.reduceLE,Int.reduceLT,Int.reduceEq,Nat.reduceMul,Nat.reduceLeDiff,Nat.reduceLT,ty3,ty4,ty9,ty22,ty23,ty24,ty25,ty27,ty28,ty63,ty59,ty61,ty127]
       refine back_intro hs (i + 1) (le_pk [0] rfl (by simp) (by simp) ?_ ?_) ⟨by omega,hgood (hpg (by omega) (by omega) (by omega) (by omega) (by omega) hko)⟩ (by omega)
       ·simp [subBlk,subAny,subA,Gra.cells]
       ·simp [wk,subAny,subA,mkSub,idx]
     ·obtain rfl : i = g.prods.length := by omega
      rw [List.take_length] at hpo
      simp -implicitDefEqProofs only [Gra.cells,List.length_map,stB_boxA,splice_all,List.all_cons,List.all_nil,lt_false hlt2,
  evx,evy,ofValue,ofCell,List.range,List.range.loop,Array.size,Nat.reduceAdd,Nat.reduceSub,Nat.reduceEqDiff,List.replicate,if_true,if_false,↓reduceIte,reduceCtorEq,elB,evParts,Int.reduceToNat,Int.reduceLE,Int.reduceLT,Int.reduceEq,Nat.reduceMul,Nat.reduceLeDiff,Nat.reduceLT,ty3,ty4,ty9,ty22,ty23,ty24,ty25,ty27,ty28,ty63,ty59,ty61,ty127]
      rw [sound_ok (by omega) (by omega) (by omega) hnm hlev hst hpo]
      exact le_flat rfl
    ·have s0t : (g.start ≠ 0) = True := by simpa using s0
     simp -implicitDefEqProofs only [Gra.cells,List.length_map,lt_false hlt,n0a,n0b,s0t,
  evx,evy,ofValue,ofCell,List.range,List.range.loop,Array.size,Nat.reduceAdd,Nat.reduceSub,Nat.reduceEqDiff,List.replicate,if_true,if_false,↓reduceIte,reduceCtorEq,elB,evParts,Int.reduceToNat,Int.reduceLE,Int.reduceLT,Int.reduceEq,Nat.reduceMul,Nat.reduceLeDiff,Nat.reduceLT,ty3,ty4,ty9,ty22,ty23,ty24,ty25,ty27,ty28,ty63,ty59,ty61,ty127]
     rw [sound_start (by rw [start_none n0]; exact decide_eq_false s0)]
     exact le_flat rfl
   ·have n0a : ((0 : Int) < (g.nonts.length : Int)) = True := lit_true (by omega)
    have n0b : ((g.nonts.length : Int) = 0) = False := by simpa using n0
    by_cases s1 : g.start ≤ (g.terms : Int)
    ·have s1t : (g.start ≤ (g.terms : Int)) = True := by simpa using s1
     simp -implicitDefEqProofs only [Gra.cells,List.length_map,lt_false hlt,n0a,n0b,s1t,
  evx,evy,ofValue,ofCell,List.range,List.range.loop,Array.size,Nat.reduceAdd,Nat.reduceSub,Nat.reduceEqDiff,List.replicate,if_true,if_false,↓reduceIte,reduceCtorEq,elB,evParts,Int.reduceToNat,Int.reduceLE,Int.reduceLT,Int.reduceEq,Nat.reduceMul,Nat.reduceLeDiff,Nat.reduceLT,ty3,ty4,ty9,ty22,ty23,ty24,ty25,ty27,ty28,ty63,ty59,ty61,ty127]
     rw [sound_start (by rw [start_some n0,decide_eq_false (by omega)]; rfl)]
     exact le_flat rfl
    have s1t : (g.start ≤ (g.terms : Int)) = False := by simpa using s1
    by_cases s2 : (g.all : Int) < g.start
    ·have s2t : ((g.all : Int) < g.start) = True := by simpa using s2
     simp -implicitDefEqProofs only [Gra.cells,List.length_map,lt_false hlt,n0a,n0b,s1t,s2t,
  evx,evy,ofValue,ofCell,List.range,List.range.loop,Array.size,Nat.reduceAdd,Nat.reduceSub,Nat.reduceEqDiff,List.replicate,if_true,if_false,↓reduceIte,reduceCtorEq,elB,evParts,Int.reduceToNat,Int.reduceLE,Int.reduceLT,Int.reduceEq,Nat.reduceMul,Nat.reduceLeDiff,Nat.reduceLT,ty3,ty4,ty9,ty22,ty23,ty24,ty25,ty27,ty28,ty63,ty59,ty61,ty127]
     rw [sound_start (by rw [start_some n0,decide_eq_false (by omega : ¬ g.start ≤ (g.all : Int)),Bool.and_false])]
     exact le_flat rfl
    ·have s2t : ((g.all : Int) < g.start) = False := by simpa using s2
     have hst : g.startB = true := by rw [start_some n0,decide_eq_true (by omega),decide_eq_true (by omega)]; rfl
     simp -implicitDefEqProofs only [Gra.cells,List.length_map,lt_false hlt,n0a,n0b,s1t,s2t,
  evx,evy,ofValue,ofCell,List.range,List.range.loop,Array.size,Nat.reduceAdd,Nat.reduceSub,Nat.reduceEqDiff,List.replicate,if_true,if_false,↓reduceIte,reduceCtorEq,elB,evParts,Int.reduceToNat,Int.reduceLE,Int.reduceLT,Int.reduceEq,Nat.reduceMul,Nat.reduceLeDiff,Nat.reduceLT,ty3,ty4,ty9,ty22,ty23,ty24,ty25,ty27,ty28,ty63,ty59,ty61,ty127]
     refine loop_rule (fun i : Nat => ⟨[.any,.ptr 0 0 0 0,.any,.fv (.int .i64 g.terms),.fv (.int .i64 g.all),.any,.any,.any,.any,.fv (.int .i64 i),.any,.any,.any,.any,.any,.any,.any,.any,.any,.any,.any,.any,.any,.any,.any,.any,.any,.any,.any,.any,.any,.any,.any,.any,.any,.any,.any,.any,.any,.any,.any,.any,.any,.any,.any,.any,.any,.any,.any,.any,.any,.any,.any,.any,.any,.any,.any,.any,.any,.any,.any,.any,.any,.any,.any,.any,.any,.any,.any,.any,.any,.any,.any,.any,.any,.any,.any,.any,.any,.any,.any,.any,.any,.any,.any,.any,.any,.any,.any,.any,.any,.any,.any,.any,.any,.any,.any,.any,.any,.any,.any,.any,.any,.any,.any,.any,.any,.any,.any,.any,.any,.any,.any,.any,.any,.any,.any,.any,.any,.any,.any,.any,.any,.any,.any,.any,.any,.any,.any,.any,.any,.any,.any,.any,.any,.any,.any,.any,.any,.any,.any,.any,.any,.any,.any,.any,.any,.any,.any,.any,.any,.any,.any,.any,.any,.any,.any,.any,.any,.any,.any,.any,.any,.any,.any,.any,.any,.any,.any,.any,.any,.any,.any,.any,.any,.any,.any],[.box g.cells],[]⟩)
      (fun i => i ≤ g.prods.length ∧ (g.prods.take i).all (Prd.okB g) = true) (fun i => g.prods.length - i) 0 (le_wk (by simp [wk,Gra.cells])) (by simp) (fun i hi s hs => ?_)
     obtain ⟨hi,hpo⟩ := hi
     by_cases hlt2 : i < g.prods.length
     ·have hr := rows_at Prd.row g.prods i hlt2
      have hbad := @sound_prod g i hlt2
      have hgood := all_succ (Prd.okB g) hlt2 hpo
      have hrl := hg.prods _ (List.getElem_mem hlt2)
      generalize g.prods[i] = p at hr hbad hgood hrl
      have hpb := @prd_bad g p
      have hpg := @prd_good g p
      by_cases b1 : p.left ≤ (g.terms : Int)
      ·have b1t : (p.left ≤ (g.terms : Int)) = True := by simpa using b1
       simp -implicitDefEqProofs only [Gra.cells,List.length_map,stB_boxA,splice_all,List.all_cons,List.all_nil,lt_true hlt2,hr,Prd.row,b1t,
  evx,evy,ofValue,ofCell,List.range,List.range.loop,Array.size,Nat.reduceAdd,Nat.reduceSub,Nat.reduceEqDiff,List.replicate,if_true,if_false,↓reduceIte,reduceCtorEq,elB,evParts,Int.reduceToNat,Int.reduceLE,Int.reduceLT,Int.reduceEq,Nat.reduceMul,Nat.reduceLeDiff,Nat.reduceLT,ty3,ty4,ty9,ty22,ty23,ty24,ty25,ty27,ty28,ty63,ty59,ty61,ty127]
       rw [hbad (hpb (.inl (by omega)))]
       exact le_flat rfl
      have b1t : (p.left ≤ (g.terms : Int)) = False := by simpa using b1
      by_cases b2 : (g.all : Int) < p.left
      ·have b2t : ((g.all : Int) < p.left) = True := by simpa using b2
       simp -implicitDefEqProofs only [Gra.cells,List.length_map,stB_boxA,splice_all,List.all_cons,List.all_nil,lt_true hlt2,hr,Prd.row,b1t,b2t,
  evx,evy,ofValue,ofCell,List.range,List.range.loop,Array.size,Nat.reduceAdd,Nat.reduceSub,Nat.reduceEqDiff,List.replicate,if_true,if_false,↓reduceIte,reduceCtorEq,elB,evParts,Int.reduceToNat,Int.reduceLE,Int.reduceLT,Int.reduceEq,Nat.reduceMul,Nat.reduceLeDiff,Nat.reduceLT,ty3,ty4,ty9,ty22,ty23,ty24,ty25,ty27,ty28,ty63,ty59,ty61,ty127]
       rw [hbad (hpb (.inl (by omega)))]
       exact le_flat rfl
      have b2t : ((g.all : Int) < p.left) = False := by simpa using b2
      by_cases c2 : (8 : Int) < (p.right.length : Int)
      ·simp -implicitDefEqProofs only [Gra.cells,List.length_map,stB_boxA,splice_all,List.all_cons,List.all_nil,lt_true hlt2,hr,Prd.row,b1t,b2t,lit_true c2,
  evx,evy,ofValue,ofCell,List.range,List.range.loop,Array.size,Nat.reduceAdd,Nat.reduceSub,Nat.reduceEqDiff,List.replicate,if_true,if_false,↓reduceIte,reduceCtorEq,elB,evParts,Int.reduceToNat,Int.reduceLE,Int.reduceLT,Int.reduceEq,Nat.reduceMul,Nat.reduceLeDiff,Nat.reduceLT,ty3,ty4,ty9,ty22,ty23,ty24,ty25,ty27,ty28,ty63,ty59,ty61,ty127]
       rw [hbad (hpb (.inr (.inl (by omega))))]
       exact le_flat rfl
      by_cases c3 : p.prec < 0
      ·have c3t : (p.prec < 0) = True := by simpa using c3
       simp -implicitDefEqProofs only [Gra.cells,List.length_map,stB_boxA,splice_all,List.all_cons,List.all_nil,lt_true hlt2,hr,Prd.row,b1t,b2t,lit_false c2,c3t,
  evx,evy,ofValue,ofCell,List.range,List.range.loop,Array.size,Nat.reduceAdd,Nat.reduceSub,Nat.reduceEqDiff,List.replicate,if_true,if_false,↓reduceIte,reduceCtorEq,elB,evParts,Int.reduceToNat,Int.reduceLE,Int.reduceLT,Int.reduceEq,Nat.reduceMul,Nat.reduceLeDiff,Nat.reduceLT,ty3,ty4,ty9,ty22,ty23,ty24,ty25,ty27,ty28,ty63,ty59,ty61,ty127]
       rw [hbad (hpb (.inr (.inr (.inl c3))))]
       exact le_flat rfl
      have c3t : (p.prec < 0) = False := by simpa using c3
      by_cases c4 : (g.terms : Int) < p.prec
      ·have c4t : ((g.terms : Int) < p.prec) = True := by simpa using c4
       simp -implicitDefEqProofs only [Gra.cells,List.length_map,stB_boxA,splice_all,List.all_cons,List.all_nil,lt_true hlt2,hr,Prd.row,b1t,b2t,lit_false c2,c3t,c4t,
  evx,evy,ofValue,ofCell,List.range,List.range.loop,Array.size,Nat.reduceAdd,Nat.reduceSub,Nat.reduceEqDiff,List.replicate,if_true,if_false,↓reduceIte,reduceCtorEq,elB,evParts,Int.reduceToNat,Int.reduceLE,Int.reduceLT,Int.reduceEq,Nat.reduceMul,Nat.reduceLeDiff,Nat.reduceLT,ty3,ty4,ty9,ty22,ty23,ty24,ty25,ty27,ty28,ty63,ty59,ty61,ty127]
       rw [hbad (hpb (.inr (.inr (.inr (.inl c4)))))]
       exact le_flat rfl
      have c4t : ((g.terms : Int) < p.prec) = False := by simpa using c4
      simp -implicitDefEqProofs only [Gra.cells,List.length_map,stB_boxA,splice_all,List.all_cons,List.all_nil,lt_true hlt2,hr,Prd.row,b1t,b2t,lit_false c2,c3t,c4t,
  evx,evy,ofValue,ofCell,List.range,List.range.loop,Array.size,Nat.reduceAdd,Nat.reduceSub,Nat.reduceEqDiff,List.replicate,if_true,if_false,↓reduceIte,reduceCtorEq,elB,evParts,Int.reduceToNat,Int.reduceLE,Int.reduceLT,Int.reduceEq,Nat.reduceMul,Nat.reduceLeDiff,Nat.reduceLT,ty3,ty4,ty9,ty22,ty23,ty24,ty25,ty27,ty28,ty63,ty59,ty61,ty127]
      refine loop_rule (fun k : Nat => ⟨[.any,.ptr 0 0 0 0,.any,.fv (.int .i64 g.terms),.fv (.int .i64 g.all),.any,.any,.any,.any,.fv (.int .i64 i),.ptr 1 0 0 0,.fv (.int .i64 k),.any,.any,.any,.any,.any,.any,.any,.any,.any,.any,.any,.any,.any,.any,.any,.any,.any,.any,.any,.any,.any,.any,.any,.any,.any,.any,.any,.any,.any,.any,.any,.any,.any,.any,.any,.any,.any,.any,.any,.any,.any,.any,.any,.any,.any,.any,.any,.any,.any,.any,.any,.any,.any,.any,.any,.any,.any,.any,.any,.any,.any,.any,.any,.any,.any,.any,.any,.any,.any,.any,.any,.any,.any,.any,.any,.any,.any,.any,.any,.any,.any,.any,.any,.any,.any,.any,.any,.any,.any,.any,.any,.any,.any,.any,.any,.any,.any,.any,.any,.any,.any,.any,.any,.any,.any,.any,.any,.any,.any,.any,.any,.any,.any,.any,.any,.any,.any,.any,.any,.any,.any,.any,.any,.any,.any,.any,.any,.any,.any,.any,.any,.any,.any,.any,.any,.any,.any,.any,.any,.any,.any,.any,.any,.any,.any,.any,.any,.any,.any,.any,.any,.any,.any,.any,.any,.any,.any,.any,.any,.any,.any,.any,.any,.any,.any],[.box g.cells,.box p.cells],[]⟩)
       (fun k => k ≤ p.right.length ∧ (p.right.take k).any (symBad g) = false) (fun k => p.right.length - k) 0 (le_wk (by simp [wk,Gra.cells,Prd.cells])) (by simp) (fun k hk s4 hs4 => ?_)
      obtain ⟨hk,hko⟩ := hk
      by_cases hlt4 : k < p.right.length
      ·have hr2 := rows_at iRow p.right k hlt4
       have hab := @any_bad _ (symBad g) p.right k hlt4
       have hast := any_step hlt4 hko
       generalize p.right[k] = n at hr2 hab hast
       have hsb : symBad g n = (decide (n < 1) || decide ((g.all : Int) < n)) := rfl
       by_cases d1 : n < 1
       ·have d1t : (n < 1) = True := by simpa using d1
        simp -implicitDefEqProofs only [Prd.cells,Gra.cells,List.length_map,stB_boxA,splice_all,List.all_cons,List.all_nil,lt_true hlt4,hr2,iRow,d1t,
  evx,evy,ofValue,ofCell,List.range,List.range.loop,Array.size,Nat.reduceAdd,Nat.reduceSub,Nat.reduceEqDiff,List.replicate,if_true,if_false,↓reduceIte,reduceCtorEq,elB,evParts,Int.reduceToNat,Int.reduceLE,Int.reduceLT,Int.reduceEq,Nat.reduceMul,Nat.reduceLeDiff,Nat.reduceLT,ty3,ty4,ty9,ty22,ty23,ty24,ty25,ty27,ty28,ty63,ty59,ty61,ty127]
        rw [hbad (hpb (.inr (.inr (.inr (.inr (hab (by rw [hsb,decide_eq_true d1]; rfl)))))))]
        exact le_flat rfl
       have d1t : (n < 1) = False := by simpa using d1
       by_cases d2 : (g.all : Int) < n
       ·have d2t : ((g.all : Int) < n) = True := by simpa using d2
        simp -implicitDefEqProofs only [Prd.cells,Gra.cells,List.length_map,stB_boxA,splice_all,List.all_cons,List.all_nil,lt_true hlt4,hr2,iRow,d1t,d2t,
  evx,evy,ofValue,ofCell,List.range,List.range.loop,Array.size,Nat.reduceAdd,Nat.reduceSub,Nat.reduceEqDiff,List.replicate,if_true,if_false,↓reduceIte,reduceCtorEq,elB,evParts,Int.reduceToNat,Int.reduceLE,Int.reduceLT,Int.reduceEq,Nat.reduceMul,Nat.reduceLeDiff,Nat.reduceLT,ty3,ty4,ty9,ty22,ty23,ty24,ty25,ty27,ty28,ty63,ty59,ty61,ty127]
        rw [hbad (hpb (.inr (.inr (.inr (.inr (hab (by rw [hsb,decide_eq_true d2,Bool.or_true])))))))]
        exact le_flat rfl
       ·have d2t : ((g.all : Int) < n) = False := by simpa using d2
        simp -implicitDefEqProofs only [Prd.cells,Gra.cells,List.length_map,stB_boxA,splice_all,List.all_cons,List.all_nil,lt_true hlt4,hr2,iRow,d1t,d2t,wsucc k (by omega),
  evx,evy,ofValue,ofCell,List.range,List.range.loop,Array.size,Nat.reduceAdd,Nat.reduceSub,Nat.reduceEqDiff,List.replicate,if_true,if_false,↓reduceIte,reduceCtorEq,elB,evParts,Int.reduceToNat,Int.reduceLE,Int.reduceLT,Int.reduceEq,Nat.reduceMul,Nat.reduceLeDiff,Nat.reduceLT,ty3,ty4,ty9,ty22,ty23,ty24,ty25,ty27,ty28,ty63,ty59,ty61,ty127]
        exact back_intro hs4 (k + 1) (le_wk (by simp [wk,Prd.cells,Gra.cells])) ⟨by omega,hast (by rw [hsb,decide_eq_false d1,decide_eq_false d2]; rfl)⟩ (by omega)
      ·obtain rfl : k = p.right.length := by omega
       rw [List.take_length] at hko
       simp -implicitDefEqProofs only [Prd.cells,Gra.cells,List.length_map,stB_boxA,splice_all,List.all_cons,List.all_nil,lt_false hlt4,wsucc i (by omega),
  evx,evy,ofValue,ofCell,List.range,List.range.loop,Array.size,Nat.reduceAdd,Nat.reduceSub,Nat.reduceEqDiff,List.replicate,if_true,if_false,↓reduceIte,reduceCtorEq,elB,evParts,Int.reduceToNat,Int.reduceLE,Int.reduceLT,Int.reduceEq,Nat.reduceMul,Nat.reduceLeDiff,Nat.reduceLT,ty3,ty4,ty9,ty22,ty23,ty24,ty25,ty27,ty28,ty63,ty59,ty61,ty127]
       refine back_intro hs (i + 1) (le_pk [0] rfl (by simp) (by simp) ?_ ?_) ⟨by omega,hgood (hpg (by omega) (by omega) (by omega) (by omega) (by omega) hko)⟩ (by omega)
       ·simp [subBlk,subAny,subA,Gra.cells]
       ·simp [wk,subAny,subA,mkSub,idx]
     ·obtain rfl : i = g.prods.length := by omega
      rw [List.take_length] at hpo
      simp -implicitDefEqProofs only [Gra.cells,List.length_map,stB_boxA,splice_all,List.all_cons,List.all_nil,lt_false hlt2,
  evx,evy,ofValue,ofCell,List.range,List.range.loop,Array.size,Nat.reduceAdd,Nat.reduceSub,Nat.reduceEqDiff,List.replicate,if_true,if_false,↓reduceIte,reduceCtorEq,elB,evParts,Int.reduceToNat,Int.reduceLE,Int.reduceLT,Int.reduceEq,Nat.reduceMul,Nat.reduceLeDiff,Nat.reduceLT,ty3,ty4,ty9,ty22,ty23,ty24,ty25,ty27,ty28,ty63,ty59,ty61,ty127]
      rw [sound_ok (by omega) (by omega) (by omega) hnm hlev hst hpo]
      exact le_flat rfl
 ·have hLt : ((g.levels.length : Int) ≠ ((g.terms + 1 : Nat) : Int)) = True := by simp; omega
  simp -implicitDefEqProofs only [Gra.cells,List.length_map,stB_boxA,splice_all,List.all_cons,List.all_nil,hw1,wsucc g.terms (by omega),hLt,
  evx,evy,ofValue,ofCell,List.range,List.range.loop,Array.size,Nat.reduceAdd,Nat.reduceSub,Nat.reduceEqDiff,List.replicate,if_true,if_false,↓reduceIte,reduceCtorEq,elB,evParts,Int.reduceToNat,Int.reduceLE,Int.reduceLT,Int.reduceEq,Nat.reduceMul,Nat.reduceLeDiff,Nat.reduceLT,ty3,ty4,ty9,ty22,ty23,ty24,ty25,ty27,ty28,ty63,ty59,ty61,ty127]
  rw [sound_levels (levels_len hL)]
  exact le_flat rfl
end Go.Abs
