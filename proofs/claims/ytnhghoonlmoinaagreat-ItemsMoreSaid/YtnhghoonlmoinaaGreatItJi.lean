/- Items: closure and goto, as they answer. -/
import Derived.Test.YtnhghoonlmoinaaGreatTyTryzi
import Derived.Test.YtnhghoonlmoinaaGreatDrTryzi
import Derived.Test.YtnhghoonlmoinaaGreatItHi
namespace Go.Abs
open Go.Proofs
set_option linter.unusedVariables false
set_option linter.unusedSimpArgs false
set_option maxRecDepth 100000
set_option maxHeartbeats 8000000
theorem le_nilsI {n0 : Nat} (k : Nat) (h : List Blk) : Le n0 ⟨[.fv .nils],h,[]⟩ ⟨[.fv (.lst k [])],h,[]⟩ := by
 have := le_nils (n0 := n0) (st := ⟨[.fv .nils],h,[]⟩) 0 k rfl
 simpa using this
theorem rightI_iff {g : Gra} {l : List Itm} : g.rightI l = true ↔ g.usB = true ∧ ∀ x ∈ l,g.isItm x = true := by simp [Gra.rightI]
open Classical in
noncomputable def ansC (g : Gra) (l : List Itm) : List Itm := if g.rightI l = true then closI g l else []
theorem ok23 (g : Gra) (hg : Small g 100) (l : List Itm) (hl : l.length ≤ 100000) :
  Ok Tryz.prog 23 [g.av,.fv (.lst 2 (l.map Itm.row))] [] (.ret (.fv (.lst 2 ((ansC g l).map Itm.row)))) [] := by
 have hri := ok36 g hg l hl
 have hnp := hg.nprods
 refine ok_start (k := 10) (n0 := 0) (rs := [.tmp 4]) mix Tryz.func23 rfl rfl rfl rfl rfl rfl rfl ?_
 simp -implicitDefEqProofs only [Gra.av,
  evx,evy,ofValue,ofCell,List.range,List.range.loop,Array.size,Nat.reduceAdd,Nat.reduceSub,Nat.reduceEqDiff,List.replicate,if_true,if_false,↓reduceIte,reduceCtorEq,elB,evParts,Int.reduceToNat,Int.reduceLE,Int.reduceLT,Int.reduceEq,Nat.reduceMul,Nat.reduceLeDiff,Nat.reduceLT,ty3,ty4,ty9,ty28,ty22,ty23,ty24,ty25,ty27,ty63,ty52,ty43]
 cases hb : g.rightI l with
 | false =>
  rw [hb] at hri
  have e : ansC g l = [] := by rw [ansC,if_neg (by rw [hb]; simp)]
  rw [e]
  refine callK_ret _ _ _ _ (call_pure (hri) (fun _ => rfl) (fun _ => rfl)) (ok_nil _ _) ?_
  simp -implicitDefEqProofs only [evx,evy,ofValue,ofCell,List.range,List.range.loop,Array.size,Nat.reduceAdd,Nat.reduceSub,Nat.reduceEqDiff,List.replicate,if_true,if_false,↓reduceIte,reduceCtorEq,elB,evParts,Int.reduceToNat,Int.reduceLE,Int.reduceLT,Int.reduceEq,Nat.reduceMul,Nat.reduceLeDiff,Nat.reduceLT,ty3,ty4,ty9,ty28,ty22,ty23,ty24,ty25,ty27,ty63,ty52,ty43]
  exact Le.trans (le_nilsI 2 _) (le_to [] [] rfl (by simp) (by simp) (by simp) (by simp) rfl)
 | true =>
  rw [hb] at hri
  have e : ansC g l = closI g l := by rw [ansC,if_pos hb]
  rw [e]
  have hc := ok49 g (by omega) l hl (rightI_iff.1 hb).2
  refine callK_ret _ _ _ _ (call_pure (hri) (fun _ => rfl) (fun _ => rfl)) (ok_nil _ _) ?_
  simp -implicitDefEqProofs only [evx,evy,ofValue,ofCell,List.range,List.range.loop,Array.size,Nat.reduceAdd,Nat.reduceSub,Nat.reduceEqDiff,List.replicate,if_true,if_false,↓reduceIte,reduceCtorEq,elB,evParts,Int.reduceToNat,Int.reduceLE,Int.reduceLT,Int.reduceEq,Nat.reduceMul,Nat.reduceLeDiff,Nat.reduceLT,ty3,ty4,ty9,ty28,ty22,ty23,ty24,ty25,ty27,ty63,ty52,ty43]
  refine callK_ret _ _ _ _ (call_pure (hc) (fun _ => rfl) (fun _ => rfl)) (ok_nil _ _) ?_
  simp -implicitDefEqProofs only [evx,evy,ofValue,ofCell,List.range,List.range.loop,Array.size,Nat.reduceAdd,Nat.reduceSub,Nat.reduceEqDiff,List.replicate,if_true,if_false,↓reduceIte,reduceCtorEq,elB,evParts,Int.reduceToNat,Int.reduceLE,Int.reduceLT,Int.reduceEq,Nat.reduceMul,Nat.reduceLeDiff,Nat.reduceLT,ty3,ty4,ty9,ty28,ty22,ty23,ty24,ty25,ty27,ty63,ty52,ty43]
  exact le_to [] [] rfl (by simp) (by simp) (by simp) (by simp) rfl
/-- Items, gone on by a symbol. -/
def advI (g : Gra) (sym : Int) (l : List Itm) : List Itm := (l.filter fun x => decide (nextI g x ≠ 0 ∧ nextI g x = sym)).map fun x => ⟨x.prod,x.dot + 1⟩
noncomputable def gotoI (g : Gra) (l : List Itm) (sym : Int) : List Itm := sortI (advI g sym (closI g l))
open Classical in
noncomputable def ansG (g : Gra) (l : List Itm) (sym : Int) : List Itm := if g.rightI l = true then gotoI g l sym else []
theorem advI_snoc (g : Gra) (sym : Int) (l : List Itm) (x : Itm) : advI g sym (l ++ [x]) = advI g sym l ++ (if nextI g x ≠ 0 ∧ nextI g x = sym then [⟨x.prod,x.dot + 1⟩] else []) := by
 unfold advI
 rw [List.filter_append,List.map_append,List.filter_cons,List.filter_nil]
 by_cases h : nextI g x ≠ 0 ∧ nextI g x = sym
 ·rw [if_pos h,if_pos (decide_eq_true h)]
  rfl
 ·rw [if_neg h,if_neg (by simpa using h)]
  rfl
theorem advI_len (g : Gra) (sym : Int) (l : List Itm) : (advI g sym l).length ≤ l.length := by
 unfold advI
 rw [List.length_map]
 exact List.length_filter_le _ _
theorem isItm_dot {g : Gra} (hl : ∀ q ∈ g.prods,q.right.length ≤ 1000) {x : Itm} (h : g.isItm x = true) : 0 ≤ x.dot ∧ x.dot ≤ 1000 := by
 have h1 := isItm_iff.1 h
 have h2 := sideL_len hl x.prod
 omega
theorem itemsTo_len {g : Gra} (hl : ∀ q ∈ g.prods,q.right.length ≤ 1000) : ∀ q,(itemsTo g q).length ≤ q * 1001
 | 0 => by simp [itemsTo]
 | q + 1 => by
  have := itemsTo_len hl q
  have := sideL_len hl ((q : Int) - 1)
  rw [itemsTo_succ,List.length_append]
  simp only [rowI,List.length_map,List.length_range]
  omega
theorem closI_len {g : Gra} (hp : g.prods.length ≤ 800) (hl : ∀ q ∈ g.prods,q.right.length ≤ 1000) (l : List Itm) : (closI g l).length ≤ 900000 := by
 have h1 : (closI g l).length ≤ (itemsOf g).length := List.length_filter_le _ _
 have h2 := itemsTo_len hl (g.prods.length + 1)
 have h3 : itemsTo g (g.prods.length + 1) = itemsOf g := rfl
 rw [h3] at h2
 omega
theorem ok27 (g : Gra) (hg : Small g 100) (l : List Itm) (hl : l.length ≤ 100000) (sym : Int) :
  Ok Tryz.prog 27 [g.av,.fv (.lst 2 (l.map Itm.row)),.fv (.int .i64 sym)] [] (.ret (.fv (.lst 2 ((ansG g l sym).map Itm.row)))) [] := by
 have hri := ok36 g hg l hl
 have hnp := hg.nprods
 have hlr : ∀ q ∈ g.prods,q.right.length ≤ 1000 := fun q hq => by have := hg.prods q hq; omega
 refine ok_start (k := 42) (n0 := 0) (rs := [.tmp 6]) mix Tryz.func27 rfl rfl rfl rfl rfl rfl rfl ?_
 simp -implicitDefEqProofs only [Gra.av,
  evx,evy,ofValue,ofCell,List.range,List.range.loop,Array.size,Nat.reduceAdd,Nat.reduceSub,Nat.reduceEqDiff,List.replicate,if_true,if_false,↓reduceIte,reduceCtorEq,elB,evParts,Int.reduceToNat,Int.reduceLE,Int.reduceLT,Int.reduceEq,Nat.reduceMul,Nat.reduceLeDiff,Nat.reduceLT,ty3,ty4,ty9,ty28,ty22,ty23,ty24,ty25,ty27,ty63,ty52,ty43]
 cases hb : g.rightI l with
 | false =>
  rw [hb] at hri
  have e : ansG g l sym = [] := by rw [ansG,if_neg (by rw [hb]; simp)]
  rw [e]
  refine callK_ret _ _ _ _ (call_pure (hri) (fun _ => rfl) (fun _ => rfl)) (ok_nil _ _) ?_
  simp -implicitDefEqProofs only [evx,evy,ofValue,ofCell,List.range,List.range.loop,Array.size,Nat.reduceAdd,Nat.reduceSub,Nat.reduceEqDiff,List.replicate,if_true,if_false,↓reduceIte,reduceCtorEq,elB,evParts,Int.reduceToNat,Int.reduceLE,Int.reduceLT,Int.reduceEq,Nat.reduceMul,Nat.reduceLeDiff,Nat.reduceLT,ty3,ty4,ty9,ty28,ty22,ty23,ty24,ty25,ty27,ty63,ty52,ty43]
  exact Le.trans (le_nilsI 2 _) (le_to [] [] rfl (by simp) (by simp) (by simp) (by simp) rfl)
 | true =>
  rw [hb] at hri
  have e : ansG g l sym = gotoI g l sym := by rw [ansG,if_pos hb]
  rw [e]
  have hc := ok49 g (by omega) l hl (rightI_iff.1 hb).2
  have hcl := closI_len (by omega) hlr l
  have hci : ∀ x ∈ closI g l,g.isItm x = true := fun x hx => ((closI_mem g l x).1 hx).1
  unfold gotoI
  generalize closI g l = C at hc hcl hci
  refine callK_ret _ _ _ _ (call_pure (hri) (fun _ => rfl) (fun _ => rfl)) (ok_nil _ _) ?_
  simp -implicitDefEqProofs only [evx,evy,ofValue,ofCell,List.range,List.range.loop,Array.size,Nat.reduceAdd,Nat.reduceSub,Nat.reduceEqDiff,List.replicate,if_true,if_false,↓reduceIte,reduceCtorEq,elB,evParts,Int.reduceToNat,Int.reduceLE,Int.reduceLT,Int.reduceEq,Nat.reduceMul,Nat.reduceLeDiff,Nat.reduceLT,ty3,ty4,ty9,ty28,ty22,ty23,ty24,ty25,ty27,ty63,ty52,ty43]
  refine callK_ret _ _ _ _ (call_pure (hc) (fun _ => rfl) (fun _ => rfl)) (ok_nil _ _) ?_
  simp -implicitDefEqProofs only [List.length_map,
  evx,evy,ofValue,ofCell,List.range,List.range.loop,Array.size,Nat.reduceAdd,Nat.reduceSub,Nat.reduceEqDiff,List.replicate,if_true,if_false,↓reduceIte,reduceCtorEq,elB,evParts,Int.reduceToNat,Int.reduceLE,Int.reduceLT,Int.reduceEq,Nat.reduceMul,Nat.reduceLeDiff,Nat.reduceLT,ty3,ty4,ty9,ty28,ty22,ty23,ty24,ty25,ty27,ty63,ty52,ty43]
  refine loop_rule (fun s : Nat × List Itm => ⟨[.any,.any,.fv (.int .i64 sym),.ptr 0 0 0 0,.any,.any,.any,.ref 1 2 0 s.2.length,.any,.any,.any,.any,.any,.any,.any,.any,.any,.fv (.lst 2 (C.map Itm.row)),.fv (.int .i64 C.length),.fv (.int .i64 s.1),.any,.any,.any,.any,.any,.any,.any,.any,.any,.any,.any,.any,.any,.any,.any,.any,.any,.any,.any,.any,.any,.any,.any,.any,.any],[.box g.cells,.plain 2 (s.2.map Itm.row)],[]⟩)
   (fun s => s.1 ≤ C.length ∧ s.2 = advI g sym (C.take s.1) ∧ s.2.length ≤ s.1) (fun s => C.length - s.1) (0,[]) (Le.trans (le_virt 7 2 rfl) (le_wk (by simp [wk,Gra.cells]))) (by simp [advI]) (fun s hs st hst => ?_)
  obtain ⟨i,out⟩ := s
  obtain ⟨h1,h2,h3⟩ := hs
  simp only at h1 h2 h3 hst ⊢
  by_cases hlt : i < C.length
  ·have hr := rows_at Itm.row C i hlt
   have ht := List.take_succ_eq_append_getElem hlt
   have hxi := hci _ (List.getElem_mem hlt)
   have hd := isItm_dot hlr hxi
   have hnx := ok52 g C[i] hxi
   have hsn := advI_snoc g sym (C.take i) C[i]
   rw [← ht,← h2] at hsn
   generalize C[i] = x at hr hxi hd hnx hsn
   generalize nextI g x = n at hnx hsn
   have hwd : IntKind.wrap .i64 (x.dot + 1) = x.dot + 1 := wrap_small (by omega) (by omega)
   simp -implicitDefEqProofs only [lt_true hlt,hr,Itm.row,Gra.cells,stB_boxA,splice_all,List.all_cons,List.all_nil,Bool.and_self,
  evx,evy,ofValue,ofCell,List.range,List.range.loop,Array.size,Nat.reduceAdd,Nat.reduceSub,Nat.reduceEqDiff,List.replicate,if_true,if_false,↓reduceIte,reduceCtorEq,elB,evParts,Int.reduceToNat,Int.reduceLE,Int.reduceLT,Int.reduceEq,Nat.reduceMul,Nat.reduceLeDiff,Nat.reduceLT,ty3,ty4,ty9,ty28,ty22,ty23,ty24,ty25,ty27,ty63,ty52,ty43]
   refine callK_ret _ _ _ _ (call_pure (hnx) (fun _ => rfl) (fun _ => rfl)) (ok_nil _ _) ?_
   by_cases hz : n = 0
   ·have hzt : (n = 0) = True := eq_true hz
    rw [if_neg (by simp [hz]),List.append_nil] at hsn
    simp -implicitDefEqProofs only [hzt,wsucc i (by omega),
  evx,evy,ofValue,ofCell,List.range,List.range.loop,Array.size,Nat.reduceAdd,Nat.reduceSub,Nat.reduceEqDiff,List.replicate,if_true,if_false,↓reduceIte,reduceCtorEq,elB,evParts,Int.reduceToNat,Int.reduceLE,Int.reduceLT,Int.reduceEq,Nat.reduceMul,Nat.reduceLeDiff,Nat.reduceLT,ty3,ty4,ty9,ty28,ty22,ty23,ty24,ty25,ty27,ty63,ty52,ty43]
    refine back_intro hst (i + 1,out) (le_pk [0,1] rfl (by simp) (by simp) ?_ ?_) ⟨by simp only; omega,hsn.symm,by simp only; omega⟩ (by simp only; omega)
    ·simp [subBlk,subAny,subA,mkSub,idx,Gra.cells]
    ·simp [wk,subAny,subA,mkSub,idx]
   ·have hzt : (n = 0) = False := eq_false hz
    by_cases hs : n = sym
    ·have hst2 : (n = sym) = True := eq_true hs
     rw [if_pos ⟨hz,hs⟩] at hsn
     have hbig : (out.length + 1) * 16 ≤ 140737488355328 := by omega
     have tk1 : List.take out.length (out.map Itm.row) = out.map Itm.row := List.take_of_length_le (by simp)
     simp -implicitDefEqProofs only [hzt,hst2,hwd,bsE_21,List.length_map,le_true (Nat.le_refl out.length),wsucc i (by omega),
  evx,evy,ofValue,ofCell,List.range,List.range.loop,Array.size,Nat.reduceAdd,Nat.reduceSub,Nat.reduceEqDiff,List.replicate,if_true,if_false,↓reduceIte,reduceCtorEq,elB,evParts,Int.reduceToNat,Int.reduceLE,Int.reduceLT,Int.reduceEq,Nat.reduceMul,Nat.reduceLeDiff,Nat.reduceLT,ty3,ty4,ty9,ty28,ty22,ty23,ty24,ty25,ty27,ty63,ty52,ty43]
     refine ⟨hbig,?_⟩
     refine back_intro hst (i + 1,out ++ [⟨x.prod,x.dot + 1⟩]) (le_pk [0,4] rfl (by simp) (by simp) ?_ ?_) ⟨by simp only; omega,hsn.symm,by simp only [List.length_append,List.length_cons,List.length_nil]; omega⟩ (by simp only; omega)
     ·simp [subBlk,subAny,subA,mkSub,idx,Gra.cells,tk1,Itm.row]
     ·simp [wk,subAny,subA,mkSub,idx]
    ·have hst2 : (n = sym) = False := eq_false hs
     rw [if_neg (by simp [hs]),List.append_nil] at hsn
     simp -implicitDefEqProofs only [hzt,hst2,wsucc i (by omega),
  evx,evy,ofValue,ofCell,List.range,List.range.loop,Array.size,Nat.reduceAdd,Nat.reduceSub,Nat.reduceEqDiff,List.replicate,if_true,if_false,↓reduceIte,reduceCtorEq,elB,evParts,Int.reduceToNat,Int.reduceLE,Int.reduceLT,Int.reduceEq,Nat.reduceMul,Nat.reduceLeDiff,Nat.reduceLT,ty3,ty4,ty9,ty28,ty22,ty23,ty24,ty25,ty27,ty63,ty52,ty43]
     refine back_intro hst (i + 1,out) (le_pk [0,1] rfl (by simp) (by simp) ?_ ?_) ⟨by simp only; omega,hsn.symm,by simp only; omega⟩ (by simp only; omega)
     ·simp [subBlk,subAny,subA,mkSub,idx,Gra.cells]
     ·simp [wk,subAny,subA,mkSub,idx]
  ·obtain rfl : i = C.length := by omega
   rw [List.take_length] at h2
   have hso := ok53 out (by omega)
   simp -implicitDefEqProofs only [lt_false hlt,
  evx,evy,ofValue,ofCell,List.range,List.range.loop,Array.size,Nat.reduceAdd,Nat.reduceSub,Nat.reduceEqDiff,List.replicate,if_true,if_false,↓reduceIte,reduceCtorEq,elB,evParts,Int.reduceToNat,Int.reduceLE,Int.reduceLT,Int.reduceEq,Nat.reduceMul,Nat.reduceLeDiff,Nat.reduceLT,ty3,ty4,ty9,ty28,ty22,ty23,ty24,ty25,ty27,ty63,ty52,ty43]
   refine callK_ret _ _ _ _ (call_lent [1] hso (by simp [subAny,subA,subL,mkSub,idx]) rfl (by simp) (by simp [Blk.live])) (ok_none _ _) ?_
   simp -implicitDefEqProofs only [subAny,subA,subL,backSub,back,putBack,subBlk,Option.getD_some,List.map_cons,List.map_nil,Nat.not_lt_zero,Nat.sub_zero,Nat.add_zero,List.length_map,
  evx,evy,ofValue,ofCell,List.range,List.range.loop,Array.size,Nat.reduceAdd,Nat.reduceSub,Nat.reduceEqDiff,List.replicate,if_true,if_false,↓reduceIte,reduceCtorEq,elB,evParts,Int.reduceToNat,Int.reduceLE,Int.reduceLT,Int.reduceEq,Nat.reduceMul,Nat.reduceLeDiff,Nat.reduceLT,ty3,ty4,ty9,ty28,ty22,ty23,ty24,ty25,ty27,ty63,ty52,ty43]
   rw [← h2]
   refine le_lst rfl (by simp) ?_
   simp
theorem next_nonneg {g : Gra} (hu : g.usB = true) (x : Itm) : 0 ≤ nextI g x := by
 simp only [Gra.usB,Bool.and_eq_true,decide_eq_true_eq,Gra.sound] at hu
 obtain ⟨h0,⟨⟨_,_⟩,hst⟩,hps⟩ := hu
 simp only [Gra.startB,if_neg h0,Bool.and_eq_true,decide_eq_true_eq] at hst
 unfold nextI
 cases h : (sideL g x.prod)[x.dot.toNat]? with
 | none => simp
 | some n =>
  have hm := List.mem_of_getElem? h
  simp only [Option.getD_some]
  unfold sideL at hm
  split at hm
  ·obtain rfl : n = g.start := by simpa using hm
   omega
  ·cases hq : g.prods[x.prod.toNat]? with
   | none => rw [hq] at hm; simp at hm
   | some q =>
    rw [hq] at hm
    have hm' : n ∈ q.right := hm
    have := List.all_eq_true.1 hps q (List.mem_of_getElem? hq)
    simp only [Prd.okB,Bool.and_eq_true,List.all_eq_true,decide_eq_true_eq] at this
    have := this.2 n hm'
    omega
theorem left_ne {g : Gra} (hu : g.usB = true) : ∀ q ∈ g.prods,q.left ≠ 0 := fun q hq => by
 simp only [Gra.usB,Bool.and_eq_true,decide_eq_true_eq,Gra.sound] at hu
 obtain ⟨h0,⟨⟨_,_⟩,hst⟩,hps⟩ := hu
 have := List.all_eq_true.1 hps q hq
 simp only [Prd.okB,Bool.and_eq_true,decide_eq_true_eq] at this
 omega
theorem adv_isItm {g : Gra} {x : Itm} (hx : g.isItm x = true) (hn : nextI g x ≠ 0) : g.isItm ⟨x.prod,x.dot + 1⟩ = true := by
 obtain ⟨h1,h2,h3⟩ := isItm_iff.1 hx
 refine isItm_iff.2 ⟨h1,by simp only; omega,?_⟩
 simp only
 unfold nextI at hn
 cases h : (sideL g x.prod)[x.dot.toNat]? with
 | none => rw [h] at hn; simp at hn
 | some n =>
  have := (List.getElem?_eq_some_iff.1 h).1
  omega
/-- The document's. -/
def advR (g : Gra) (sym : Int) (l : List Itm) : List Itm := (l.filter fun x => decide (0 < sym ∧ nextI g x = sym)).map fun x => ⟨x.prod,x.dot + 1⟩
theorem advR_snoc (g : Gra) (sym : Int) (l : List Itm) (x : Itm) : advR g sym (l ++ [x]) = advR g sym l ++ (if 0 < sym ∧ nextI g x = sym then [⟨x.prod,x.dot + 1⟩] else []) := by
 unfold advR
 rw [List.filter_append,List.map_append,List.filter_cons,List.filter_nil]
 by_cases h : 0 < sym ∧ nextI g x = sym
 ·rw [if_pos h,if_pos (decide_eq_true h)]
  rfl
 ·rw [if_neg h,if_neg (by simpa using h)]
  rfl
theorem adv_eq {g : Gra} (hu : g.usB = true) (sym : Int) (l : List Itm) : advR g sym l = advI g sym l := by
 unfold advR advI
 congr 1
 apply List.filter_congr
 intro x _
 have := next_nonneg hu x
 rw [decide_eq_decide]
 omega
theorem goto_of {g : Gra} (hu : g.usB = true) (sym : Int) (C : List Itm) (hc : ∀ x ∈ C,g.isItm x = true) : ofI g (advR g sym C) = sortI (advI g sym C) :=
 rise_ext _ _ (ofI_rise _ _) (sortI_sorted _) fun x => by
  rw [ofI_mem,sortI_mem,adv_eq hu]
  refine ⟨fun h => h.2,fun h => ⟨?_,h⟩⟩
  obtain ⟨y,hy,rfl⟩ := List.mem_map.1 h
  obtain ⟨hy1,hy2⟩ := List.mem_filter.1 hy
  have := of_decide_eq_true hy2
  exact adv_isItm (hc y hy1) this.1
theorem ok28 (g : Gra) (hg : Small g 100) (l : List Itm) (hl : l.length ≤ 100000) (hr : g.rightI l = true) (sym : Int) :
  Ok Tryz.prog 28 [g.av,.fv (.lst 2 (l.map Itm.row)),.fv (.int .i64 sym)] [] (.ret (.fv (.lst 2 ((gotoI g l sym).map Itm.row)))) [] := by
 have hnp := hg.nprods
 have hlr : ∀ q ∈ g.prods,q.right.length ≤ 1000 := fun q hq => by have := hg.prods q hq; omega
 obtain ⟨hu,hi⟩ := rightI_iff.1 hr
 have hc := ok26 g (by omega) hlr (left_ne hu) l hl hi
 have hcl := closI_len (by omega) hlr l
 have hci : ∀ x ∈ closI g l,g.isItm x = true := fun x hx => ((closI_mem g l x).1 hx).1
 refine ok_start (k := 46) (n0 := 0) (rs := [.tmp 6]) mix Tryz.func28 rfl rfl rfl rfl rfl rfl rfl ?_
 simp -implicitDefEqProofs only [awp_draw _ _ Tryzdr28_6,awp_draw _ _ Tryzdr28_7,Gra.av,
  evx,evy,ofValue,ofCell,List.range,List.range.loop,Array.size,Nat.reduceAdd,Nat.reduceSub,Nat.reduceEqDiff,List.replicate,if_true,if_false,↓reduceIte,reduceCtorEq,elB,evParts,Int.reduceToNat,Int.reduceLE,Int.reduceLT,Int.reduceEq,Nat.reduceMul,Nat.reduceLeDiff,Nat.reduceLT,ty3,ty4,ty9,ty28,ty22,ty23,ty24,ty25,ty27,ty63,ty52,ty43]
 unfold gotoI
 rw [← goto_of hu sym _ hci]
 generalize closI g l = C at hc hcl hci
 refine callK_ret _ _ _ _ (call_pure (hc) (fun _ => rfl) (fun _ => rfl)) (ok_nil _ _) ?_
 simp -implicitDefEqProofs only [awp_draw _ _ Tryzdr28_6,awp_draw _ _ Tryzdr28_7,List.length_map,
  evx,evy,ofValue,ofCell,List.range,List.range.loop,Array.size,Nat.reduceAdd,Nat.reduceSub,Nat.reduceEqDiff,List.replicate,if_true,if_false,↓reduceIte,reduceCtorEq,elB,evParts,Int.reduceToNat,Int.reduceLE,Int.reduceLT,Int.reduceEq,Nat.reduceMul,Nat.reduceLeDiff,Nat.reduceLT,ty3,ty4,ty9,ty28,ty22,ty23,ty24,ty25,ty27,ty63,ty52,ty43]
 refine loop_rule (fun s : Nat × List Itm => ⟨[.any,.any,.fv (.int .i64 sym),.ptr 0 0 0 0,.any,.any,.any,.ref 1 2 0 s.2.length,.fv (.lst 2 (C.map Itm.row)),.fv (.int .i64 s.1),.any,.any,.any,.any,.any,.any,.any,.any,.any,.any,.any,.any,.any,.any,.any,.any,.any,.any,.any,.any,.any,.any,.any,.any,.any,.any,.any,.any,.any,.any,.any,.any,.any,.any,.any,.any,.any,.any,.any],[.box g.cells,.plain 2 (s.2.map Itm.row)],[]⟩)
  (fun s => s.1 ≤ C.length ∧ s.2 = advR g sym (C.take s.1) ∧ s.2.length ≤ s.1) (fun s => C.length - s.1) (0,[]) (Le.trans (le_virt 7 2 rfl) (le_wk (by simp [wk,Gra.cells]))) (by simp [advR]) (fun s hs st hst => ?_)
 obtain ⟨i,out⟩ := s
 obtain ⟨h1,h2,h3⟩ := hs
 simp only at h1 h2 h3 hst ⊢
 by_cases hlt : i < C.length
 ·have hr := rows_at Itm.row C i hlt
  have ht := List.take_succ_eq_append_getElem hlt
  have hxi := hci _ (List.getElem_mem hlt)
  have hd := isItm_dot hlr hxi
  have hnx := ok51 g hlr C[i] hxi
  have hsn := advR_snoc g sym (C.take i) C[i]
  rw [← ht,← h2] at hsn
  generalize C[i] = x at hr hxi hd hnx hsn
  generalize nextI g x = n at hnx hsn
  have hwd : IntKind.wrap .i64 (x.dot + 1) = x.dot + 1 := wrap_small (by omega) (by omega)
  by_cases hz : 0 < sym
  ·have hzt : (0 < sym) = True := eq_true hz
   simp -implicitDefEqProofs only [awp_draw _ _ Tryzdr28_6,awp_draw _ _ Tryzdr28_7,List.length_map,lt_true hlt,hr,Itm.row,Gra.cells,hzt,
  evx,evy,ofValue,ofCell,List.range,List.range.loop,Array.size,Nat.reduceAdd,Nat.reduceSub,Nat.reduceEqDiff,List.replicate,if_true,if_false,↓reduceIte,reduceCtorEq,elB,evParts,Int.reduceToNat,Int.reduceLE,Int.reduceLT,Int.reduceEq,Nat.reduceMul,Nat.reduceLeDiff,Nat.reduceLT,ty3,ty4,ty9,ty28,ty22,ty23,ty24,ty25,ty27,ty63,ty52,ty43]
   refine callK_ret _ _ _ _ (call_pure (hnx) (fun _ => rfl) (fun _ => rfl)) (ok_nil _ _) ?_
   by_cases hs : n = sym
   ·have hst2 : (n = sym) = True := eq_true hs
    rw [if_pos ⟨hz,hs⟩] at hsn
    have hbig : (out.length + 1) * 16 ≤ 140737488355328 := by omega
    have tk1 : List.take out.length (out.map Itm.row) = out.map Itm.row := List.take_of_length_le (by simp)
    simp -implicitDefEqProofs only [awp_draw _ _ Tryzdr28_6,awp_draw _ _ Tryzdr28_7,List.length_map,lt_true hlt,hr,Itm.row,hst2,hwd,bsE_21,le_true (Nat.le_refl out.length),wsucc i (by omega),
  evx,evy,ofValue,ofCell,List.range,List.range.loop,Array.size,Nat.reduceAdd,Nat.reduceSub,Nat.reduceEqDiff,List.replicate,if_true,if_false,↓reduceIte,reduceCtorEq,elB,evParts,Int.reduceToNat,Int.reduceLE,Int.reduceLT,Int.reduceEq,Nat.reduceMul,Nat.reduceLeDiff,Nat.reduceLT,ty3,ty4,ty9,ty28,ty22,ty23,ty24,ty25,ty27,ty63,ty52,ty43]
    refine ⟨hbig,by kernel_rfl,?_⟩
    refine back_intro hst (i + 1,out ++ [⟨x.prod,x.dot + 1⟩]) (le_pk [0,3] rfl (by simp) (by simp) ?_ ?_) ⟨by simp only; omega,hsn.symm,by simp only [List.length_append,List.length_cons,List.length_nil]; omega⟩ (by simp only; omega)
    ·simp [subBlk,subAny,subA,mkSub,idx,Gra.cells,tk1,Itm.row]
    ·simp [wk,subAny,subA,mkSub,idx]
   ·have hst2 : (n = sym) = False := eq_false hs
    rw [if_neg (by simp [hs]),List.append_nil] at hsn
    simp -implicitDefEqProofs only [awp_draw _ _ Tryzdr28_6,awp_draw _ _ Tryzdr28_7,hst2,wsucc i (by omega),
  evx,evy,ofValue,ofCell,List.range,List.range.loop,Array.size,Nat.reduceAdd,Nat.reduceSub,Nat.reduceEqDiff,List.replicate,if_true,if_false,↓reduceIte,reduceCtorEq,elB,evParts,Int.reduceToNat,Int.reduceLE,Int.reduceLT,Int.reduceEq,Nat.reduceMul,Nat.reduceLeDiff,Nat.reduceLT,ty3,ty4,ty9,ty28,ty22,ty23,ty24,ty25,ty27,ty63,ty52,ty43]
    exact back_intro hst (i + 1,out) (le_wk (by simp [wk,Gra.cells])) ⟨by simp only; omega,hsn.symm,by simp only; omega⟩ (by simp only; omega)
  ·have hzt : (0 < sym) = False := eq_false hz
   rw [if_neg (by simp [hz]),List.append_nil] at hsn
   simp -implicitDefEqProofs only [awp_draw _ _ Tryzdr28_6,awp_draw _ _ Tryzdr28_7,List.length_map,lt_true hlt,hzt,wsucc i (by omega),
  evx,evy,ofValue,ofCell,List.range,List.range.loop,Array.size,Nat.reduceAdd,Nat.reduceSub,Nat.reduceEqDiff,List.replicate,if_true,if_false,↓reduceIte,reduceCtorEq,elB,evParts,Int.reduceToNat,Int.reduceLE,Int.reduceLT,Int.reduceEq,Nat.reduceMul,Nat.reduceLeDiff,Nat.reduceLT,ty3,ty4,ty9,ty28,ty22,ty23,ty24,ty25,ty27,ty63,ty52,ty43]
   exact back_intro hst (i + 1,out) (le_wk (by simp [wk,Gra.cells])) ⟨by simp only; omega,hsn.symm,by simp only; omega⟩ (by simp only; omega)
 ·obtain rfl : i = C.length := by omega
  rw [List.take_length] at h2
  have hof := ok29 g (by omega) hlr out (by omega)
  rw [h2] at hof
  rw [h2]
  simp -implicitDefEqProofs only [awp_draw _ _ Tryzdr28_6,awp_draw _ _ Tryzdr28_7,List.length_map,lt_false hlt,Gra.cells,
  evx,evy,ofValue,ofCell,List.range,List.range.loop,Array.size,Nat.reduceAdd,Nat.reduceSub,Nat.reduceEqDiff,List.replicate,if_true,if_false,↓reduceIte,reduceCtorEq,elB,evParts,Int.reduceToNat,Int.reduceLE,Int.reduceLT,Int.reduceEq,Nat.reduceMul,Nat.reduceLeDiff,Nat.reduceLT,ty3,ty4,ty9,ty28,ty22,ty23,ty24,ty25,ty27,ty63,ty52,ty43]
  refine callK_ret _ _ _ _ (call_fz [1] (hof) rfl (by simp [subAny,subA,subL,frzSub,List.take_of_length_le,Gra.av]) (by simp [killAll,subBlk,subAny,subA,subL,frzSub,Gra.av]) (fun _ => rfl) (fun _ => rfl)) (by first | exact ok_none _ _ | exact ok_nil _ _ | kernel_rfl) ?_
  simp -implicitDefEqProofs only [awp_draw _ _ Tryzdr28_6,awp_draw _ _ Tryzdr28_7,freezeSt,frzSub,killAll,List.contains_cons,List.contains_nil,Nat.reduceBEq,Bool.or_false,
  evx,evy,ofValue,ofCell,List.range,List.range.loop,Array.size,Nat.reduceAdd,Nat.reduceSub,Nat.reduceEqDiff,List.replicate,if_true,if_false,↓reduceIte,reduceCtorEq,elB,evParts,Int.reduceToNat,Int.reduceLE,Int.reduceLT,Int.reduceEq,Nat.reduceMul,Nat.reduceLeDiff,Nat.reduceLT,ty3,ty4,ty9,ty28,ty22,ty23,ty24,ty25,ty27,ty63,ty52,ty43]
  exact le_to [] [] rfl (by simp) (by simp) (by simp) (by simp) rfl
end Go.Abs
