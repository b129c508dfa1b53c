/- The laws ItemsClosure and ItemsGoto as contracts. -/
import Derived.Test.YtnhghoonlmoinaaGreatTyTryzi
import Derived.Test.YtnhghoonlmoinaaGreatDrTryzi
import Derived.Test.YtnhghoonlmoinaaGreatItJi
import Derived.Test.YtnhghoonlmoinaaGreatItPi
namespace Go.Abs
open Go.Proofs
set_option linter.unusedVariables false
set_option linter.unusedSimpArgs false
set_option maxRecDepth 100000
set_option maxHeartbeats 8000000
theorem cl_ok {g : Gra} {l : List Itm} (hi : ∀ x ∈ l,g.isItm x = true) {x : Itm} (h : Cl g l x) : g.isItm x = true := by
 induction h with
 | base x hx => exact hi x hx
 | step x k p _ hp _ _ _ =>
  have := (List.getElem?_eq_some_iff.1 hp).1
  exact isItm_iff.2 ⟨isProd_iff.2 ⟨by simp only; omega,by simp only; omega⟩,by simp,by simp⟩
theorem clos_mem {g : Gra} {l : List Itm} (hi : ∀ x ∈ l,g.isItm x = true) (x : Itm) : x ∈ closI g l ↔ Cl g l x := by
 rw [closI_mem]
 exact ⟨fun h => h.2,fun h => ⟨cl_ok hi h,h⟩⟩
theorem cl_mono {g : Gra} {l m : List Itm} (h : ∀ x ∈ l,Cl g m x) {x : Itm} (hx : Cl g l x) : Cl g m x := by
 induction hx with
 | base x hx => exact h x hx
 | step x k p _ hp hn hl ih => exact .step x k p ih hp hn hl
theorem clos_items {g : Gra} {l : List Itm} : ∀ x ∈ closI g l,g.isItm x = true := fun x hx => ((closI_mem g l x).1 hx).1
theorem clos_idem {g : Gra} {l : List Itm} (hi : ∀ x ∈ l,g.isItm x = true) : closI g (closI g l) = closI g l :=
 rise_ext _ _ (closI_rise _ _) (closI_rise _ _) fun x => by
  rw [clos_mem clos_items,clos_mem hi]
  exact ⟨fun h => cl_mono (fun y hy => ((closI_mem g l y).1 hy).2) h,fun h => .base x ((clos_mem hi x).2 h)⟩
theorem sideL_len30 {g : Gra} (hl : ∀ q ∈ g.prods,q.right.length ≤ 30) (p : Int) : (sideL g p).length ≤ 30 := by
 unfold sideL
 split
 ·simp
 ·cases h : g.prods[p.toNat]? with
  | none => simp
  | some q => exact hl q (List.mem_of_getElem? h)
theorem itemsTo_len30 {g : Gra} (hl : ∀ q ∈ g.prods,q.right.length ≤ 30) : ∀ q,(itemsTo g q).length ≤ q * 31
 | 0 => by simp [itemsTo]
 | q + 1 => by
  have := itemsTo_len30 hl q
  have := sideL_len30 hl ((q : Int) - 1)
  rw [itemsTo_succ,List.length_append]
  simp only [rowI,List.length_map,List.length_range]
  omega
theorem closI_len30 {g : Gra} (hg : Small g 100) (l : List Itm) : (closI g l).length ≤ 4000 := by
 have h1 : (closI g l).length ≤ (itemsOf g).length := List.length_filter_le _ _
 have h2 := itemsTo_len30 hg.prods (g.prods.length + 1)
 have h3 : itemsTo g (g.prods.length + 1) = itemsOf g := rfl
 have h4 := hg.nprods
 rw [h3] at h2
 omega
theorem goto_len30 {g : Gra} (hg : Small g 100) (l : List Itm) (sym : Int) : (gotoI g l sym).length ≤ 4000 := by
 have h1 := sortI_len (advI g sym (closI g l))
 have h2 := advI_len g sym (closI g l)
 have h3 := closI_len30 hg l
 unfold gotoI
 omega
theorem ansC_true {g : Gra} {l : List Itm} (h : g.rightI l = true) : ansC g l = closI g l := by rw [ansC,if_pos h]
theorem ansC_false {g : Gra} {l : List Itm} (h : g.rightI l = false) : ansC g l = [] := by rw [ansC,if_neg (by rw [h]; simp)]
theorem ansG_true {g : Gra} {l : List Itm} {sym : Int} (h : g.rightI l = true) : ansG g l sym = gotoI g l sym := by rw [ansG,if_pos h]
theorem ansG_false {g : Gra} {l : List Itm} {sym : Int} (h : g.rightI l = false) : ansG g l sym = [] := by rw [ansG,if_neg (by rw [h]; simp)]
theorem right_clos {g : Gra} {l : List Itm} (h : g.rightI l = true) : g.rightI (closI g l) = true := rightI_iff.2 ⟨(rightI_iff.1 h).1,clos_items⟩
theorem lawItemsClosure (g : Gra) (l : List Itm) : Ok Tryz.prog 6 [g.av,.fv (.lst 2 (l.map Itm.row))] [] (.ret (.fv (.bool true))) [] := by
 have h7 := ok22 g
 refine ok_start (k := 43) (n0 := 0) (rs := [.tmp 4]) mix Tryz.func6 rfl rfl rfl rfl rfl rfl rfl ?_
 simp -implicitDefEqProofs only [Gra.av,
  evx,evy,ofValue,ofCell,List.range,List.range.loop,Array.size,Nat.reduceAdd,Nat.reduceSub,Nat.reduceEqDiff,List.replicate,if_true,if_false,↓reduceIte,reduceCtorEq,elB,evParts,Int.reduceToNat,Int.reduceLE,Int.reduceLT,Int.reduceEq,Nat.reduceMul,Nat.reduceLeDiff,Nat.reduceLT,ty3,ty4,ty9,ty28,ty22,ty23,ty24,ty25,ty27,ty63,ty52,ty43]
 refine callK_ret _ _ _ _ (call_pure (okWakes16) (fun _ => rfl) (fun _ => rfl)) (ok_nil _ _) ?_
 simp -implicitDefEqProofs only [evx,evy,ofValue,ofCell,List.range,List.range.loop,Array.size,Nat.reduceAdd,Nat.reduceSub,Nat.reduceEqDiff,List.replicate,if_true,if_false,↓reduceIte,reduceCtorEq,elB,evParts,Int.reduceToNat,Int.reduceLE,Int.reduceLT,Int.reduceEq,Nat.reduceMul,Nat.reduceLeDiff,Nat.reduceLT,ty3,ty4,ty9,ty28,ty22,ty23,ty24,ty25,ty27,ty63,ty52,ty43]
 cases hl : g.longB 60 with
 | true =>
  rw [hl] at h7
  refine callK_ret _ _ _ _ (call_pure (h7) (fun _ => rfl) (fun _ => rfl)) (ok_nil _ _) ?_
  simp -implicitDefEqProofs only [evx,evy,ofValue,ofCell,List.range,List.range.loop,Array.size,Nat.reduceAdd,Nat.reduceSub,Nat.reduceEqDiff,List.replicate,if_true,if_false,↓reduceIte,reduceCtorEq,elB,evParts,Int.reduceToNat,Int.reduceLE,Int.reduceLT,Int.reduceEq,Nat.reduceMul,Nat.reduceLeDiff,Nat.reduceLT,ty3,ty4,ty9,ty28,ty22,ty23,ty24,ty25,ty27,ty63,ty52,ty43]
  exact le_flat rfl
 | false =>
  rw [hl] at h7
  refine callK_ret _ _ _ _ (call_pure (h7) (fun _ => rfl) (fun _ => rfl)) (ok_nil _ _) ?_
  by_cases h60 : l.length ≤ 60
  ·have h60t : (60 < (l.length : Int)) = False := eq_false (by omega)
   have hsm := small_of hl
   have hg := hsm.up (m := 100) (by omega)
   have hlr : ∀ q ∈ g.prods,q.right.length ≤ 1000 := fun q hq => by have := hsm.prods q hq; omega
   have hnp := hg.nprods
   have hcc := ok23 g hg l (by omega)
   have hrr := ok25 g hg hlr l (by omega)
   have s1 := ok24 l l (by omega) (by omega)
   rw [decide_eq_true rfl] at s1
   have htk : List.take l.length (l.map Itm.row) = l.map Itm.row := List.take_of_length_le (by simp)
   cases hb : g.rightI l with
   | false =>
    rw [ansC_false hb] at hcc
    rw [hb] at hrr
    simp -implicitDefEqProofs only [List.length_map,h60t,bsI0,List.take_nil,List.nil_append,List.length_nil,Nat.zero_le,true_and,
  evx,evy,ofValue,ofCell,List.range,List.range.loop,Array.size,Nat.reduceAdd,Nat.reduceSub,Nat.reduceEqDiff,List.replicate,if_true,if_false,↓reduceIte,reduceCtorEq,elB,evParts,Int.reduceToNat,Int.reduceLE,Int.reduceLT,Int.reduceEq,Nat.reduceMul,Nat.reduceLeDiff,Nat.reduceLT,ty3,ty4,ty9,ty28,ty22,ty23,ty24,ty25,ty27,ty63,ty52,ty43]
    refine ⟨by omega,?_⟩
    refine callK_ret _ _ _ _ (call_fz [2] (hcc) rfl (by simp [subAny,subA,subL,frzSub,List.take_of_length_le,Gra.av]) (by simp [killAll,subBlk,subAny,subA,subL,frzSub,Gra.av]) (fun _ => rfl) (fun _ => rfl)) (by first | exact ok_none _ _ | exact ok_nil _ _ | kernel_rfl) ?_
    simp -implicitDefEqProofs only [subAny,subA,subL,backSub,back,putBack,subBlk,Option.getD_some,List.map_cons,List.map_nil,Nat.not_lt_zero,Nat.sub_zero,Nat.add_zero,List.length_map,freezeSt,frzSub,killAll,List.contains_cons,List.contains_nil,Nat.reduceBEq,Bool.or_false,htk,List.drop_zero,Nat.le_refl,
  evx,evy,ofValue,ofCell,List.range,List.range.loop,Array.size,Nat.reduceAdd,Nat.reduceSub,Nat.reduceEqDiff,List.replicate,if_true,if_false,↓reduceIte,reduceCtorEq,elB,evParts,Int.reduceToNat,Int.reduceLE,Int.reduceLT,Int.reduceEq,Nat.reduceMul,Nat.reduceLeDiff,Nat.reduceLT,ty3,ty4,ty9,ty28,ty22,ty23,ty24,ty25,ty27,ty63,ty52,ty43]
    refine callK_ret _ _ _ _ (call_pure (s1) (fun _ => rfl) (fun _ => rfl)) (ok_nil _ _) ?_
    simp -implicitDefEqProofs only [evx,evy,ofValue,ofCell,List.range,List.range.loop,Array.size,Nat.reduceAdd,Nat.reduceSub,Nat.reduceEqDiff,List.replicate,if_true,if_false,↓reduceIte,reduceCtorEq,elB,evParts,Int.reduceToNat,Int.reduceLE,Int.reduceLT,Int.reduceEq,Nat.reduceMul,Nat.reduceLeDiff,Nat.reduceLT,ty3,ty4,ty9,ty28,ty22,ty23,ty24,ty25,ty27,ty63,ty52,ty43]
    refine callK_ret _ _ _ _ (call_pure (hrr) (fun _ => rfl) (fun _ => rfl)) (ok_nil _ _) ?_
    simp -implicitDefEqProofs only [List.map_nil,List.length_nil,
  evx,evy,ofValue,ofCell,List.range,List.range.loop,Array.size,Nat.reduceAdd,Nat.reduceSub,Nat.reduceEqDiff,List.replicate,if_true,if_false,↓reduceIte,reduceCtorEq,elB,evParts,Int.reduceToNat,Int.reduceLE,Int.reduceLT,Int.reduceEq,Nat.reduceMul,Nat.reduceLeDiff,Nat.reduceLT,ty3,ty4,ty9,ty28,ty22,ty23,ty24,ty25,ty27,ty63,ty52,ty43]
    exact le_flat rfl
   | true =>
    obtain ⟨hu,hi⟩ := rightI_iff.1 hb
    have hcl := closI_len30 hg l
    have hrc := ok26 g (by omega) hlr (left_ne hu) l (by omega) hi
    have hc2 := ok23 g hg (closI g l) (by omega)
    have s2 := ok24 (closI g l) (closI g l) (by omega) (by omega)
    rw [decide_eq_true rfl] at s2
    rw [ansC_true (right_clos hb),clos_idem hi] at hc2
    rw [ansC_true hb] at hcc
    rw [hb] at hrr
    generalize closI g l = C at hcc hrc hc2 s2
    simp -implicitDefEqProofs only [List.length_map,h60t,bsI0,List.take_nil,List.nil_append,List.length_nil,Nat.zero_le,true_and,
  evx,evy,ofValue,ofCell,List.range,List.range.loop,Array.size,Nat.reduceAdd,Nat.reduceSub,Nat.reduceEqDiff,List.replicate,if_true,if_false,↓reduceIte,reduceCtorEq,elB,evParts,Int.reduceToNat,Int.reduceLE,Int.reduceLT,Int.reduceEq,Nat.reduceMul,Nat.reduceLeDiff,Nat.reduceLT,ty3,ty4,ty9,ty28,ty22,ty23,ty24,ty25,ty27,ty63,ty52,ty43]
    refine ⟨by omega,?_⟩
    refine callK_ret _ _ _ _ (call_fz [2] (hcc) rfl (by simp [subAny,subA,subL,frzSub,List.take_of_length_le,Gra.av]) (by simp [killAll,subBlk,subAny,subA,subL,frzSub,Gra.av]) (fun _ => rfl) (fun _ => rfl)) (by first | exact ok_none _ _ | exact ok_nil _ _ | kernel_rfl) ?_
    simp -implicitDefEqProofs only [subAny,subA,subL,backSub,back,putBack,subBlk,Option.getD_some,List.map_cons,List.map_nil,Nat.not_lt_zero,Nat.sub_zero,Nat.add_zero,List.length_map,freezeSt,frzSub,killAll,List.contains_cons,List.contains_nil,Nat.reduceBEq,Bool.or_false,htk,List.drop_zero,Nat.le_refl,
  evx,evy,ofValue,ofCell,List.range,List.range.loop,Array.size,Nat.reduceAdd,Nat.reduceSub,Nat.reduceEqDiff,List.replicate,if_true,if_false,↓reduceIte,reduceCtorEq,elB,evParts,Int.reduceToNat,Int.reduceLE,Int.reduceLT,Int.reduceEq,Nat.reduceMul,Nat.reduceLeDiff,Nat.reduceLT,ty3,ty4,ty9,ty28,ty22,ty23,ty24,ty25,ty27,ty63,ty52,ty43]
    refine callK_ret _ _ _ _ (call_pure (s1) (fun _ => rfl) (fun _ => rfl)) (ok_nil _ _) ?_
    simp -implicitDefEqProofs only [evx,evy,ofValue,ofCell,List.range,List.range.loop,Array.size,Nat.reduceAdd,Nat.reduceSub,Nat.reduceEqDiff,List.replicate,if_true,if_false,↓reduceIte,reduceCtorEq,elB,evParts,Int.reduceToNat,Int.reduceLE,Int.reduceLT,Int.reduceEq,Nat.reduceMul,Nat.reduceLeDiff,Nat.reduceLT,ty3,ty4,ty9,ty28,ty22,ty23,ty24,ty25,ty27,ty63,ty52,ty43]
    refine callK_ret _ _ _ _ (call_pure (hrr) (fun _ => rfl) (fun _ => rfl)) (ok_nil _ _) ?_
    simp -implicitDefEqProofs only [evx,evy,ofValue,ofCell,List.range,List.range.loop,Array.size,Nat.reduceAdd,Nat.reduceSub,Nat.reduceEqDiff,List.replicate,if_true,if_false,↓reduceIte,reduceCtorEq,elB,evParts,Int.reduceToNat,Int.reduceLE,Int.reduceLT,Int.reduceEq,Nat.reduceMul,Nat.reduceLeDiff,Nat.reduceLT,ty3,ty4,ty9,ty28,ty22,ty23,ty24,ty25,ty27,ty63,ty52,ty43]
    refine callK_ret _ _ _ _ (call_pure (hrc) (fun _ => rfl) (fun _ => rfl)) (ok_nil _ _) ?_
    simp -implicitDefEqProofs only [evx,evy,ofValue,ofCell,List.range,List.range.loop,Array.size,Nat.reduceAdd,Nat.reduceSub,Nat.reduceEqDiff,List.replicate,if_true,if_false,↓reduceIte,reduceCtorEq,elB,evParts,Int.reduceToNat,Int.reduceLE,Int.reduceLT,Int.reduceEq,Nat.reduceMul,Nat.reduceLeDiff,Nat.reduceLT,ty3,ty4,ty9,ty28,ty22,ty23,ty24,ty25,ty27,ty63,ty52,ty43]
    refine callK_ret _ _ _ _ (call_pure (s2) (fun _ => rfl) (fun _ => rfl)) (ok_nil _ _) ?_
    simp -implicitDefEqProofs only [evx,evy,ofValue,ofCell,List.range,List.range.loop,Array.size,Nat.reduceAdd,Nat.reduceSub,Nat.reduceEqDiff,List.replicate,if_true,if_false,↓reduceIte,reduceCtorEq,elB,evParts,Int.reduceToNat,Int.reduceLE,Int.reduceLT,Int.reduceEq,Nat.reduceMul,Nat.reduceLeDiff,Nat.reduceLT,ty3,ty4,ty9,ty28,ty22,ty23,ty24,ty25,ty27,ty63,ty52,ty43]
    refine callK_ret _ _ _ _ (call_pure (hc2) (fun _ => rfl) (fun _ => rfl)) (ok_nil _ _) ?_
    simp -implicitDefEqProofs only [evx,evy,ofValue,ofCell,List.range,List.range.loop,Array.size,Nat.reduceAdd,Nat.reduceSub,Nat.reduceEqDiff,List.replicate,if_true,if_false,↓reduceIte,reduceCtorEq,elB,evParts,Int.reduceToNat,Int.reduceLE,Int.reduceLT,Int.reduceEq,Nat.reduceMul,Nat.reduceLeDiff,Nat.reduceLT,ty3,ty4,ty9,ty28,ty22,ty23,ty24,ty25,ty27,ty63,ty52,ty43]
    refine callK_ret _ _ _ _ (call_pure (s2) (fun _ => rfl) (fun _ => rfl)) (ok_nil _ _) ?_
    simp -implicitDefEqProofs only [evx,evy,ofValue,ofCell,List.range,List.range.loop,Array.size,Nat.reduceAdd,Nat.reduceSub,Nat.reduceEqDiff,List.replicate,if_true,if_false,↓reduceIte,reduceCtorEq,elB,evParts,Int.reduceToNat,Int.reduceLE,Int.reduceLT,Int.reduceEq,Nat.reduceMul,Nat.reduceLeDiff,Nat.reduceLT,ty3,ty4,ty9,ty28,ty22,ty23,ty24,ty25,ty27,ty63,ty52,ty43]
    exact le_flat rfl
  ·have h60t : (60 < (l.length : Int)) = True := eq_true (by omega)
   simp -implicitDefEqProofs only [List.length_map,h60t,
  evx,evy,ofValue,ofCell,List.range,List.range.loop,Array.size,Nat.reduceAdd,Nat.reduceSub,Nat.reduceEqDiff,List.replicate,if_true,if_false,↓reduceIte,reduceCtorEq,elB,evParts,Int.reduceToNat,Int.reduceLE,Int.reduceLT,Int.reduceEq,Nat.reduceMul,Nat.reduceLeDiff,Nat.reduceLT,ty3,ty4,ty9,ty28,ty22,ty23,ty24,ty25,ty27,ty63,ty52,ty43]
   exact le_flat rfl
theorem lawItemsGoto (g : Gra) (l : List Itm) (sym : Int) : Ok Tryz.prog 7 [g.av,.fv (.lst 2 (l.map Itm.row)),.fv (.int .i64 sym)] [] (.ret (.fv (.bool true))) [] := by
 have h7 := ok22 g
 refine ok_start (k := 43) (n0 := 0) (rs := [.tmp 6]) mix Tryz.func7 rfl rfl rfl rfl rfl rfl rfl ?_
 simp -implicitDefEqProofs only [awp_draw _ _ Tryzdr7_5,awp_draw _ _ Tryzdr7_8,Gra.av,
  evx,evy,ofValue,ofCell,List.range,List.range.loop,Array.size,Nat.reduceAdd,Nat.reduceSub,Nat.reduceEqDiff,List.replicate,if_true,if_false,↓reduceIte,reduceCtorEq,elB,evParts,Int.reduceToNat,Int.reduceLE,Int.reduceLT,Int.reduceEq,Nat.reduceMul,Nat.reduceLeDiff,Nat.reduceLT,ty3,ty4,ty9,ty28,ty22,ty23,ty24,ty25,ty27,ty63,ty52,ty43]
 refine callK_ret _ _ _ _ (call_pure (okWakes16) (fun _ => rfl) (fun _ => rfl)) (ok_nil _ _) ?_
 simp -implicitDefEqProofs only [awp_draw _ _ Tryzdr7_5,awp_draw _ _ Tryzdr7_8,
  evx,evy,ofValue,ofCell,List.range,List.range.loop,Array.size,Nat.reduceAdd,Nat.reduceSub,Nat.reduceEqDiff,List.replicate,if_true,if_false,↓reduceIte,reduceCtorEq,elB,evParts,Int.reduceToNat,Int.reduceLE,Int.reduceLT,Int.reduceEq,Nat.reduceMul,Nat.reduceLeDiff,Nat.reduceLT,ty3,ty4,ty9,ty28,ty22,ty23,ty24,ty25,ty27,ty63,ty52,ty43]
 cases hl : g.longB 60 with
 | true =>
  rw [hl] at h7
  refine callK_ret _ _ _ _ (call_pure (h7) (fun _ => rfl) (fun _ => rfl)) (ok_nil _ _) ?_
  simp -implicitDefEqProofs only [awp_draw _ _ Tryzdr7_5,awp_draw _ _ Tryzdr7_8,
  evx,evy,ofValue,ofCell,List.range,List.range.loop,Array.size,Nat.reduceAdd,Nat.reduceSub,Nat.reduceEqDiff,List.replicate,if_true,if_false,↓reduceIte,reduceCtorEq,elB,evParts,Int.reduceToNat,Int.reduceLE,Int.reduceLT,Int.reduceEq,Nat.reduceMul,Nat.reduceLeDiff,Nat.reduceLT,ty3,ty4,ty9,ty28,ty22,ty23,ty24,ty25,ty27,ty63,ty52,ty43]
  exact le_flat rfl
 | false =>
  rw [hl] at h7
  refine callK_ret _ _ _ _ (call_pure (h7) (fun _ => rfl) (fun _ => rfl)) (ok_nil _ _) ?_
  by_cases h60 : l.length ≤ 60
  ·have h60t : (60 < (l.length : Int)) = False := eq_false (by omega)
   have hsm := small_of hl
   have hg := hsm.up (m := 100) (by omega)
   have hlr : ∀ q ∈ g.prods,q.right.length ≤ 1000 := fun q hq => by have := hsm.prods q hq; omega
   have hnp := hg.nprods
   have hcc := ok27 g hg l (by omega) sym
   have hrr := ok25 g hg hlr l (by omega)
   have htk : List.take l.length (l.map Itm.row) = l.map Itm.row := List.take_of_length_le (by simp)
   cases hb : g.rightI l with
   | false =>
    rw [ansG_false hb] at hcc
    rw [hb] at hrr
    simp -implicitDefEqProofs only [awp_draw _ _ Tryzdr7_5,awp_draw _ _ Tryzdr7_8,List.length_map,h60t,bsI0,List.take_nil,List.nil_append,List.length_nil,Nat.zero_le,true_and,
  evx,evy,ofValue,ofCell,List.range,List.range.loop,Array.size,Nat.reduceAdd,Nat.reduceSub,Nat.reduceEqDiff,List.replicate,if_true,if_false,↓reduceIte,reduceCtorEq,elB,evParts,Int.reduceToNat,Int.reduceLE,Int.reduceLT,Int.reduceEq,Nat.reduceMul,Nat.reduceLeDiff,Nat.reduceLT,ty3,ty4,ty9,ty28,ty22,ty23,ty24,ty25,ty27,ty63,ty52,ty43]
    refine ⟨by omega,by kernel_rfl,?_⟩
    refine callK_ret _ _ _ _ (call_fz [2] (hcc) rfl (by simp [subAny,subA,subL,frzSub,List.take_of_length_le,Gra.av]) (by simp [killAll,subBlk,subAny,subA,subL,frzSub,Gra.av]) (fun _ => rfl) (fun _ => rfl)) (by first | exact ok_none _ _ | exact ok_nil _ _ | kernel_rfl) ?_
    simp -implicitDefEqProofs only [awp_draw _ _ Tryzdr7_5,awp_draw _ _ Tryzdr7_8,subAny,subA,subL,backSub,back,putBack,subBlk,Option.getD_some,List.map_cons,List.map_nil,Nat.not_lt_zero,Nat.sub_zero,Nat.add_zero,List.length_map,freezeSt,frzSub,killAll,List.contains_cons,List.contains_nil,Nat.reduceBEq,Bool.or_false,htk,List.drop_zero,Nat.le_refl,
  evx,evy,ofValue,ofCell,List.range,List.range.loop,Array.size,Nat.reduceAdd,Nat.reduceSub,Nat.reduceEqDiff,List.replicate,if_true,if_false,↓reduceIte,reduceCtorEq,elB,evParts,Int.reduceToNat,Int.reduceLE,Int.reduceLT,Int.reduceEq,Nat.reduceMul,Nat.reduceLeDiff,Nat.reduceLT,ty3,ty4,ty9,ty28,ty22,ty23,ty24,ty25,ty27,ty63,ty52,ty43]
    refine callK_ret _ _ _ _ (call_pure (hrr) (fun _ => rfl) (fun _ => rfl)) (ok_nil _ _) ?_
    simp -implicitDefEqProofs only [awp_draw _ _ Tryzdr7_5,awp_draw _ _ Tryzdr7_8,List.map_nil,List.length_nil,
  evx,evy,ofValue,ofCell,List.range,List.range.loop,Array.size,Nat.reduceAdd,Nat.reduceSub,Nat.reduceEqDiff,List.replicate,if_true,if_false,↓reduceIte,reduceCtorEq,elB,evParts,Int.reduceToNat,Int.reduceLE,Int.reduceLT,Int.reduceEq,Nat.reduceMul,Nat.reduceLeDiff,Nat.reduceLT,ty3,ty4,ty9,ty28,ty22,ty23,ty24,ty25,ty27,ty63,ty52,ty43]
    exact le_flat rfl
   | true =>
    obtain ⟨hu,hi⟩ := rightI_iff.1 hb
    have hcl := closI_len30 hg l
    have hgl := goto_len30 hg l sym
    have hrc := ok28 g hg l (by omega) hb sym
    have hc1 := ok23 g hg l (by omega)
    have hc2 := ok27 g hg (closI g l) (by omega) sym
    have s2 := ok24 (gotoI g l sym) (gotoI g l sym) (by omega) (by omega)
    rw [decide_eq_true rfl] at s2
    have e2 : gotoI g (closI g l) sym = gotoI g l sym := by unfold gotoI; rw [clos_idem hi]
    rw [ansG_true (right_clos hb),e2] at hc2
    rw [ansG_true hb] at hcc
    rw [ansC_true hb] at hc1
    rw [hb] at hrr
    generalize closI g l = C at hc1 hc2
    generalize gotoI g l sym = G at hcc hrc hc2 s2
    simp -implicitDefEqProofs only [awp_draw _ _ Tryzdr7_5,awp_draw _ _ Tryzdr7_8,List.length_map,h60t,bsI0,List.take_nil,List.nil_append,List.length_nil,Nat.zero_le,true_and,
  evx,evy,ofValue,ofCell,List.range,List.range.loop,Array.size,Nat.reduceAdd,Nat.reduceSub,Nat.reduceEqDiff,List.replicate,if_true,if_false,↓reduceIte,reduceCtorEq,elB,evParts,Int.reduceToNat,Int.reduceLE,Int.reduceLT,Int.reduceEq,Nat.reduceMul,Nat.reduceLeDiff,Nat.reduceLT,ty3,ty4,ty9,ty28,ty22,ty23,ty24,ty25,ty27,ty63,ty52,ty43]
    refine ⟨by omega,by kernel_rfl,?_⟩
    refine callK_ret _ _ _ _ (call_fz [2] (hcc) rfl (by simp [subAny,subA,subL,frzSub,List.take_of_length_le,Gra.av]) (by simp [killAll,subBlk,subAny,subA,subL,frzSub,Gra.av]) (fun _ => rfl) (fun _ => rfl)) (by first | exact ok_none _ _ | exact ok_nil _ _ | kernel_rfl) ?_
    simp -implicitDefEqProofs only [awp_draw _ _ Tryzdr7_5,awp_draw _ _ Tryzdr7_8,subAny,subA,subL,backSub,back,putBack,subBlk,Option.getD_some,List.map_cons,List.map_nil,Nat.not_lt_zero,Nat.sub_zero,Nat.add_zero,List.length_map,freezeSt,frzSub,killAll,List.contains_cons,List.contains_nil,Nat.reduceBEq,Bool.or_false,htk,List.drop_zero,Nat.le_refl,
  evx,evy,ofValue,ofCell,List.range,List.range.loop,Array.size,Nat.reduceAdd,Nat.reduceSub,Nat.reduceEqDiff,List.replicate,if_true,if_false,↓reduceIte,reduceCtorEq,elB,evParts,Int.reduceToNat,Int.reduceLE,Int.reduceLT,Int.reduceEq,Nat.reduceMul,Nat.reduceLeDiff,Nat.reduceLT,ty3,ty4,ty9,ty28,ty22,ty23,ty24,ty25,ty27,ty63,ty52,ty43]
    refine callK_ret _ _ _ _ (call_pure (hrr) (fun _ => rfl) (fun _ => rfl)) (ok_nil _ _) ?_
    simp -implicitDefEqProofs only [awp_draw _ _ Tryzdr7_5,awp_draw _ _ Tryzdr7_8,
  evx,evy,ofValue,ofCell,List.range,List.range.loop,Array.size,Nat.reduceAdd,Nat.reduceSub,Nat.reduceEqDiff,List.replicate,if_true,if_false,↓reduceIte,reduceCtorEq,elB,evParts,Int.reduceToNat,Int.reduceLE,Int.reduceLT,Int.reduceEq,Nat.reduceMul,Nat.reduceLeDiff,Nat.reduceLT,ty3,ty4,ty9,ty28,ty22,ty23,ty24,ty25,ty27,ty63,ty52,ty43]
    refine callK_ret _ _ _ _ (call_pure (hrc) (fun _ => rfl) (fun _ => rfl)) (ok_nil _ _) ?_
    simp -implicitDefEqProofs only [awp_draw _ _ Tryzdr7_5,awp_draw _ _ Tryzdr7_8,
  evx,evy,ofValue,ofCell,List.range,List.range.loop,Array.size,Nat.reduceAdd,Nat.reduceSub,Nat.reduceEqDiff,List.replicate,if_true,if_false,↓reduceIte,reduceCtorEq,elB,evParts,Int.reduceToNat,Int.reduceLE,Int.reduceLT,Int.reduceEq,Nat.reduceMul,Nat.reduceLeDiff,Nat.reduceLT,ty3,ty4,ty9,ty28,ty22,ty23,ty24,ty25,ty27,ty63,ty52,ty43]
    refine callK_ret _ _ _ _ (call_pure (s2) (fun _ => rfl) (fun _ => rfl)) (ok_nil _ _) ?_
    simp -implicitDefEqProofs only [awp_draw _ _ Tryzdr7_5,awp_draw _ _ Tryzdr7_8,
  evx,evy,ofValue,ofCell,List.range,List.range.loop,Array.size,Nat.reduceAdd,Nat.reduceSub,Nat.reduceEqDiff,List.replicate,if_true,if_false,↓reduceIte,reduceCtorEq,elB,evParts,Int.reduceToNat,Int.reduceLE,Int.reduceLT,Int.reduceEq,Nat.reduceMul,Nat.reduceLeDiff,Nat.reduceLT,ty3,ty4,ty9,ty28,ty22,ty23,ty24,ty25,ty27,ty63,ty52,ty43]
    refine callK_ret _ _ _ _ (call_pure (hc1) (fun _ => rfl) (fun _ => rfl)) (ok_nil _ _) ?_
    simp -implicitDefEqProofs only [awp_draw _ _ Tryzdr7_5,awp_draw _ _ Tryzdr7_8,
  evx,evy,ofValue,ofCell,List.range,List.range.loop,Array.size,Nat.reduceAdd,Nat.reduceSub,Nat.reduceEqDiff,List.replicate,if_true,if_false,↓reduceIte,reduceCtorEq,elB,evParts,Int.reduceToNat,Int.reduceLE,Int.reduceLT,Int.reduceEq,Nat.reduceMul,Nat.reduceLeDiff,Nat.reduceLT,ty3,ty4,ty9,ty28,ty22,ty23,ty24,ty25,ty27,ty63,ty52,ty43]
    refine callK_ret _ _ _ _ (call_pure (hc2) (fun _ => rfl) (fun _ => rfl)) (ok_nil _ _) ?_
    simp -implicitDefEqProofs only [awp_draw _ _ Tryzdr7_5,awp_draw _ _ Tryzdr7_8,
  evx,evy,ofValue,ofCell,List.range,List.range.loop,Array.size,Nat.reduceAdd,Nat.reduceSub,Nat.reduceEqDiff,List.replicate,if_true,if_false,↓reduceIte,reduceCtorEq,elB,evParts,Int.reduceToNat,Int.reduceLE,Int.reduceLT,Int.reduceEq,Nat.reduceMul,Nat.reduceLeDiff,Nat.reduceLT,ty3,ty4,ty9,ty28,ty22,ty23,ty24,ty25,ty27,ty63,ty52,ty43]
    refine callK_ret _ _ _ _ (call_pure (s2) (fun _ => rfl) (fun _ => rfl)) (ok_nil _ _) ?_
    simp -implicitDefEqProofs only [awp_draw _ _ Tryzdr7_5,awp_draw _ _ Tryzdr7_8,
  evx,evy,ofValue,ofCell,List.range,List.range.loop,Array.size,Nat.reduceAdd,Nat.reduceSub,Nat.reduceEqDiff,List.replicate,if_true,if_false,↓reduceIte,reduceCtorEq,elB,evParts,Int.reduceToNat,Int.reduceLE,Int.reduceLT,Int.reduceEq,Nat.reduceMul,Nat.reduceLeDiff,Nat.reduceLT,ty3,ty4,ty9,ty28,ty22,ty23,ty24,ty25,ty27,ty63,ty52,ty43]
    exact le_flat rfl
  ·have h60t : (60 < (l.length : Int)) = True := eq_true (by omega)
   simp -implicitDefEqProofs only [awp_draw _ _ Tryzdr7_5,awp_draw _ _ Tryzdr7_8,List.length_map,h60t,
  evx,evy,ofValue,ofCell,List.range,List.range.loop,Array.size,Nat.reduceAdd,Nat.reduceSub,Nat.reduceEqDiff,List.replicate,if_true,if_false,↓reduceIte,reduceCtorEq,elB,evParts,Int.reduceToNat,Int.reduceLE,Int.reduceLT,Int.reduceEq,Nat.reduceMul,Nat.reduceLeDiff,Nat.reduceLT,ty3,ty4,ty9,ty28,ty22,ty23,ty24,ty25,ty27,ty63,ty52,ty43]
   exact le_flat rfl
end Go.Abs
