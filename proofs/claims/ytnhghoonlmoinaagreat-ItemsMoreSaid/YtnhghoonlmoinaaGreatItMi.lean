/- The laws ItemsUnion and ItemsMore as contracts. -/
import Derived.Test.YtnhghoonlmoinaaGreatTyTryzi
import Derived.Test.YtnhghoonlmoinaaGreatDrTryzi
import Derived.Test.YtnhghoonlmoinaaGreatItKi
import Derived.Test.YtnhghoonlmoinaaGreatAbsTree
import Derived.Test.YtnhghoonlmoinaaGreatAbsW
namespace Go.Abs
open Go.Proofs
set_option linter.unusedVariables false
set_option linter.unusedSimpArgs false
set_option maxRecDepth 100000
set_option maxHeartbeats 8000000
theorem cl_app {g : Gra} {a b : List Itm} {x : Itm} : Cl g (a ++ b) x ↔ Cl g a x ∨ Cl g b x := by
 constructor
 ·intro h
  induction h with
  | base x hx =>
   rcases List.mem_append.1 hx with q | q
   ·exact .inl (.base x q)
   ·exact .inr (.base x q)
  | step x k p _ hp hn hl ih =>
   rcases ih with q | q
   ·exact .inl (.step x k p q hp hn hl)
   ·exact .inr (.step x k p q hp hn hl)
 ·rintro (h | h)
  ·exact cl_mono (fun x hx => .base x (List.mem_append_left _ hx)) h
  ·exact cl_mono (fun x hx => .base x (List.mem_append_right _ hx)) h
theorem clos_app {g : Gra} {a b : List Itm} : ofI g (closI g a ++ closI g b) = closI g (a ++ b) :=
 rise_ext _ _ (ofI_rise _ _) (closI_rise _ _) fun x => by
  rw [ofI_mem,closI_mem,List.mem_append,closI_mem,closI_mem,cl_app]
  constructor
  ·rintro ⟨h,⟨_,q⟩ | ⟨_,q⟩⟩
   ·exact ⟨h,.inl q⟩
   ·exact ⟨h,.inr q⟩
  ·rintro ⟨h,q | q⟩
   ·exact ⟨h,.inl ⟨h,q⟩⟩
   ·exact ⟨h,.inr ⟨h,q⟩⟩
theorem right_app {g : Gra} {a b : List Itm} (ha : g.rightI a = true) (hb : g.rightI b = true) : g.rightI (a ++ b) = true := by
 rw [rightI_iff] at *
 exact ⟨ha.1,fun x hx => by
  rcases List.mem_append.1 hx with q | q
  ·exact ha.2 x q
  ·exact hb.2 x q⟩
theorem lawItemsUnion (g : Gra) (a b : List Itm) (ya : a.length * 16 ≤ reachBytes) (yb : b.length * 16 ≤ reachBytes) : Ok Tryz.prog 8 [g.av,.fv (.lst 2 (a.map Itm.row)),.fv (.lst 2 (b.map Itm.row))] [] (.ret (.fv (.bool true))) [] := by
 have h7 := ok22 g
 refine ok_start (k := 51) (n0 := 0) (rs := [.tmp 6]) mix Tryz.func8 rfl rfl rfl rfl rfl rfl rfl ?_
 simp -implicitDefEqProofs only [awp_draw _ _ Tryzdr8_5,Gra.av,
  evx,evy,ofValue,ofCell,List.range,List.range.loop,Array.size,Nat.reduceAdd,Nat.reduceSub,Nat.reduceEqDiff,List.replicate,if_true,if_false,↓reduceIte,reduceCtorEq,elB,evParts,Int.reduceToNat,Int.reduceLE,Int.reduceLT,Int.reduceEq,Nat.reduceMul,Nat.reduceLeDiff,Nat.reduceLT,ty3,ty4,ty9,ty28,ty22,ty23,ty24,ty25,ty27,ty63,ty52,ty43]
 refine callK_ret _ _ _ _ (call_pure (okWakes16) (fun _ => rfl) (fun _ => rfl)) (ok_nil _ _) ?_
 simp -implicitDefEqProofs only [awp_draw _ _ Tryzdr8_5,evx,evy,ofValue,ofCell,List.range,List.range.loop,Array.size,Nat.reduceAdd,Nat.reduceSub,Nat.reduceEqDiff,List.replicate,if_true,if_false,↓reduceIte,reduceCtorEq,elB,evParts,Int.reduceToNat,Int.reduceLE,Int.reduceLT,Int.reduceEq,Nat.reduceMul,Nat.reduceLeDiff,Nat.reduceLT,ty3,ty4,ty9,ty28,ty22,ty23,ty24,ty25,ty27,ty63,ty52,ty43]
 cases hl : g.longB 60 with
 | true =>
  rw [hl] at h7
  refine callK_ret _ _ _ _ (call_pure (h7) (fun _ => rfl) (fun _ => rfl)) (ok_nil _ _) ?_
  simp -implicitDefEqProofs only [awp_draw _ _ Tryzdr8_5,evx,evy,ofValue,ofCell,List.range,List.range.loop,Array.size,Nat.reduceAdd,Nat.reduceSub,Nat.reduceEqDiff,List.replicate,if_true,if_false,↓reduceIte,reduceCtorEq,elB,evParts,Int.reduceToNat,Int.reduceLE,Int.reduceLT,Int.reduceEq,Nat.reduceMul,Nat.reduceLeDiff,Nat.reduceLT,ty3,ty4,ty9,ty28,ty22,ty23,ty24,ty25,ty27,ty63,ty52,ty43]
  exact le_flat rfl
 | false =>
  rw [hl] at h7
  refine callK_ret _ _ _ _ (call_pure (h7) (fun _ => rfl) (fun _ => rfl)) (ok_nil _ _) ?_
  by_cases h60 : a.length + b.length ≤ 60
  ·have h60t : (60 < (a.length : Int) + (b.length : Int)) = False := eq_false (by omega)
   have hws : IntKind.wrap .i64 ((a.length : Int) + (b.length : Int)) = (a.length : Int) + (b.length : Int) := wrap_small (by omega) (by omega)
   have hsm := small_of hl
   have hg := hsm.up (m := 100) (by omega)
   have hlr : ∀ q ∈ g.prods,q.right.length ≤ 1000 := fun q hq => by have := hsm.prods q hq; omega
   have hnp := hg.nprods
   have hra := ok25 g hg hlr a (by omega)
   have hrb := ok25 g hg hlr b (by omega)
   cases ha : g.rightI a with
   | false =>
    rw [ha] at hra
    simp -implicitDefEqProofs only [awp_draw _ _ Tryzdr8_5,List.length_map,hws,h60t,
  evx,evy,ofValue,ofCell,List.range,List.range.loop,Array.size,Nat.reduceAdd,Nat.reduceSub,Nat.reduceEqDiff,List.replicate,if_true,if_false,↓reduceIte,reduceCtorEq,elB,evParts,Int.reduceToNat,Int.reduceLE,Int.reduceLT,Int.reduceEq,Nat.reduceMul,Nat.reduceLeDiff,Nat.reduceLT,ty3,ty4,ty9,ty28,ty22,ty23,ty24,ty25,ty27,ty63,ty52,ty43]
    refine callK_ret _ _ _ _ (call_pure (hra) (fun _ => rfl) (fun _ => rfl)) (ok_nil _ _) ?_
    simp -implicitDefEqProofs only [awp_draw _ _ Tryzdr8_5,evx,evy,ofValue,ofCell,List.range,List.range.loop,Array.size,Nat.reduceAdd,Nat.reduceSub,Nat.reduceEqDiff,List.replicate,if_true,if_false,↓reduceIte,reduceCtorEq,elB,evParts,Int.reduceToNat,Int.reduceLE,Int.reduceLT,Int.reduceEq,Nat.reduceMul,Nat.reduceLeDiff,Nat.reduceLT,ty3,ty4,ty9,ty28,ty22,ty23,ty24,ty25,ty27,ty63,ty52,ty43]
    exact le_flat rfl
   | true =>
   rw [ha] at hra
   cases hb : g.rightI b with
   | false =>
    rw [hb] at hrb
    simp -implicitDefEqProofs only [awp_draw _ _ Tryzdr8_5,List.length_map,hws,h60t,
  evx,evy,ofValue,ofCell,List.range,List.range.loop,Array.size,Nat.reduceAdd,Nat.reduceSub,Nat.reduceEqDiff,List.replicate,if_true,if_false,↓reduceIte,reduceCtorEq,elB,evParts,Int.reduceToNat,Int.reduceLE,Int.reduceLT,Int.reduceEq,Nat.reduceMul,Nat.reduceLeDiff,Nat.reduceLT,ty3,ty4,ty9,ty28,ty22,ty23,ty24,ty25,ty27,ty63,ty52,ty43]
    refine callK_ret _ _ _ _ (call_pure (hra) (fun _ => rfl) (fun _ => rfl)) (ok_nil _ _) ?_
    simp -implicitDefEqProofs only [awp_draw _ _ Tryzdr8_5,evx,evy,ofValue,ofCell,List.range,List.range.loop,Array.size,Nat.reduceAdd,Nat.reduceSub,Nat.reduceEqDiff,List.replicate,if_true,if_false,↓reduceIte,reduceCtorEq,elB,evParts,Int.reduceToNat,Int.reduceLE,Int.reduceLT,Int.reduceEq,Nat.reduceMul,Nat.reduceLeDiff,Nat.reduceLT,ty3,ty4,ty9,ty28,ty22,ty23,ty24,ty25,ty27,ty63,ty52,ty43]
    refine callK_ret _ _ _ _ (call_pure (hrb) (fun _ => rfl) (fun _ => rfl)) (ok_nil _ _) ?_
    simp -implicitDefEqProofs only [awp_draw _ _ Tryzdr8_5,evx,evy,ofValue,ofCell,List.range,List.range.loop,Array.size,Nat.reduceAdd,Nat.reduceSub,Nat.reduceEqDiff,List.replicate,if_true,if_false,↓reduceIte,reduceCtorEq,elB,evParts,Int.reduceToNat,Int.reduceLE,Int.reduceLT,Int.reduceEq,Nat.reduceMul,Nat.reduceLeDiff,Nat.reduceLT,ty3,ty4,ty9,ty28,ty22,ty23,ty24,ty25,ty27,ty63,ty52,ty43]
    exact le_flat rfl
   | true =>
    rw [hb] at hrb
    have hca := ok23 g hg a (by omega)
    have hcb := ok23 g hg b (by omega)
    have hab := ok23 g hg (a ++ b) (by rw [List.length_append]; omega)
    rw [ansC_true ha] at hca
    rw [ansC_true hb] at hcb
    rw [ansC_true (right_app ha hb)] at hab
    have hl1 := closI_len30 hg a
    have hl2 := closI_len30 hg b
    have hl3 := closI_len30 hg (a ++ b)
    have hof := ok29 g (by omega) hlr (closI g a ++ closI g b) (by rw [List.length_append]; omega)
    rw [clos_app] at hof
    have s2 := ok24 (closI g (a ++ b)) (closI g (a ++ b)) (by omega) (by omega)
    rw [decide_eq_true rfl] at s2
    generalize closI g (a ++ b) = Z at hab hof s2 hl3
    generalize closI g a = X at hca hof hl1
    generalize closI g b = Y at hcb hof hl2
    have tk1 : List.take a.length (a.map Itm.row) = a.map Itm.row := List.take_of_length_le (by simp)
    have tk2 : List.take X.length (X.map Itm.row) = X.map Itm.row := List.take_of_length_le (by simp)
    have sz1 : (a.length * 16 ≤ 140737488355328) = True := eq_true (by omega)
    have sz2 : ((a.length + b.length) * 16 ≤ 140737488355328) = True := eq_true (by omega)
    have sz3 : (X.length * 16 ≤ 140737488355328) = True := eq_true (by omega)
    have sz4 : ((X.length + Y.length) * 16 ≤ 140737488355328) = True := eq_true (by omega)
    simp -implicitDefEqProofs only [awp_draw _ _ Tryzdr8_5,List.length_map,hws,h60t,
  evx,evy,ofValue,ofCell,List.range,List.range.loop,Array.size,Nat.reduceAdd,Nat.reduceSub,Nat.reduceEqDiff,List.replicate,if_true,if_false,↓reduceIte,reduceCtorEq,elB,evParts,Int.reduceToNat,Int.reduceLE,Int.reduceLT,Int.reduceEq,Nat.reduceMul,Nat.reduceLeDiff,Nat.reduceLT,ty3,ty4,ty9,ty28,ty22,ty23,ty24,ty25,ty27,ty63,ty52,ty43]
    refine callK_ret _ _ _ _ (call_pure (hra) (fun _ => rfl) (fun _ => rfl)) (ok_nil _ _) ?_
    simp -implicitDefEqProofs only [awp_draw _ _ Tryzdr8_5,evx,evy,ofValue,ofCell,List.range,List.range.loop,Array.size,Nat.reduceAdd,Nat.reduceSub,Nat.reduceEqDiff,List.replicate,if_true,if_false,↓reduceIte,reduceCtorEq,elB,evParts,Int.reduceToNat,Int.reduceLE,Int.reduceLT,Int.reduceEq,Nat.reduceMul,Nat.reduceLeDiff,Nat.reduceLT,ty3,ty4,ty9,ty28,ty22,ty23,ty24,ty25,ty27,ty63,ty52,ty43]
    refine callK_ret _ _ _ _ (call_pure (hrb) (fun _ => rfl) (fun _ => rfl)) (ok_nil _ _) ?_
    simp -implicitDefEqProofs only [awp_draw _ _ Tryzdr8_5,evx,evy,ofValue,ofCell,List.range,List.range.loop,Array.size,Nat.reduceAdd,Nat.reduceSub,Nat.reduceEqDiff,List.replicate,if_true,if_false,↓reduceIte,reduceCtorEq,elB,evParts,Int.reduceToNat,Int.reduceLE,Int.reduceLT,Int.reduceEq,Nat.reduceMul,Nat.reduceLeDiff,Nat.reduceLT,ty3,ty4,ty9,ty28,ty22,ty23,ty24,ty25,ty27,ty63,ty52,ty43]
    refine callK_ret _ _ _ _ (call_pure (hca) (fun _ => rfl) (fun _ => rfl)) (ok_nil _ _) ?_
    simp -implicitDefEqProofs only [awp_draw _ _ Tryzdr8_5,evx,evy,ofValue,ofCell,List.range,List.range.loop,Array.size,Nat.reduceAdd,Nat.reduceSub,Nat.reduceEqDiff,List.replicate,if_true,if_false,↓reduceIte,reduceCtorEq,elB,evParts,Int.reduceToNat,Int.reduceLE,Int.reduceLT,Int.reduceEq,Nat.reduceMul,Nat.reduceLeDiff,Nat.reduceLT,ty3,ty4,ty9,ty28,ty22,ty23,ty24,ty25,ty27,ty63,ty52,ty43]
    refine callK_ret _ _ _ _ (call_pure (hcb) (fun _ => rfl) (fun _ => rfl)) (ok_nil _ _) ?_
    simp -implicitDefEqProofs only [awp_draw _ _ Tryzdr8_5,evx,evy,ofValue,ofCell,List.range,List.range.loop,Array.size,Nat.reduceAdd,Nat.reduceSub,Nat.reduceEqDiff,List.replicate,if_true,if_false,↓reduceIte,reduceCtorEq,elB,evParts,Int.reduceToNat,Int.reduceLE,Int.reduceLT,Int.reduceEq,Nat.reduceMul,Nat.reduceLeDiff,Nat.reduceLT,ty3,ty4,ty9,ty28,ty22,ty23,ty24,ty25,ty27,ty63,ty52,ty43]
    refine awp_forks7 (t := .fork [(0,true),(2,true),(4,true),(7,true),(9,true),(11,true)] 1 (.fork [] 3 (.fork [] 5 (.fork [] 6 (.lin [(8,false),(10,false),(12,false),(13,false),(14,false),(15,true)]) 8 (.lin [(6,false),(10,false),(12,false),(13,false),(14,false),(15,true)])) 8 (.lin [(5,false),(6,false),(10,false),(12,false),(13,false),(14,false),(15,true)])) 8 (.lin [(3,false),(5,false),(6,false),(10,false),(12,false),(13,false),(14,false),(15,true)])) 8 (.lin [(1,false),(3,false),(5,false),(6,false),(10,false),(12,false),(13,false),(14,false),(15,true)])) (by kernel_rfl) (by kernel_rfl) (by kernel_rfl)
     ⟨[.any,.any,.any,.any,.any,.any,.fv (.bool true),.any,.any,.any,.any,.any,.any,.any,.any,.any,.any,.any,.any,.any,.any,.any,.any,.any,.any,.any,.any,.any,.any,.any,.any,.any,.any,.any,.any,.any,.any,.any,.any,.any,.any,.any,.any,.any,.any,.any,.any,.any,.any,.any,.any,.any,.any,.any],[],[]⟩ ?_ ?_
    ·simp only [ord8G]
     refine ⟨by kernel_rfl,?_⟩
     simp -implicitDefEqProofs only [awp_draw _ _ Tryzdr8_5,evx,evy,ofValue,ofCell,List.range,List.range.loop,Array.size,Nat.reduceAdd,Nat.reduceSub,Nat.reduceEqDiff,List.replicate,if_true,if_false,↓reduceIte,reduceCtorEq,elB,evParts,Int.reduceToNat,Int.reduceLE,Int.reduceLT,Int.reduceEq,Nat.reduceMul,Nat.reduceLeDiff,Nat.reduceLT,ty3,ty4,ty9,ty28,ty22,ty23,ty24,ty25,ty27,ty63,ty52,ty43]
     try simp only [onN]
     intro hs0 b0 eb hk0 hl0
     have hb1 : b0 = 1 := eb
     subst hb1
     refine ⟨?_,?_⟩
     ·try simp -implicitDefEqProofs only [awp_draw _ _ Tryzdr8_5,subAny,subA,subL,backSub,back,putBack,subBlk,Option.getD_some,List.map_cons,List.map_nil,Nat.not_lt_zero,Nat.sub_zero,Nat.add_zero,List.length_map,freezeSt,frzSub,killAll,List.contains_cons,List.contains_nil,Nat.reduceBEq,Bool.or_false,bsI0,List.take_nil,List.nil_append,List.length_nil,Nat.zero_le,true_and,and_self,List.length_map,List.length_append,tk1,tk2,Nat.le_refl,sz1,sz2,sz3,sz4,
  evx,evy,ofValue,ofCell,List.range,List.range.loop,Array.size,Nat.reduceAdd,Nat.reduceSub,Nat.reduceEqDiff,List.replicate,if_true,if_false,↓reduceIte,reduceCtorEq,elB,evParts,Int.reduceToNat,Int.reduceLE,Int.reduceLT,Int.reduceEq,Nat.reduceMul,Nat.reduceLeDiff,Nat.reduceLT,ty3,ty4,ty9,ty28,ty22,ty23,ty24,ty25,ty27,ty63,ty52,ty43]
      try simp only [onN,ord7G,true_and]
      intro hs1 hk1 hl1
      refine ⟨?_,?_⟩
      ·try simp -implicitDefEqProofs only [awp_draw _ _ Tryzdr8_5,subAny,subA,subL,backSub,back,putBack,subBlk,Option.getD_some,List.map_cons,List.map_nil,Nat.not_lt_zero,Nat.sub_zero,Nat.add_zero,List.length_map,freezeSt,frzSub,killAll,List.contains_cons,List.contains_nil,Nat.reduceBEq,Bool.or_false,bsI0,List.take_nil,List.nil_append,List.length_nil,Nat.zero_le,true_and,and_self,List.length_map,List.length_append,tk1,tk2,Nat.le_refl,sz1,sz2,sz3,sz4,
  evx,evy,ofValue,ofCell,List.range,List.range.loop,Array.size,Nat.reduceAdd,Nat.reduceSub,Nat.reduceEqDiff,List.replicate,if_true,if_false,↓reduceIte,reduceCtorEq,elB,evParts,Int.reduceToNat,Int.reduceLE,Int.reduceLT,Int.reduceEq,Nat.reduceMul,Nat.reduceLeDiff,Nat.reduceLT,ty3,ty4,ty9,ty28,ty22,ty23,ty24,ty25,ty27,ty63,ty52,ty43]
       refine ⟨by refine heldLt_ok (n := 1) ?_ _ _ (by omega); repeat (first | assumption | apply heldLt_drop),?_⟩
       try simp only [onN,ord7G,true_and]
       intro hs2 hk2 hl2
       refine ⟨?_,?_⟩
       ·try simp -implicitDefEqProofs only [awp_draw _ _ Tryzdr8_5,subAny,subA,subL,backSub,back,putBack,subBlk,Option.getD_some,List.map_cons,List.map_nil,Nat.not_lt_zero,Nat.sub_zero,Nat.add_zero,List.length_map,freezeSt,frzSub,killAll,List.contains_cons,List.contains_nil,Nat.reduceBEq,Bool.or_false,bsI0,List.take_nil,List.nil_append,List.length_nil,Nat.zero_le,true_and,and_self,List.length_map,List.length_append,tk1,tk2,Nat.le_refl,sz1,sz2,sz3,sz4,
  evx,evy,ofValue,ofCell,List.range,List.range.loop,Array.size,Nat.reduceAdd,Nat.reduceSub,Nat.reduceEqDiff,List.replicate,if_true,if_false,↓reduceIte,reduceCtorEq,elB,evParts,Int.reduceToNat,Int.reduceLE,Int.reduceLT,Int.reduceEq,Nat.reduceMul,Nat.reduceLeDiff,Nat.reduceLT,ty3,ty4,ty9,ty28,ty22,ty23,ty24,ty25,ty27,ty63,ty52,ty43]
        refine ⟨by refine heldLt_ok (n := 1) ?_ _ _ (by omega); repeat (first | assumption | apply heldLt_drop),?_⟩
        try simp only [onN,ord7G,true_and]
        intro hs3 hk3 hl3
        refine ⟨?_,?_⟩
        ·try simp -implicitDefEqProofs only [awp_draw _ _ Tryzdr8_5,subAny,subA,subL,backSub,back,putBack,subBlk,Option.getD_some,List.map_cons,List.map_nil,Nat.not_lt_zero,Nat.sub_zero,Nat.add_zero,List.length_map,freezeSt,frzSub,killAll,List.contains_cons,List.contains_nil,Nat.reduceBEq,Bool.or_false,bsI0,List.take_nil,List.nil_append,List.length_nil,Nat.zero_le,true_and,and_self,List.length_map,List.length_append,tk1,tk2,Nat.le_refl,sz1,sz2,sz3,sz4,
  evx,evy,ofValue,ofCell,List.range,List.range.loop,Array.size,Nat.reduceAdd,Nat.reduceSub,Nat.reduceEqDiff,List.replicate,if_true,if_false,↓reduceIte,reduceCtorEq,elB,evParts,Int.reduceToNat,Int.reduceLE,Int.reduceLT,Int.reduceEq,Nat.reduceMul,Nat.reduceLeDiff,Nat.reduceLT,ty3,ty4,ty9,ty28,ty22,ty23,ty24,ty25,ty27,ty63,ty52,ty43]
         refine callK_ret _ _ _ _ (call_fz [3] (hab) rfl (by simp [subAny,subA,subL,frzSub,List.take_of_length_le,Gra.av,List.map_append]) (by simp [killAll,subBlk,subAny,subA,subL,frzSub,Gra.av,List.map_append]) (fun _ => rfl) (fun _ => rfl)) (by first | exact ok_none _ _ | exact ok_nil _ _ | (refine heldLt_ok (n := 1) ?_ _ _ (by omega); repeat (first | assumption | apply heldLt_drop))) ?_
         try simp -implicitDefEqProofs only [awp_draw _ _ Tryzdr8_5,subAny,subA,subL,backSub,back,putBack,subBlk,Option.getD_some,List.map_cons,List.map_nil,Nat.not_lt_zero,Nat.sub_zero,Nat.add_zero,List.length_map,freezeSt,frzSub,killAll,List.contains_cons,List.contains_nil,Nat.reduceBEq,Bool.or_false,bsI0,List.take_nil,List.nil_append,List.length_nil,Nat.zero_le,true_and,and_self,List.length_map,List.length_append,tk1,tk2,Nat.le_refl,sz1,sz2,sz3,sz4,
  evx,evy,ofValue,ofCell,List.range,List.range.loop,Array.size,Nat.reduceAdd,Nat.reduceSub,Nat.reduceEqDiff,List.replicate,if_true,if_false,↓reduceIte,reduceCtorEq,elB,evParts,Int.reduceToNat,Int.reduceLE,Int.reduceLT,Int.reduceEq,Nat.reduceMul,Nat.reduceLeDiff,Nat.reduceLT,ty3,ty4,ty9,ty28,ty22,ty23,ty24,ty25,ty27,ty63,ty52,ty43]
         try simp only [onN,ord7G,true_and]
         try simp -implicitDefEqProofs only [awp_draw _ _ Tryzdr8_5,subAny,subA,subL,backSub,back,putBack,subBlk,Option.getD_some,List.map_cons,List.map_nil,Nat.not_lt_zero,Nat.sub_zero,Nat.add_zero,List.length_map,freezeSt,frzSub,killAll,List.contains_cons,List.contains_nil,Nat.reduceBEq,Bool.or_false,bsI0,List.take_nil,List.nil_append,List.length_nil,Nat.zero_le,true_and,and_self,List.length_map,List.length_append,tk1,tk2,Nat.le_refl,sz1,sz2,sz3,sz4,
  evx,evy,ofValue,ofCell,List.range,List.range.loop,Array.size,Nat.reduceAdd,Nat.reduceSub,Nat.reduceEqDiff,List.replicate,if_true,if_false,↓reduceIte,reduceCtorEq,elB,evParts,Int.reduceToNat,Int.reduceLE,Int.reduceLT,Int.reduceEq,Nat.reduceMul,Nat.reduceLeDiff,Nat.reduceLT,ty3,ty4,ty9,ty28,ty22,ty23,ty24,ty25,ty27,ty63,ty52,ty43]
         refine ⟨by refine heldLt_ok (n := 1) ?_ _ _ (by omega); repeat (first | assumption | apply heldLt_drop),by refine heldLt_ok (n := 1) ?_ _ _ (by omega); repeat (first | assumption | apply heldLt_drop),?_⟩
         refine callK_ret _ _ _ _ (call_fz [6] (hof) rfl (by simp [subAny,subA,subL,frzSub,List.take_of_length_le,Gra.av,List.map_append]) (by simp [killAll,subBlk,subAny,subA,subL,frzSub,Gra.av,List.map_append]) (fun _ => rfl) (fun _ => rfl)) (by first | exact ok_none _ _ | exact ok_nil _ _ | (refine heldLt_ok (n := 1) ?_ _ _ (by omega); repeat (first | assumption | apply heldLt_drop))) ?_
         try simp -implicitDefEqProofs only [awp_draw _ _ Tryzdr8_5,subAny,subA,subL,backSub,back,putBack,subBlk,Option.getD_some,List.map_cons,List.map_nil,Nat.not_lt_zero,Nat.sub_zero,Nat.add_zero,List.length_map,freezeSt,frzSub,killAll,List.contains_cons,List.contains_nil,Nat.reduceBEq,Bool.or_false,bsI0,List.take_nil,List.nil_append,List.length_nil,Nat.zero_le,true_and,and_self,List.length_map,List.length_append,tk1,tk2,Nat.le_refl,sz1,sz2,sz3,sz4,
  evx,evy,ofValue,ofCell,List.range,List.range.loop,Array.size,Nat.reduceAdd,Nat.reduceSub,Nat.reduceEqDiff,List.replicate,if_true,if_false,↓reduceIte,reduceCtorEq,elB,evParts,Int.reduceToNat,Int.reduceLE,Int.reduceLT,Int.reduceEq,Nat.reduceMul,Nat.reduceLeDiff,Nat.reduceLT,ty3,ty4,ty9,ty28,ty22,ty23,ty24,ty25,ty27,ty63,ty52,ty43]
         refine callK_ret _ _ _ _ (call_pure (s2) (fun _ => rfl) (fun _ => rfl)) (ok_nil _ _) ?_
         simp -implicitDefEqProofs only [awp_draw _ _ Tryzdr8_5,evx,evy,ofValue,ofCell,List.range,List.range.loop,Array.size,Nat.reduceAdd,Nat.reduceSub,Nat.reduceEqDiff,List.replicate,if_true,if_false,↓reduceIte,reduceCtorEq,elB,evParts,Int.reduceToNat,Int.reduceLE,Int.reduceLT,Int.reduceEq,Nat.reduceMul,Nat.reduceLeDiff,Nat.reduceLT,ty3,ty4,ty9,ty28,ty22,ty23,ty24,ty25,ty27,ty63,ty52,ty43]
         exact le_pk [] rfl (by simp) (by simp) (by simp) (by simp [wk,subAny,subA,subL,mkSub,idx])
        ·try simp -implicitDefEqProofs only [awp_draw _ _ Tryzdr8_5,subAny,subA,subL,backSub,back,putBack,subBlk,Option.getD_some,List.map_cons,List.map_nil,Nat.not_lt_zero,Nat.sub_zero,Nat.add_zero,List.length_map,freezeSt,frzSub,killAll,List.contains_cons,List.contains_nil,Nat.reduceBEq,Bool.or_false,bsI0,List.take_nil,List.nil_append,List.length_nil,Nat.zero_le,true_and,and_self,List.length_map,List.length_append,tk1,tk2,Nat.le_refl,sz1,sz2,sz3,sz4,
  evx,evy,ofValue,ofCell,List.range,List.range.loop,Array.size,Nat.reduceAdd,Nat.reduceSub,Nat.reduceEqDiff,List.replicate,if_true,if_false,↓reduceIte,reduceCtorEq,elB,evParts,Int.reduceToNat,Int.reduceLE,Int.reduceLT,Int.reduceEq,Nat.reduceMul,Nat.reduceLeDiff,Nat.reduceLT,ty3,ty4,ty9,ty28,ty22,ty23,ty24,ty25,ty27,ty63,ty52,ty43]
         try simp only [onN,ord7G,true_and]
         try simp -implicitDefEqProofs only [awp_draw _ _ Tryzdr8_5,subAny,subA,subL,backSub,back,putBack,subBlk,Option.getD_some,List.map_cons,List.map_nil,Nat.not_lt_zero,Nat.sub_zero,Nat.add_zero,List.length_map,freezeSt,frzSub,killAll,List.contains_cons,List.contains_nil,Nat.reduceBEq,Bool.or_false,bsI0,List.take_nil,List.nil_append,List.length_nil,Nat.zero_le,true_and,and_self,List.length_map,List.length_append,tk1,tk2,Nat.le_refl,sz1,sz2,sz3,sz4,
  evx,evy,ofValue,ofCell,List.range,List.range.loop,Array.size,Nat.reduceAdd,Nat.reduceSub,Nat.reduceEqDiff,List.replicate,if_true,if_false,↓reduceIte,reduceCtorEq,elB,evParts,Int.reduceToNat,Int.reduceLE,Int.reduceLT,Int.reduceEq,Nat.reduceMul,Nat.reduceLeDiff,Nat.reduceLT,ty3,ty4,ty9,ty28,ty22,ty23,ty24,ty25,ty27,ty63,ty52,ty43]
         refine callK_ret _ _ _ _ (call_fz [3] (hab) rfl (by simp [subAny,subA,subL,frzSub,List.take_of_length_le,Gra.av,List.map_append]) (by simp [killAll,subBlk,subAny,subA,subL,frzSub,Gra.av,List.map_append]) (fun _ => rfl) (fun _ => rfl)) (by first | exact ok_none _ _ | exact ok_nil _ _ | (refine heldLt_ok (n := 1) ?_ _ _ (by omega); repeat (first | assumption | apply heldLt_drop))) ?_
         try simp -implicitDefEqProofs only [awp_draw _ _ Tryzdr8_5,subAny,subA,subL,backSub,back,putBack,subBlk,Option.getD_some,List.map_cons,List.map_nil,Nat.not_lt_zero,Nat.sub_zero,Nat.add_zero,List.length_map,freezeSt,frzSub,killAll,List.contains_cons,List.contains_nil,Nat.reduceBEq,Bool.or_false,bsI0,List.take_nil,List.nil_append,List.length_nil,Nat.zero_le,true_and,and_self,List.length_map,List.length_append,tk1,tk2,Nat.le_refl,sz1,sz2,sz3,sz4,
  evx,evy,ofValue,ofCell,List.range,List.range.loop,Array.size,Nat.reduceAdd,Nat.reduceSub,Nat.reduceEqDiff,List.replicate,if_true,if_false,↓reduceIte,reduceCtorEq,elB,evParts,Int.reduceToNat,Int.reduceLE,Int.reduceLT,Int.reduceEq,Nat.reduceMul,Nat.reduceLeDiff,Nat.reduceLT,ty3,ty4,ty9,ty28,ty22,ty23,ty24,ty25,ty27,ty63,ty52,ty43]
         refine ⟨by refine heldLt_ok (n := 1) ?_ _ _ (by omega); repeat (first | assumption | apply heldLt_drop),by refine heldLt_ok (n := 1) ?_ _ _ (by omega); repeat (first | assumption | apply heldLt_drop),?_⟩
         refine callK_ret _ _ _ _ (call_fz [6] (hof) rfl (by simp [subAny,subA,subL,frzSub,List.take_of_length_le,Gra.av,List.map_append]) (by simp [killAll,subBlk,subAny,subA,subL,frzSub,Gra.av,List.map_append]) (fun _ => rfl) (fun _ => rfl)) (by first | exact ok_none _ _ | exact ok_nil _ _ | (refine heldLt_ok (n := 1) ?_ _ _ (by omega); repeat (first | assumption | apply heldLt_drop))) ?_
         try simp -implicitDefEqProofs only [awp_draw _ _ Tryzdr8_5,subAny,subA,subL,backSub,back,putBack,subBlk,Option.getD_some,List.map_cons,List.map_nil,Nat.not_lt_zero,Nat.sub_zero,Nat.add_zero,List.length_map,freezeSt,frzSub,killAll,List.contains_cons,List.contains_nil,Nat.reduceBEq,Bool.or_false,bsI0,List.take_nil,List.nil_append,List.length_nil,Nat.zero_le,true_and,and_self,List.length_map,List.length_append,tk1,tk2,Nat.le_refl,sz1,sz2,sz3,sz4,
  evx,evy,ofValue,ofCell,List.range,List.range.loop,Array.size,Nat.reduceAdd,Nat.reduceSub,Nat.reduceEqDiff,List.replicate,if_true,if_false,↓reduceIte,reduceCtorEq,elB,evParts,Int.reduceToNat,Int.reduceLE,Int.reduceLT,Int.reduceEq,Nat.reduceMul,Nat.reduceLeDiff,Nat.reduceLT,ty3,ty4,ty9,ty28,ty22,ty23,ty24,ty25,ty27,ty63,ty52,ty43]
         refine callK_ret _ _ _ _ (call_pure (s2) (fun _ => rfl) (fun _ => rfl)) (ok_nil _ _) ?_
         simp -implicitDefEqProofs only [awp_draw _ _ Tryzdr8_5,evx,evy,ofValue,ofCell,List.range,List.range.loop,Array.size,Nat.reduceAdd,Nat.reduceSub,Nat.reduceEqDiff,List.replicate,if_true,if_false,↓reduceIte,reduceCtorEq,elB,evParts,Int.reduceToNat,Int.reduceLE,Int.reduceLT,Int.reduceEq,Nat.reduceMul,Nat.reduceLeDiff,Nat.reduceLT,ty3,ty4,ty9,ty28,ty22,ty23,ty24,ty25,ty27,ty63,ty52,ty43]
         exact le_pk [] rfl (by simp) (by simp) (by simp) (by simp [wk,subAny,subA,subL,mkSub,idx])
       ·try simp -implicitDefEqProofs only [awp_draw _ _ Tryzdr8_5,subAny,subA,subL,backSub,back,putBack,subBlk,Option.getD_some,List.map_cons,List.map_nil,Nat.not_lt_zero,Nat.sub_zero,Nat.add_zero,List.length_map,freezeSt,frzSub,killAll,List.contains_cons,List.contains_nil,Nat.reduceBEq,Bool.or_false,bsI0,List.take_nil,List.nil_append,List.length_nil,Nat.zero_le,true_and,and_self,List.length_map,List.length_append,tk1,tk2,Nat.le_refl,sz1,sz2,sz3,sz4,
  evx,evy,ofValue,ofCell,List.range,List.range.loop,Array.size,Nat.reduceAdd,Nat.reduceSub,Nat.reduceEqDiff,List.replicate,if_true,if_false,↓reduceIte,reduceCtorEq,elB,evParts,Int.reduceToNat,Int.reduceLE,Int.reduceLT,Int.reduceEq,Nat.reduceMul,Nat.reduceLeDiff,Nat.reduceLT,ty3,ty4,ty9,ty28,ty22,ty23,ty24,ty25,ty27,ty63,ty52,ty43]
        try simp only [onN,ord7G,true_and]
        try simp -implicitDefEqProofs only [awp_draw _ _ Tryzdr8_5,subAny,subA,subL,backSub,back,putBack,subBlk,Option.getD_some,List.map_cons,List.map_nil,Nat.not_lt_zero,Nat.sub_zero,Nat.add_zero,List.length_map,freezeSt,frzSub,killAll,List.contains_cons,List.contains_nil,Nat.reduceBEq,Bool.or_false,bsI0,List.take_nil,List.nil_append,List.length_nil,Nat.zero_le,true_and,and_self,List.length_map,List.length_append,tk1,tk2,Nat.le_refl,sz1,sz2,sz3,sz4,
  evx,evy,ofValue,ofCell,List.range,List.range.loop,Array.size,Nat.reduceAdd,Nat.reduceSub,Nat.reduceEqDiff,List.replicate,if_true,if_false,↓reduceIte,reduceCtorEq,elB,evParts,Int.reduceToNat,Int.reduceLE,Int.reduceLT,Int.reduceEq,Nat.reduceMul,Nat.reduceLeDiff,Nat.reduceLT,ty3,ty4,ty9,ty28,ty22,ty23,ty24,ty25,ty27,ty63,ty52,ty43]
        refine ⟨by refine heldLt_ok (n := 1) ?_ _ _ (by omega); repeat (first | assumption | apply heldLt_drop),?_⟩
        refine callK_ret _ _ _ _ (call_fz [4] (hab) rfl (by simp [subAny,subA,subL,frzSub,List.take_of_length_le,Gra.av,List.map_append]) (by simp [killAll,subBlk,subAny,subA,subL,frzSub,Gra.av,List.map_append]) (fun _ => rfl) (fun _ => rfl)) (by first | exact ok_none _ _ | exact ok_nil _ _ | (refine heldLt_ok (n := 1) ?_ _ _ (by omega); repeat (first | assumption | apply heldLt_drop))) ?_
        try simp -implicitDefEqProofs only [awp_draw _ _ Tryzdr8_5,subAny,subA,subL,backSub,back,putBack,subBlk,Option.getD_some,List.map_cons,List.map_nil,Nat.not_lt_zero,Nat.sub_zero,Nat.add_zero,List.length_map,freezeSt,frzSub,killAll,List.contains_cons,List.contains_nil,Nat.reduceBEq,Bool.or_false,bsI0,List.take_nil,List.nil_append,List.length_nil,Nat.zero_le,true_and,and_self,List.length_map,List.length_append,tk1,tk2,Nat.le_refl,sz1,sz2,sz3,sz4,
  evx,evy,ofValue,ofCell,List.range,List.range.loop,Array.size,Nat.reduceAdd,Nat.reduceSub,Nat.reduceEqDiff,List.replicate,if_true,if_false,↓reduceIte,reduceCtorEq,elB,evParts,Int.reduceToNat,Int.reduceLE,Int.reduceLT,Int.reduceEq,Nat.reduceMul,Nat.reduceLeDiff,Nat.reduceLT,ty3,ty4,ty9,ty28,ty22,ty23,ty24,ty25,ty27,ty63,ty52,ty43]
        refine ⟨by refine heldLt_ok (n := 1) ?_ _ _ (by omega); repeat (first | assumption | apply heldLt_drop),by refine heldLt_ok (n := 1) ?_ _ _ (by omega); repeat (first | assumption | apply heldLt_drop),?_⟩
        refine callK_ret _ _ _ _ (call_fz [6] (hof) rfl (by simp [subAny,subA,subL,frzSub,List.take_of_length_le,Gra.av,List.map_append]) (by simp [killAll,subBlk,subAny,subA,subL,frzSub,Gra.av,List.map_append]) (fun _ => rfl) (fun _ => rfl)) (by first | exact ok_none _ _ | exact ok_nil _ _ | (refine heldLt_ok (n := 1) ?_ _ _ (by omega); repeat (first | assumption | apply heldLt_drop))) ?_
        try simp -implicitDefEqProofs only [awp_draw _ _ Tryzdr8_5,subAny,subA,subL,backSub,back,putBack,subBlk,Option.getD_some,List.map_cons,List.map_nil,Nat.not_lt_zero,Nat.sub_zero,Nat.add_zero,List.length_map,freezeSt,frzSub,killAll,List.contains_cons,List.contains_nil,Nat.reduceBEq,Bool.or_false,bsI0,List.take_nil,List.nil_append,List.length_nil,Nat.zero_le,true_and,and_self,List.length_map,List.length_append,tk1,tk2,Nat.le_refl,sz1,sz2,sz3,sz4,
  evx,evy,ofValue,ofCell,List.range,List.range.loop,Array.size,Nat.reduceAdd,Nat.reduceSub,Nat.reduceEqDiff,List.replicate,if_true,if_false,↓reduceIte,reduceCtorEq,elB,evParts,Int.reduceToNat,Int.reduceLE,Int.reduceLT,Int.reduceEq,Nat.reduceMul,Nat.reduceLeDiff,Nat.reduceLT,ty3,ty4,ty9,ty28,ty22,ty23,ty24,ty25,ty27,ty63,ty52,ty43]
        refine callK_ret _ _ _ _ (call_pure (s2) (fun _ => rfl) (fun _ => rfl)) (ok_nil _ _) ?_
        simp -implicitDefEqProofs only [awp_draw _ _ Tryzdr8_5,evx,evy,ofValue,ofCell,List.range,List.range.loop,Array.size,Nat.reduceAdd,Nat.reduceSub,Nat.reduceEqDiff,List.replicate,if_true,if_false,↓reduceIte,reduceCtorEq,elB,evParts,Int.reduceToNat,Int.reduceLE,Int.reduceLT,Int.reduceEq,Nat.reduceMul,Nat.reduceLeDiff,Nat.reduceLT,ty3,ty4,ty9,ty28,ty22,ty23,ty24,ty25,ty27,ty63,ty52,ty43]
        exact le_pk [] rfl (by simp) (by simp) (by simp) (by simp [wk,subAny,subA,subL,mkSub,idx])
      ·try simp -implicitDefEqProofs only [awp_draw _ _ Tryzdr8_5,subAny,subA,subL,backSub,back,putBack,subBlk,Option.getD_some,List.map_cons,List.map_nil,Nat.not_lt_zero,Nat.sub_zero,Nat.add_zero,List.length_map,freezeSt,frzSub,killAll,List.contains_cons,List.contains_nil,Nat.reduceBEq,Bool.or_false,bsI0,List.take_nil,List.nil_append,List.length_nil,Nat.zero_le,true_and,and_self,List.length_map,List.length_append,tk1,tk2,Nat.le_refl,sz1,sz2,sz3,sz4,
  evx,evy,ofValue,ofCell,List.range,List.range.loop,Array.size,Nat.reduceAdd,Nat.reduceSub,Nat.reduceEqDiff,List.replicate,if_true,if_false,↓reduceIte,reduceCtorEq,elB,evParts,Int.reduceToNat,Int.reduceLE,Int.reduceLT,Int.reduceEq,Nat.reduceMul,Nat.reduceLeDiff,Nat.reduceLT,ty3,ty4,ty9,ty28,ty22,ty23,ty24,ty25,ty27,ty63,ty52,ty43]
       try simp only [onN,ord7G,true_and]
       try simp -implicitDefEqProofs only [awp_draw _ _ Tryzdr8_5,subAny,subA,subL,backSub,back,putBack,subBlk,Option.getD_some,List.map_cons,List.map_nil,Nat.not_lt_zero,Nat.sub_zero,Nat.add_zero,List.length_map,freezeSt,frzSub,killAll,List.contains_cons,List.contains_nil,Nat.reduceBEq,Bool.or_false,bsI0,List.take_nil,List.nil_append,List.length_nil,Nat.zero_le,true_and,and_self,List.length_map,List.length_append,tk1,tk2,Nat.le_refl,sz1,sz2,sz3,sz4,
  evx,evy,ofValue,ofCell,List.range,List.range.loop,Array.size,Nat.reduceAdd,Nat.reduceSub,Nat.reduceEqDiff,List.replicate,if_true,if_false,↓reduceIte,reduceCtorEq,elB,evParts,Int.reduceToNat,Int.reduceLE,Int.reduceLT,Int.reduceEq,Nat.reduceMul,Nat.reduceLeDiff,Nat.reduceLT,ty3,ty4,ty9,ty28,ty22,ty23,ty24,ty25,ty27,ty63,ty52,ty43]
       refine ⟨by refine heldLt_ok (n := 1) ?_ _ _ (by omega); repeat (first | assumption | apply heldLt_drop),by refine heldLt_ok (n := 1) ?_ _ _ (by omega); repeat (first | assumption | apply heldLt_drop),?_⟩
       refine callK_ret _ _ _ _ (call_fz [4] (hab) rfl (by simp [subAny,subA,subL,frzSub,List.take_of_length_le,Gra.av,List.map_append]) (by simp [killAll,subBlk,subAny,subA,subL,frzSub,Gra.av,List.map_append]) (fun _ => rfl) (fun _ => rfl)) (by first | exact ok_none _ _ | exact ok_nil _ _ | (refine heldLt_ok (n := 1) ?_ _ _ (by omega); repeat (first | assumption | apply heldLt_drop))) ?_
       try simp -implicitDefEqProofs only [awp_draw _ _ Tryzdr8_5,subAny,subA,subL,backSub,back,putBack,subBlk,Option.getD_some,List.map_cons,List.map_nil,Nat.not_lt_zero,Nat.sub_zero,Nat.add_zero,List.length_map,freezeSt,frzSub,killAll,List.contains_cons,List.contains_nil,Nat.reduceBEq,Bool.or_false,bsI0,List.take_nil,List.nil_append,List.length_nil,Nat.zero_le,true_and,and_self,List.length_map,List.length_append,tk1,tk2,Nat.le_refl,sz1,sz2,sz3,sz4,
  evx,evy,ofValue,ofCell,List.range,List.range.loop,Array.size,Nat.reduceAdd,Nat.reduceSub,Nat.reduceEqDiff,List.replicate,if_true,if_false,↓reduceIte,reduceCtorEq,elB,evParts,Int.reduceToNat,Int.reduceLE,Int.reduceLT,Int.reduceEq,Nat.reduceMul,Nat.reduceLeDiff,Nat.reduceLT,ty3,ty4,ty9,ty28,ty22,ty23,ty24,ty25,ty27,ty63,ty52,ty43]
       refine ⟨by refine heldLt_ok (n := 1) ?_ _ _ (by omega); repeat (first | assumption | apply heldLt_drop),by refine heldLt_ok (n := 1) ?_ _ _ (by omega); repeat (first | assumption | apply heldLt_drop),?_⟩
       refine callK_ret _ _ _ _ (call_fz [6] (hof) rfl (by simp [subAny,subA,subL,frzSub,List.take_of_length_le,Gra.av,List.map_append]) (by simp [killAll,subBlk,subAny,subA,subL,frzSub,Gra.av,List.map_append]) (fun _ => rfl) (fun _ => rfl)) (by first | exact ok_none _ _ | exact ok_nil _ _ | (refine heldLt_ok (n := 1) ?_ _ _ (by omega); repeat (first | assumption | apply heldLt_drop))) ?_
       try simp -implicitDefEqProofs only [awp_draw _ _ Tryzdr8_5,subAny,subA,subL,backSub,back,putBack,subBlk,Option.getD_some,List.map_cons,List.map_nil,Nat.not_lt_zero,Nat.sub_zero,Nat.add_zero,List.length_map,freezeSt,frzSub,killAll,List.contains_cons,List.contains_nil,Nat.reduceBEq,Bool.or_false,bsI0,List.take_nil,List.nil_append,List.length_nil,Nat.zero_le,true_and,and_self,List.length_map,List.length_append,tk1,tk2,Nat.le_refl,sz1,sz2,sz3,sz4,
  evx,evy,ofValue,ofCell,List.range,List.range.loop,Array.size,Nat.reduceAdd,Nat.reduceSub,Nat.reduceEqDiff,List.replicate,if_true,if_false,↓reduceIte,reduceCtorEq,elB,evParts,Int.reduceToNat,Int.reduceLE,Int.reduceLT,Int.reduceEq,Nat.reduceMul,Nat.reduceLeDiff,Nat.reduceLT,ty3,ty4,ty9,ty28,ty22,ty23,ty24,ty25,ty27,ty63,ty52,ty43]
       refine callK_ret _ _ _ _ (call_pure (s2) (fun _ => rfl) (fun _ => rfl)) (ok_nil _ _) ?_
       simp -implicitDefEqProofs only [awp_draw _ _ Tryzdr8_5,evx,evy,ofValue,ofCell,List.range,List.range.loop,Array.size,Nat.reduceAdd,Nat.reduceSub,Nat.reduceEqDiff,List.replicate,if_true,if_false,↓reduceIte,reduceCtorEq,elB,evParts,Int.reduceToNat,Int.reduceLE,Int.reduceLT,Int.reduceEq,Nat.reduceMul,Nat.reduceLeDiff,Nat.reduceLT,ty3,ty4,ty9,ty28,ty22,ty23,ty24,ty25,ty27,ty63,ty52,ty43]
       exact le_pk [] rfl (by simp) (by simp) (by simp) (by simp [wk,subAny,subA,subL,mkSub,idx])
     ·try simp -implicitDefEqProofs only [awp_draw _ _ Tryzdr8_5,subAny,subA,subL,backSub,back,putBack,subBlk,Option.getD_some,List.map_cons,List.map_nil,Nat.not_lt_zero,Nat.sub_zero,Nat.add_zero,List.length_map,freezeSt,frzSub,killAll,List.contains_cons,List.contains_nil,Nat.reduceBEq,Bool.or_false,bsI0,List.take_nil,List.nil_append,List.length_nil,Nat.zero_le,true_and,and_self,List.length_map,List.length_append,tk1,tk2,Nat.le_refl,sz1,sz2,sz3,sz4,
  evx,evy,ofValue,ofCell,List.range,List.range.loop,Array.size,Nat.reduceAdd,Nat.reduceSub,Nat.reduceEqDiff,List.replicate,if_true,if_false,↓reduceIte,reduceCtorEq,elB,evParts,Int.reduceToNat,Int.reduceLE,Int.reduceLT,Int.reduceEq,Nat.reduceMul,Nat.reduceLeDiff,Nat.reduceLT,ty3,ty4,ty9,ty28,ty22,ty23,ty24,ty25,ty27,ty63,ty52,ty43]
      try simp only [onN,ord7G,true_and]
      try simp -implicitDefEqProofs only [awp_draw _ _ Tryzdr8_5,subAny,subA,subL,backSub,back,putBack,subBlk,Option.getD_some,List.map_cons,List.map_nil,Nat.not_lt_zero,Nat.sub_zero,Nat.add_zero,List.length_map,freezeSt,frzSub,killAll,List.contains_cons,List.contains_nil,Nat.reduceBEq,Bool.or_false,bsI0,List.take_nil,List.nil_append,List.length_nil,Nat.zero_le,true_and,and_self,List.length_map,List.length_append,tk1,tk2,Nat.le_refl,sz1,sz2,sz3,sz4,
  evx,evy,ofValue,ofCell,List.range,List.range.loop,Array.size,Nat.reduceAdd,Nat.reduceSub,Nat.reduceEqDiff,List.replicate,if_true,if_false,↓reduceIte,reduceCtorEq,elB,evParts,Int.reduceToNat,Int.reduceLE,Int.reduceLT,Int.reduceEq,Nat.reduceMul,Nat.reduceLeDiff,Nat.reduceLT,ty3,ty4,ty9,ty28,ty22,ty23,ty24,ty25,ty27,ty63,ty52,ty43]
      refine ⟨by refine heldLt_ok (n := 1) ?_ _ _ (by omega); repeat (first | assumption | apply heldLt_drop),by refine heldLt_ok (n := 1) ?_ _ _ (by omega); repeat (first | assumption | apply heldLt_drop),?_⟩
      refine callK_ret _ _ _ _ (call_fz [4] (hab) rfl (by simp [subAny,subA,subL,frzSub,List.take_of_length_le,Gra.av,List.map_append]) (by simp [killAll,subBlk,subAny,subA,subL,frzSub,Gra.av,List.map_append]) (fun _ => rfl) (fun _ => rfl)) (by first | exact ok_none _ _ | exact ok_nil _ _ | (refine heldLt_ok (n := 1) ?_ _ _ (by omega); repeat (first | assumption | apply heldLt_drop))) ?_
      try simp -implicitDefEqProofs only [awp_draw _ _ Tryzdr8_5,subAny,subA,subL,backSub,back,putBack,subBlk,Option.getD_some,List.map_cons,List.map_nil,Nat.not_lt_zero,Nat.sub_zero,Nat.add_zero,List.length_map,freezeSt,frzSub,killAll,List.contains_cons,List.contains_nil,Nat.reduceBEq,Bool.or_false,bsI0,List.take_nil,List.nil_append,List.length_nil,Nat.zero_le,true_and,and_self,List.length_map,List.length_append,tk1,tk2,Nat.le_refl,sz1,sz2,sz3,sz4,
  evx,evy,ofValue,ofCell,List.range,List.range.loop,Array.size,Nat.reduceAdd,Nat.reduceSub,Nat.reduceEqDiff,List.replicate,if_true,if_false,↓reduceIte,reduceCtorEq,elB,evParts,Int.reduceToNat,Int.reduceLE,Int.reduceLT,Int.reduceEq,Nat.reduceMul,Nat.reduceLeDiff,Nat.reduceLT,ty3,ty4,ty9,ty28,ty22,ty23,ty24,ty25,ty27,ty63,ty52,ty43]
      refine ⟨by refine heldLt_ok (n := 1) ?_ _ _ (by omega); repeat (first | assumption | apply heldLt_drop),by refine heldLt_ok (n := 1) ?_ _ _ (by omega); repeat (first | assumption | apply heldLt_drop),?_⟩
      refine callK_ret _ _ _ _ (call_fz [6] (hof) rfl (by simp [subAny,subA,subL,frzSub,List.take_of_length_le,Gra.av,List.map_append]) (by simp [killAll,subBlk,subAny,subA,subL,frzSub,Gra.av,List.map_append]) (fun _ => rfl) (fun _ => rfl)) (by first | exact ok_none _ _ | exact ok_nil _ _ | (refine heldLt_ok (n := 1) ?_ _ _ (by omega); repeat (first | assumption | apply heldLt_drop))) ?_
      try simp -implicitDefEqProofs only [awp_draw _ _ Tryzdr8_5,subAny,subA,subL,backSub,back,putBack,subBlk,Option.getD_some,List.map_cons,List.map_nil,Nat.not_lt_zero,Nat.sub_zero,Nat.add_zero,List.length_map,freezeSt,frzSub,killAll,List.contains_cons,List.contains_nil,Nat.reduceBEq,Bool.or_false,bsI0,List.take_nil,List.nil_append,List.length_nil,Nat.zero_le,true_and,and_self,List.length_map,List.length_append,tk1,tk2,Nat.le_refl,sz1,sz2,sz3,sz4,
  evx,evy,ofValue,ofCell,List.range,List.range.loop,Array.size,Nat.reduceAdd,Nat.reduceSub,Nat.reduceEqDiff,List.replicate,if_true,if_false,↓reduceIte,reduceCtorEq,elB,evParts,Int.reduceToNat,Int.reduceLE,Int.reduceLT,Int.reduceEq,Nat.reduceMul,Nat.reduceLeDiff,Nat.reduceLT,ty3,ty4,ty9,ty28,ty22,ty23,ty24,ty25,ty27,ty63,ty52,ty43]
      refine callK_ret _ _ _ _ (call_pure (s2) (fun _ => rfl) (fun _ => rfl)) (ok_nil _ _) ?_
      simp -implicitDefEqProofs only [awp_draw _ _ Tryzdr8_5,evx,evy,ofValue,ofCell,List.range,List.range.loop,Array.size,Nat.reduceAdd,Nat.reduceSub,Nat.reduceEqDiff,List.replicate,if_true,if_false,↓reduceIte,reduceCtorEq,elB,evParts,Int.reduceToNat,Int.reduceLE,Int.reduceLT,Int.reduceEq,Nat.reduceMul,Nat.reduceLeDiff,Nat.reduceLT,ty3,ty4,ty9,ty28,ty22,ty23,ty24,ty25,ty27,ty63,ty52,ty43]
      exact le_pk [] rfl (by simp) (by simp) (by simp) (by simp [wk,subAny,subA,subL,mkSub,idx])
    ·simp -implicitDefEqProofs only [awp_draw _ _ Tryzdr8_5,evx,evy,ofValue,ofCell,List.range,List.range.loop,Array.size,Nat.reduceAdd,Nat.reduceSub,Nat.reduceEqDiff,List.replicate,if_true,if_false,↓reduceIte,reduceCtorEq,elB,evParts,Int.reduceToNat,Int.reduceLE,Int.reduceLT,Int.reduceEq,Nat.reduceMul,Nat.reduceLeDiff,Nat.reduceLT,ty3,ty4,ty9,ty28,ty22,ty23,ty24,ty25,ty27,ty63,ty52,ty43]
     exact le_flat rfl
  ·have h60t : (60 < (a.length : Int) + (b.length : Int)) = True := eq_true (by omega)
   have hws : IntKind.wrap .i64 ((a.length : Int) + (b.length : Int)) = (a.length : Int) + (b.length : Int) := by have e : reachBytes = 140737488351232 := rfl; exact wrap_small (by omega) (by omega)
   simp -implicitDefEqProofs only [awp_draw _ _ Tryzdr8_5,List.length_map,hws,h60t,
  evx,evy,ofValue,ofCell,List.range,List.range.loop,Array.size,Nat.reduceAdd,Nat.reduceSub,Nat.reduceEqDiff,List.replicate,if_true,if_false,↓reduceIte,reduceCtorEq,elB,evParts,Int.reduceToNat,Int.reduceLE,Int.reduceLT,Int.reduceEq,Nat.reduceMul,Nat.reduceLeDiff,Nat.reduceLT,ty3,ty4,ty9,ty28,ty22,ty23,ty24,ty25,ty27,ty63,ty52,ty43]
   exact le_flat rfl
theorem lawItemsMore (g : Gra) (a b : List Itm) (ya : a.length * 16 ≤ reachBytes) (yb : b.length * 16 ≤ reachBytes) : Ok Tryz.prog 9 [g.av,.fv (.lst 2 (a.map Itm.row)),.fv (.lst 2 (b.map Itm.row))] [] (.ret (.fv (.bool true))) [] := by
 have h7 := ok22 g
 refine ok_start (k := 68) (n0 := 0) (rs := [.tmp 6]) mix Tryz.func9 rfl rfl rfl rfl rfl rfl rfl ?_
 simp -implicitDefEqProofs only [Gra.av,
  evx,evy,ofValue,ofCell,List.range,List.range.loop,Array.size,Nat.reduceAdd,Nat.reduceSub,Nat.reduceEqDiff,List.replicate,if_true,if_false,↓reduceIte,reduceCtorEq,elB,evParts,Int.reduceToNat,Int.reduceLE,Int.reduceLT,Int.reduceEq,Nat.reduceMul,Nat.reduceLeDiff,Nat.reduceLT,ty3,ty4,ty9,ty28,ty22,ty23,ty24,ty25,ty27,ty63,ty52,ty43]
 refine callK_ret _ _ _ _ (call_pure (okWakes16) (fun _ => rfl) (fun _ => rfl)) (ok_nil _ _) ?_
 simp -implicitDefEqProofs only [evx,evy,ofValue,ofCell,List.range,List.range.loop,Array.size,Nat.reduceAdd,Nat.reduceSub,Nat.reduceEqDiff,List.replicate,if_true,if_false,↓reduceIte,reduceCtorEq,elB,evParts,Int.reduceToNat,Int.reduceLE,Int.reduceLT,Int.reduceEq,Nat.reduceMul,Nat.reduceLeDiff,Nat.reduceLT,ty3,ty4,ty9,ty28,ty22,ty23,ty24,ty25,ty27,ty63,ty52,ty43]
 cases hl : g.longB 60 with
 | true =>
  rw [hl] at h7
  refine callK_ret _ _ _ _ (call_pure (h7) (fun _ => rfl) (fun _ => rfl)) (ok_nil _ _) ?_
  simp -implicitDefEqProofs only [evx,evy,ofValue,ofCell,List.range,List.range.loop,Array.size,Nat.reduceAdd,Nat.reduceSub,Nat.reduceEqDiff,List.replicate,if_true,if_false,↓reduceIte,reduceCtorEq,elB,evParts,Int.reduceToNat,Int.reduceLE,Int.reduceLT,Int.reduceEq,Nat.reduceMul,Nat.reduceLeDiff,Nat.reduceLT,ty3,ty4,ty9,ty28,ty22,ty23,ty24,ty25,ty27,ty63,ty52,ty43]
  exact le_flat rfl
 | false =>
  rw [hl] at h7
  refine callK_ret _ _ _ _ (call_pure (h7) (fun _ => rfl) (fun _ => rfl)) (ok_nil _ _) ?_
  have hws : IntKind.wrap .i64 ((a.length : Int) + (b.length : Int)) = (a.length : Int) + (b.length : Int) := by have e : reachBytes = 140737488351232 := rfl; exact wrap_small (by omega) (by omega)
  by_cases h60 : a.length + b.length ≤ 60
  ·have h60t : (60 < (a.length : Int) + (b.length : Int)) = False := eq_false (by omega)
   have hsm := small_of hl
   have hg := hsm.up (m := 100) (by omega)
   have hlr : ∀ q ∈ g.prods,q.right.length ≤ 1000 := fun q hq => by have := hsm.prods q hq; omega
   have hnp := hg.nprods
   have hra := ok25 g hg hlr a (by omega)
   have hrb := ok25 g hg hlr b (by omega)
   cases ha : g.rightI a with
   | false =>
    rw [ha] at hra
    simp -implicitDefEqProofs only [List.length_map,hws,h60t,
  evx,evy,ofValue,ofCell,List.range,List.range.loop,Array.size,Nat.reduceAdd,Nat.reduceSub,Nat.reduceEqDiff,List.replicate,if_true,if_false,↓reduceIte,reduceCtorEq,elB,evParts,Int.reduceToNat,Int.reduceLE,Int.reduceLT,Int.reduceEq,Nat.reduceMul,Nat.reduceLeDiff,Nat.reduceLT,ty3,ty4,ty9,ty28,ty22,ty23,ty24,ty25,ty27,ty63,ty52,ty43]
    refine callK_ret _ _ _ _ (call_pure (hra) (fun _ => rfl) (fun _ => rfl)) (ok_nil _ _) ?_
    simp -implicitDefEqProofs only [evx,evy,ofValue,ofCell,List.range,List.range.loop,Array.size,Nat.reduceAdd,Nat.reduceSub,Nat.reduceEqDiff,List.replicate,if_true,if_false,↓reduceIte,reduceCtorEq,elB,evParts,Int.reduceToNat,Int.reduceLE,Int.reduceLT,Int.reduceEq,Nat.reduceMul,Nat.reduceLeDiff,Nat.reduceLT,ty3,ty4,ty9,ty28,ty22,ty23,ty24,ty25,ty27,ty63,ty52,ty43]
    exact le_flat rfl
   | true =>
   rw [ha] at hra
   cases hb : g.rightI b with
   | false =>
    rw [hb] at hrb
    simp -implicitDefEqProofs only [List.length_map,hws,h60t,
  evx,evy,ofValue,ofCell,List.range,List.range.loop,Array.size,Nat.reduceAdd,Nat.reduceSub,Nat.reduceEqDiff,List.replicate,if_true,if_false,↓reduceIte,reduceCtorEq,elB,evParts,Int.reduceToNat,Int.reduceLE,Int.reduceLT,Int.reduceEq,Nat.reduceMul,Nat.reduceLeDiff,Nat.reduceLT,ty3,ty4,ty9,ty28,ty22,ty23,ty24,ty25,ty27,ty63,ty52,ty43]
    refine callK_ret _ _ _ _ (call_pure (hra) (fun _ => rfl) (fun _ => rfl)) (ok_nil _ _) ?_
    simp -implicitDefEqProofs only [evx,evy,ofValue,ofCell,List.range,List.range.loop,Array.size,Nat.reduceAdd,Nat.reduceSub,Nat.reduceEqDiff,List.replicate,if_true,if_false,↓reduceIte,reduceCtorEq,elB,evParts,Int.reduceToNat,Int.reduceLE,Int.reduceLT,Int.reduceEq,Nat.reduceMul,Nat.reduceLeDiff,Nat.reduceLT,ty3,ty4,ty9,ty28,ty22,ty23,ty24,ty25,ty27,ty63,ty52,ty43]
    refine callK_ret _ _ _ _ (call_pure (hrb) (fun _ => rfl) (fun _ => rfl)) (ok_nil _ _) ?_
    simp -implicitDefEqProofs only [evx,evy,ofValue,ofCell,List.range,List.range.loop,Array.size,Nat.reduceAdd,Nat.reduceSub,Nat.reduceEqDiff,List.replicate,if_true,if_false,↓reduceIte,reduceCtorEq,elB,evParts,Int.reduceToNat,Int.reduceLE,Int.reduceLT,Int.reduceEq,Nat.reduceMul,Nat.reduceLeDiff,Nat.reduceLT,ty3,ty4,ty9,ty28,ty22,ty23,ty24,ty25,ty27,ty63,ty52,ty43]
    exact le_flat rfl
   | true =>
    rw [hb] at hrb
    have hca := ok23 g hg a (by omega)
    have hab := ok23 g hg (b ++ a) (by rw [List.length_append]; omega)
    rw [ansC_true ha] at hca
    rw [ansC_true (right_app hb ha)] at hab
    have hl1 := closI_len30 hg a
    have hl3 := closI_len30 hg (b ++ a)
    have hXY : ∀ x ∈ closI g a,x ∈ closI g (b ++ a) := fun x hx => by
     rw [closI_mem] at hx ⊢
     exact ⟨hx.1,cl_mono (fun y hy => .base y (List.mem_append_right _ hy)) hx.2⟩
    have haX : ∀ x ∈ a,x ∈ closI g a := fun x hx => (clos_mem (rightI_iff.1 ha).2 x).2 (.base x hx)
    generalize closI g (b ++ a) = Y at hab hl3 hXY
    generalize closI g a = X at hca hl1 hXY haX
    have tk1 : List.take b.length (b.map Itm.row) = b.map Itm.row := List.take_of_length_le (by simp)
    have sz1 : (b.length * 16 ≤ 140737488355328) = True := eq_true (by omega)
    have sz2 : ((b.length + a.length) * 16 ≤ 140737488355328) = True := eq_true (by omega)
    simp -implicitDefEqProofs only [List.length_map,hws,h60t,
  evx,evy,ofValue,ofCell,List.range,List.range.loop,Array.size,Nat.reduceAdd,Nat.reduceSub,Nat.reduceEqDiff,List.replicate,if_true,if_false,↓reduceIte,reduceCtorEq,elB,evParts,Int.reduceToNat,Int.reduceLE,Int.reduceLT,Int.reduceEq,Nat.reduceMul,Nat.reduceLeDiff,Nat.reduceLT,ty3,ty4,ty9,ty28,ty22,ty23,ty24,ty25,ty27,ty63,ty52,ty43]
    refine callK_ret _ _ _ _ (call_pure (hra) (fun _ => rfl) (fun _ => rfl)) (ok_nil _ _) ?_
    simp -implicitDefEqProofs only [evx,evy,ofValue,ofCell,List.range,List.range.loop,Array.size,Nat.reduceAdd,Nat.reduceSub,Nat.reduceEqDiff,List.replicate,if_true,if_false,↓reduceIte,reduceCtorEq,elB,evParts,Int.reduceToNat,Int.reduceLE,Int.reduceLT,Int.reduceEq,Nat.reduceMul,Nat.reduceLeDiff,Nat.reduceLT,ty3,ty4,ty9,ty28,ty22,ty23,ty24,ty25,ty27,ty63,ty52,ty43]
    refine callK_ret _ _ _ _ (call_pure (hrb) (fun _ => rfl) (fun _ => rfl)) (ok_nil _ _) ?_
    simp -implicitDefEqProofs only [evx,evy,ofValue,ofCell,List.range,List.range.loop,Array.size,Nat.reduceAdd,Nat.reduceSub,Nat.reduceEqDiff,List.replicate,if_true,if_false,↓reduceIte,reduceCtorEq,elB,evParts,Int.reduceToNat,Int.reduceLE,Int.reduceLT,Int.reduceEq,Nat.reduceMul,Nat.reduceLeDiff,Nat.reduceLT,ty3,ty4,ty9,ty28,ty22,ty23,ty24,ty25,ty27,ty63,ty52,ty43]
    refine awp_forks7 (t := .fork [(0,true),(1,true),(3,true),(5,true),(7,true)] 2 (.lin [(4,false),(6,false),(8,false),(9,false),(10,true),(11,true)]) 4 (.lin [(2,false),(6,false),(8,false),(9,false),(10,true),(11,true)])) (by kernel_rfl) (by kernel_rfl) (by kernel_rfl)
     ⟨[.any,.fv (.lst 2 (a.map Itm.row)),.any,.any,.any,.any,.any,.fv (.lst 2 (X.map Itm.row)),.fv (.lst 2 (Y.map Itm.row)),.any,.any,.any,.any,.any,.any,.any,.any,.any,.any,.any,.any,.any,.any,.any,.any,.any,.any,.any,.any,.any,.any,.any,.any,.any,.any,.any,.any,.any,.any,.any,.any,.any,.any,.any,.any,.any,.any,.any,.any,.any,.any,.any,.any,.any,.any,.any,.any,.any,.any,.any,.any,.any,.any,.any,.any,.any,.any,.any,.any,.any,.any],[],[]⟩ ?_ ?_
    ·simp only [ord8G]
     refine ⟨by kernel_rfl,?_⟩
     simp -implicitDefEqProofs only [evx,evy,ofValue,ofCell,List.range,List.range.loop,Array.size,Nat.reduceAdd,Nat.reduceSub,Nat.reduceEqDiff,List.replicate,if_true,if_false,↓reduceIte,reduceCtorEq,elB,evParts,Int.reduceToNat,Int.reduceLE,Int.reduceLT,Int.reduceEq,Nat.reduceMul,Nat.reduceLeDiff,Nat.reduceLT,ty3,ty4,ty9,ty28,ty22,ty23,ty24,ty25,ty27,ty63,ty52,ty43]
     try simp only [onN]
     intro hs0 b0 eb hk0 hl0
     have hb1 : b0 = 1 := eb
     subst hb1
     refine ⟨?_,?_⟩
     ·refine callK_ret _ _ _ _ (call_pure (hca) (fun _ => rfl) (fun _ => rfl)) (ok_nil _ _) ?_
      simp -implicitDefEqProofs only [subAny,subA,subL,backSub,back,putBack,subBlk,Option.getD_some,List.map_cons,List.map_nil,Nat.not_lt_zero,Nat.sub_zero,Nat.add_zero,List.length_map,freezeSt,frzSub,killAll,List.contains_cons,List.contains_nil,Nat.reduceBEq,Bool.or_false,bsI0,List.take_nil,List.nil_append,List.length_nil,Nat.zero_le,true_and,and_self,List.length_map,List.length_append,tk1,Nat.le_refl,sz1,sz2,
  evx,evy,ofValue,ofCell,List.range,List.range.loop,Array.size,Nat.reduceAdd,Nat.reduceSub,Nat.reduceEqDiff,List.replicate,if_true,if_false,↓reduceIte,reduceCtorEq,elB,evParts,Int.reduceToNat,Int.reduceLE,Int.reduceLT,Int.reduceEq,Nat.reduceMul,Nat.reduceLeDiff,Nat.reduceLT,ty3,ty4,ty9,ty28,ty22,ty23,ty24,ty25,ty27,ty63,ty52,ty43]
      try simp only [onN,ord7G]
      try simp -implicitDefEqProofs only [subAny,subA,subL,backSub,back,putBack,subBlk,Option.getD_some,List.map_cons,List.map_nil,Nat.not_lt_zero,Nat.sub_zero,Nat.add_zero,List.length_map,freezeSt,frzSub,killAll,List.contains_cons,List.contains_nil,Nat.reduceBEq,Bool.or_false,bsI0,List.take_nil,List.nil_append,List.length_nil,Nat.zero_le,true_and,and_self,List.length_map,List.length_append,tk1,Nat.le_refl,sz1,sz2,
  evx,evy,ofValue,ofCell,List.range,List.range.loop,Array.size,Nat.reduceAdd,Nat.reduceSub,Nat.reduceEqDiff,List.replicate,if_true,if_false,↓reduceIte,reduceCtorEq,elB,evParts,Int.reduceToNat,Int.reduceLE,Int.reduceLT,Int.reduceEq,Nat.reduceMul,Nat.reduceLeDiff,Nat.reduceLT,ty3,ty4,ty9,ty28,ty22,ty23,ty24,ty25,ty27,ty63,ty52,ty43]
      refine ⟨by refine heldLt_ok (n := 1) ?_ _ _ (by omega); repeat (first | assumption | apply heldLt_drop),by refine heldLt_ok (n := 1) ?_ _ _ (by omega); repeat (first | assumption | apply heldLt_drop),?_⟩
      refine callK_ret _ _ _ _ (call_fz [3] (hab) rfl (by simp [subAny,subA,subL,frzSub,List.take_of_length_le,Gra.av,List.map_append]) (by simp [killAll,subBlk,subAny,subA,subL,frzSub,Gra.av,List.map_append]) (fun _ => rfl) (fun _ => rfl)) (by first | exact ok_none _ _ | exact ok_nil _ _ | (refine heldLt_ok (n := 1) ?_ _ _ (by omega); repeat (first | assumption | apply heldLt_drop))) ?_
      simp -implicitDefEqProofs only [subAny,subA,subL,backSub,back,putBack,subBlk,Option.getD_some,List.map_cons,List.map_nil,Nat.not_lt_zero,Nat.sub_zero,Nat.add_zero,List.length_map,freezeSt,frzSub,killAll,List.contains_cons,List.contains_nil,Nat.reduceBEq,Bool.or_false,bsI0,List.take_nil,List.nil_append,List.length_nil,Nat.zero_le,true_and,and_self,List.length_map,List.length_append,tk1,Nat.le_refl,sz1,sz2,
  evx,evy,ofValue,ofCell,List.range,List.range.loop,Array.size,Nat.reduceAdd,Nat.reduceSub,Nat.reduceEqDiff,List.replicate,if_true,if_false,↓reduceIte,reduceCtorEq,elB,evParts,Int.reduceToNat,Int.reduceLE,Int.reduceLT,Int.reduceEq,Nat.reduceMul,Nat.reduceLeDiff,Nat.reduceLT,ty3,ty4,ty9,ty28,ty22,ty23,ty24,ty25,ty27,ty63,ty52,ty43]
      exact le_pk [] rfl (by simp) (by simp) (by simp) (by simp [wk,subAny,subA,subL,mkSub,idx])
     ·simp -implicitDefEqProofs only [subAny,subA,subL,backSub,back,putBack,subBlk,Option.getD_some,List.map_cons,List.map_nil,Nat.not_lt_zero,Nat.sub_zero,Nat.add_zero,List.length_map,freezeSt,frzSub,killAll,List.contains_cons,List.contains_nil,Nat.reduceBEq,Bool.or_false,bsI0,List.take_nil,List.nil_append,List.length_nil,Nat.zero_le,true_and,and_self,List.length_map,List.length_append,tk1,Nat.le_refl,sz1,sz2,
  evx,evy,ofValue,ofCell,List.range,List.range.loop,Array.size,Nat.reduceAdd,Nat.reduceSub,Nat.reduceEqDiff,List.replicate,if_true,if_false,↓reduceIte,reduceCtorEq,elB,evParts,Int.reduceToNat,Int.reduceLE,Int.reduceLT,Int.reduceEq,Nat.reduceMul,Nat.reduceLeDiff,Nat.reduceLT,ty3,ty4,ty9,ty28,ty22,ty23,ty24,ty25,ty27,ty63,ty52,ty43]
      try simp only [onN,ord7G]
      try simp -implicitDefEqProofs only [subAny,subA,subL,backSub,back,putBack,subBlk,Option.getD_some,List.map_cons,List.map_nil,Nat.not_lt_zero,Nat.sub_zero,Nat.add_zero,List.length_map,freezeSt,frzSub,killAll,List.contains_cons,List.contains_nil,Nat.reduceBEq,Bool.or_false,bsI0,List.take_nil,List.nil_append,List.length_nil,Nat.zero_le,true_and,and_self,List.length_map,List.length_append,tk1,Nat.le_refl,sz1,sz2,
  evx,evy,ofValue,ofCell,List.range,List.range.loop,Array.size,Nat.reduceAdd,Nat.reduceSub,Nat.reduceEqDiff,List.replicate,if_true,if_false,↓reduceIte,reduceCtorEq,elB,evParts,Int.reduceToNat,Int.reduceLE,Int.reduceLT,Int.reduceEq,Nat.reduceMul,Nat.reduceLeDiff,Nat.reduceLT,ty3,ty4,ty9,ty28,ty22,ty23,ty24,ty25,ty27,ty63,ty52,ty43]
      refine callK_ret _ _ _ _ (call_pure (hca) (fun _ => rfl) (fun _ => rfl)) (ok_nil _ _) ?_
      simp -implicitDefEqProofs only [subAny,subA,subL,backSub,back,putBack,subBlk,Option.getD_some,List.map_cons,List.map_nil,Nat.not_lt_zero,Nat.sub_zero,Nat.add_zero,List.length_map,freezeSt,frzSub,killAll,List.contains_cons,List.contains_nil,Nat.reduceBEq,Bool.or_false,bsI0,List.take_nil,List.nil_append,List.length_nil,Nat.zero_le,true_and,and_self,List.length_map,List.length_append,tk1,Nat.le_refl,sz1,sz2,
  evx,evy,ofValue,ofCell,List.range,List.range.loop,Array.size,Nat.reduceAdd,Nat.reduceSub,Nat.reduceEqDiff,List.replicate,if_true,if_false,↓reduceIte,reduceCtorEq,elB,evParts,Int.reduceToNat,Int.reduceLE,Int.reduceLT,Int.reduceEq,Nat.reduceMul,Nat.reduceLeDiff,Nat.reduceLT,ty3,ty4,ty9,ty28,ty22,ty23,ty24,ty25,ty27,ty63,ty52,ty43]
      refine ⟨by refine heldLt_ok (n := 1) ?_ _ _ (by omega); repeat (first | assumption | apply heldLt_drop),by refine heldLt_ok (n := 1) ?_ _ _ (by omega); repeat (first | assumption | apply heldLt_drop),?_⟩
      refine callK_ret _ _ _ _ (call_fz [3] (hab) rfl (by simp [subAny,subA,subL,frzSub,List.take_of_length_le,Gra.av,List.map_append]) (by simp [killAll,subBlk,subAny,subA,subL,frzSub,Gra.av,List.map_append]) (fun _ => rfl) (fun _ => rfl)) (by first | exact ok_none _ _ | exact ok_nil _ _ | (refine heldLt_ok (n := 1) ?_ _ _ (by omega); repeat (first | assumption | apply heldLt_drop))) ?_
      simp -implicitDefEqProofs only [subAny,subA,subL,backSub,back,putBack,subBlk,Option.getD_some,List.map_cons,List.map_nil,Nat.not_lt_zero,Nat.sub_zero,Nat.add_zero,List.length_map,freezeSt,frzSub,killAll,List.contains_cons,List.contains_nil,Nat.reduceBEq,Bool.or_false,bsI0,List.take_nil,List.nil_append,List.length_nil,Nat.zero_le,true_and,and_self,List.length_map,List.length_append,tk1,Nat.le_refl,sz1,sz2,
  evx,evy,ofValue,ofCell,List.range,List.range.loop,Array.size,Nat.reduceAdd,Nat.reduceSub,Nat.reduceEqDiff,List.replicate,if_true,if_false,↓reduceIte,reduceCtorEq,elB,evParts,Int.reduceToNat,Int.reduceLE,Int.reduceLT,Int.reduceEq,Nat.reduceMul,Nat.reduceLeDiff,Nat.reduceLT,ty3,ty4,ty9,ty28,ty22,ty23,ty24,ty25,ty27,ty63,ty52,ty43]
      exact le_pk [] rfl (by simp) (by simp) (by simp) (by simp [wk,subAny,subA,subL,mkSub,idx])
    ·simp -implicitDefEqProofs only [List.length_map,
  evx,evy,ofValue,ofCell,List.range,List.range.loop,Array.size,Nat.reduceAdd,Nat.reduceSub,Nat.reduceEqDiff,List.replicate,if_true,if_false,↓reduceIte,reduceCtorEq,elB,evParts,Int.reduceToNat,Int.reduceLE,Int.reduceLT,Int.reduceEq,Nat.reduceMul,Nat.reduceLeDiff,Nat.reduceLT,ty3,ty4,ty9,ty28,ty22,ty23,ty24,ty25,ty27,ty63,ty52,ty43]
     refine loop_rule (fun i : Nat => ⟨[.any,.fv (.lst 2 (a.map Itm.row)),.any,.any,.any,.any,.any,.fv (.lst 2 (X.map Itm.row)),.fv (.lst 2 (Y.map Itm.row)),.any,.any,.any,.any,.any,.any,.any,.any,.any,.any,.any,.any,.any,.any,.any,.any,.any,.any,.any,.any,.any,.any,.any,.any,.any,.any,.any,.any,.any,.any,.any,.any,.any,.any,.any,.any,.any,.fv (.int .i64 X.length),.fv (.int .i64 i),.any,.any,.any,.any,.any,.any,.any,.any,.any,.any,.any,.any,.any,.any,.any,.any,.any,.any,.any,.any,.any,.any,.any],[],[]⟩)
      (fun i => i ≤ X.length) (fun i => X.length - i) 0 (le_wk (by simp [wk])) (by simp) (fun i hi s hs => ?_)
     by_cases hlt : i < X.length
     ·have hr := rows_at Itm.row X i hlt
      have hh := ok30 Y X[i] (by omega)
      rw [decide_eq_true (hXY _ (List.getElem_mem hlt))] at hh
      generalize X[i] = x at hr hh
      simp -implicitDefEqProofs only [List.length_map,lt_true hlt,hr,Itm.row,
  evx,evy,ofValue,ofCell,List.range,List.range.loop,Array.size,Nat.reduceAdd,Nat.reduceSub,Nat.reduceEqDiff,List.replicate,if_true,if_false,↓reduceIte,reduceCtorEq,elB,evParts,Int.reduceToNat,Int.reduceLE,Int.reduceLT,Int.reduceEq,Nat.reduceMul,Nat.reduceLeDiff,Nat.reduceLT,ty3,ty4,ty9,ty28,ty22,ty23,ty24,ty25,ty27,ty63,ty52,ty43]
      refine callK_ret _ _ _ _ (call_pure (hh) (fun _ => rfl) (fun _ => rfl)) (ok_nil _ _) ?_
      simp -implicitDefEqProofs only [wsucc i (by omega),
  evx,evy,ofValue,ofCell,List.range,List.range.loop,Array.size,Nat.reduceAdd,Nat.reduceSub,Nat.reduceEqDiff,List.replicate,if_true,if_false,↓reduceIte,reduceCtorEq,elB,evParts,Int.reduceToNat,Int.reduceLE,Int.reduceLT,Int.reduceEq,Nat.reduceMul,Nat.reduceLeDiff,Nat.reduceLT,ty3,ty4,ty9,ty28,ty22,ty23,ty24,ty25,ty27,ty63,ty52,ty43]
      exact back_intro hs (i + 1) (le_wk (by simp [wk])) (by omega) (by omega)
     ·obtain rfl : i = X.length := by omega
      simp -implicitDefEqProofs only [lt_false hlt,List.length_map,
  evx,evy,ofValue,ofCell,List.range,List.range.loop,Array.size,Nat.reduceAdd,Nat.reduceSub,Nat.reduceEqDiff,List.replicate,if_true,if_false,↓reduceIte,reduceCtorEq,elB,evParts,Int.reduceToNat,Int.reduceLE,Int.reduceLT,Int.reduceEq,Nat.reduceMul,Nat.reduceLeDiff,Nat.reduceLT,ty3,ty4,ty9,ty28,ty22,ty23,ty24,ty25,ty27,ty63,ty52,ty43]
      refine loop_rule (fun i : Nat => ⟨[.any,.fv (.lst 2 (a.map Itm.row)),.any,.any,.any,.any,.any,.fv (.lst 2 (X.map Itm.row)),.any,.any,.any,.any,.any,.any,.any,.any,.any,.any,.any,.any,.any,.any,.any,.any,.any,.any,.any,.any,.any,.any,.any,.any,.any,.any,.any,.any,.any,.any,.any,.any,.any,.any,.any,.any,.any,.any,.any,.any,.any,.any,.any,.any,.any,.any,.any,.any,.any,.any,.any,.fv (.int .i64 a.length),.fv (.int .i64 i),.any,.any,.any,.any,.any,.any,.any,.any,.any,.any],[],[]⟩)
       (fun i => i ≤ a.length) (fun i => a.length - i) 0 (le_wk (by simp [wk])) (by simp) (fun i hi s hs => ?_)
      by_cases hlt : i < a.length
      ·have hr := rows_at Itm.row a i hlt
       have hh := ok30 X a[i] (by omega)
       rw [decide_eq_true (haX _ (List.getElem_mem hlt))] at hh
       generalize a[i] = x at hr hh
       simp -implicitDefEqProofs only [List.length_map,lt_true hlt,hr,Itm.row,
  evx,evy,ofValue,ofCell,List.range,List.range.loop,Array.size,Nat.reduceAdd,Nat.reduceSub,Nat.reduceEqDiff,List.replicate,if_true,if_false,↓reduceIte,reduceCtorEq,elB,evParts,Int.reduceToNat,Int.reduceLE,Int.reduceLT,Int.reduceEq,Nat.reduceMul,Nat.reduceLeDiff,Nat.reduceLT,ty3,ty4,ty9,ty28,ty22,ty23,ty24,ty25,ty27,ty63,ty52,ty43]
       refine callK_ret _ _ _ _ (call_pure (hh) (fun _ => rfl) (fun _ => rfl)) (ok_nil _ _) ?_
       simp -implicitDefEqProofs only [wsucc i (by omega),
  evx,evy,ofValue,ofCell,List.range,List.range.loop,Array.size,Nat.reduceAdd,Nat.reduceSub,Nat.reduceEqDiff,List.replicate,if_true,if_false,↓reduceIte,reduceCtorEq,elB,evParts,Int.reduceToNat,Int.reduceLE,Int.reduceLT,Int.reduceEq,Nat.reduceMul,Nat.reduceLeDiff,Nat.reduceLT,ty3,ty4,ty9,ty28,ty22,ty23,ty24,ty25,ty27,ty63,ty52,ty43]
       exact back_intro hs (i + 1) (le_wk (by simp [wk])) (by omega) (by omega)
      ·obtain rfl : i = a.length := by omega
       simp -implicitDefEqProofs only [lt_false hlt,
  evx,evy,ofValue,ofCell,List.range,List.range.loop,Array.size,Nat.reduceAdd,Nat.reduceSub,Nat.reduceEqDiff,List.replicate,if_true,if_false,↓reduceIte,reduceCtorEq,elB,evParts,Int.reduceToNat,Int.reduceLE,Int.reduceLT,Int.reduceEq,Nat.reduceMul,Nat.reduceLeDiff,Nat.reduceLT,ty3,ty4,ty9,ty28,ty22,ty23,ty24,ty25,ty27,ty63,ty52,ty43]
       exact le_flat rfl
  ·have h60t : (60 < (a.length : Int) + (b.length : Int)) = True := eq_true (by omega)
   simp -implicitDefEqProofs only [List.length_map,hws,h60t,
  evx,evy,ofValue,ofCell,List.range,List.range.loop,Array.size,Nat.reduceAdd,Nat.reduceSub,Nat.reduceEqDiff,List.replicate,if_true,if_false,↓reduceIte,reduceCtorEq,elB,evParts,Int.reduceToNat,Int.reduceLE,Int.reduceLT,Int.reduceEq,Nat.reduceMul,Nat.reduceLeDiff,Nat.reduceLT,ty3,ty4,ty9,ty28,ty22,ty23,ty24,ty25,ty27,ty63,ty52,ty43]
   exact le_flat rfl
end Go.Abs
