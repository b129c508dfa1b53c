/- The example that each law of derivations begins with. -/
import Derived.Test.YtnhghoonlmoinaaGreatTyTryzi
import Derived.Test.YtnhghoonlmoinaaGreatDrTryzi
import Derived.Test.YtnhghoonlmoinaaGreatDvMi
import Derived.Test.YtnhghoonlmoinaaGreatDvNi
import Derived.Test.YtnhghoonlmoinaaGreatCkKi
namespace Go.Abs
open Go.Proofs
set_option linter.unusedVariables false
set_option linter.unusedSimpArgs false
set_option maxRecDepth 100000
set_option maxHeartbeats 8000000
theorem okWakes21 : Ok Tryz.prog 11 [] [] (.ret (.fv (.bool true))) [] := by
 have s1 := ok33 [1,2] [1,2] (by decide) (by decide)
 have e1 : decide (cmpL [1,2] [1,2] = 0) = true := by decide
 rw [e1] at s1
 have hm := piece21m
 have hn := piece21n
 have hr := piece21r
 have hp := piece21
 generalize hgr : g21 = g at hm hn hr hp
 clear hgr
 refine ok_start (k := 55) (n0 := 0) (rs := [.tmp 0]) mix Tryz.func11 rfl rfl rfl rfl rfl rfl rfl ?_
 simp -implicitDefEqProofs only [evx,evy,ofValue,ofCell,List.range,List.range.loop,Array.size,Nat.reduceAdd,Nat.reduceSub,Nat.reduceEqDiff,List.replicate,if_true,if_false,↓reduceIte,reduceCtorEq,elB,evParts,Int.reduceToNat,Int.reduceLE,Int.reduceLT,Int.reduceEq,Nat.reduceMul,Nat.reduceLeDiff,Nat.reduceLT,ty3,ty4,ty9,ty28,ty22,ty23,ty24,ty25,ty27,ty63,ty31]
 refine callK_ret _ _ _ _ (call_pure (hp) (fun _ => rfl) (fun _ => rfl)) (ok_nil _ _) ?_
 simp -implicitDefEqProofs only [Gra.av,stB_boxA,splice_all,List.all_cons,List.all_nil,
  evx,evy,ofValue,ofCell,List.range,List.range.loop,Array.size,Nat.reduceAdd,Nat.reduceSub,Nat.reduceEqDiff,List.replicate,if_true,if_false,↓reduceIte,reduceCtorEq,elB,evParts,Int.reduceToNat,Int.reduceLE,Int.reduceLT,Int.reduceEq,Nat.reduceMul,Nat.reduceLeDiff,Nat.reduceLT,ty3,ty4,ty9,ty28,ty22,ty23,ty24,ty25,ty27,ty63,ty31]
 refine callK_ret _ _ _ _ (call_freeze (args' := [g.av,.fv (.lst 1 [[.int .i64 1],[.int .i64 2]])]) [1] (fun i hi => by simp at hi; subst hi; exact ⟨_,_,rfl⟩) (by simp [subAny,subA,subL,frzSub,Gra.av]) rfl
  (call_pure hm (fun _ => rfl) (fun _ => rfl)) [1] (by simp) (by simp) (fun i hi hl => by
   match i,hi,hl with
   | 0,_,_ => simp [freezeSt,killAll,subBlk,subAny,subA]
   | 1,hi,_ => exact absurd (by simp) hi
   | i + 2,_,hl => simp at hl; omega)) (ok_none _ _) ?_
 simp -implicitDefEqProofs only [subAny,subA,subL,backSub,back,putBack,subBlk,Option.getD_some,List.map_cons,List.map_nil,Nat.not_lt_zero,Nat.sub_zero,Nat.add_zero,List.length_map,freezeSt,frzSub,killAll,List.contains_cons,List.contains_nil,Nat.reduceBEq,Bool.or_false,
  evx,evy,ofValue,ofCell,List.range,List.range.loop,Array.size,Nat.reduceAdd,Nat.reduceSub,Nat.reduceEqDiff,List.replicate,if_true,if_false,↓reduceIte,reduceCtorEq,elB,evParts,Int.reduceToNat,Int.reduceLE,Int.reduceLT,Int.reduceEq,Nat.reduceMul,Nat.reduceLeDiff,Nat.reduceLT,ty3,ty4,ty9,ty28,ty22,ty23,ty24,ty25,ty27,ty63,ty31]
 refine callK_ret _ _ _ _ (call_freeze (args' := [g.av,.fv (.lst 1 [[.int .i64 1]])]) [2] (fun i hi => by simp at hi; subst hi; exact ⟨_,_,rfl⟩) (by simp [subAny,subA,subL,frzSub,Gra.av]) rfl
  (call_pure hn (fun _ => rfl) (fun _ => rfl)) [2] (by simp) (by simp) (fun i hi hl => by
   match i,hi,hl with
   | 0,_,_ => simp [freezeSt,killAll,subBlk,subAny,subA]
   | 1,_,_ => simp [freezeSt,killAll,subBlk,subAny,subA]
   | 2,hi,_ => exact absurd (by simp) hi
   | i + 3,_,hl => simp at hl; omega)) (ok_none _ _) ?_
 simp -implicitDefEqProofs only [subAny,subA,subL,backSub,back,putBack,subBlk,Option.getD_some,List.map_cons,List.map_nil,Nat.not_lt_zero,Nat.sub_zero,Nat.add_zero,List.length_map,freezeSt,frzSub,killAll,List.contains_cons,List.contains_nil,Nat.reduceBEq,Bool.or_false,
  evx,evy,ofValue,ofCell,List.range,List.range.loop,Array.size,Nat.reduceAdd,Nat.reduceSub,Nat.reduceEqDiff,List.replicate,if_true,if_false,↓reduceIte,reduceCtorEq,elB,evParts,Int.reduceToNat,Int.reduceLE,Int.reduceLT,Int.reduceEq,Nat.reduceMul,Nat.reduceLeDiff,Nat.reduceLT,ty3,ty4,ty9,ty28,ty22,ty23,ty24,ty25,ty27,ty63,ty31]
 refine callK_ret _ _ _ _ (call_freeze (args' := [g.av,.fv (.lst 1 [[.int .i64 0],[.int .i64 1]])]) [3] (fun i hi => by simp at hi; subst hi; exact ⟨_,_,rfl⟩) (by simp [subAny,subA,subL,frzSub,Gra.av]) rfl
  (call_pure hr (fun _ => rfl) (fun _ => rfl)) [3] (by simp) (by simp) (fun i hi hl => by
   match i,hi,hl with
   | 0,_,_ => simp [freezeSt,killAll,subBlk,subAny,subA]
   | 1,_,_ => simp [freezeSt,killAll,subBlk,subAny,subA]
   | 2,_,_ => simp [freezeSt,killAll,subBlk,subAny,subA]
   | 3,hi,_ => exact absurd (by simp) hi
   | i + 4,_,hl => simp at hl; omega)) (ok_none _ _) ?_
 simp -implicitDefEqProofs only [subAny,subA,subL,backSub,back,putBack,subBlk,Option.getD_some,List.map_cons,List.map_nil,Nat.not_lt_zero,Nat.sub_zero,Nat.add_zero,List.length_map,freezeSt,frzSub,killAll,List.contains_cons,List.contains_nil,Nat.reduceBEq,Bool.or_false,
  evx,evy,ofValue,ofCell,List.range,List.range.loop,Array.size,Nat.reduceAdd,Nat.reduceSub,Nat.reduceEqDiff,List.replicate,if_true,if_false,↓reduceIte,reduceCtorEq,elB,evParts,Int.reduceToNat,Int.reduceLE,Int.reduceLT,Int.reduceEq,Nat.reduceMul,Nat.reduceLeDiff,Nat.reduceLT,ty3,ty4,ty9,ty28,ty22,ty23,ty24,ty25,ty27,ty63,ty31]
 refine callK_ret _ _ _ _ (call_look [4] s1 (by simp [subAny,subA,mkSub,idx,ints]) (fun i hi => by simp at hi; subst hi; exact ⟨_,_,rfl⟩) rfl) (ok_nil _ _) ?_
 simp -implicitDefEqProofs only [evx,evy,ofValue,ofCell,List.range,List.range.loop,Array.size,Nat.reduceAdd,Nat.reduceSub,Nat.reduceEqDiff,List.replicate,if_true,if_false,↓reduceIte,reduceCtorEq,elB,evParts,Int.reduceToNat,Int.reduceLE,Int.reduceLT,Int.reduceEq,Nat.reduceMul,Nat.reduceLeDiff,Nat.reduceLT,ty3,ty4,ty9,ty28,ty22,ty23,ty24,ty25,ty27,ty63,ty31]
 exact le_flat rfl
end Go.Abs
