/- The example of the items: its grammar is read. -/
import Derived.Test.YtnhghoonlmoinaaGreatTyTryzi
import Derived.Test.YtnhghoonlmoinaaGreatTopWi
import Derived.Test.YtnhghoonlmoinaaGreatAbsFrz
import Derived.Test.YtnhghoonlmoinaaGreatTopA
import Derived.Test.YtnhghoonlmoinaaGreatDrTryzi
import Derived.Test.YtnhghoonlmoinaaGreatItAi
namespace Go.Abs
open Go.Proofs
set_option maxRecDepth 100000
def g16 : Gra := { rules := [⟨[97],[⟨1,0,8589934592,0,0⟩],false⟩],nonts := [[115]],levels := [⟨0,0⟩,⟨0,0⟩],prods := [⟨2,[1,2],1⟩,⟨2,[],0⟩],start := 2 }
theorem piece16 : Ok Tryz.prog 34 [.fv (.str [116,111,107,101,110,32,97,32,47,97,47,59,32,115,58,32,97,32,115,32,124,32,59])] [] (.ret (.tuple [g16.av,.fv (.int .i64 0),.fv (.int .i64 0)])) [] :=
 goDeep_ok (fun o h' e => reckoned e) (show goDeep Tryz.prog exts hooks 100000 60 34 [.fv (.str [116,111,107,101,110,32,97,32,47,97,47,59,32,115,58,32,97,32,115,32,124,32,59])] (.tuple [g16.av,.fv (.int .i64 0),.fv (.int .i64 0)]) = true by kernel_rfl)
end Go.Abs
/- The example of the items: closure, goto. -/
namespace Go.Abs
open Go.Proofs
set_option maxRecDepth 100000
theorem piece16c : Ok Tryz.prog 23 [g16.av,.fv (.lst 2 [[.int .i64 (-1),.int .i64 0]])] [] (.ret (.fv (.lst 2 [[.int .i64 (-1),.int .i64 0],[.int .i64 0,.int .i64 0],[.int .i64 1,.int .i64 0]]))) [] :=
 goDeep_ok (fun o h' e => reckoned e) (show goDeep Tryz.prog exts hooks 100000 60 23 [g16.av,.fv (.lst 2 [[.int .i64 (-1),.int .i64 0]])] (.fv (.lst 2 [[.int .i64 (-1),.int .i64 0],[.int .i64 0,.int .i64 0],[.int .i64 1,.int .i64 0]])) = true by kernel_rfl)
theorem piece16g : Ok Tryz.prog 27 [g16.av,.fv (.lst 2 [[.int .i64 (-1),.int .i64 0],[.int .i64 0,.int .i64 0],[.int .i64 1,.int .i64 0]]),.fv (.int .i64 1)] [] (.ret (.fv (.lst 2 [[.int .i64 0,.int .i64 1]]))) [] :=
 goDeep_ok (fun o h' e => reckoned e) (show goDeep Tryz.prog exts hooks 100000 60 27 [g16.av,.fv (.lst 2 [[.int .i64 (-1),.int .i64 0],[.int .i64 0,.int .i64 0],[.int .i64 1,.int .i64 0]]),.fv (.int .i64 1)] (.fv (.lst 2 [[.int .i64 0,.int .i64 1]])) = true by kernel_rfl)
theorem piece16s : Ok Tryz.prog 24 [.fv (.lst 2 [[.int .i64 (-1),.int .i64 0],[.int .i64 0,.int .i64 0],[.int .i64 1,.int .i64 0]]),.fv (.lst 2 [[.int .i64 (-1),.int .i64 0],[.int .i64 0,.int .i64 0],[.int .i64 1,.int .i64 0]])] [] (.ret (.fv (.bool true))) [] :=
 goDeep_ok (fun o h' e => reckoned e) (show goDeep Tryz.prog exts hooks 100000 60 24 [.fv (.lst 2 [[.int .i64 (-1),.int .i64 0],[.int .i64 0,.int .i64 0],[.int .i64 1,.int .i64 0]]),.fv (.lst 2 [[.int .i64 (-1),.int .i64 0],[.int .i64 0,.int .i64 0],[.int .i64 1,.int .i64 0]])] (.fv (.bool true)) = true by kernel_rfl)
theorem piece16t : Ok Tryz.prog 24 [.fv (.lst 2 [[.int .i64 0,.int .i64 1]]),.fv (.lst 2 [[.int .i64 0,.int .i64 1]])] [] (.ret (.fv (.bool true))) [] :=
 goDeep_ok (fun o h' e => reckoned e) (show goDeep Tryz.prog exts hooks 100000 60 24 [.fv (.lst 2 [[.int .i64 0,.int .i64 1]]),.fv (.lst 2 [[.int .i64 0,.int .i64 1]])] (.fv (.bool true)) = true by kernel_rfl)
end Go.Abs
/- The example that each law of the items begins with. -/
namespace Go.Abs
open Go.Proofs
set_option linter.unusedVariables false
set_option linter.unusedSimpArgs false
set_option maxRecDepth 100000
set_option maxHeartbeats 8000000
theorem okWakes16 : Ok Tryz.prog 21 [] [] (.ret (.fv (.bool true))) [] := by
 have hp := piece16
 have hc := piece16c
 have hgt := piece16g
 have s1 := piece16s
 have s2 := piece16t
 generalize hgr : g16 = g at hp hc hgt
 clear hgr
 refine ok_start (k := 28) (n0 := 0) (rs := [.tmp 0]) mix Tryz.func21 rfl rfl rfl rfl rfl rfl rfl ?_
 simp -implicitDefEqProofs only [evx,evy,ofValue,ofCell,List.range,List.range.loop,Array.size,Nat.reduceAdd,Nat.reduceSub,Nat.reduceEqDiff,List.replicate,if_true,if_false,↓reduceIte,reduceCtorEq,elB,evParts,Int.reduceToNat,Int.reduceLE,Int.reduceLT,Int.reduceEq,Nat.reduceMul,Nat.reduceLeDiff,Nat.reduceLT,ty3,ty4,ty9,ty28,ty22,ty23,ty24,ty25,ty27,ty63,ty52,ty43]
 refine callK_ret _ _ _ _ (call_pure (hp) (fun _ => rfl) (fun _ => rfl)) (ok_nil _ _) ?_
 simp -implicitDefEqProofs only [bsE_21,Gra.av,stB_boxA,splice_all,List.all_cons,List.all_nil,
  evx,evy,ofValue,ofCell,List.range,List.range.loop,Array.size,Nat.reduceAdd,Nat.reduceSub,Nat.reduceEqDiff,List.replicate,if_true,if_false,↓reduceIte,reduceCtorEq,elB,evParts,Int.reduceToNat,Int.reduceLE,Int.reduceLT,Int.reduceEq,Nat.reduceMul,Nat.reduceLeDiff,Nat.reduceLT,ty3,ty4,ty9,ty28,ty22,ty23,ty24,ty25,ty27,ty63,ty52,ty43]
 refine callK_ret _ _ _ _ (call_freeze (args' := [g.av,.fv (.lst 2 [[.int .i64 (-1),.int .i64 0]])]) [1] (fun i hi => by simp at hi; subst hi; exact ⟨_,_,rfl⟩) (by simp [subAny,subA,subL,frzSub,Gra.av]) rfl
  (call_pure hc (fun _ => rfl) (fun _ => rfl)) [1] (by simp) (by simp) (fun i hi hl => by
   match i,hi,hl with
   | 0,_,_ => simp [freezeSt,killAll,subBlk,subAny,subA]
   | 1,hi,_ => exact absurd (by simp) hi
   | i + 2,_,hl => simp at hl; omega)) (ok_none _ _) ?_
 simp -implicitDefEqProofs only [subAny,subA,subL,backSub,back,putBack,subBlk,Option.getD_some,List.map_cons,List.map_nil,Nat.not_lt_zero,Nat.sub_zero,Nat.add_zero,List.length_map,freezeSt,frzSub,killAll,List.contains_cons,List.contains_nil,Nat.reduceBEq,Bool.or_false,bsE_23,
  evx,evy,ofValue,ofCell,List.range,List.range.loop,Array.size,Nat.reduceAdd,Nat.reduceSub,Nat.reduceEqDiff,List.replicate,if_true,if_false,↓reduceIte,reduceCtorEq,elB,evParts,Int.reduceToNat,Int.reduceLE,Int.reduceLT,Int.reduceEq,Nat.reduceMul,Nat.reduceLeDiff,Nat.reduceLT,ty3,ty4,ty9,ty28,ty22,ty23,ty24,ty25,ty27,ty63,ty52,ty43]
 refine callK_ret _ _ _ _ (call_look [2] s1 (by simp [subAny,subA,mkSub,idx]) (fun i hi => by simp at hi; subst hi; exact ⟨_,_,rfl⟩) rfl) (ok_nil _ _) ?_
 simp -implicitDefEqProofs only [evx,evy,ofValue,ofCell,List.range,List.range.loop,Array.size,Nat.reduceAdd,Nat.reduceSub,Nat.reduceEqDiff,List.replicate,if_true,if_false,↓reduceIte,reduceCtorEq,elB,evParts,Int.reduceToNat,Int.reduceLE,Int.reduceLT,Int.reduceEq,Nat.reduceMul,Nat.reduceLeDiff,Nat.reduceLT,ty3,ty4,ty9,ty28,ty22,ty23,ty24,ty25,ty27,ty63,ty52,ty43]
 refine callK_ret _ _ _ _ (call_pure (hgt) (fun _ => rfl) (fun _ => rfl)) (ok_nil _ _) ?_
 simp -implicitDefEqProofs only [bsE_21,
  evx,evy,ofValue,ofCell,List.range,List.range.loop,Array.size,Nat.reduceAdd,Nat.reduceSub,Nat.reduceEqDiff,List.replicate,if_true,if_false,↓reduceIte,reduceCtorEq,elB,evParts,Int.reduceToNat,Int.reduceLE,Int.reduceLT,Int.reduceEq,Nat.reduceMul,Nat.reduceLeDiff,Nat.reduceLT,ty3,ty4,ty9,ty28,ty22,ty23,ty24,ty25,ty27,ty63,ty52,ty43]
 refine callK_ret _ _ _ _ (call_look [3] s2 (by simp [subAny,subA,mkSub,idx]) (fun i hi => by simp at hi; subst hi; exact ⟨_,_,rfl⟩) rfl) (ok_nil _ _) ?_
 simp -implicitDefEqProofs only [evx,evy,ofValue,ofCell,List.range,List.range.loop,Array.size,Nat.reduceAdd,Nat.reduceSub,Nat.reduceEqDiff,List.replicate,if_true,if_false,↓reduceIte,reduceCtorEq,elB,evParts,Int.reduceToNat,Int.reduceLE,Int.reduceLT,Int.reduceEq,Nat.reduceMul,Nat.reduceLeDiff,Nat.reduceLT,ty3,ty4,ty9,ty28,ty22,ty23,ty24,ty25,ty27,ty63,ty52,ty43]
 exact le_flat rfl
end Go.Abs
