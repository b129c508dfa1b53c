/- The law SpotsOf as a contract. -/
import Derived.Test.YtmnbljfbdiodbaaTyTrys
import Derived.Test.YtmnbljfbdiodbaaDrTrys
import Derived.Test.YtmnbljfbdiodbaaSpSs
import Derived.Test.YtmnbljfbdiodbaaSpVs
namespace Go.Abs
open Go.Proofs
set_option linter.unusedVariables false
set_option linter.unusedSimpArgs false
set_option maxRecDepth 100000
set_option maxHeartbeats 8000000
theorem neqB_s (x one : Bool) : binA Try.prog .neq 4 one (.fv (.bool x)) (.fv (.bool x)) = some (.fv (.bool false)) := by
 simp only [binA,eqA,ty4,negB]
 simp
theorem cmpL_selfS : ∀ l : List Int,cmpL l l = 0
 | [] => rfl
 | x :: l => by
  have h : cmpI x x = 0 := by simp [cmpI]
  rw [cmpL,if_pos h,cmpL_selfS l]
theorem same4S (l : List Int) (h : l.length ≤ 100000) : Ok Try.prog 18 [.fv (.lst 1 (ints l)),.fv (.lst 1 (ints l))] [] (.ret (.fv (.bool true))) [] := by
 have s1 := ok18 l l (by omega) (by omega)
 rw [cmpL_selfS] at s1
 exact s1
theorem aggSetS : aggTy Try.prog 41 = some [.int .u64,.int .u64,.int .u64,.int .u64] := by kernel_rfl
theorem neq_setS (a b c d : Int) (one : Bool) : binA Try.prog .neq 41 one (.agg [.fv (.int .u64 a),.fv (.int .u64 b),.fv (.int .u64 c),.fv (.int .u64 d)]) (.agg [.fv (.int .u64 a),.fv (.int .u64 b),.fv (.int .u64 c),.fv (.int .u64 d)]) = some (.fv (.bool false)) := by
 have h1 : conf [.int .u64,.int .u64,.int .u64,.int .u64] [.int .u64 a,.int .u64 b,.int .u64 c,.int .u64 d] = true := rfl
 simp only [binA,eqA,ty41,aggSetS,toFs,Option.map_some,isAgg_array,h1,Bool.and_self,if_true,eqR,eqC,beq_self_eq_true,negB,Bool.not_true]
theorem ok8 (p : Spo) (hp : p.Small 100000) (hl : p.follow.length = p.sets.length) : Ok Try.prog 8 [p.av,p.av] [] (.ret (.fv (.bool true))) [] := by
 have h1 := same4S p.first hp.first
 have h2 := same4S p.last hp.last
 have hrl := rowsOf_len p.follow
 have hsl := hp.sets
 have e1 : ((p.sets.length : Int) = (p.sets.length : Int)) = True := eq_true rfl
 refine ok_start (k := 75) (n0 := 0) (rs := [.tmp 4]) mix Try.func8 rfl rfl rfl rfl rfl rfl rfl ?_
 simp -implicitDefEqProofs only [awp_draw _ _ Trydr8_6,Spo.av,Spo.cells,List.length_map,hrl,hl,e1,neqB_s,
  evx,evy,ofValue,ofCell,List.range,List.range.loop,Array.size,Nat.reduceAdd,Nat.reduceSub,Nat.reduceEqDiff,List.replicate,if_true,if_false,↓reduceIte,reduceCtorEq,elB,evParts,Int.reduceToNat,Int.reduceLE,Int.reduceLT,Int.reduceEq,Nat.reduceMul,Nat.reduceLeDiff,Nat.reduceLT,ty3,ty4,ty5,ty9,ty39,ty40,ty41,ty23,ty24,ty25,ty27,ty22,ty43,ty28]
 refine callK_ret _ _ _ _ (call_pure (h1) (fun _ => rfl) (fun _ => rfl)) (ok_nil _ _) ?_
 simp -implicitDefEqProofs only [awp_draw _ _ Trydr8_6,
  evx,evy,ofValue,ofCell,List.range,List.range.loop,Array.size,Nat.reduceAdd,Nat.reduceSub,Nat.reduceEqDiff,List.replicate,if_true,if_false,↓reduceIte,reduceCtorEq,elB,evParts,Int.reduceToNat,Int.reduceLE,Int.reduceLT,Int.reduceEq,Nat.reduceMul,Nat.reduceLeDiff,Nat.reduceLT,ty3,ty4,ty5,ty9,ty39,ty40,ty41,ty23,ty24,ty25,ty27,ty22,ty43,ty28]
 refine callK_ret _ _ _ _ (call_pure (h2) (fun _ => rfl) (fun _ => rfl)) (ok_nil _ _) ?_
 simp -implicitDefEqProofs only [awp_draw _ _ Trydr8_6,
  evx,evy,ofValue,ofCell,List.range,List.range.loop,Array.size,Nat.reduceAdd,Nat.reduceSub,Nat.reduceEqDiff,List.replicate,if_true,if_false,↓reduceIte,reduceCtorEq,elB,evParts,Int.reduceToNat,Int.reduceLE,Int.reduceLT,Int.reduceEq,Nat.reduceMul,Nat.reduceLeDiff,Nat.reduceLT,ty3,ty4,ty5,ty9,ty39,ty40,ty41,ty23,ty24,ty25,ty27,ty22,ty43,ty28]
 refine loop_rule (fun i : Nat => ⟨[.any,.any,.ptr 0 0 0 0,.ptr 1 0 0 0,.any,.fv (.int .i64 i),.any,.any,.any,.any,.any,.any,.any,.any,.any,.any,.any,.any,.any,.any,.any,.any,.any,.any,.any,.any,.any,.any,.any,.any,.any,.any,.any,.any,.any,.any,.any,.any,.any,.any,.any,.any,.any,.any,.any,.any,.any,.any,.any,.any,.any,.any,.any,.any,.any,.any,.any,.any,.any,.any,.any,.any,.any,.any,.any,.any,.any,.any,.any,.any,.any,.any,.any,.any,.any,.any,.any],[.box p.cells,.box p.cells],[]⟩)
  (fun i => i ≤ p.sets.length) (fun i => p.sets.length - i) 0 (le_eqwk rfl (by simp [wk])) (by omega) (fun i hi s hs => ?_)
 by_cases hlt : i < p.sets.length
 ·have hset := sets_at hlt
  have hlt2 : i < p.follow.length := by omega
  have hr := rowsAt hlt2
  have h3 := same4S p.follow[i] (hp.rows _ (List.getElem_mem hlt2))
  simp -implicitDefEqProofs only [awp_draw _ _ Trydr8_6,Spo.cells,List.length_map,lt_true hlt,hset,srow,neq_setS,hr,
  evx,evy,ofValue,ofCell,List.range,List.range.loop,Array.size,Nat.reduceAdd,Nat.reduceSub,Nat.reduceEqDiff,List.replicate,if_true,if_false,↓reduceIte,reduceCtorEq,elB,evParts,Int.reduceToNat,Int.reduceLE,Int.reduceLT,Int.reduceEq,Nat.reduceMul,Nat.reduceLeDiff,Nat.reduceLT,ty3,ty4,ty5,ty9,ty39,ty40,ty41,ty23,ty24,ty25,ty27,ty22,ty43,ty28]
  refine callK_ret _ _ _ _ (call_pure (h3) (fun _ => rfl) (fun _ => rfl)) (ok_nil _ _) ?_
  simp -implicitDefEqProofs only [awp_draw _ _ Trydr8_6,wsucc i (by omega),
  evx,evy,ofValue,ofCell,List.range,List.range.loop,Array.size,Nat.reduceAdd,Nat.reduceSub,Nat.reduceEqDiff,List.replicate,if_true,if_false,↓reduceIte,reduceCtorEq,elB,evParts,Int.reduceToNat,Int.reduceLE,Int.reduceLT,Int.reduceEq,Nat.reduceMul,Nat.reduceLeDiff,Nat.reduceLT,ty3,ty4,ty5,ty9,ty39,ty40,ty41,ty23,ty24,ty25,ty27,ty22,ty43,ty28]
  exact back_intro hs (i + 1) (le_eqwk rfl (by simp [wk])) (by omega) (by omega)
 ·obtain rfl : i = p.sets.length := by omega
  simp -implicitDefEqProofs only [awp_draw _ _ Trydr8_6,Spo.cells,List.length_map,lt_false hlt,
  evx,evy,ofValue,ofCell,List.range,List.range.loop,Array.size,Nat.reduceAdd,Nat.reduceSub,Nat.reduceEqDiff,List.replicate,if_true,if_false,↓reduceIte,reduceCtorEq,elB,evParts,Int.reduceToNat,Int.reduceLE,Int.reduceLT,Int.reduceEq,Nat.reduceMul,Nat.reduceLeDiff,Nat.reduceLT,ty3,ty4,ty5,ty9,ty39,ty40,ty41,ty23,ty24,ty25,ty27,ty22,ty43,ty28]
  exact le_flat rfl
theorem spotsL_small {l : List Cel} (hr : rightB l = true) : (spotsL l).Small 100000 ∧ (spotsL l).follow.length = (spotsL l).sets.length := by
 obtain ⟨z,hz1,hz2,hz3⟩ := buildAt_end hr
 have hI := buildAt_inv hr l.length (Nat.le_refl _)
 have hl := (rightB_get hr).1
 have hsp : spotsL l = ⟨(buildAt l l.length).sets,z.null,z.first,z.last,(buildAt l l.length).fol⟩ := by unfold spotsL; simp [hz1]
 have hN := hI.cnt
 have hNl := cnt1_le (l.take l.length)
 rw [List.length_take] at hNl
 have l1 := inB_len hz3.fr hz3.fb
 have l2 := inB_len hz3.lr hz3.lb
 have hnf := hI.nf
 have hfo := hI.fol
 rw [hsp]
 exact ⟨⟨by simp only; omega,by simp only; omega,fun f hf => by have := inB_len (hfo f hf).1 (hfo f hf).2; omega,by simp only; omega,by simp only; omega⟩,hnf⟩
theorem lawSpotsOf (l : List Cel) (hk : ∀ c ∈ l,c.okk) (hl : l.length * 40 ≤ reachBytes) : Ok Try.prog 3 [.fv (.lst 5 (l.map Cel.row))] [] (.ret (.fv (.bool true))) [] := by
 have hrt := ok6 l
 have hlm : (l.map Cel.row).length = l.length := List.length_map _
 have hrb : reachBytes ≤ 140737488355328 := by decide
 refine ok_start (k := 35) (n0 := 0) (rs := [.tmp 2]) mix Try.func3 rfl rfl rfl rfl rfl rfl rfl ?_
 cases hr : rightB l with
 | false =>
  rw [hr] at hrt
  have hof := ok5_bad l hr
  simp -implicitDefEqProofs only [awp_draw _ _ Trydr3_4,bsE_r0,hlm,
  evx,evy,ofValue,ofCell,List.range,List.range.loop,Array.size,Nat.reduceAdd,Nat.reduceSub,Nat.reduceEqDiff,List.replicate,if_true,if_false,↓reduceIte,reduceCtorEq,elB,evParts,Int.reduceToNat,Int.reduceLE,Int.reduceLT,Int.reduceEq,Nat.reduceMul,Nat.reduceLeDiff,Nat.reduceLT,ty3,ty4,ty5,ty9,ty39,ty40,ty41,ty23,ty24,ty25,ty27,ty22,ty43,ty28]
  refine ⟨by omega,?_⟩
  refine callK_ret _ _ _ _ (call_fz [1] (hof) rfl (by simp [subAny,subA,subL,frzSub,List.take_of_length_le]) (by simp [killAll,subBlk,subAny,subA,subL,frzSub]) (fun _ => rfl) (fun _ => rfl)) (by first | exact ok_none _ _ | exact ok_nil _ _ | kernel_rfl) ?_
  simp -implicitDefEqProofs only [awp_draw _ _ Trydr3_4,subAny,subA,subL,backSub,back,putBack,subBlk,Option.getD_some,List.map_cons,List.map_nil,Nat.not_lt_zero,Nat.sub_zero,Nat.add_zero,List.length_map,freezeSt,frzSub,killAll,List.contains_cons,List.contains_nil,Nat.reduceBEq,Bool.or_false,stB_boxA,splice_all,List.all_cons,List.all_nil,Bool.and_self,
  evx,evy,ofValue,ofCell,List.range,List.range.loop,Array.size,Nat.reduceAdd,Nat.reduceSub,Nat.reduceEqDiff,List.replicate,if_true,if_false,↓reduceIte,reduceCtorEq,elB,evParts,Int.reduceToNat,Int.reduceLE,Int.reduceLT,Int.reduceEq,Nat.reduceMul,Nat.reduceLeDiff,Nat.reduceLT,ty3,ty4,ty5,ty9,ty39,ty40,ty41,ty23,ty24,ty25,ty27,ty22,ty43,ty28]
  refine callK_ret _ _ _ _ (call_pure (hrt) (fun _ => rfl) (fun _ => rfl)) (ok_nil _ _) ?_
  simp -implicitDefEqProofs only [awp_draw _ _ Trydr3_4,
  evx,evy,ofValue,ofCell,List.range,List.range.loop,Array.size,Nat.reduceAdd,Nat.reduceSub,Nat.reduceEqDiff,List.replicate,if_true,if_false,↓reduceIte,reduceCtorEq,elB,evParts,Int.reduceToNat,Int.reduceLE,Int.reduceLT,Int.reduceEq,Nat.reduceMul,Nat.reduceLeDiff,Nat.reduceLT,ty3,ty4,ty5,ty9,ty39,ty40,ty41,ty23,ty24,ty25,ty27,ty22,ty43,ty28]
  refine callK_ret _ _ _ _ (call_pure (okWakes07) (fun _ => rfl) (fun _ => rfl)) (ok_nil _ _) ?_
  simp -implicitDefEqProofs only [awp_draw _ _ Trydr3_4,
  evx,evy,ofValue,ofCell,List.range,List.range.loop,Array.size,Nat.reduceAdd,Nat.reduceSub,Nat.reduceEqDiff,List.replicate,if_true,if_false,↓reduceIte,reduceCtorEq,elB,evParts,Int.reduceToNat,Int.reduceLE,Int.reduceLT,Int.reduceEq,Nat.reduceMul,Nat.reduceLeDiff,Nat.reduceLT,ty3,ty4,ty5,ty9,ty39,ty40,ty41,ty23,ty24,ty25,ty27,ty22,ty43,ty28]
  refine callK_ret _ _ _ _ (call_pure (same0) (fun _ => rfl) (fun _ => rfl)) (ok_nil _ _) ?_
  simp -implicitDefEqProofs only [awp_draw _ _ Trydr3_4,
  evx,evy,ofValue,ofCell,List.range,List.range.loop,Array.size,Nat.reduceAdd,Nat.reduceSub,Nat.reduceEqDiff,List.replicate,if_true,if_false,↓reduceIte,reduceCtorEq,elB,evParts,Int.reduceToNat,Int.reduceLE,Int.reduceLT,Int.reduceEq,Nat.reduceMul,Nat.reduceLeDiff,Nat.reduceLT,ty3,ty4,ty5,ty9,ty39,ty40,ty41,ty23,ty24,ty25,ty27,ty22,ty43,ty28]
  exact le_flat rfl
 | true =>
  rw [hr] at hrt
  have hof := ok5 l hk hr
  have hrf := ok9 l hk hr
  obtain ⟨hsm,hsl⟩ := spotsL_small hr
  have hsa := ok8 (spotsL l) hsm hsl
  simp -implicitDefEqProofs only [awp_draw _ _ Trydr3_4,bsE_r0,hlm,
  evx,evy,ofValue,ofCell,List.range,List.range.loop,Array.size,Nat.reduceAdd,Nat.reduceSub,Nat.reduceEqDiff,List.replicate,if_true,if_false,↓reduceIte,reduceCtorEq,elB,evParts,Int.reduceToNat,Int.reduceLE,Int.reduceLT,Int.reduceEq,Nat.reduceMul,Nat.reduceLeDiff,Nat.reduceLT,ty3,ty4,ty5,ty9,ty39,ty40,ty41,ty23,ty24,ty25,ty27,ty22,ty43,ty28]
  refine ⟨by omega,?_⟩
  refine callK_ret _ _ _ _ (call_fz [1] (hof) rfl (by simp [subAny,subA,subL,frzSub,List.take_of_length_le]) (by simp [killAll,subBlk,subAny,subA,subL,frzSub]) (fun _ => rfl) (fun _ => rfl)) (by first | exact ok_none _ _ | exact ok_nil _ _ | kernel_rfl) ?_
  generalize spotsL l = p at hof hrf hsa ⊢
  simp -implicitDefEqProofs only [awp_draw _ _ Trydr3_4,subAny,subA,subL,backSub,back,putBack,subBlk,Option.getD_some,List.map_cons,List.map_nil,Nat.not_lt_zero,Nat.sub_zero,Nat.add_zero,List.length_map,freezeSt,frzSub,killAll,List.contains_cons,List.contains_nil,Nat.reduceBEq,Bool.or_false,stB_boxA,splice_all,List.all_cons,List.all_nil,Bool.and_self,Spo.av,Spo.cells,
  evx,evy,ofValue,ofCell,List.range,List.range.loop,Array.size,Nat.reduceAdd,Nat.reduceSub,Nat.reduceEqDiff,List.replicate,if_true,if_false,↓reduceIte,reduceCtorEq,elB,evParts,Int.reduceToNat,Int.reduceLE,Int.reduceLT,Int.reduceEq,Nat.reduceMul,Nat.reduceLeDiff,Nat.reduceLT,ty3,ty4,ty5,ty9,ty39,ty40,ty41,ty23,ty24,ty25,ty27,ty22,ty43,ty28]
  refine callK_ret _ _ _ _ (call_pure (hrt) (fun _ => rfl) (fun _ => rfl)) (ok_nil _ _) ?_
  simp -implicitDefEqProofs only [awp_draw _ _ Trydr3_4,
  evx,evy,ofValue,ofCell,List.range,List.range.loop,Array.size,Nat.reduceAdd,Nat.reduceSub,Nat.reduceEqDiff,List.replicate,if_true,if_false,↓reduceIte,reduceCtorEq,elB,evParts,Int.reduceToNat,Int.reduceLE,Int.reduceLT,Int.reduceEq,Nat.reduceMul,Nat.reduceLeDiff,Nat.reduceLT,ty3,ty4,ty5,ty9,ty39,ty40,ty41,ty23,ty24,ty25,ty27,ty22,ty43,ty28]
  refine callK_ret _ _ _ _ (call_pure okWakes07 (fun _ => rfl) (fun _ => rfl)) (by first | exact ok_none _ _ | exact ok_nil _ _ | kernel_rfl) ?_
  simp -implicitDefEqProofs only [awp_draw _ _ Trydr3_4,
  evx,evy,ofValue,ofCell,List.range,List.range.loop,Array.size,Nat.reduceAdd,Nat.reduceSub,Nat.reduceEqDiff,List.replicate,if_true,if_false,↓reduceIte,reduceCtorEq,elB,evParts,Int.reduceToNat,Int.reduceLE,Int.reduceLT,Int.reduceEq,Nat.reduceMul,Nat.reduceLeDiff,Nat.reduceLT,ty3,ty4,ty5,ty9,ty39,ty40,ty41,ty23,ty24,ty25,ty27,ty22,ty43,ty28]
  refine callK_ret _ _ _ _ (call_pure hrf (fun _ => rfl) (fun _ => rfl)) (by first | exact ok_none _ _ | exact ok_nil _ _ | kernel_rfl) ?_
  simp -implicitDefEqProofs only [awp_draw _ _ Trydr3_4,
  evx,evy,ofValue,ofCell,List.range,List.range.loop,Array.size,Nat.reduceAdd,Nat.reduceSub,Nat.reduceEqDiff,List.replicate,if_true,if_false,↓reduceIte,reduceCtorEq,elB,evParts,Int.reduceToNat,Int.reduceLE,Int.reduceLT,Int.reduceEq,Nat.reduceMul,Nat.reduceLeDiff,Nat.reduceLT,ty3,ty4,ty5,ty9,ty39,ty40,ty41,ty23,ty24,ty25,ty27,ty22,ty43,ty28]
  refine callK_ret _ _ _ _ (call_pure hsa (fun _ => rfl) (fun _ => rfl)) (by first | exact ok_none _ _ | exact ok_nil _ _ | kernel_rfl) ?_
  simp -implicitDefEqProofs only [awp_draw _ _ Trydr3_4,
  evx,evy,ofValue,ofCell,List.range,List.range.loop,Array.size,Nat.reduceAdd,Nat.reduceSub,Nat.reduceEqDiff,List.replicate,if_true,if_false,↓reduceIte,reduceCtorEq,elB,evParts,Int.reduceToNat,Int.reduceLE,Int.reduceLT,Int.reduceEq,Nat.reduceMul,Nat.reduceLeDiff,Nat.reduceLT,ty3,ty4,ty5,ty9,ty39,ty40,ty41,ty23,ty24,ty25,ty27,ty22,ty43,ty28]
  exact le_flat rfl
end Go.Abs
