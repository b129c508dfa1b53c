/- Items: which comes first; equal items; the library's slices.CompactFunc at items. -/
import Derived.Test.YtnhghoonlmoinaaGreatTyTryzi
import Derived.Test.YtnhghoonlmoinaaGreatDrTryzi
import Derived.Test.YtnhghoonlmoinaaGreatItNi
import Derived.Test.YtnhghoonlmoinaaGreatFiKi
import Derived.Test.YtnhghoonlmoinaaGreatAbsV
import Derived.Test.YtnhghoonlmoinaaGreatAbsW
import Derived.Test.YtnhghoonlmoinaaGreatAbsGo
namespace Go.Abs
set_option linter.unusedSectionVars false
variable [Kn]
open Go.Proofs
set_option linter.unusedVariables false
set_option linter.unusedSimpArgs false
set_option maxRecDepth 100000
set_option maxHeartbeats 8000000
theorem ok134 (x : Int) : Ok Tryz.prog 134 [.fv (.int .i64 x)] [] (.ret (.fv (.bool false))) [] := by
 refine ok_start (k := 5) (n0 := 0) (rs := [.tmp 2]) mix Tryz.func134 rfl rfl rfl rfl rfl rfl rfl ?_
 simp -implicitDefEqProofs only [awp_seq,awp_skip,awp_ret,awp_exit,awp_label,awp_block,awp_cond,awp_reg,awp_loop,thenC_normal,thenC_ret,thenC_exit,thenC_pan,then_normal,then_ret,then_exit,then_pan,inBlock_normal,inBlock_ret,inBlock_pan,inBlock_exit,condK_bool,condK_any,
  nxt_nil,nxt_dnil,nxt_at,nxt_draw,nxt_quiet,stepAt_plain,stepQ_plain,stepAt_guard,stepQ_guard,guardK_yes,guardK_no,guardQ_yes,guardQ_no,gval_eq,gvO_some,gv_bool,gv_undef,putK_some,readK_at,readK_no,effK_some,ok_none,ok_nil,true_and,pickK_some,pickK_any,put_some,put_none,
  bin2_some,map1_some,ia2_some,opK_move,opK_assign,opK_bin,opK_un,opK_convert,opK_idxAddr,opK_idx,quK_move,quK_assign,quK_bin,quK_un,quK_convert,quK_idxAddr,quK_idx,opK_len,quK_len,opK_load,quK_load,ld1_some,opK_pick,quK_pick,opK_call,call2_some,opK_buildSlice,opK_slice,quK_slice,opK_fad,quK_fad,opK_fld,quK_fld,opK_ext,quK_ext,ext_tuple,opK_nck,quK_nck,opK_mki,quK_mki,opK_mkf,quK_mkf,opK_panic,panK_iface,Option.map_none,opK_append,opK_cap,opK_clear,opK_store,opK_box,opK_alloc,opK_makeSlice,eff_append_eq,eff_store_eq,evs_nil,evs_cons,cons2_some,
  ev_tmp,ev_const,ev_func,ofValue,ofCell,Option.map_some,bin_add,bin_sub,bin_mul,bin_eql,bin_neq,bin_lss,bin_leq,bin_gtr,bin_geq,un_not,un_neg,
  List.range,List.range.loop,Array.size,List.length_cons,List.length_nil,List.size_toArray,Nat.reduceAdd,Nat.reduceSub,Nat.reduceEqDiff,Nat.zero_add,List.getElem?_toArray,List.getElem?_cons_zero,List.getElem?_cons_succ,List.replicate,List.cons_append,List.nil_append,List.append_nil,List.set_cons_zero,List.set_cons_succ,List.getD_cons_zero,List.getD_cons_succ,
  retR_ret,retR_normal,retR_pan,resAs_nil,resAs_cons,resA_tmp,resA_cell,fin_one,fin_none,fin_two,
  decide_eq_true_eq,decide_not,Bool.not_eq_true',Bool.false_eq_true,Bool.true_eq_false,ne_eq,not_true_eq_false,not_false_eq_true,if_true,if_false,decide_true,decide_false,Bool.not_true,Bool.not_false,eq_self,↓reduceIte,reduceCtorEq]
 exact Le.refl _ _
theorem ok108 (x y : Int) : Ok Tryz.prog 108 [.fv (.int .i64 x),.fv (.int .i64 y)] [] (.ret (.fv (.int .i64 (cmpI x y)))) [] := by
 refine ok_start (k := 18) (n0 := 0) (rs := [.tmp 4]) mix Tryz.func108 rfl rfl rfl rfl rfl rfl rfl ?_
 simp -implicitDefEqProofs only [awp_seq,awp_skip,awp_ret,awp_exit,awp_label,awp_block,awp_cond,awp_reg,awp_loop,thenC_normal,thenC_ret,thenC_exit,thenC_pan,then_normal,then_ret,then_exit,then_pan,inBlock_normal,inBlock_ret,inBlock_pan,inBlock_exit,condK_bool,condK_any,
  nxt_nil,nxt_dnil,nxt_at,nxt_draw,nxt_quiet,stepAt_plain,stepQ_plain,stepAt_guard,stepQ_guard,guardK_yes,guardK_no,guardQ_yes,guardQ_no,gval_eq,gvO_some,gv_bool,gv_undef,putK_some,readK_at,readK_no,effK_some,ok_none,ok_nil,true_and,pickK_some,pickK_any,put_some,put_none,
  bin2_some,map1_some,ia2_some,opK_move,opK_assign,opK_bin,opK_un,opK_convert,opK_idxAddr,opK_idx,quK_move,quK_assign,quK_bin,quK_un,quK_convert,quK_idxAddr,quK_idx,opK_len,quK_len,opK_load,quK_load,ld1_some,opK_pick,quK_pick,opK_call,call2_some,opK_buildSlice,opK_slice,quK_slice,opK_fad,quK_fad,opK_fld,quK_fld,opK_ext,quK_ext,ext_tuple,opK_nck,quK_nck,opK_mki,quK_mki,opK_mkf,quK_mkf,opK_panic,panK_iface,Option.map_none,opK_append,opK_cap,opK_clear,opK_store,opK_box,opK_alloc,opK_makeSlice,eff_append_eq,eff_store_eq,evs_nil,evs_cons,cons2_some,
  ev_tmp,ev_const,ev_func,ofValue,ofCell,Option.map_some,bin_add,bin_sub,bin_mul,bin_eql,bin_neq,bin_lss,bin_leq,bin_gtr,bin_geq,un_not,un_neg,
  List.range,List.range.loop,Array.size,List.length_cons,List.length_nil,List.size_toArray,Nat.reduceAdd,Nat.reduceSub,Nat.reduceEqDiff,Nat.zero_add,List.getElem?_toArray,List.getElem?_cons_zero,List.getElem?_cons_succ,List.replicate,List.cons_append,List.nil_append,List.append_nil,List.set_cons_zero,List.set_cons_succ,List.getD_cons_zero,List.getD_cons_succ,
  retR_ret,retR_normal,retR_pan,resAs_nil,resAs_cons,resA_tmp,resA_cell,fin_one,fin_none,fin_two,
  decide_eq_true_eq,decide_not,Bool.not_eq_true',Bool.false_eq_true,Bool.true_eq_false,ne_eq,not_true_eq_false,not_false_eq_true,if_true,if_false,decide_true,decide_false,Bool.not_true,Bool.not_false,eq_self,↓reduceIte,reduceCtorEq]
 refine callK_ret _ _ _ _ (call_pure (ok134 _) (fun _ => rfl) (fun _ => rfl)) (ok_nil _ _) ?_
 simp -implicitDefEqProofs only [awp_seq,awp_skip,awp_ret,awp_exit,awp_label,awp_block,awp_cond,awp_reg,awp_loop,thenC_normal,thenC_ret,thenC_exit,thenC_pan,then_normal,then_ret,then_exit,then_pan,inBlock_normal,inBlock_ret,inBlock_pan,inBlock_exit,condK_bool,condK_any,
  nxt_nil,nxt_dnil,nxt_at,nxt_draw,nxt_quiet,stepAt_plain,stepQ_plain,stepAt_guard,stepQ_guard,guardK_yes,guardK_no,guardQ_yes,guardQ_no,gval_eq,gvO_some,gv_bool,gv_undef,putK_some,readK_at,readK_no,effK_some,ok_none,ok_nil,true_and,pickK_some,pickK_any,put_some,put_none,
  bin2_some,map1_some,ia2_some,opK_move,opK_assign,opK_bin,opK_un,opK_convert,opK_idxAddr,opK_idx,quK_move,quK_assign,quK_bin,quK_un,quK_convert,quK_idxAddr,quK_idx,opK_len,quK_len,opK_load,quK_load,ld1_some,opK_pick,quK_pick,opK_call,call2_some,opK_buildSlice,opK_slice,quK_slice,opK_fad,quK_fad,opK_fld,quK_fld,opK_ext,quK_ext,ext_tuple,opK_nck,quK_nck,opK_mki,quK_mki,opK_mkf,quK_mkf,opK_panic,panK_iface,Option.map_none,opK_append,opK_cap,opK_clear,opK_store,opK_box,opK_alloc,opK_makeSlice,eff_append_eq,eff_store_eq,evs_nil,evs_cons,cons2_some,
  ev_tmp,ev_const,ev_func,ofValue,ofCell,Option.map_some,bin_add,bin_sub,bin_mul,bin_eql,bin_neq,bin_lss,bin_leq,bin_gtr,bin_geq,un_not,un_neg,
  List.range,List.range.loop,Array.size,List.length_cons,List.length_nil,List.size_toArray,Nat.reduceAdd,Nat.reduceSub,Nat.reduceEqDiff,Nat.zero_add,List.getElem?_toArray,List.getElem?_cons_zero,List.getElem?_cons_succ,List.replicate,List.cons_append,List.nil_append,List.append_nil,List.set_cons_zero,List.set_cons_succ,List.getD_cons_zero,List.getD_cons_succ,
  retR_ret,retR_normal,retR_pan,resAs_nil,resAs_cons,resA_tmp,resA_cell,fin_one,fin_none,fin_two,
  decide_eq_true_eq,decide_not,Bool.not_eq_true',Bool.false_eq_true,Bool.true_eq_false,ne_eq,not_true_eq_false,not_false_eq_true,if_true,if_false,decide_true,decide_false,Bool.not_true,Bool.not_false,eq_self,↓reduceIte,reduceCtorEq]
 refine callK_ret _ _ _ _ (call_pure (ok134 _) (fun _ => rfl) (fun _ => rfl)) (ok_nil _ _) ?_
 simp -implicitDefEqProofs only [awp_seq,awp_skip,awp_ret,awp_exit,awp_label,awp_block,awp_cond,awp_reg,awp_loop,thenC_normal,thenC_ret,thenC_exit,thenC_pan,then_normal,then_ret,then_exit,then_pan,inBlock_normal,inBlock_ret,inBlock_pan,inBlock_exit,condK_bool,condK_any,
  nxt_nil,nxt_dnil,nxt_at,nxt_draw,nxt_quiet,stepAt_plain,stepQ_plain,stepAt_guard,stepQ_guard,guardK_yes,guardK_no,guardQ_yes,guardQ_no,gval_eq,gvO_some,gv_bool,gv_undef,putK_some,readK_at,readK_no,effK_some,ok_none,ok_nil,true_and,pickK_some,pickK_any,put_some,put_none,
  bin2_some,map1_some,ia2_some,opK_move,opK_assign,opK_bin,opK_un,opK_convert,opK_idxAddr,opK_idx,quK_move,quK_assign,quK_bin,quK_un,quK_convert,quK_idxAddr,quK_idx,opK_len,quK_len,opK_load,quK_load,ld1_some,opK_pick,quK_pick,opK_call,call2_some,opK_buildSlice,opK_slice,quK_slice,opK_fad,quK_fad,opK_fld,quK_fld,opK_ext,quK_ext,ext_tuple,opK_nck,quK_nck,opK_mki,quK_mki,opK_mkf,quK_mkf,opK_panic,panK_iface,Option.map_none,opK_append,opK_cap,opK_clear,opK_store,opK_box,opK_alloc,opK_makeSlice,eff_append_eq,eff_store_eq,evs_nil,evs_cons,cons2_some,
  ev_tmp,ev_const,ev_func,ofValue,ofCell,Option.map_some,bin_add,bin_sub,bin_mul,bin_eql,bin_neq,bin_lss,bin_leq,bin_gtr,bin_geq,un_not,un_neg,
  List.range,List.range.loop,Array.size,List.length_cons,List.length_nil,List.size_toArray,Nat.reduceAdd,Nat.reduceSub,Nat.reduceEqDiff,Nat.zero_add,List.getElem?_toArray,List.getElem?_cons_zero,List.getElem?_cons_succ,List.replicate,List.cons_append,List.nil_append,List.append_nil,List.set_cons_zero,List.set_cons_succ,List.getD_cons_zero,List.getD_cons_succ,
  retR_ret,retR_normal,retR_pan,resAs_nil,resAs_cons,resA_tmp,resA_cell,fin_one,fin_none,fin_two,
  decide_eq_true_eq,decide_not,Bool.not_eq_true',Bool.false_eq_true,Bool.true_eq_false,ne_eq,not_true_eq_false,not_false_eq_true,if_true,if_false,decide_true,decide_false,Bool.not_true,Bool.not_false,eq_self,↓reduceIte,reduceCtorEq]
 unfold cmpI
 by_cases h : x < y
 ·simp only [h,if_true]
  exact Le.refl _ _
 ·by_cases h2 : y < x
  ·simp only [h,h2,if_true,if_false]
   exact Le.refl _ _
  ·simp only [h,h2,if_false]
   exact Le.refl _ _
/-- The first that is not nothing. -/
def orL : List Int → Int
 | [] => 0
 | x :: l => if x = 0 then orL l else x
theorem ok107 (l : List Int) (hl : l.length ≤ 100000) : Ok Tryz.prog 107 [.fv (.lst 1 (ints l))] [] (.ret (.fv (.int .i64 (orL l)))) [] := by
 refine ok_start (k := 17) (n0 := 0) (rs := [.tmp 2]) mix Tryz.func107 rfl rfl rfl rfl rfl rfl rfl ?_
 simp -implicitDefEqProofs only [ints_length,
  evx,evy,ofValue,ofCell,List.range,List.range.loop,Array.size,Nat.reduceAdd,Nat.reduceSub,Nat.reduceEqDiff,List.replicate,if_true,if_false,↓reduceIte,reduceCtorEq,elB,evParts,Int.reduceToNat,Int.reduceLE,Int.reduceLT,Int.reduceEq,Nat.reduceMul,Nat.reduceLeDiff,Nat.reduceLT,ty3,ty4,ty28,ty52,ty43]
 refine loop_rule (fun i : Nat => ⟨[.any,.any,.any,.fv (.int .i64 0),.any,.any,.fv (.lst 1 (ints l)),.fv (.int .i64 l.length),.fv (.int .i64 i),.any,.any,.any,.any,.any,.any,.any,.any,.any],[],[]⟩)
  (fun i => i ≤ l.length ∧ orL l = orL (l.drop i)) (fun i => l.length - i) 0 (le_wk (by simp [wk])) (by simp) (fun i hi s hs => ?_)
 obtain ⟨hi,hx⟩ := hi
 by_cases hlt : i < l.length
 ·have hr := ints_get l i hlt
  rw [List.drop_eq_getElem_cons hlt] at hx
  generalize l[i] = x at hr hx
  by_cases hz : x = 0
  ·have hzt : (x = 0) = True := eq_true hz
   simp -implicitDefEqProofs only [lt_true hlt,hr,wsucc i (by omega),hzt,
  evx,evy,ofValue,ofCell,List.range,List.range.loop,Array.size,Nat.reduceAdd,Nat.reduceSub,Nat.reduceEqDiff,List.replicate,if_true,if_false,↓reduceIte,reduceCtorEq,elB,evParts,Int.reduceToNat,Int.reduceLE,Int.reduceLT,Int.reduceEq,Nat.reduceMul,Nat.reduceLeDiff,Nat.reduceLT,ty3,ty4,ty28,ty52,ty43]
   refine back_intro hs (i + 1) (le_wk (by simp [wk])) ⟨by omega,?_⟩ (by omega)
   rw [hx,orL,if_pos hz]
  ·have hzt : (x = 0) = False := eq_false hz
   simp -implicitDefEqProofs only [lt_true hlt,hr,hzt,
  evx,evy,ofValue,ofCell,List.range,List.range.loop,Array.size,Nat.reduceAdd,Nat.reduceSub,Nat.reduceEqDiff,List.replicate,if_true,if_false,↓reduceIte,reduceCtorEq,elB,evParts,Int.reduceToNat,Int.reduceLE,Int.reduceLT,Int.reduceEq,Nat.reduceMul,Nat.reduceLeDiff,Nat.reduceLT,ty3,ty4,ty28,ty52,ty43]
   rw [hx,orL,if_neg hz]
   exact le_flat rfl
 ·obtain rfl : i = l.length := by omega
  simp -implicitDefEqProofs only [lt_false hlt,
  evx,evy,ofValue,ofCell,List.range,List.range.loop,Array.size,Nat.reduceAdd,Nat.reduceSub,Nat.reduceEqDiff,List.replicate,if_true,if_false,↓reduceIte,reduceCtorEq,elB,evParts,Int.reduceToNat,Int.reduceLE,Int.reduceLT,Int.reduceEq,Nat.reduceMul,Nat.reduceLeDiff,Nat.reduceLT,ty3,ty4,ty28,ty52,ty43]
  rw [hx,List.drop_length,orL]
  exact le_flat rfl
/-- How items are held against each other. -/
def cfI (x y : Itm) : Int := orL [cmpI x.prod y.prod,cmpI x.dot y.dot]
theorem ok78 (x y : Itm) : Ok Tryz.prog 78 [x.av,y.av] [] (.ret (.fv (.int .i64 (cfI x y)))) [] := by
 have hor := ok107 [cmpI x.prod y.prod,cmpI x.dot y.dot] (by simp)
 refine ok_start (k := 15) (n0 := 0) (rs := [.tmp 4]) mix Tryz.func78 rfl rfl rfl rfl rfl rfl rfl ?_
 simp -implicitDefEqProofs only [awp_draw _ _ Tryzdr78_1,Itm.av,
  evx,evy,ofValue,ofCell,List.range,List.range.loop,Array.size,Nat.reduceAdd,Nat.reduceSub,Nat.reduceEqDiff,List.replicate,if_true,if_false,↓reduceIte,reduceCtorEq,elB,evParts,Int.reduceToNat,Int.reduceLE,Int.reduceLT,Int.reduceEq,Nat.reduceMul,Nat.reduceLeDiff,Nat.reduceLT,ty3,ty4,ty28,ty52,ty43]
 refine callK_ret _ _ _ _ (call_pure (ok108 _ _) (fun _ => rfl) (fun _ => rfl)) (ok_nil _ _) ?_
 simp -implicitDefEqProofs only [awp_draw _ _ Tryzdr78_1,
  evx,evy,ofValue,ofCell,List.range,List.range.loop,Array.size,Nat.reduceAdd,Nat.reduceSub,Nat.reduceEqDiff,List.replicate,if_true,if_false,↓reduceIte,reduceCtorEq,elB,evParts,Int.reduceToNat,Int.reduceLE,Int.reduceLT,Int.reduceEq,Nat.reduceMul,Nat.reduceLeDiff,Nat.reduceLT,ty3,ty4,ty28,ty52,ty43]
 refine callK_ret _ _ _ _ (call_pure (ok108 _ _) (fun _ => rfl) (fun _ => rfl)) (ok_nil _ _) ?_
 simp -implicitDefEqProofs only [awp_draw _ _ Tryzdr78_1,
  evx,evy,ofValue,ofCell,List.range,List.range.loop,Array.size,Nat.reduceAdd,Nat.reduceSub,Nat.reduceEqDiff,List.replicate,if_true,if_false,↓reduceIte,reduceCtorEq,elB,evParts,Int.reduceToNat,Int.reduceLE,Int.reduceLT,Int.reduceEq,Nat.reduceMul,Nat.reduceLeDiff,Nat.reduceLT,ty3,ty4,ty28,ty52,ty43]
 refine callK_ret _ _ _ _ (call_fz [2] (hor) rfl (by simp [subAny,subA,subL,frzSub,List.take_of_length_le,ints,List.map_cons,List.map_nil]) (by simp [killAll,subBlk,subAny,subA,subL,frzSub,ints,List.map_cons,List.map_nil]) (fun _ => rfl) (fun _ => rfl)) (by first | exact ok_none _ _ | exact ok_nil _ _ | kernel_rfl) ?_
 simp -implicitDefEqProofs only [awp_draw _ _ Tryzdr78_1,freezeSt,frzSub,killAll,List.contains_cons,List.contains_nil,Nat.reduceBEq,Bool.or_false,
  evx,evy,ofValue,ofCell,List.range,List.range.loop,Array.size,Nat.reduceAdd,Nat.reduceSub,Nat.reduceEqDiff,List.replicate,if_true,if_false,↓reduceIte,reduceCtorEq,elB,evParts,Int.reduceToNat,Int.reduceLE,Int.reduceLT,Int.reduceEq,Nat.reduceMul,Nat.reduceLeDiff,Nat.reduceLT,ty3,ty4,ty28,ty52,ty43]
 exact le_flat rfl
instance : DecidableEq Itm := fun x y => decidable_of_iff (x.prod = y.prod ∧ x.dot = y.dot) (by cases x; cases y; simp)
theorem aggItm : aggTy Tryz.prog 52 = some [.int .i64,.int .i64] := by kernel_rfl
theorem eqA_itm (a b x y : Int) (one : Bool) : eqA Tryz.prog 52 one (.agg [.fv (.int .i64 a),.fv (.int .i64 b)]) (.agg [.fv (.int .i64 x),.fv (.int .i64 y)]) = some (decide ((⟨a,b⟩ : Itm) = ⟨x,y⟩)) := by
 have h1 : conf [.int .i64,.int .i64] [.int .i64 a,.int .i64 b] = true := rfl
 have h2 : conf [.int .i64,.int .i64] [.int .i64 x,.int .i64 y] = true := rfl
 simp only [eqA,ty52,aggItm,toFs,Option.map_some,isAgg_struct,h1,h2,Bool.and_self,if_true,eqR,eqC,Bool.and_true,Itm.mk.injEq,Bool.decide_and]
 rfl
theorem neq_itm (a b x y : Int) (one : Bool) : binA Tryz.prog .neq 52 one (.agg [.fv (.int .i64 a),.fv (.int .i64 b)]) (.agg [.fv (.int .i64 x),.fv (.int .i64 y)]) = some (.fv (.bool (!decide ((⟨a,b⟩ : Itm) = ⟨x,y⟩)))) := by
 simp only [binA,eqA_itm,negB]
theorem eql_itm (a b x y : Int) (one : Bool) : binA Tryz.prog .eql 52 one (.agg [.fv (.int .i64 a),.fv (.int .i64 b)]) (.agg [.fv (.int .i64 x),.fv (.int .i64 y)]) = some (.fv (.bool (decide ((⟨a,b⟩ : Itm) = ⟨x,y⟩)))) := by
 simp only [binA,eqA_itm,negB]
theorem ok80 (x y : Itm) : Ok Tryz.prog 80 [x.av,y.av] [] (.ret (.fv (.bool (decide (x = y))))) [] := by
 refine ok_start (k := 6) (n0 := 0) (rs := [.tmp 4]) mix Tryz.func80 rfl rfl rfl rfl rfl rfl rfl ?_
 simp -implicitDefEqProofs only [Itm.av,eql_itm,
  evx,evy,ofValue,ofCell,List.range,List.range.loop,Array.size,Nat.reduceAdd,Nat.reduceSub,Nat.reduceEqDiff,List.replicate,if_true,if_false,↓reduceIte,reduceCtorEq,elB,evParts,Int.reduceToNat,Int.reduceLE,Int.reduceLT,Int.reduceEq,Nat.reduceMul,Nat.reduceLeDiff,Nat.reduceLT,ty3,ty4,ty28,ty52,ty43]
 exact le_flat rfl
end Go.Abs
/- Items: sorted, each once. -/
namespace Go.Abs
set_option linter.unusedSectionVars false
variable [Kn]
open Go.Proofs
set_option linter.unusedVariables false
set_option linter.unusedSimpArgs false
set_option maxRecDepth 100000
set_option maxHeartbeats 8000000
/-- Each once, of neighbours. -/
def compI : List Itm → List Itm
 | [] => []
 | [x] => [x]
 | x :: y :: r => if x = y then compI (y :: r) else x :: compI (y :: r)
theorem compI_snoc : ∀ (l : List Itm) (x y : Itm),compI (l ++ [x,y]) = if x = y then compI (l ++ [x]) else compI (l ++ [x]) ++ [y]
 | [],x,y => by
  by_cases h : x = y
  ·simp [compI,h]
  ·simp [compI,h]
 | [a],x,y => by
  have h1 := compI_snoc [] x y
  simp only [List.nil_append] at h1
  simp only [List.cons_append,List.nil_append,compI] at h1 ⊢
  by_cases h : x = y
  ·simp [h]
  ·by_cases h2 : a = x
   ·simp [h,h2]
   ·simp [h,h2]
 | a :: b :: l,x,y => by
  have h1 := compI_snoc (b :: l) x y
  simp only [List.cons_append] at h1 ⊢
  rw [compI,compI,h1]
  by_cases h : x = y
  ·simp [h]
  ·by_cases h2 : a = b
   ·simp [h,h2]
   ·simp [h,h2]
theorem compI_take (d : List Itm) (j : Nat) (h0 : 1 ≤ j) (h : j < d.length) : compI (d.take (j + 1)) = if d[j] = d[j - 1] then compI (d.take j) else compI (d.take j) ++ [d[j]] := by
 obtain ⟨k,rfl⟩ : ∃ k,j = k + 1 := ⟨j - 1,by omega⟩
 have e1 : d.take (k + 1) = d.take k ++ [d[k]] := List.take_succ_eq_append_getElem (by omega)
 have e2 : d.take (k + 1 + 1) = d.take k ++ [d[k],d[k + 1]] := by rw [List.take_succ_eq_append_getElem h,e1]; simp only [List.append_assoc,List.cons_append,List.nil_append]
 rw [e2,e1,compI_snoc]
 simp only [Nat.add_sub_cancel]
 by_cases c : d[k] = d[k + 1]
 ·rw [if_pos c,if_pos c.symm]
 ·rw [if_neg c,if_neg (fun e => c e.symm)]
theorem compI_len : ∀ l : List Itm,(compI l).length ≤ l.length
 | [] => Nat.le_refl _
 | [x] => Nat.le_refl _
 | x :: y :: r => by
  have := compI_len (y :: r)
  rw [compI]
  split
  ·simp only [List.length_cons] at this ⊢; omega
  ·simp only [List.length_cons] at this ⊢; omega
theorem stB_agg2 {dd : TypeDesc} {b : Nat} {z : Option (List FV)} (h : List Blk) (rows : List (List FV)) (id es r off : Nat) (x y : FV) : stB ⟨dd,2,b,z⟩ h (some (.plain es rows)) id es r off (.agg [.fv x,.fv y]) = stR h rows[r]? id es rows r off [x,y] :=
 stB_plainA b z dd h rows id es r off 2 [x,y] rfl (by omega)
theorem splice_two (a b x y : FV) : splice [a,b] 0 [x,y] = some [x,y] := rfl
def zeroI : Itm := ⟨0,0⟩
theorem set_rowsI (cur : List Itm) (k : Nat) (a b : Int) : (cur.map Itm.row).set k [.int .i64 a,.int .i64 b] = (cur.set k ⟨a,b⟩).map Itm.row := by simp [List.map_set,Itm.row]
theorem ok79 (d : List Itm) (hd : d.length < 1048576) :
  Ok Tryz.prog 79 [.ref 0 2 0 d.length,.func 80 []] [.plain 2 (d.map Itm.row)] (.ret (.ref 0 2 0 (compI d).length)) [.plain 2 ((compI d ++ List.replicate (d.length - (compI d).length) zeroI).map Itm.row)] := by
 refine ok_start (k := 64) (n0 := 1) (rs := [.tmp 4]) mix Tryz.func79 rfl rfl rfl rfl rfl rfl rfl ?_
 by_cases h2 : d.length < 2
 ·have h2t : ((d.length : Int) < 2) = True := eq_true (by omega)
  have e : compI d = d := by
   match d,h2 with
   | [],_ => rfl
   | [x],_ => rfl
   | x :: y :: r,h => simp at h; omega
  simp -implicitDefEqProofs only [awp_draw _ _ Tryzdr79_6,awp_draw _ _ Tryzdr79_11,h2t,
  evx,evy,ofValue,ofCell,List.range,List.range.loop,Array.size,Nat.reduceAdd,Nat.reduceSub,Nat.reduceEqDiff,List.replicate,if_true,if_false,↓reduceIte,reduceCtorEq,elB,evParts,Int.reduceToNat,Int.reduceLE,Int.reduceLT,Int.reduceEq,Nat.reduceMul,Nat.reduceLeDiff,Nat.reduceLT,ty3,ty4,ty28,ty52,ty43]
  rw [e,Nat.sub_self,List.replicate_zero,List.append_nil]
  exact Le.refl _ _
 ·have h2t : ((d.length : Int) < 2) = False := eq_false (by omega)
  simp -implicitDefEqProofs only [awp_draw _ _ Tryzdr79_6,awp_draw _ _ Tryzdr79_11,h2t,
  evx,evy,ofValue,ofCell,List.range,List.range.loop,Array.size,Nat.reduceAdd,Nat.reduceSub,Nat.reduceEqDiff,List.replicate,if_true,if_false,↓reduceIte,reduceCtorEq,elB,evParts,Int.reduceToNat,Int.reduceLE,Int.reduceLT,Int.reduceEq,Nat.reduceMul,Nat.reduceLeDiff,Nat.reduceLT,ty3,ty4,ty28,ty52,ty43]
  refine loop_rule (fun k : Nat => ⟨[.ref 0 2 0 d.length,.func 80 [],.any,.any,.any,.fv (.int .i64 k),.any,.any,.any,.any,.any,.any,.any,.any,.any,.any,.any,.any,.any,.any,.any,.any,.any,.any,.any,.any,.any,.any,.any,.any,.any,.any,.any,.any,.any,.any,.any,.any,.any,.any,.any,.any,.any,.any,.any,.any,.any,.any,.any,.any,.any,.any,.any,.any,.any,.any,.any,.any,.any,.any,.any,.any,.any,.any,.any,.any],[.plain 2 (d.map Itm.row)],[]⟩)
   (fun k => 1 ≤ k ∧ k ≤ d.length ∧ compI (d.take k) = d.take k) (fun k => d.length - k) 1 (le_wk (by simp [wk])) ?_ (fun k hk s hs => ?_)
  ·refine ⟨Nat.le_refl _,by omega,?_⟩
   obtain ⟨x,r,e⟩ : ∃ x r,d = x :: r := by
    cases d with
    | nil => simp at h2
    | cons x r => exact ⟨x,r,rfl⟩
   subst e
   simp [compI]
  obtain ⟨hk1,hkn,hkc⟩ := hk
  by_cases hlt : k < d.length
  ·have hr := rows_at Itm.row d k hlt
   have hr1 := rows_at Itm.row d (k - 1) (by omega)
   have hws : IntKind.wrap .i64 ((k : Int) - 1) = ((k - 1 : Nat) : Int) := by rw [show (k : Int) - 1 = ((k - 1 : Nat) : Int) from by omega]; exact wrap_small (by omega) (by omega)
   have hk1t : (((k - 1 : Nat) : Int) < (d.length : Int)) = True := eq_true (by omega)
   have hct := compI_take d k hk1 hlt
   have ht := List.take_succ_eq_append_getElem hlt
   have hcd : d[k]? = some d[k] := by simp
   by_cases heq : d[k] = d[k - 1]
   ·rw [if_pos heq,hkc] at hct
    have hok := ok80 d[k] d[k - 1]
    rw [decide_eq_true heq] at hok
    generalize hX : d[k] = X at hr hok
    generalize hY : d[k - 1] = Y at hr1 hok
    simp -implicitDefEqProofs only [awp_draw _ _ Tryzdr79_6,awp_draw _ _ Tryzdr79_11,lt_true hlt,hr,hr1,hws,hk1t,Itm.row,
  evx,evy,ofValue,ofCell,List.range,List.range.loop,Array.size,Nat.reduceAdd,Nat.reduceSub,Nat.reduceEqDiff,List.replicate,if_true,if_false,↓reduceIte,reduceCtorEq,elB,evParts,Int.reduceToNat,Int.reduceLE,Int.reduceLT,Int.reduceEq,Nat.reduceMul,Nat.reduceLeDiff,Nat.reduceLT,ty3,ty4,ty28,ty52,ty43]
    refine callK_ret _ _ _ _ (call_pure (hok) (fun _ => rfl) (fun _ => rfl)) (ok_nil _ _) ?_
    have hkle : ((k : Int) ≤ (d.length : Int)) = True := eq_true (by omega)
    simp -implicitDefEqProofs only [awp_draw _ _ Tryzdr79_6,awp_draw _ _ Tryzdr79_11,hkle,Nat.zero_add,eq_true hkn,Nat.le_refl,and_self,
  evx,evy,ofValue,ofCell,List.range,List.range.loop,Array.size,Nat.reduceAdd,Nat.reduceSub,Nat.reduceEqDiff,List.replicate,if_true,if_false,↓reduceIte,reduceCtorEq,elB,evParts,Int.reduceToNat,Int.reduceLE,Int.reduceLT,Int.reduceEq,Nat.reduceMul,Nat.reduceLeDiff,Nat.reduceLT,ty3,ty4,ty28,ty52,ty43]
    refine loop_rule (fun s : Nat × Nat × List Itm => ⟨[.ref 0 2 0 d.length,.func 80 [],.any,.any,.any,.fv (.int .i64 s.1),.ref 0 2 k (d.length - k),.fv (.int .i64 s.2.1),.any,.any,.any,.any,.any,.any,.any,.any,.any,.any,.any,.any,.any,.any,.any,.any,.any,.any,.any,.any,.any,.any,.any,.any,.any,.any,.any,.any,.any,.any,.any,.any,.any,.any,.any,.any,.any,.any,.any,.any,.any,.any,.any,.any,.any,.any,.any,.any,.any,.any,.any,.any,.any,.any,.any,.any,.any,.any],[.plain 2 (s.2.2.map Itm.row)],[]⟩)
     (fun s => k ≤ s.1 ∧ s.1 + 1 ≤ k + s.2.1 ∧ 1 ≤ s.2.1 ∧ k + s.2.1 ≤ d.length ∧ s.2.2.length = d.length ∧ s.2.2.take s.1 = compI (d.take (k + s.2.1)) ∧ s.2.2.drop (k + s.2.1 - 1) = d.drop (k + s.2.1 - 1)) (fun s => d.length - s.2.1)
     (k,1,d) (le_wk (by simp [wk])) ?_ (fun s hinv s2 hrk => ?_)
    ·exact ⟨Nat.le_refl _,by simp only; omega,Nat.le_refl _,by simp only; omega,rfl,by simp only; rw [hct],rfl⟩
    obtain ⟨i,j,cur⟩ := s
    obtain ⟨g1,g2,g3,g4,g5,g6,g7⟩ := hinv
    simp only at g1 g2 g3 g4 g5 g6 g7 hrk ⊢
    by_cases hj : j < d.length - k
    ·have hkj : k + j < d.length := by omega
     have hjt : ((j : Int) < ((d.length - k : Nat) : Int)) = True := eq_true (by omega)
     have hj1t : (((j - 1 : Nat) : Int) < ((d.length - k : Nat) : Int)) = True := eq_true (by omega)
     have hcj : cur[k + j]? = some d[k + j] := by
      have e := congrArg (fun l => l[1]?) g7
      simp only [List.getElem?_drop] at e
      rw [show k + j - 1 + 1 = k + j from by omega] at e
      rw [e]; simp
     have hcj1 : cur[k + j - 1]? = some (d[k + j - 1]'(by omega)) := by
      have e := congrArg (fun l => l[0]?) g7
      simp only [List.getElem?_drop,Nat.add_zero] at e
      rw [e]; simp
     have hcm : (cur.map Itm.row)[k + j]? = some d[k + j].row := by simp [hcj]
     have hcm1 : (cur.map Itm.row)[k + (j - 1)]? = some (d[k + j - 1]'(by omega)).row := by rw [show k + (j - 1) = k + j - 1 from by omega]; simp [hcj1]
     have hwj : IntKind.wrap .i64 ((j : Int) - 1) = ((j - 1 : Nat) : Int) := by rw [show (j : Int) - 1 = ((j - 1 : Nat) : Int) from by omega]; exact wrap_small (by omega) (by omega)
     have hct2 := compI_take d (k + j) (by omega) hkj
     have hok2 := ok80 d[k + j] (d[k + j - 1]'(by omega))
     have hdr : ∀ c : List Itm,c.drop (k + j - 1) = d.drop (k + j - 1) → c.drop (k + (j + 1) - 1) = d.drop (k + (j + 1) - 1) := fun c e => by
      have := congrArg (List.drop 1) e
      rw [List.drop_drop,List.drop_drop] at this
      rw [show k + (j + 1) - 1 = k + j - 1 + 1 from by omega]
      exact this
     by_cases hq : d[k + j] = d[k + j - 1]'(by omega)
     ·rw [if_pos hq] at hct2
      rw [decide_eq_true hq] at hok2
      generalize d[k + j] = X2 at hcm hok2
      generalize (d[k + j - 1]'(by omega)) = Y2 at hcm1 hok2
      simp -implicitDefEqProofs only [awp_draw _ _ Tryzdr79_6,awp_draw _ _ Tryzdr79_11,hjt,hj1t,hcm,hcm1,hwj,Itm.row,
  evx,evy,ofValue,ofCell,List.range,List.range.loop,Array.size,Nat.reduceAdd,Nat.reduceSub,Nat.reduceEqDiff,List.replicate,if_true,if_false,↓reduceIte,reduceCtorEq,elB,evParts,Int.reduceToNat,Int.reduceLE,Int.reduceLT,Int.reduceEq,Nat.reduceMul,Nat.reduceLeDiff,Nat.reduceLT,ty3,ty4,ty28,ty52,ty43]
      refine callK_ret _ _ _ _ (call_pure (hok2) (fun _ => rfl) (fun _ => rfl)) (ok_nil _ _) ?_
      simp -implicitDefEqProofs only [awp_draw _ _ Tryzdr79_6,awp_draw _ _ Tryzdr79_11,wsucc j (by omega),
  evx,evy,ofValue,ofCell,List.range,List.range.loop,Array.size,Nat.reduceAdd,Nat.reduceSub,Nat.reduceEqDiff,List.replicate,if_true,if_false,↓reduceIte,reduceCtorEq,elB,evParts,Int.reduceToNat,Int.reduceLE,Int.reduceLT,Int.reduceEq,Nat.reduceMul,Nat.reduceLeDiff,Nat.reduceLT,ty3,ty4,ty28,ty52,ty43]
      exact back_intro hrk (i,j + 1,cur) (le_wk (by simp [wk])) ⟨g1,by simp only; omega,by simp only; omega,by simp only; omega,g5,by simp only; rw [← Nat.add_assoc,hct2]; exact g6,hdr cur g7⟩ (by simp only; omega)
     ·rw [if_neg hq] at hct2
      rw [decide_eq_false hq] at hok2
      have hset : ∀ a b : Int,d[k + j] = ⟨a,b⟩ → (cur.map Itm.row).set i [.int .i64 a,.int .i64 b] = (cur.set i d[k + j]).map Itm.row := fun a b e => by rw [set_rowsI,e]
      have hri : ∃ y : Itm,(cur.map Itm.row)[i]? = some [.int .i64 y.prod,.int .i64 y.dot] := ⟨cur[i]'(by omega),by rw [List.getElem?_map,List.getElem?_eq_getElem (by omega)]; rfl⟩
      obtain ⟨y,hri⟩ := hri
      have hit : ((i : Int) < (d.length : Int)) = True := eq_true (by omega)
      generalize hX2 : d[k + j] = X2 at hcm hok2 hset hct2
      generalize (d[k + j - 1]'(by omega)) = Y2 at hcm1 hok2
      simp -implicitDefEqProofs only [awp_draw _ _ Tryzdr79_6,awp_draw _ _ Tryzdr79_11,hjt,hj1t,hcm,hcm1,hwj,Itm.row,
  evx,evy,ofValue,ofCell,List.range,List.range.loop,Array.size,Nat.reduceAdd,Nat.reduceSub,Nat.reduceEqDiff,List.replicate,if_true,if_false,↓reduceIte,reduceCtorEq,elB,evParts,Int.reduceToNat,Int.reduceLE,Int.reduceLT,Int.reduceEq,Nat.reduceMul,Nat.reduceLeDiff,Nat.reduceLT,ty3,ty4,ty28,ty52,ty43]
      refine callK_ret _ _ _ _ (call_pure (hok2) (fun _ => rfl) (fun _ => rfl)) (ok_nil _ _) ?_
      simp -implicitDefEqProofs only [awp_draw _ _ Tryzdr79_6,awp_draw _ _ Tryzdr79_11,wsucc j (by omega),wsucc i (by omega),hcm,hcm1,hri,hit,hjt,Itm.row,stB_agg2,splice_two,List.set_cons_zero,hset X2.prod X2.dot rfl,
  evx,evy,ofValue,ofCell,List.range,List.range.loop,Array.size,Nat.reduceAdd,Nat.reduceSub,Nat.reduceEqDiff,List.replicate,if_true,if_false,↓reduceIte,reduceCtorEq,elB,evParts,Int.reduceToNat,Int.reduceLE,Int.reduceLT,Int.reduceEq,Nat.reduceMul,Nat.reduceLeDiff,Nat.reduceLT,ty3,ty4,ty28,ty52,ty43]
      refine back_intro hrk (i + 1,j + 1,cur.set i X2) (le_wk (by simp [wk])) ⟨by simp only; omega,by simp only; omega,by simp only; omega,by simp only; omega,by simp only [List.length_set]; exact g5,?_,?_⟩ (by simp only; omega)
      ·simp only
       rw [← Nat.add_assoc,hct2,← g6,List.take_succ_eq_append_getElem (by simp; omega),List.take_set_of_le (by omega)]
       simp
      ·simp only
       rw [List.drop_set_of_lt (by omega)]
       exact hdr cur g7
    ·have hjt : ((j : Int) < ((d.length - k : Nat) : Int)) = False := eq_false (by omega)
     have hjn : k + j = d.length := by omega
     rw [hjn,List.take_length] at g6
     have hil : i = (compI d).length := by rw [← g6,List.length_take]; omega
     have hcle : ((i : Int) ≤ (d.length : Int)) = True := eq_true (by omega)
     have hsp : splice (cur.map Itm.row) i (List.replicate (d.length - i) [.int .i64 0,.int .i64 0]) = some ((compI d ++ List.replicate (d.length - i) zeroI).map Itm.row) := by
      simp only [splice]
      rw [if_pos (by rw [List.length_map,List.length_replicate]; omega),List.length_replicate,show i + (d.length - i) = d.length from by omega,← List.map_take,← List.map_drop,g6,show cur.drop d.length = [] from List.drop_eq_nil_of_le (by omega)]
      simp only [List.map_nil,List.append_nil,List.map_append,List.map_replicate,Itm.row,zeroI]
     simp -implicitDefEqProofs only [awp_draw _ _ Tryzdr79_6,awp_draw _ _ Tryzdr79_11,hjt,hcle,hsp,Nat.le_refl,Nat.zero_le,Nat.sub_zero,List.length_cons,List.length_nil,
  evx,evy,ofValue,ofCell,List.range,List.range.loop,Array.size,Nat.reduceAdd,Nat.reduceSub,Nat.reduceEqDiff,List.replicate,if_true,if_false,↓reduceIte,reduceCtorEq,elB,evParts,Int.reduceToNat,Int.reduceLE,Int.reduceLT,Int.reduceEq,Nat.reduceMul,Nat.reduceLeDiff,Nat.reduceLT,ty3,ty4,ty28,ty52,ty43]
     rw [← hil]
     exact ⟨⟨by omega,trivial⟩,by omega,Le.refl _ _⟩
   ·rw [if_neg heq,hkc,← ht] at hct
    have hok := ok80 d[k] d[k - 1]
    rw [decide_eq_false heq] at hok
    generalize hX : d[k] = X at hr hok
    generalize hY : d[k - 1] = Y at hr1 hok
    simp -implicitDefEqProofs only [awp_draw _ _ Tryzdr79_6,awp_draw _ _ Tryzdr79_11,lt_true hlt,hr,hr1,hws,hk1t,Itm.row,
  evx,evy,ofValue,ofCell,List.range,List.range.loop,Array.size,Nat.reduceAdd,Nat.reduceSub,Nat.reduceEqDiff,List.replicate,if_true,if_false,↓reduceIte,reduceCtorEq,elB,evParts,Int.reduceToNat,Int.reduceLE,Int.reduceLT,Int.reduceEq,Nat.reduceMul,Nat.reduceLeDiff,Nat.reduceLT,ty3,ty4,ty28,ty52,ty43]
    refine callK_ret _ _ _ _ (call_pure (hok) (fun _ => rfl) (fun _ => rfl)) (ok_nil _ _) ?_
    simp -implicitDefEqProofs only [awp_draw _ _ Tryzdr79_6,awp_draw _ _ Tryzdr79_11,wsucc k (by omega),
  evx,evy,ofValue,ofCell,List.range,List.range.loop,Array.size,Nat.reduceAdd,Nat.reduceSub,Nat.reduceEqDiff,List.replicate,if_true,if_false,↓reduceIte,reduceCtorEq,elB,evParts,Int.reduceToNat,Int.reduceLE,Int.reduceLT,Int.reduceEq,Nat.reduceMul,Nat.reduceLeDiff,Nat.reduceLT,ty3,ty4,ty28,ty52,ty43]
    exact back_intro hs (k + 1) (le_wk (by simp [wk])) ⟨by omega,by omega,hct⟩ (by omega)
  ·obtain rfl : k = d.length := by omega
   rw [List.take_length] at hkc
   simp -implicitDefEqProofs only [awp_draw _ _ Tryzdr79_6,awp_draw _ _ Tryzdr79_11,lt_false hlt,
  evx,evy,ofValue,ofCell,List.range,List.range.loop,Array.size,Nat.reduceAdd,Nat.reduceSub,Nat.reduceEqDiff,List.replicate,if_true,if_false,↓reduceIte,reduceCtorEq,elB,evParts,Int.reduceToNat,Int.reduceLE,Int.reduceLT,Int.reduceEq,Nat.reduceMul,Nat.reduceLeDiff,Nat.reduceLT,ty3,ty4,ty28,ty52,ty43]
   rw [hkc,Nat.sub_self,List.replicate_zero,List.append_nil]
   exact Le.refl _ _
end Go.Abs
