/- Items: which comes first; equal items; the library's slices.CompactFunc at items. -/
import Derived.Test.YtnhghoonlmoinaaGreatTyTryzi
import Derived.Test.YtnhghoonlmoinaaGreatDrTryzi
import Derived.Test.YtnhghoonlmoinaaGreatItNi
import Derived.Test.YtnhghoonlmoinaaGreatCkKi
import Derived.Test.YtnhghoonlmoinaaGreatAbsV
import Derived.Test.YtnhghoonlmoinaaGreatAbsW
import Derived.Test.YtnhghoonlmoinaaGreatAbsGo
namespace Go.Abs
set_option linter.unusedSectionVars false
variable [Kn]
open Go.Proofs
set_option linter.unusedVariables false
set_option linter.unusedSimpArgs false
set_option maxRecDepth 100000
set_option maxHeartbeats 8000000
theorem ok134 (x : Int) : Ok Tryz.prog 134 [.fv (.int .i64 x)] [] (.ret (.fv (.bool false))) [] := by
 refine ok_start (k := 5) (n0 := 0) (rs := [.tmp 2]) mix Tryz.func134 rfl rfl rfl rfl rfl rfl rfl ?_
 simp -implicitDefEqProofs only [awp_seq,awp_skip,awp_ret,awp_exit,awp_label,awp_block,awp_cond,awp_reg,awp_loop,thenC_normal,thenC_ret,thenC_exit,thenC_pan,then_normal,then_ret,then_exit,then_pan,inBlock_normal,inBlock_ret,inBlock_pan,inBlock_exit,condK_bool,condK_any,
  nxt_nil,nxt_dnil,nxt_at,nxt_draw,nxt_quiet,stepAt_plain,stepQ_plain,stepAt_guard,stepQ_guard,guardK_yes,guardK_no,guardQ_yes,guardQ_no,gval_eq,gvO_some,gv_bool,gv_undef,putK_some,readK_at,readK_no,effK_some,ok_none,ok_nil,true_and,pickK_some,pickK_any,put_some,put_none,
  bin2_some,map1_some,ia2_some,opK_move,opK_assign,opK_bin,opK_un,opK_convert,opK_idxAddr,opK_idx,quK_move,quK_assign,quK_bin,quK_un,quK_convert,quK_idxAddr,quK_idx,opK_len,quK_len,opK_load,quK_load,ld1_some,opK_pick,quK_pick,opK_call,call2_some,opK_buildSlice,opK_slice,quK_slice,opK_fad,quK_fad,opK_fld,quK_fld,opK_ext,quK_ext,ext_tuple,opK_nck,quK_nck,opK_mki,quK_mki,opK_mkf,quK_mkf,opK_panic,panK_iface,Option.map_none,opK_append,opK_cap,opK_clear,opK_store,opK_box,opK_alloc,opK_makeSlice,eff_append_eq,eff_store_eq,evs_nil,evs_cons,cons2_some,
  ev_tmp,ev_const,ev_func,ofValue,ofCell,Option.map_some,bin_add,bin_sub,bin_mul,bin_eql,bin_neq,bin_lss,bin_leq,bin_gtr,bin_geq,un_not,un_neg,
  List.range,List.range.loop,Array.size,List.length_cons,List.length_nil,List.size_toArray,Nat.reduceAdd,Nat.reduceSub,Nat.reduceEqDiff,Nat.zero_add,List.getElem?_toArray,List.getElem?_cons_zero,List.getElem?_cons_succ,List.replicate,List.cons_append,List.nil_append,List.append_nil,List.set_cons_zero,List.set_cons_succ,List.getD_cons_zero,List.getD_cons_succ,
  retR_ret,retR_normal,retR_pan,resAs_nil,resAs_cons,resA_tmp,resA_cell,fin_one,fin_none,fin_two,
  decide_eq_true_eq,decide_not,Bool.not_eq_true',Bool.false_eq_true,Bool.true_eq_false,ne_eq,not_true_eq_false,not_false_eq_true,if_true,if_false,decide_true,decide_false,Bool.not_true,Bool.not_false,eq_self,↓reduceIte,reduceCtorEq]
 exact Le.refl _ _
theorem ok108 (x y : Int) : Ok Tryz.prog 108 [.fv (.int .i64 x),.fv (.int .i64 y)] [] (.ret (.fv (.int .i64 (cmpI x y)))) [] := by
 refine ok_start (k := 18) (n0 := 0) (rs := [.tmp 4]) mix Tryz.func108 rfl rfl rfl rfl rfl rfl rfl ?_
 simp -implicitDefEqProofs only [awp_seq,awp_skip,awp_ret,awp_exit,awp_label,awp_block,awp_cond,awp_reg,awp_loop,thenC_normal,thenC_ret,thenC_exit,thenC_pan,then_normal,then_ret,then_exit,then_pan,inBlock_normal,inBlock_ret,inBlock_pan,inBlock_exit,condK_bool,condK_any,
  nxt_nil,nxt_dnil,nxt_at,nxt_draw,nxt_quiet,stepAt_plain,stepQ_plain,stepAt_guard,stepQ_guard,guardK_yes,guardK_no,guardQ_yes,guardQ_no,gval_eq,gvO_some,gv_bool,gv_undef,putK_some,readK_at,readK_no,effK_some,ok_none,ok_nil,true_and,pickK_some,pickK_any,put_some,put_none,
  bin2_some,map1_some,ia2_some,opK_move,opK_assign,opK_bin,opK_un,opK_convert,opK_idxAddr,opK_idx,quK_move,quK_assign,quK_bin,quK_un,quK_convert,quK_idxAddr,quK_idx,opK_len,quK_len,opK_load,quK_load,ld1_some,opK_pick,quK_pick,opK_call,call2_some,opK_buildSlice,opK_slice,quK_slice,opK_fad,quK_fad,opK_fld,quK_fld,opK_ext,quK_ext,ext_tuple,opK_nck,quK_nck,opK_mki,quK_mki,opK_mkf,quK_mkf,opK_panic,panK_iface,Option.map_none,opK_append,opK_cap,opK_clear,opK_store,opK_box,opK_alloc,opK_makeSlice,eff_append_eq,eff_store_eq,evs_nil,evs_cons,cons2_some,
  ev_tmp,ev_const,ev_func,ofValue,ofCell,Option.map_some,bin_add,bin_sub,bin_mul,bin_eql,bin_neq,bin_lss,bin_leq,bin_gtr,bin_geq,un_not,un_neg,
  List.range,List.range.loop,Array.size,List.length_cons,List.length_nil,List.size_toArray,Nat.reduceAdd,Nat.reduceSub,Nat.reduceEqDiff,Nat.zero_add,List.getElem?_toArray,List.getElem?_cons_zero,List.getElem?_cons_succ,List.replicate,List.cons_append,List.nil_append,List.append_nil,List.set_cons_zero,List.set_cons_succ,List.getD_cons_zero,List.getD_cons_succ,
  retR_ret,retR_normal,retR_pan,resAs_nil,resAs_cons,resA_tmp,resA_cell,fin_one,fin_none,fin_two,
  decide_eq_true_eq,decide_not,Bool.not_eq_true',Bool.false_eq_true,Bool.true_eq_false,ne_eq,not_true_eq_false,not_false_eq_true,if_true,if_false,decide_true,decide_false,Bool.not_true,Bool.not_false,eq_self,↓reduceIte,reduceCtorEq]
 refine callK_ret _ _ _ _ (call_pure (ok134 _) (fun _ => rfl) (fun _ => rfl)) (ok_nil _ _) ?_
 simp -implicitDefEqProofs only [awp_seq,awp_skip,awp_ret,awp_exit,awp_label,awp_block,awp_cond,awp_reg,awp_loop,thenC_normal,thenC_ret,thenC_exit,thenC_pan,then_normal,then_ret,then_exit,then_pan,inBlock_normal,inBlock_ret,inBlock_pan,inBlock_exit,condK_bool,condK_any,
  nxt_nil,nxt_dnil,nxt_at,nxt_draw,nxt_quiet,stepAt_plain,stepQ_plain,stepAt_guard,stepQ_guard,guardK_yes,guardK_no,guardQ_yes,guardQ_no,gval_eq,gvO_some,gv_bool,gv_undef,putK_some,readK_at,readK_no,effK_some,ok_none,ok_nil,true_and,pickK_some,pickK_any,put_some,put_none,
  bin2_some,map1_some,ia2_some,opK_move,opK_assign,opK_bin,opK_un,opK_convert,opK_idxAddr,opK_idx,quK_move,quK_assign,quK_bin,quK_un,quK_convert,quK_idxAddr,quK_idx,opK_len,quK_len,opK_load,quK_load,ld1_some,opK_pick,quK_pick,opK_call,call2_some,opK_buildSlice,opK_slice,quK_slice,opK_fad,quK_fad,opK_fld,quK_fld,opK_ext,quK_ext,ext_tuple,opK_nck,quK_nck,opK_mki,quK_mki,opK_mkf,quK_mkf,opK_panic,panK_iface,Option.map_none,opK_append,opK_cap,opK_clear,opK_store,opK_box,opK_alloc,opK_makeSlice,eff_append_eq,eff_store_eq,evs_nil,evs_cons,cons2_some,
  ev_tmp,ev_const,ev_func,ofValue,ofCell,Option.map_some,bin_add,bin_sub,bin_mul,bin_eql,bin_neq,bin_lss,bin_leq,bin_gtr,bin_geq,un_not,un_neg,
  List.range,List.range.loop,Array.size,List.length_cons,List.length_nil,List.size_toArray,Nat.reduceAdd,Nat.reduceSub,Nat.reduceEqDiff,Nat.zero_add,List.getElem?_toArray,List.getElem?_cons_zero,List.getElem?_cons_succ,List.replicate,List.cons_append,List.nil_append,List.append_nil,List.set_cons_zero,List.set_cons_succ,List.getD_cons_zero,List.getD_cons_succ,
  retR_ret,retR_normal,retR_pan,resAs_nil,resAs_cons,resA_tmp,resA_cell,fin_one,fin_none,fin_two,
  decide_eq_true_eq,decide_not,Bool.not_eq_true',Bool.false_eq_true,Bool.true_eq_false,ne_eq,not_true_eq_false,not_false_eq_true,if_true,if_false,decide_true,decide_false,Bool.not_true,Bool.not_false,eq_self,↓reduceIte,reduceCtorEq]
 refine callK_ret _ _ _ _ (call_pure (ok134 _) (fun _ => rfl) (fun _ => rfl)) (ok_nil _ _) ?_
 simp -implicitDefEqProofs only [awp_seq,awp_skip,awp_ret,awp_exit,awp_label,awp_block,awp_cond,awp_reg,awp_loop,thenC_normal,thenC_ret,thenC_exit,thenC_pan,then_normal,then_ret,then_exit,then_pan,inBlock_normal,inBlock_ret,inBlock_pan,inBlock_exit,condK_bool,condK_any,
  nxt_nil,nxt_dnil,nxt_at,nxt_draw,nxt_quiet,stepAt_plain,stepQ_plain,stepAt_guard,stepQ_guard,guardK_yes,guardK_no,guardQ_yes,guardQ_no,gval_eq,gvO_some,gv_bool,gv_undef,putK_some,readK_at,readK_no,effK_some,ok_none,ok_nil,true_and,pickK_some,pickK_any,put_some,put_none,
  bin2_some,map1_some,ia2_some,opK_move,opK_assign,opK_bin,opK_un,opK_convert,opK_idxAddr,opK_idx,quK_move,quK_assign,quK_bin,quK_un,quK_convert,quK_idxAddr,quK_idx,opK_len,quK_len,opK_load,quK_load,ld1_some,opK_pick,quK_pick,opK_call,call2_some,opK_buildSlice,opK_slice,quK_slice,opK_fad,quK_fad,opK_fld,quK_fld,opK_ext,quK_ext,ext_tuple,opK_nck,quK_nck,opK_mki,quK_mki,opK_mkf,quK_mkf,opK_panic,panK_iface,Option.map_none,opK_append,opK_cap,opK_clear,opK_store,opK_box,opK_alloc,opK_makeSlice,eff_append_eq,eff_store_eq,evs_nil,evs_cons,cons2_some,
  ev_tmp,ev_const,ev_func,ofValue,ofCell,Option.map_some,bin_add,bin_sub,bin_mul,bin_eql,bin_neq,bin_lss,bin_leq,bin_gtr,bin_geq,un_not,un_neg,
  List.range,List.range.loop,Array.size,List.length_cons,List.length_nil,List.size_toArray,Nat.reduceAdd,Nat.reduceSub,Nat.reduceEqDiff,Nat.zero_add,List.getElem?_toArray,List.getElem?_cons_zero,List.getElem?_cons_succ,List.replicate,List.cons_append,List.nil_append,List.append_nil,List.set_cons_zero,List.set_cons_succ,List.getD_cons_zero,List.getD_cons_succ,
  retR_ret,retR_normal,retR_pan,resAs_nil,resAs_cons,resA_tmp,resA_cell,fin_one,fin_none,fin_two,
  decide_eq_true_eq,decide_not,Bool.not_eq_true',Bool.false_eq_true,Bool.true_eq_false,ne_eq,not_true_eq_false,not_false_eq_true,if_true,if_false,decide_true,decide_false,Bool.not_true,Bool.not_false,eq_self,↓reduceIte,reduceCtorEq]
 unfold cmpI
 by_cases h : x < y
 ·simp only [h,if_true]
  exact Le.refl _ _
 ·by_cases h2 : y < x
  ·simp only [h,h2,if_true,if_false]
   exact Le.refl _ _
  ·simp only [h,h2,if_false]
   exact Le.refl _ _
instance : DecidableEq Itm := fun x y => decidable_of_iff (x.prod = y.prod ∧ x.dot = y.dot) (by cases x; cases y; simp)
end Go.Abs
/- Items: sorted, each once. -/
namespace Go.Abs
set_option linter.unusedSectionVars false
variable [Kn]
open Go.Proofs
set_option linter.unusedVariables false
set_option linter.unusedSimpArgs false
set_option maxRecDepth 100000
set_option maxHeartbeats 8000000
end Go.Abs
