/- Sets of numbers: what two have in common, what one has alone. -/
import Derived.Test.YtmnbljfbdiodbaaTyTrys
import Derived.Test.YtmnbljfbdiodbaaDrTrys
import Derived.Test.YtmnbljfbdiodbaaAbsS
import Derived.Test.YtmnbljfbdiodbaaFiKs
import Derived.Test.YtmnbljfbdiodbaaTopA
import Derived.Test.YtmnbljfbdiodbaaBytesM
import Derived.Test.YtmnbljfbdiodbaaAbsZ
import Derived.Test.YtmnbljfbdiodbaaTopGs
namespace Go.Abs
open Go.Proofs
set_option linter.unusedVariables false
set_option linter.unusedSimpArgs false
set_option maxRecDepth 100000
set_option maxHeartbeats 1000000
theorem conv_int {P : Program} {T U : TypeId} {si ti : TI} {k k' : IntKind} (hs : tiOf P T = some si) (hd : tiOf P U = some ti) (hk : ti.desc = .int k') (n : Int) : convA P T U (.fv (.int k n)) = some (.fv (.int k' (k'.wrap n))) := by
 obtain ⟨dd,a,b,z⟩ := ti
 simp only at hk; subst hk
 simp [convA,hs,hd]
theorem ok70 (x : Int) : Ok Try.prog 70 [.fv (.int .i64 x)] [] (.ret (.fv (.bool false))) [] := by
 refine ok_start (k := 5) (n0 := 0) (rs := [.tmp 2]) mix Try.func70 rfl rfl rfl rfl rfl rfl rfl ?_
 simp -implicitDefEqProofs only [awp_seq,awp_skip,awp_ret,awp_exit,awp_label,awp_block,awp_cond,awp_reg,awp_loop,thenC_normal,thenC_ret,thenC_exit,thenC_pan,then_normal,then_ret,then_exit,then_pan,inBlock_normal,inBlock_ret,inBlock_pan,inBlock_exit,condK_bool,condK_any,
  nxt_nil,nxt_dnil,nxt_at,nxt_draw,nxt_quiet,stepAt_plain,stepQ_plain,stepAt_guard,stepQ_guard,guardK_yes,guardK_no,guardQ_yes,guardQ_no,gval_eq,gvO_some,gv_bool,gv_undef,putK_some,readK_at,readK_no,effK_some,ok_none,ok_nil,true_and,pickK_some,pickK_any,put_some,put_none,
  bin2_some,map1_some,ia2_some,opK_move,opK_assign,opK_bin,opK_un,opK_convert,opK_idxAddr,opK_idx,quK_move,quK_assign,quK_bin,quK_un,quK_convert,quK_idxAddr,quK_idx,opK_len,quK_len,opK_load,quK_load,ld1_some,opK_pick,quK_pick,opK_call,call2_some,opK_buildSlice,opK_slice,quK_slice,opK_fad,quK_fad,opK_fld,quK_fld,opK_ext,quK_ext,ext_tuple,opK_nck,quK_nck,opK_mki,quK_mki,opK_mkf,quK_mkf,opK_panic,panK_iface,Option.map_none,opK_append,opK_cap,opK_clear,opK_store,opK_box,opK_alloc,opK_makeSlice,eff_append_eq,eff_store_eq,evs_nil,evs_cons,cons2_some,
  ev_tmp,ev_const,ev_func,ofValue,ofCell,Option.map_some,bin_add,bin_sub,bin_mul,bin_eql,bin_neq,bin_lss,bin_leq,bin_gtr,bin_geq,un_not,un_neg,
  List.range,List.range.loop,Array.size,List.length_cons,List.length_nil,List.size_toArray,Nat.reduceAdd,Nat.reduceSub,Nat.reduceEqDiff,Nat.zero_add,List.getElem?_toArray,List.getElem?_cons_zero,List.getElem?_cons_succ,List.replicate,List.cons_append,List.nil_append,List.append_nil,List.set_cons_zero,List.set_cons_succ,List.getD_cons_zero,List.getD_cons_succ,
  retR_ret,retR_normal,retR_pan,resAs_nil,resAs_cons,resA_tmp,resA_cell,fin_one,fin_none,fin_two,
  decide_eq_true_eq,decide_not,Bool.not_eq_true',Bool.false_eq_true,Bool.true_eq_false,ne_eq,not_true_eq_false,not_false_eq_true,if_true,if_false,decide_true,decide_false,Bool.not_true,Bool.not_false,eq_self,↓reduceIte,reduceCtorEq]
 exact Le.refl _ _
theorem ok64 (x : Int) : Ok Try.prog 64 [.fv (.int .i64 x)] [] (.ret (.fv (.bool false))) [] := by
 refine ok_start (k := 5) (n0 := 0) (rs := [.tmp 2]) mix Try.func64 rfl rfl rfl rfl rfl rfl rfl ?_
 simp -implicitDefEqProofs only [awp_seq,awp_skip,awp_ret,awp_exit,awp_label,awp_block,awp_cond,awp_reg,awp_loop,thenC_normal,thenC_ret,thenC_exit,thenC_pan,then_normal,then_ret,then_exit,then_pan,inBlock_normal,inBlock_ret,inBlock_pan,inBlock_exit,condK_bool,condK_any,
  nxt_nil,nxt_dnil,nxt_at,nxt_draw,nxt_quiet,stepAt_plain,stepQ_plain,stepAt_guard,stepQ_guard,guardK_yes,guardK_no,guardQ_yes,guardQ_no,gval_eq,gvO_some,gv_bool,gv_undef,putK_some,readK_at,readK_no,effK_some,ok_none,ok_nil,true_and,pickK_some,pickK_any,put_some,put_none,
  bin2_some,map1_some,ia2_some,opK_move,opK_assign,opK_bin,opK_un,opK_convert,opK_idxAddr,opK_idx,quK_move,quK_assign,quK_bin,quK_un,quK_convert,quK_idxAddr,quK_idx,opK_len,quK_len,opK_load,quK_load,ld1_some,opK_pick,quK_pick,opK_call,call2_some,opK_buildSlice,opK_slice,quK_slice,opK_fad,quK_fad,opK_fld,quK_fld,opK_ext,quK_ext,ext_tuple,opK_nck,quK_nck,opK_mki,quK_mki,opK_mkf,quK_mkf,opK_panic,panK_iface,Option.map_none,opK_append,opK_cap,opK_clear,opK_store,opK_box,opK_alloc,opK_makeSlice,eff_append_eq,eff_store_eq,evs_nil,evs_cons,cons2_some,
  ev_tmp,ev_const,ev_func,ofValue,ofCell,Option.map_some,bin_add,bin_sub,bin_mul,bin_eql,bin_neq,bin_lss,bin_leq,bin_gtr,bin_geq,un_not,un_neg,
  List.range,List.range.loop,Array.size,List.length_cons,List.length_nil,List.size_toArray,Nat.reduceAdd,Nat.reduceSub,Nat.reduceEqDiff,Nat.zero_add,List.getElem?_toArray,List.getElem?_cons_zero,List.getElem?_cons_succ,List.replicate,List.cons_append,List.nil_append,List.append_nil,List.set_cons_zero,List.set_cons_succ,List.getD_cons_zero,List.getD_cons_succ,
  retR_ret,retR_normal,retR_pan,resAs_nil,resAs_cons,resA_tmp,resA_cell,fin_one,fin_none,fin_two,
  decide_eq_true_eq,decide_not,Bool.not_eq_true',Bool.false_eq_true,Bool.true_eq_false,ne_eq,not_true_eq_false,not_false_eq_true,if_true,if_false,decide_true,decide_false,Bool.not_true,Bool.not_false,eq_self,↓reduceIte,reduceCtorEq]
 exact Le.refl _ _
theorem ok57 (x y : Int) : Ok Try.prog 57 [.fv (.int .i64 x),.fv (.int .i64 y)] [] (.ret (.fv (.bool (decide (x < y))))) [] := by
 refine ok_start (k := 15) (n0 := 0) (rs := [.tmp 4]) mix Try.func57 rfl rfl rfl rfl rfl rfl rfl ?_
 simp -implicitDefEqProofs only [awp_seq,awp_skip,awp_ret,awp_exit,awp_label,awp_block,awp_cond,awp_reg,awp_loop,thenC_normal,thenC_ret,thenC_exit,thenC_pan,then_normal,then_ret,then_exit,then_pan,inBlock_normal,inBlock_ret,inBlock_pan,inBlock_exit,condK_bool,condK_any,
  nxt_nil,nxt_dnil,nxt_at,nxt_draw,nxt_quiet,stepAt_plain,stepQ_plain,stepAt_guard,stepQ_guard,guardK_yes,guardK_no,guardQ_yes,guardQ_no,gval_eq,gvO_some,gv_bool,gv_undef,putK_some,readK_at,readK_no,effK_some,ok_none,ok_nil,true_and,pickK_some,pickK_any,put_some,put_none,
  bin2_some,map1_some,ia2_some,opK_move,opK_assign,opK_bin,opK_un,opK_convert,opK_idxAddr,opK_idx,quK_move,quK_assign,quK_bin,quK_un,quK_convert,quK_idxAddr,quK_idx,opK_len,quK_len,opK_load,quK_load,ld1_some,opK_pick,quK_pick,opK_call,call2_some,opK_buildSlice,opK_slice,quK_slice,opK_fad,quK_fad,opK_fld,quK_fld,opK_ext,quK_ext,ext_tuple,opK_nck,quK_nck,opK_mki,quK_mki,opK_mkf,quK_mkf,opK_panic,panK_iface,Option.map_none,opK_append,opK_cap,opK_clear,opK_store,opK_box,opK_alloc,opK_makeSlice,eff_append_eq,eff_store_eq,evs_nil,evs_cons,cons2_some,
  ev_tmp,ev_const,ev_func,ofValue,ofCell,Option.map_some,bin_add,bin_sub,bin_mul,bin_eql,bin_neq,bin_lss,bin_leq,bin_gtr,bin_geq,un_not,un_neg,
  List.range,List.range.loop,Array.size,List.length_cons,List.length_nil,List.size_toArray,Nat.reduceAdd,Nat.reduceSub,Nat.reduceEqDiff,Nat.zero_add,List.getElem?_toArray,List.getElem?_cons_zero,List.getElem?_cons_succ,List.replicate,List.cons_append,List.nil_append,List.append_nil,List.set_cons_zero,List.set_cons_succ,List.getD_cons_zero,List.getD_cons_succ,
  retR_ret,retR_normal,retR_pan,resAs_nil,resAs_cons,resA_tmp,resA_cell,fin_one,fin_none,fin_two,
  decide_eq_true_eq,decide_not,Bool.not_eq_true',Bool.false_eq_true,Bool.true_eq_false,ne_eq,not_true_eq_false,not_false_eq_true,if_true,if_false,decide_true,decide_false,Bool.not_true,Bool.not_false,eq_self,↓reduceIte,reduceCtorEq]
 refine callK_ret _ _ _ _ (call_pure (ok70 _) (fun _ => rfl) (fun _ => rfl)) (ok_nil _ _) ?_
 simp -implicitDefEqProofs only [awp_seq,awp_skip,awp_ret,awp_exit,awp_label,awp_block,awp_cond,awp_reg,awp_loop,thenC_normal,thenC_ret,thenC_exit,thenC_pan,then_normal,then_ret,then_exit,then_pan,inBlock_normal,inBlock_ret,inBlock_pan,inBlock_exit,condK_bool,condK_any,
  nxt_nil,nxt_dnil,nxt_at,nxt_draw,nxt_quiet,stepAt_plain,stepQ_plain,stepAt_guard,stepQ_guard,guardK_yes,guardK_no,guardQ_yes,guardQ_no,gval_eq,gvO_some,gv_bool,gv_undef,putK_some,readK_at,readK_no,effK_some,ok_none,ok_nil,true_and,pickK_some,pickK_any,put_some,put_none,
  bin2_some,map1_some,ia2_some,opK_move,opK_assign,opK_bin,opK_un,opK_convert,opK_idxAddr,opK_idx,quK_move,quK_assign,quK_bin,quK_un,quK_convert,quK_idxAddr,quK_idx,opK_len,quK_len,opK_load,quK_load,ld1_some,opK_pick,quK_pick,opK_call,call2_some,opK_buildSlice,opK_slice,quK_slice,opK_fad,quK_fad,opK_fld,quK_fld,opK_ext,quK_ext,ext_tuple,opK_nck,quK_nck,opK_mki,quK_mki,opK_mkf,quK_mkf,opK_panic,panK_iface,Option.map_none,opK_append,opK_cap,opK_clear,opK_store,opK_box,opK_alloc,opK_makeSlice,eff_append_eq,eff_store_eq,evs_nil,evs_cons,cons2_some,
  ev_tmp,ev_const,ev_func,ofValue,ofCell,Option.map_some,bin_add,bin_sub,bin_mul,bin_eql,bin_neq,bin_lss,bin_leq,bin_gtr,bin_geq,un_not,un_neg,
  List.range,List.range.loop,Array.size,List.length_cons,List.length_nil,List.size_toArray,Nat.reduceAdd,Nat.reduceSub,Nat.reduceEqDiff,Nat.zero_add,List.getElem?_toArray,List.getElem?_cons_zero,List.getElem?_cons_succ,List.replicate,List.cons_append,List.nil_append,List.append_nil,List.set_cons_zero,List.set_cons_succ,List.getD_cons_zero,List.getD_cons_succ,
  retR_ret,retR_normal,retR_pan,resAs_nil,resAs_cons,resA_tmp,resA_cell,fin_one,fin_none,fin_two,
  decide_eq_true_eq,decide_not,Bool.not_eq_true',Bool.false_eq_true,Bool.true_eq_false,ne_eq,not_true_eq_false,not_false_eq_true,if_true,if_false,decide_true,decide_false,Bool.not_true,Bool.not_false,eq_self,↓reduceIte,reduceCtorEq]
 exact Le.refl _ _
theorem ok50 (b : List Int) (x : Int) (hb : b.length < 1048576) (hs : b.Pairwise (· < ·)) :
  ∃ r : Int,Ok Try.prog 50 [.fv (.lst 1 (ints b)),.fv (.int .i64 x)] [] (.ret (.tuple [.fv (.int .i64 r),.fv (.bool (decide (x ∈ b)))])) [] := by
 have hlb := ints_length b
 have hpw := List.pairwise_iff_getElem.1 hs
 obtain ⟨r,hr1,hr2,hr3⟩ : ∃ r,r ≤ b.length ∧ (∀ k (h : k < b.length),k < r → b[k] < x) ∧ (∀ k (h : k < b.length),r ≤ k → x ≤ b[k]) := by
  clear hlb hb
  induction b with
  | nil => exact ⟨0,by simp,fun k h => by simp at h,fun k h => by simp at h⟩
  | cons y b ih =>
   rw [List.pairwise_cons] at hs
   by_cases hy : y < x
   ·obtain ⟨r,h1,h2,h3⟩ := ih hs.2 (List.pairwise_iff_getElem.1 hs.2)
    refine ⟨r + 1,by simp; omega,fun k h hk => ?_,fun k h hk => ?_⟩
    ·cases k with
     | zero => exact hy
     | succ k => exact h2 k (by simpa using h) (by omega)
    ·cases k with
     | zero => omega
     | succ k => exact h3 k (by simpa using h) (by omega)
   ·refine ⟨0,by omega,fun k h hk => by omega,fun k h hk => ?_⟩
    cases k with
    | zero => simp; omega
    | succ k =>
     have := hs.1 _ (List.getElem_mem (l := b) (n := k) (by simpa using h))
     simp; omega
 refine ⟨r,?_⟩
 refine ok_start (k := 52) (n0 := 0) (rs := [.tmp 4,.tmp 5]) mix Try.func50 rfl rfl rfl rfl rfl rfl rfl ?_
 simp -implicitDefEqProofs only [len_lst 24 ty24 rfl,
  awp_seq,awp_skip,awp_ret,awp_exit,awp_label,awp_block,awp_cond,awp_reg,awp_loop,thenC_normal,thenC_ret,thenC_exit,thenC_pan,then_normal,then_ret,then_exit,then_pan,inBlock_normal,inBlock_ret,inBlock_pan,inBlock_exit,condK_bool,condK_any,
  nxt_nil,nxt_dnil,nxt_at,nxt_draw,nxt_quiet,stepAt_plain,stepQ_plain,stepAt_guard,stepQ_guard,guardK_yes,guardK_no,guardQ_yes,guardQ_no,gval_eq,gvO_some,gv_bool,gv_undef,putK_some,readK_at,readK_no,effK_some,ok_none,ok_nil,true_and,pickK_some,pickK_any,put_some,put_none,
  bin2_some,map1_some,ia2_some,opK_move,opK_assign,opK_bin,opK_un,opK_convert,opK_idxAddr,opK_idx,quK_move,quK_assign,quK_bin,quK_un,quK_convert,quK_idxAddr,quK_idx,opK_len,quK_len,opK_load,quK_load,ld1_some,opK_pick,quK_pick,opK_call,call2_some,opK_buildSlice,opK_slice,quK_slice,opK_fad,quK_fad,opK_fld,quK_fld,opK_ext,quK_ext,ext_tuple,opK_nck,quK_nck,opK_mki,quK_mki,opK_mkf,quK_mkf,opK_panic,panK_iface,Option.map_none,opK_append,opK_cap,opK_clear,opK_store,opK_box,opK_alloc,opK_makeSlice,eff_append_eq,eff_store_eq,evs_nil,evs_cons,cons2_some,
  ev_tmp,ev_const,ev_func,ofValue,ofCell,Option.map_some,bin_add,bin_sub,bin_mul,bin_eql,bin_neq,bin_lss,bin_leq,bin_gtr,bin_geq,un_not,un_neg,
  List.range,List.range.loop,Array.size,List.length_cons,List.length_nil,List.size_toArray,Nat.reduceAdd,Nat.reduceSub,Nat.reduceEqDiff,Nat.zero_add,List.getElem?_toArray,List.getElem?_cons_zero,List.getElem?_cons_succ,List.replicate,List.cons_append,List.nil_append,List.append_nil,List.set_cons_zero,List.set_cons_succ,List.getD_cons_zero,List.getD_cons_succ,
  retR_ret,retR_normal,retR_pan,resAs_nil,resAs_cons,resA_tmp,resA_cell,fin_one,fin_none,fin_two,
  decide_eq_true_eq,decide_not,Bool.not_eq_true',Bool.false_eq_true,Bool.true_eq_false,ne_eq,not_true_eq_false,not_false_eq_true,if_true,if_false,decide_true,decide_false,Bool.not_true,Bool.not_false,eq_self,↓reduceIte,reduceCtorEq]
 refine loop_rule (fun p : Nat × Nat => ⟨[.fv (.lst 1 (ints b)),.fv (.int .i64 x),.any,.any,.any,.any,.fv (.int .i64 (ints b).length),.fv (.int .i64 p.1),.fv (.int .i64 p.2),.any,.any,.any,.any,.any,.any,.any,.any,.any,.any,.any,.any,.any,.any,.any,.any,.any,.any,.any,.any,.any,.any,.any,.any,.any,.any,.any,.any,.any,.any,.any,.any,.any,.any,.any,.any,.any,.any,.any,.any,.any,.any,.any,.any,.any],[],[]⟩)
  (fun p => p.1 ≤ r ∧ r ≤ p.2 ∧ p.2 ≤ b.length) (fun p => p.2 - p.1) (0,b.length) (le_wk (by simp [wk,hlb])) (by simp; omega) (fun p hp s hrk => ?_)
 obtain ⟨i,j⟩ := p
 obtain ⟨h1,h2,h3⟩ := hp
 simp only at h1 h2 h3 hrk ⊢
 by_cases hij : i < j
 ·have hc : ((i : Int) < (j : Int)) = True := by simp; omega
  have hw : IntKind.wrap .i64 ((i : Int) + (j : Int)) = ((i + j : Nat) : Int) := by rw [wrap_small (by omega) (by omega)]; omega
  have hwu : IntKind.wrap .u64 ((i + j : Nat) : Int) = ((i + j : Nat) : Int) := wrap_u64 (by omega)
  have hsh : shiftA .shr .u64 ((i + j : Nat) : Int) 1 = some (.int .u64 (((i + j) / 2 : Nat) : Int)) := by
   simp [shiftA,IntKind.bits,Int.fdiv_eq_ediv_of_nonneg]
  have hw2 : IntKind.wrap .i64 (((i + j) / 2 : Nat) : Int) = (((i + j) / 2 : Nat) : Int) := wrap_small (by omega) (by omega)
  have hm : (i + j) / 2 < b.length := by omega
  have hrb : (ints b)[((((i + j) / 2 : Nat) : Int)).toNat]? = some [.int .i64 b[(i + j) / 2]] := ints_get b _ hm
  generalize hh : (i + j) / 2 = h at *
  have hw3 : IntKind.wrap .i64 ((h : Int) + 1) = ((h + 1 : Nat) : Int) := wrap_small (by omega) (by omega)
  simp -implicitDefEqProofs only [hc,hw,cvK_some,conv_int ty3 ty70 rfl,hwu,bin_shr hsh,conv_int ty70 ty3 rfl,hw2,idx_lst 24 ty24 rfl ty3 1 rfl (ints b) h _ hrb (by omega),ld_fptr 3 ty3 rfl,
  awp_seq,awp_skip,awp_ret,awp_exit,awp_label,awp_block,awp_cond,awp_reg,awp_loop,thenC_normal,thenC_ret,thenC_exit,thenC_pan,then_normal,then_ret,then_exit,then_pan,inBlock_normal,inBlock_ret,inBlock_pan,inBlock_exit,condK_bool,condK_any,
  nxt_nil,nxt_dnil,nxt_at,nxt_draw,nxt_quiet,stepAt_plain,stepQ_plain,stepAt_guard,stepQ_guard,guardK_yes,guardK_no,guardQ_yes,guardQ_no,gval_eq,gvO_some,gv_bool,gv_undef,putK_some,readK_at,readK_no,effK_some,ok_none,ok_nil,true_and,pickK_some,pickK_any,put_some,put_none,
  bin2_some,map1_some,ia2_some,opK_move,opK_assign,opK_bin,opK_un,opK_convert,opK_idxAddr,opK_idx,quK_move,quK_assign,quK_bin,quK_un,quK_convert,quK_idxAddr,quK_idx,opK_len,quK_len,opK_load,quK_load,ld1_some,opK_pick,quK_pick,opK_call,call2_some,opK_buildSlice,opK_slice,quK_slice,opK_fad,quK_fad,opK_fld,quK_fld,opK_ext,quK_ext,ext_tuple,opK_nck,quK_nck,opK_mki,quK_mki,opK_mkf,quK_mkf,opK_panic,panK_iface,Option.map_none,opK_append,opK_cap,opK_clear,opK_store,opK_box,opK_alloc,opK_makeSlice,eff_append_eq,eff_store_eq,evs_nil,evs_cons,cons2_some,
  ev_tmp,ev_const,ev_func,ofValue,ofCell,Option.map_some,bin_add,bin_sub,bin_mul,bin_eql,bin_neq,bin_lss,bin_leq,bin_gtr,bin_geq,un_not,un_neg,
  List.range,List.range.loop,Array.size,List.length_cons,List.length_nil,List.size_toArray,Nat.reduceAdd,Nat.reduceSub,Nat.reduceEqDiff,Nat.zero_add,List.getElem?_toArray,List.getElem?_cons_zero,List.getElem?_cons_succ,List.replicate,List.cons_append,List.nil_append,List.append_nil,List.set_cons_zero,List.set_cons_succ,List.getD_cons_zero,List.getD_cons_succ,
  retR_ret,retR_normal,retR_pan,resAs_nil,resAs_cons,resA_tmp,resA_cell,fin_one,fin_none,fin_two,
  decide_eq_true_eq,decide_not,Bool.not_eq_true',Bool.false_eq_true,Bool.true_eq_false,ne_eq,not_true_eq_false,not_false_eq_true,if_true,if_false,decide_true,decide_false,Bool.not_true,Bool.not_false,eq_self,↓reduceIte,reduceCtorEq]
  refine callK_ret _ _ _ _ (call_pure (ok57 _ _) (fun _ => rfl) (fun _ => rfl)) (ok_nil _ _) ?_
  by_cases hx : b[h] < x
  ·have e : decide (b[h] < x) = true := by simpa using hx
   have hhr : h < r := by
    rcases Nat.lt_or_ge h r with h' | h'
    ·exact h'
    ·have := hr3 h hm h'
     omega
   simp -implicitDefEqProofs only [e,hw3,
  awp_seq,awp_skip,awp_ret,awp_exit,awp_label,awp_block,awp_cond,awp_reg,awp_loop,thenC_normal,thenC_ret,thenC_exit,thenC_pan,then_normal,then_ret,then_exit,then_pan,inBlock_normal,inBlock_ret,inBlock_pan,inBlock_exit,condK_bool,condK_any,
  nxt_nil,nxt_dnil,nxt_at,nxt_draw,nxt_quiet,stepAt_plain,stepQ_plain,stepAt_guard,stepQ_guard,guardK_yes,guardK_no,guardQ_yes,guardQ_no,gval_eq,gvO_some,gv_bool,gv_undef,putK_some,readK_at,readK_no,effK_some,ok_none,ok_nil,true_and,pickK_some,pickK_any,put_some,put_none,
  bin2_some,map1_some,ia2_some,opK_move,opK_assign,opK_bin,opK_un,opK_convert,opK_idxAddr,opK_idx,quK_move,quK_assign,quK_bin,quK_un,quK_convert,quK_idxAddr,quK_idx,opK_len,quK_len,opK_load,quK_load,ld1_some,opK_pick,quK_pick,opK_call,call2_some,opK_buildSlice,opK_slice,quK_slice,opK_fad,quK_fad,opK_fld,quK_fld,opK_ext,quK_ext,ext_tuple,opK_nck,quK_nck,opK_mki,quK_mki,opK_mkf,quK_mkf,opK_panic,panK_iface,Option.map_none,opK_append,opK_cap,opK_clear,opK_store,opK_box,opK_alloc,opK_makeSlice,eff_append_eq,eff_store_eq,evs_nil,evs_cons,cons2_some,
  ev_tmp,ev_const,ev_func,ofValue,ofCell,Option.map_some,bin_add,bin_sub,bin_mul,bin_eql,bin_neq,bin_lss,bin_leq,bin_gtr,bin_geq,un_not,un_neg,
  List.range,List.range.loop,Array.size,List.length_cons,List.length_nil,List.size_toArray,Nat.reduceAdd,Nat.reduceSub,Nat.reduceEqDiff,Nat.zero_add,List.getElem?_toArray,List.getElem?_cons_zero,List.getElem?_cons_succ,List.replicate,List.cons_append,List.nil_append,List.append_nil,List.set_cons_zero,List.set_cons_succ,List.getD_cons_zero,List.getD_cons_succ,
  retR_ret,retR_normal,retR_pan,resAs_nil,resAs_cons,resA_tmp,resA_cell,fin_one,fin_none,fin_two,
  decide_eq_true_eq,decide_not,Bool.not_eq_true',Bool.false_eq_true,Bool.true_eq_false,ne_eq,not_true_eq_false,not_false_eq_true,if_true,if_false,decide_true,decide_false,Bool.not_true,Bool.not_false,eq_self,↓reduceIte,reduceCtorEq]
   exact back_intro hrk (h + 1,j) (le_wk (by simp [wk])) ⟨by simp only; omega,h2,h3⟩ (by simp only; omega)
  ·have e : decide (b[h] < x) = false := by simpa using hx
   have hhr : r ≤ h := by
    rcases Nat.lt_or_ge h r with h' | h'
    ·have := hr2 h hm h'
     omega
    ·exact h'
   simp -implicitDefEqProofs only [e,
  awp_seq,awp_skip,awp_ret,awp_exit,awp_label,awp_block,awp_cond,awp_reg,awp_loop,thenC_normal,thenC_ret,thenC_exit,thenC_pan,then_normal,then_ret,then_exit,then_pan,inBlock_normal,inBlock_ret,inBlock_pan,inBlock_exit,condK_bool,condK_any,
  nxt_nil,nxt_dnil,nxt_at,nxt_draw,nxt_quiet,stepAt_plain,stepQ_plain,stepAt_guard,stepQ_guard,guardK_yes,guardK_no,guardQ_yes,guardQ_no,gval_eq,gvO_some,gv_bool,gv_undef,putK_some,readK_at,readK_no,effK_some,ok_none,ok_nil,true_and,pickK_some,pickK_any,put_some,put_none,
  bin2_some,map1_some,ia2_some,opK_move,opK_assign,opK_bin,opK_un,opK_convert,opK_idxAddr,opK_idx,quK_move,quK_assign,quK_bin,quK_un,quK_convert,quK_idxAddr,quK_idx,opK_len,quK_len,opK_load,quK_load,ld1_some,opK_pick,quK_pick,opK_call,call2_some,opK_buildSlice,opK_slice,quK_slice,opK_fad,quK_fad,opK_fld,quK_fld,opK_ext,quK_ext,ext_tuple,opK_nck,quK_nck,opK_mki,quK_mki,opK_mkf,quK_mkf,opK_panic,panK_iface,Option.map_none,opK_append,opK_cap,opK_clear,opK_store,opK_box,opK_alloc,opK_makeSlice,eff_append_eq,eff_store_eq,evs_nil,evs_cons,cons2_some,
  ev_tmp,ev_const,ev_func,ofValue,ofCell,Option.map_some,bin_add,bin_sub,bin_mul,bin_eql,bin_neq,bin_lss,bin_leq,bin_gtr,bin_geq,un_not,un_neg,
  List.range,List.range.loop,Array.size,List.length_cons,List.length_nil,List.size_toArray,Nat.reduceAdd,Nat.reduceSub,Nat.reduceEqDiff,Nat.zero_add,List.getElem?_toArray,List.getElem?_cons_zero,List.getElem?_cons_succ,List.replicate,List.cons_append,List.nil_append,List.append_nil,List.set_cons_zero,List.set_cons_succ,List.getD_cons_zero,List.getD_cons_succ,
  retR_ret,retR_normal,retR_pan,resAs_nil,resAs_cons,resA_tmp,resA_cell,fin_one,fin_none,fin_two,
  decide_eq_true_eq,decide_not,Bool.not_eq_true',Bool.false_eq_true,Bool.true_eq_false,ne_eq,not_true_eq_false,not_false_eq_true,if_true,if_false,decide_true,decide_false,Bool.not_true,Bool.not_false,eq_self,↓reduceIte,reduceCtorEq]
   exact back_intro hrk (i,h) (le_wk (by simp [wk])) ⟨h1,hhr,by simp only; omega⟩ (by simp only; omega)
 ·have hc : ((i : Int) < (j : Int)) = False := by simp; omega
  have hir : i = r := by omega
  subst hir
  by_cases hin : i < b.length
  ·have hc2 : ((i : Int) < ((ints b).length : Int)) = True := by simp; omega
   have hrb : (ints b)[(i : Int).toNat]? = some [.int .i64 b[i]] := ints_get b _ hin
   by_cases he : b[i] = x
   ·have he' : (b[i] = x) = True := by simpa using he
    have hm : decide (x ∈ b) = true := by rw [decide_eq_true_eq,← he]; exact List.getElem_mem hin
    simp -implicitDefEqProofs only [hc,hc2,len_lst 24 ty24 rfl,idx_lst 24 ty24 rfl ty3 1 rfl (ints b) i _ hrb (by omega),ld_fptr 3 ty3 rfl,he',hm,
  awp_seq,awp_skip,awp_ret,awp_exit,awp_label,awp_block,awp_cond,awp_reg,awp_loop,thenC_normal,thenC_ret,thenC_exit,thenC_pan,then_normal,then_ret,then_exit,then_pan,inBlock_normal,inBlock_ret,inBlock_pan,inBlock_exit,condK_bool,condK_any,
  nxt_nil,nxt_dnil,nxt_at,nxt_draw,nxt_quiet,stepAt_plain,stepQ_plain,stepAt_guard,stepQ_guard,guardK_yes,guardK_no,guardQ_yes,guardQ_no,gval_eq,gvO_some,gv_bool,gv_undef,putK_some,readK_at,readK_no,effK_some,ok_none,ok_nil,true_and,pickK_some,pickK_any,put_some,put_none,
  bin2_some,map1_some,ia2_some,opK_move,opK_assign,opK_bin,opK_un,opK_convert,opK_idxAddr,opK_idx,quK_move,quK_assign,quK_bin,quK_un,quK_convert,quK_idxAddr,quK_idx,opK_len,quK_len,opK_load,quK_load,ld1_some,opK_pick,quK_pick,opK_call,call2_some,opK_buildSlice,opK_slice,quK_slice,opK_fad,quK_fad,opK_fld,quK_fld,opK_ext,quK_ext,ext_tuple,opK_nck,quK_nck,opK_mki,quK_mki,opK_mkf,quK_mkf,opK_panic,panK_iface,Option.map_none,opK_append,opK_cap,opK_clear,opK_store,opK_box,opK_alloc,opK_makeSlice,eff_append_eq,eff_store_eq,evs_nil,evs_cons,cons2_some,
  ev_tmp,ev_const,ev_func,ofValue,ofCell,Option.map_some,bin_add,bin_sub,bin_mul,bin_eql,bin_neq,bin_lss,bin_leq,bin_gtr,bin_geq,un_not,un_neg,
  List.range,List.range.loop,Array.size,List.length_cons,List.length_nil,List.size_toArray,Nat.reduceAdd,Nat.reduceSub,Nat.reduceEqDiff,Nat.zero_add,List.getElem?_toArray,List.getElem?_cons_zero,List.getElem?_cons_succ,List.replicate,List.cons_append,List.nil_append,List.append_nil,List.set_cons_zero,List.set_cons_succ,List.getD_cons_zero,List.getD_cons_succ,
  retR_ret,retR_normal,retR_pan,resAs_nil,resAs_cons,resA_tmp,resA_cell,fin_one,fin_none,fin_two,
  decide_eq_true_eq,decide_not,Bool.not_eq_true',Bool.false_eq_true,Bool.true_eq_false,ne_eq,not_true_eq_false,not_false_eq_true,if_true,if_false,decide_true,decide_false,Bool.not_true,Bool.not_false,eq_self,↓reduceIte,reduceCtorEq]
    exact Le.refl _ _
   ·have he' : (b[i] = x) = False := by simpa using he
    have hm : decide (x ∈ b) = false := by
     rw [decide_eq_false_iff_not]
     intro hx
     obtain ⟨k,hk,e⟩ := List.getElem_of_mem hx
     rcases Nat.lt_trichotomy k i with h | h | h
     ·have := hr2 k hk h; omega
     ·subst h; exact he e
     ·have := hr3 i hin (Nat.le_refl _)
      have := hpw i k hin hk h
      omega
    simp -implicitDefEqProofs only [hc,hc2,len_lst 24 ty24 rfl,idx_lst 24 ty24 rfl ty3 1 rfl (ints b) i _ hrb (by omega),ld_fptr 3 ty3 rfl,he',hm,
  awp_seq,awp_skip,awp_ret,awp_exit,awp_label,awp_block,awp_cond,awp_reg,awp_loop,thenC_normal,thenC_ret,thenC_exit,thenC_pan,then_normal,then_ret,then_exit,then_pan,inBlock_normal,inBlock_ret,inBlock_pan,inBlock_exit,condK_bool,condK_any,
  nxt_nil,nxt_dnil,nxt_at,nxt_draw,nxt_quiet,stepAt_plain,stepQ_plain,stepAt_guard,stepQ_guard,guardK_yes,guardK_no,guardQ_yes,guardQ_no,gval_eq,gvO_some,gv_bool,gv_undef,putK_some,readK_at,readK_no,effK_some,ok_none,ok_nil,true_and,pickK_some,pickK_any,put_some,put_none,
  bin2_some,map1_some,ia2_some,opK_move,opK_assign,opK_bin,opK_un,opK_convert,opK_idxAddr,opK_idx,quK_move,quK_assign,quK_bin,quK_un,quK_convert,quK_idxAddr,quK_idx,opK_len,quK_len,opK_load,quK_load,ld1_some,opK_pick,quK_pick,opK_call,call2_some,opK_buildSlice,opK_slice,quK_slice,opK_fad,quK_fad,opK_fld,quK_fld,opK_ext,quK_ext,ext_tuple,opK_nck,quK_nck,opK_mki,quK_mki,opK_mkf,quK_mkf,opK_panic,panK_iface,Option.map_none,opK_append,opK_cap,opK_clear,opK_store,opK_box,opK_alloc,opK_makeSlice,eff_append_eq,eff_store_eq,evs_nil,evs_cons,cons2_some,
  ev_tmp,ev_const,ev_func,ofValue,ofCell,Option.map_some,bin_add,bin_sub,bin_mul,bin_eql,bin_neq,bin_lss,bin_leq,bin_gtr,bin_geq,un_not,un_neg,
  List.range,List.range.loop,Array.size,List.length_cons,List.length_nil,List.size_toArray,Nat.reduceAdd,Nat.reduceSub,Nat.reduceEqDiff,Nat.zero_add,List.getElem?_toArray,List.getElem?_cons_zero,List.getElem?_cons_succ,List.replicate,List.cons_append,List.nil_append,List.append_nil,List.set_cons_zero,List.set_cons_succ,List.getD_cons_zero,List.getD_cons_succ,
  retR_ret,retR_normal,retR_pan,resAs_nil,resAs_cons,resA_tmp,resA_cell,fin_one,fin_none,fin_two,
  decide_eq_true_eq,decide_not,Bool.not_eq_true',Bool.false_eq_true,Bool.true_eq_false,ne_eq,not_true_eq_false,not_false_eq_true,if_true,if_false,decide_true,decide_false,Bool.not_true,Bool.not_false,eq_self,↓reduceIte,reduceCtorEq]
    refine callK_ret _ _ _ _ (call_pure (ok64 _) (fun _ => rfl) (fun _ => rfl)) (ok_nil _ _) ?_
    simp -implicitDefEqProofs only [awp_seq,awp_skip,awp_ret,awp_exit,awp_label,awp_block,awp_cond,awp_reg,awp_loop,thenC_normal,thenC_ret,thenC_exit,thenC_pan,then_normal,then_ret,then_exit,then_pan,inBlock_normal,inBlock_ret,inBlock_pan,inBlock_exit,condK_bool,condK_any,
  nxt_nil,nxt_dnil,nxt_at,nxt_draw,nxt_quiet,stepAt_plain,stepQ_plain,stepAt_guard,stepQ_guard,guardK_yes,guardK_no,guardQ_yes,guardQ_no,gval_eq,gvO_some,gv_bool,gv_undef,putK_some,readK_at,readK_no,effK_some,ok_none,ok_nil,true_and,pickK_some,pickK_any,put_some,put_none,
  bin2_some,map1_some,ia2_some,opK_move,opK_assign,opK_bin,opK_un,opK_convert,opK_idxAddr,opK_idx,quK_move,quK_assign,quK_bin,quK_un,quK_convert,quK_idxAddr,quK_idx,opK_len,quK_len,opK_load,quK_load,ld1_some,opK_pick,quK_pick,opK_call,call2_some,opK_buildSlice,opK_slice,quK_slice,opK_fad,quK_fad,opK_fld,quK_fld,opK_ext,quK_ext,ext_tuple,opK_nck,quK_nck,opK_mki,quK_mki,opK_mkf,quK_mkf,opK_panic,panK_iface,Option.map_none,opK_append,opK_cap,opK_clear,opK_store,opK_box,opK_alloc,opK_makeSlice,eff_append_eq,eff_store_eq,evs_nil,evs_cons,cons2_some,
  ev_tmp,ev_const,ev_func,ofValue,ofCell,Option.map_some,bin_add,bin_sub,bin_mul,bin_eql,bin_neq,bin_lss,bin_leq,bin_gtr,bin_geq,un_not,un_neg,
  List.range,List.range.loop,Array.size,List.length_cons,List.length_nil,List.size_toArray,Nat.reduceAdd,Nat.reduceSub,Nat.reduceEqDiff,Nat.zero_add,List.getElem?_toArray,List.getElem?_cons_zero,List.getElem?_cons_succ,List.replicate,List.cons_append,List.nil_append,List.append_nil,List.set_cons_zero,List.set_cons_succ,List.getD_cons_zero,List.getD_cons_succ,
  retR_ret,retR_normal,retR_pan,resAs_nil,resAs_cons,resA_tmp,resA_cell,fin_one,fin_none,fin_two,
  decide_eq_true_eq,decide_not,Bool.not_eq_true',Bool.false_eq_true,Bool.true_eq_false,ne_eq,not_true_eq_false,not_false_eq_true,if_true,if_false,decide_true,decide_false,Bool.not_true,Bool.not_false,eq_self,↓reduceIte,reduceCtorEq]
    exact Le.refl _ _
  ·have hc2 : ((i : Int) < ((ints b).length : Int)) = False := by simp; omega
   have hm : decide (x ∈ b) = false := by
    rw [decide_eq_false_iff_not]
    intro hx
    obtain ⟨k,hk,e⟩ := List.getElem_of_mem hx
    have := hr2 k hk (by omega)
    omega
   simp -implicitDefEqProofs only [hc,hc2,len_lst 24 ty24 rfl,hm,
  awp_seq,awp_skip,awp_ret,awp_exit,awp_label,awp_block,awp_cond,awp_reg,awp_loop,thenC_normal,thenC_ret,thenC_exit,thenC_pan,then_normal,then_ret,then_exit,then_pan,inBlock_normal,inBlock_ret,inBlock_pan,inBlock_exit,condK_bool,condK_any,
  nxt_nil,nxt_dnil,nxt_at,nxt_draw,nxt_quiet,stepAt_plain,stepQ_plain,stepAt_guard,stepQ_guard,guardK_yes,guardK_no,guardQ_yes,guardQ_no,gval_eq,gvO_some,gv_bool,gv_undef,putK_some,readK_at,readK_no,effK_some,ok_none,ok_nil,true_and,pickK_some,pickK_any,put_some,put_none,
  bin2_some,map1_some,ia2_some,opK_move,opK_assign,opK_bin,opK_un,opK_convert,opK_idxAddr,opK_idx,quK_move,quK_assign,quK_bin,quK_un,quK_convert,quK_idxAddr,quK_idx,opK_len,quK_len,opK_load,quK_load,ld1_some,opK_pick,quK_pick,opK_call,call2_some,opK_buildSlice,opK_slice,quK_slice,opK_fad,quK_fad,opK_fld,quK_fld,opK_ext,quK_ext,ext_tuple,opK_nck,quK_nck,opK_mki,quK_mki,opK_mkf,quK_mkf,opK_panic,panK_iface,Option.map_none,opK_append,opK_cap,opK_clear,opK_store,opK_box,opK_alloc,opK_makeSlice,eff_append_eq,eff_store_eq,evs_nil,evs_cons,cons2_some,
  ev_tmp,ev_const,ev_func,ofValue,ofCell,Option.map_some,bin_add,bin_sub,bin_mul,bin_eql,bin_neq,bin_lss,bin_leq,bin_gtr,bin_geq,un_not,un_neg,
  List.range,List.range.loop,Array.size,List.length_cons,List.length_nil,List.size_toArray,Nat.reduceAdd,Nat.reduceSub,Nat.reduceEqDiff,Nat.zero_add,List.getElem?_toArray,List.getElem?_cons_zero,List.getElem?_cons_succ,List.replicate,List.cons_append,List.nil_append,List.append_nil,List.set_cons_zero,List.set_cons_succ,List.getD_cons_zero,List.getD_cons_succ,
  retR_ret,retR_normal,retR_pan,resAs_nil,resAs_cons,resA_tmp,resA_cell,fin_one,fin_none,fin_two,
  decide_eq_true_eq,decide_not,Bool.not_eq_true',Bool.false_eq_true,Bool.true_eq_false,ne_eq,not_true_eq_false,not_false_eq_true,if_true,if_false,decide_true,decide_false,Bool.not_true,Bool.not_false,eq_self,↓reduceIte,reduceCtorEq]
   exact Le.refl _ _
theorem ok49 (b : List Int) (t : Bool) (x : Int) (hb : b.length < 1048576) (hs : b.Pairwise (· < ·)) :
  Ok Try.prog 49 [.fv (.int .i64 x),.ptr 0 0 0 0,.ptr 1 0 0 0] [.box [.fv (.lst 1 (ints b))],.box [.fv (.bool t)]] (.ret (.fv (.bool (decide (x ∈ b) != t)))) [.box [.fv (.lst 1 (ints b))],.box [.fv (.bool t)]] := by
 obtain ⟨r,h40⟩ := ok50 b x hb hs
 refine ok_start (k := 13) (n0 := 2) (rs := [.tmp 4]) mix Try.func49 rfl rfl rfl rfl rfl rfl rfl ?_
 simp -implicitDefEqProofs only [evx,evy,ofValue,ofCell,List.range,List.range.loop,Array.size,Nat.reduceAdd,Nat.reduceSub,Nat.reduceEqDiff,List.replicate,if_true,if_false,↓reduceIte,reduceCtorEq,elB,evParts,Int.reduceToNat,Int.reduceLE,Int.reduceLT,Int.reduceEq,Nat.reduceMul,Nat.reduceLeDiff,Nat.reduceLT,ty3,ty4,ty24,ty70,ty25]
 refine callK_ret _ _ _ _ (call_pure (h40) (fun _ => rfl) (fun _ => rfl)) (ok_nil _ _) ?_
 simp -implicitDefEqProofs only [neq_bool ty4,
  evx,evy,ofValue,ofCell,List.range,List.range.loop,Array.size,Nat.reduceAdd,Nat.reduceSub,Nat.reduceEqDiff,List.replicate,if_true,if_false,↓reduceIte,reduceCtorEq,elB,evParts,Int.reduceToNat,Int.reduceLE,Int.reduceLT,Int.reduceEq,Nat.reduceMul,Nat.reduceLeDiff,Nat.reduceLT,ty3,ty4,ty24,ty70,ty25]
 exact Le.refl _ _
theorem ints_get_app (zs us : List Int) (i : Nat) (h : i < zs.length) : (ints (zs ++ us))[i]? = some [.int .i64 zs[i]] := by
 rw [ints_get _ _ (by simp; omega)]; simp [List.getElem_append_left h]
theorem ok63 (b : List Int) (t : Bool) (zs us : List Int) (hb : b.length < 1048576) (hs : b.Pairwise (· < ·)) (hz : zs.length < 1048576) :
  Ok Try.prog 63 [.ref 0 1 0 zs.length,.func 49 [.ptr 1 0 0 0,.ptr 2 0 0 0]] [.plain 1 (ints (zs ++ us)),.box [.fv (.lst 1 (ints b))],.box [.fv (.bool t)]]
   (.ret (.fv (.int .i64 (if zs.findIdx (fun x => decide (x ∈ b) != t) < zs.length then (zs.findIdx (fun x => decide (x ∈ b) != t) : Int) else -1))))
   [.plain 1 (ints (zs ++ us)),.box [.fv (.lst 1 (ints b))],.box [.fv (.bool t)]] := by
 generalize hp : (fun x => decide (x ∈ b) != t) = p
 have hfi : zs.findIdx p ≤ zs.length := List.findIdx_le_length
 refine ok_start (k := 17) (n0 := 3) (rs := [.tmp 4]) mix Try.func63 rfl rfl rfl rfl rfl rfl rfl ?_
 simp -implicitDefEqProofs only [evx,evy,ofValue,ofCell,List.range,List.range.loop,Array.size,Nat.reduceAdd,Nat.reduceSub,Nat.reduceEqDiff,List.replicate,if_true,if_false,↓reduceIte,reduceCtorEq,elB,evParts,Int.reduceToNat,Int.reduceLE,Int.reduceLT,Int.reduceEq,Nat.reduceMul,Nat.reduceLeDiff,Nat.reduceLT,ty3,ty4,ty24,ty70,ty25]
 refine loop_rule (fun i : Nat => ⟨[.ref 0 1 0 zs.length,.func 49 [.ptr 1 0 0 0,.ptr 2 0 0 0],.any,.any,.any,.any,.any,.fv (.int .i64 zs.length),.fv (.int .i64 i),.any,.any,.any,.any,.any,.any,.any,.any,.any,.any],[.plain 1 (ints (zs ++ us)),.box [.fv (.lst 1 (ints b))],.box [.fv (.bool t)]],[]⟩)
  (fun i => i ≤ zs.findIdx p) (fun i => zs.length - i) 0 (le_wk (by simp [wk])) (by simp) (fun i hi s hrk => ?_)
 by_cases hiz : i < zs.length
 ·have hc : ((i : Int) < (zs.length : Int)) = True := by simp; omega
  have hr := ints_get_app zs us i hiz
  have hw : IntKind.wrap .i64 ((i : Int) + 1) = ((i + 1 : Nat) : Int) := wrap_small (by omega) (by omega)
  simp -implicitDefEqProofs only [hc,hr,
  evx,evy,ofValue,ofCell,List.range,List.range.loop,Array.size,Nat.reduceAdd,Nat.reduceSub,Nat.reduceEqDiff,List.replicate,if_true,if_false,↓reduceIte,reduceCtorEq,elB,evParts,Int.reduceToNat,Int.reduceLE,Int.reduceLT,Int.reduceEq,Nat.reduceMul,Nat.reduceLeDiff,Nat.reduceLT,ty3,ty4,ty24,ty70,ty25]
  refine callK_ret _ _ _ _ (call_lent [1,2] (ok49 b t zs[i] hb hs) rfl rfl (by simp) (by simp [Blk.live])) (ok_none _ _) ?_
  have hpi : (decide (zs[i] ∈ b) != t) = p zs[i] := by rw [← hp]
  by_cases he : i = zs.findIdx p
  ·have hpt : p zs[i] = true := by
    subst he
    exact List.findIdx_getElem
   rw [if_pos (by omega),← he]
   rw [hpi,hpt]
   simp -implicitDefEqProofs only [subAny,subA,subL,backSub,back,putBack,subBlk,Option.getD_some,List.map_cons,List.map_nil,Nat.not_lt_zero,Nat.sub_zero,Nat.add_zero,List.length_map,
  evx,evy,ofValue,ofCell,List.range,List.range.loop,Array.size,Nat.reduceAdd,Nat.reduceSub,Nat.reduceEqDiff,List.replicate,if_true,if_false,↓reduceIte,reduceCtorEq,elB,evParts,Int.reduceToNat,Int.reduceLE,Int.reduceLT,Int.reduceEq,Nat.reduceMul,Nat.reduceLeDiff,Nat.reduceLT,ty3,ty4,ty24,ty70,ty25]
   exact Le.refl _ _
  ·have hpf : p zs[i] = false := by
    have := List.not_of_lt_findIdx (p := p) (xs := zs) (i := i) (by omega)
    simpa using this
   rw [hpi,hpf]
   simp -implicitDefEqProofs only [subAny,subA,subL,backSub,back,putBack,subBlk,Option.getD_some,List.map_cons,List.map_nil,Nat.not_lt_zero,Nat.sub_zero,Nat.add_zero,List.length_map,hw,
  evx,evy,ofValue,ofCell,List.range,List.range.loop,Array.size,Nat.reduceAdd,Nat.reduceSub,Nat.reduceEqDiff,List.replicate,if_true,if_false,↓reduceIte,reduceCtorEq,elB,evParts,Int.reduceToNat,Int.reduceLE,Int.reduceLT,Int.reduceEq,Nat.reduceMul,Nat.reduceLeDiff,Nat.reduceLT,ty3,ty4,ty24,ty70,ty25]
   exact back_intro hrk (i + 1) (le_wk (by simp [wk])) (by omega) (by omega)
 ·have hc : ((i : Int) < (zs.length : Int)) = False := by simp; omega
  have hif : ¬ zs.findIdx p < zs.length := by omega
  rw [if_neg hif]
  simp -implicitDefEqProofs only [hc,
  evx,evy,ofValue,ofCell,List.range,List.range.loop,Array.size,Nat.reduceAdd,Nat.reduceSub,Nat.reduceEqDiff,List.replicate,if_true,if_false,↓reduceIte,reduceCtorEq,elB,evParts,Int.reduceToNat,Int.reduceLE,Int.reduceLT,Int.reduceEq,Nat.reduceMul,Nat.reduceLeDiff,Nat.reduceLT,ty3,ty4,ty24,ty70,ty25]
  exact Le.refl _ _
theorem ok48 (b : List Int) (t : Bool) (zs us : List Int) (hb : b.length < 1048576) (hs : b.Pairwise (· < ·)) (hz : zs.length < 1048576) :
  Ok Try.prog 48 [.ref 0 1 0 zs.length,.func 49 [.ptr 1 0 0 0,.ptr 2 0 0 0]] [.plain 1 (ints (zs ++ us)),.box [.fv (.lst 1 (ints b))],.box [.fv (.bool t)]]
   (.ret (.ref 0 1 0 (zs.filter (fun x => decide (x ∈ b) == t)).length))
   [.plain 1 (ints (zs.filter (fun x => decide (x ∈ b) == t) ++ List.replicate (zs.length - (zs.filter (fun x => decide (x ∈ b) == t)).length) 0 ++ us)),.box [.fv (.lst 1 (ints b))],.box [.fv (.bool t)]] := by
 have h53 := ok63 b t zs us hb hs hz
 generalize hp : (fun x => decide (x ∈ b) != t) = p at h53
 have hq : (fun x => decide (x ∈ b) == t) = fun x => !p x := by
  funext x; rw [← hp]; simp [bne]
 rw [hq]
 have hfi : zs.findIdx p ≤ zs.length := List.findIdx_le_length
 refine ok_start (k := 40) (n0 := 3) (rs := [.tmp 4]) mix Try.func48 rfl rfl rfl rfl rfl rfl rfl ?_
 simp -implicitDefEqProofs only [evx,evy,ofValue,ofCell,List.range,List.range.loop,Array.size,Nat.reduceAdd,Nat.reduceSub,Nat.reduceEqDiff,List.replicate,if_true,if_false,↓reduceIte,reduceCtorEq,elB,evParts,Int.reduceToNat,Int.reduceLE,Int.reduceLT,Int.reduceEq,Nat.reduceMul,Nat.reduceLeDiff,Nat.reduceLT,ty3,ty4,ty24,ty70,ty25]
 refine callK_ret _ _ _ _ (call_lent [0,1,2] h53 rfl rfl (by simp) (by simp [Blk.live])) (ok_none _ _) ?_
 have hpre : ∀ n,n ≤ zs.findIdx p → (zs.take n).filter (fun x => !p x) = zs.take n := fun n hn => by
  rw [List.filter_eq_self]
  intro x hx
  obtain ⟨j,hj,e⟩ := List.getElem_of_mem hx
  rw [List.length_take] at hj
  rw [List.getElem_take] at e
  have := List.not_of_lt_findIdx (p := p) (xs := zs) (i := j) (by omega)
  rw [← e]
  simpa using this
 by_cases hall : zs.findIdx p < zs.length
 ·rw [if_pos hall]
  generalize hk : zs.findIdx p = k at *
  have hw : IntKind.wrap .i64 ((k : Int) + 1) = ((k + 1 : Nat) : Int) := wrap_small (by omega) (by omega)
  have hne : ((k : Int) = -1) = False := by simp
  have hpk : p zs[k] = true := by
   subst hk
   exact List.findIdx_getElem
  simp -implicitDefEqProofs only [subAny,subA,subL,backSub,back,putBack,subBlk,Option.getD_some,List.map_cons,List.map_nil,Nat.not_lt_zero,Nat.sub_zero,Nat.add_zero,List.length_map,hne,hw,
  evx,evy,ofValue,ofCell,List.range,List.range.loop,Array.size,Nat.reduceAdd,Nat.reduceSub,Nat.reduceEqDiff,List.replicate,if_true,if_false,↓reduceIte,reduceCtorEq,elB,evParts,Int.reduceToNat,Int.reduceLE,Int.reduceLT,Int.reduceEq,Nat.reduceMul,Nat.reduceLeDiff,Nat.reduceLT,ty3,ty4,ty24,ty70,ty25]
  refine loop_rule (fun s : Nat × Nat × List Int => ⟨[.ref 0 1 0 zs.length,.func 49 [.ptr 1 0 0 0,.ptr 2 0 0 0],.any,.any,.any,.fv (.int .i64 s.1),.fv (.int .i64 s.2.1),.any,.any,.any,.any,.any,.any,.any,.any,.any,.any,.any,.any,.any,.any,.any,.any,.any,.any,.any,.any,.any,.any,.any,.any,.any,.any,.any,.any,.any,.any,.any,.any,.any,.any,.any],[.plain 1 (ints s.2.2),.box [.fv (.lst 1 (ints b))],.box [.fv (.bool t)]],[]⟩)
   (fun s => s.1 < s.2.1 ∧ s.2.1 ≤ zs.length ∧ s.2.2.length = zs.length + us.length ∧ s.2.2.take s.1 = (zs.take s.2.1).filter (fun x => !p x) ∧ s.2.2.drop s.2.1 = (zs ++ us).drop s.2.1) (fun s => zs.length - s.2.1)
   (k,k + 1,zs ++ us) (le_wk (by simp [wk])) ?_ (fun s hinv s2 hrk => ?_)
  ·refine ⟨by simp,by simp only; omega,by simp,?_,rfl⟩
   simp only
   rw [List.take_append_of_le_length (by omega),List.take_succ_eq_append_getElem hall,List.filter_append,hpre k (Nat.le_refl _)]
   simp [hpk]
  obtain ⟨i,j,cur⟩ := s
  obtain ⟨h1,h2,h3,h4,h5⟩ := hinv
  simp only at h1 h2 h3 h4 h5 hrk ⊢
  have h3' : cur.length = zs.length + us.length := h3
  by_cases hj : j < zs.length
  ·have hc : ((j : Int) < (zs.length : Int)) = True := by simp; omega
   have hcj : cur[j]? = some zs[j] := by
    have e := congrArg (fun l => l[0]?) h5
    simp only [List.getElem?_drop,Nat.add_zero] at e
    rw [e,List.getElem?_append_left hj]; simp [hj]
   have hr : (ints cur)[j]? = some [.int .i64 zs[j]] := by simp [ints,hcj]
   have hwj : IntKind.wrap .i64 ((j : Int) + 1) = ((j + 1 : Nat) : Int) := wrap_small (by omega) (by omega)
   have hwi : IntKind.wrap .i64 ((i : Int) + 1) = ((i + 1 : Nat) : Int) := wrap_small (by omega) (by omega)
   simp -implicitDefEqProofs only [hc,hr,
  evx,evy,ofValue,ofCell,List.range,List.range.loop,Array.size,Nat.reduceAdd,Nat.reduceSub,Nat.reduceEqDiff,List.replicate,if_true,if_false,↓reduceIte,reduceCtorEq,elB,evParts,Int.reduceToNat,Int.reduceLE,Int.reduceLT,Int.reduceEq,Nat.reduceMul,Nat.reduceLeDiff,Nat.reduceLT,ty3,ty4,ty24,ty70,ty25]
   refine callK_ret _ _ _ _ (call_lent [1,2] (ok49 b t zs[j] hb hs) rfl rfl (by simp) (by simp [Blk.live])) (ok_none _ _) ?_
   have hpi : (decide (zs[j] ∈ b) != t) = p zs[j] := by rw [← hp]
   rw [hpi]
   have ht := List.take_succ_eq_append_getElem hj
   have hd : ∀ c : List Int,c.drop j = (zs ++ us).drop j → c.drop (j + 1) = (zs ++ us).drop (j + 1) := fun c e => by
    have := congrArg (List.drop 1) e
    simpa [List.drop_drop,Nat.add_comm] using this
   cases hpj : p zs[j] with
   | true =>
    simp -implicitDefEqProofs only [subAny,subA,subL,backSub,back,putBack,subBlk,Option.getD_some,List.map_cons,List.map_nil,Nat.not_lt_zero,Nat.sub_zero,Nat.add_zero,List.length_map,hwj,
  evx,evy,ofValue,ofCell,List.range,List.range.loop,Array.size,Nat.reduceAdd,Nat.reduceSub,Nat.reduceEqDiff,List.replicate,if_true,if_false,↓reduceIte,reduceCtorEq,elB,evParts,Int.reduceToNat,Int.reduceLE,Int.reduceLT,Int.reduceEq,Nat.reduceMul,Nat.reduceLeDiff,Nat.reduceLT,ty3,ty4,ty24,ty70,ty25]
    refine back_intro hrk (i,j + 1,cur) (le_wk (by simp [wk])) ⟨by simp only; omega,by simp only; omega,h3',?_,hd cur h5⟩ (by simp only; omega)
    simp only [ht,List.filter_append,h4]
    simp [hpj]
   | false =>
    have hci : ((i : Int) < (zs.length : Int)) = True := by simp; omega
    have hri : ∃ y,(ints cur)[i]? = some [.int .i64 y] := ⟨cur[i]'(by omega),ints_get cur i (by omega)⟩
    obtain ⟨y,hri⟩ := hri
    simp -implicitDefEqProofs only [subAny,subA,subL,backSub,back,putBack,subBlk,Option.getD_some,List.map_cons,List.map_nil,Nat.not_lt_zero,Nat.sub_zero,Nat.add_zero,List.length_map,hci,hri,hwi,hwj,List.set_cons_zero,
  evx,evy,ofValue,ofCell,List.range,List.range.loop,Array.size,Nat.reduceAdd,Nat.reduceSub,Nat.reduceEqDiff,List.replicate,if_true,if_false,↓reduceIte,reduceCtorEq,elB,evParts,Int.reduceToNat,Int.reduceLE,Int.reduceLT,Int.reduceEq,Nat.reduceMul,Nat.reduceLeDiff,Nat.reduceLT,ty3,ty4,ty24,ty70,ty25]
    have hset : (ints cur).set i [.int .i64 zs[j]] = ints (cur.set i zs[j]) := by simp [ints,List.map_set]
    rw [hset]
    refine back_intro hrk (i + 1,j + 1,cur.set i zs[j]) (le_wk (by simp [wk])) ⟨by simp only; omega,by simp only; omega,by simp only [List.length_set]; exact h3',?_,?_⟩ (by simp only; omega)
    ·simp only
     rw [ht,List.filter_append,← h4,List.take_succ_eq_append_getElem (by simp; omega),List.take_set_of_le (by omega)]
     simp [hpj]
    ·simp only
     rw [List.drop_set_of_lt (by omega)]
     exact hd cur h5
  ·have hc : ((j : Int) < (zs.length : Int)) = False := by simp; omega
   have hjz : j = zs.length := by omega
   subst hjz
   rw [List.take_length] at h4
   have hil : i = (zs.filter (fun x => !p x)).length := by rw [← h4,List.length_take]; omega
   have hcle : (i ≤ zs.length) = True := by simp; omega
   have hus : cur.drop zs.length = us := by rw [h5]; simp
   have hsp : splice (ints cur) i (List.replicate (zs.length - i) [.int .i64 0]) = some (ints (zs.filter (fun x => !p x) ++ List.replicate (zs.length - i) 0 ++ us)) := by
    simp only [splice]
    rw [if_pos (by rw [ints_length,List.length_replicate]; omega),List.length_replicate,show i + (zs.length - i) = zs.length from by omega]
    rw [← h4]
    simp only [ints,← List.map_take,← List.map_drop,hus,List.map_append,List.map_replicate]
   have hn1 : (0 : Nat) < 1 := by omega
   simp -implicitDefEqProofs only [hc,hcle,hsp,Nat.le_refl,Nat.zero_le,hn1,Nat.sub_zero,List.length_cons,List.length_nil,
  evx,evy,ofValue,ofCell,List.range,List.range.loop,Array.size,Nat.reduceAdd,Nat.reduceSub,Nat.reduceEqDiff,List.replicate,if_true,if_false,↓reduceIte,reduceCtorEq,elB,evParts,Int.reduceToNat,Int.reduceLE,Int.reduceLT,Int.reduceEq,Nat.reduceMul,Nat.reduceLeDiff,Nat.reduceLT,ty3,ty4,ty24,ty70,ty25]
   rw [← hil]
   exact Le.refl _ _
 ·rw [if_neg hall]
  have hfe : zs.findIdx p = zs.length := by omega
  have hfz := hpre zs.length (by omega)
  rw [List.take_length] at hfz
  have hne : ((-1 : Int) = -1) = True := by simp
  simp -implicitDefEqProofs only [subAny,subA,subL,backSub,back,putBack,subBlk,Option.getD_some,List.map_cons,List.map_nil,Nat.not_lt_zero,Nat.sub_zero,Nat.add_zero,List.length_map,hne,
  evx,evy,ofValue,ofCell,List.range,List.range.loop,Array.size,Nat.reduceAdd,Nat.reduceSub,Nat.reduceEqDiff,List.replicate,if_true,if_false,↓reduceIte,reduceCtorEq,elB,evParts,Int.reduceToNat,Int.reduceLE,Int.reduceLT,Int.reduceEq,Nat.reduceMul,Nat.reduceLeDiff,Nat.reduceLT,ty3,ty4,ty24,ty70,ty25]
  rw [hfz,Nat.sub_self,List.replicate_zero,List.append_nil]
  exact Le.refl _ _
theorem ok15_r (zs : List Int) (hlen : zs.length < 1048576) : ∃ us,Ok Try.prog 15 [.fv (.lst 1 (ints zs))] [] (.ret (.ref 0 1 0 (setOf zs).length)) [.plain 1 (ints (setOf zs ++ us))] := by
 refine ⟨List.replicate ((sorted zs).length - (Lib.compact (sorted zs)).length) 0,?_⟩
 refine ok_start (k := 9) (n0 := 0) (rs := [.tmp 2]) mix Try.func15 rfl rfl rfl rfl rfl rfl rfl ?_
 simp -implicitDefEqProofs only [awp_seq,awp_skip,awp_ret,awp_exit,awp_label,awp_block,awp_cond,awp_reg,awp_loop,thenC_normal,thenC_ret,thenC_exit,thenC_pan,then_normal,then_ret,then_exit,then_pan,inBlock_normal,inBlock_ret,inBlock_pan,inBlock_exit,condK_bool,condK_any,
  nxt_nil,nxt_dnil,nxt_at,nxt_draw,nxt_quiet,stepAt_plain,stepQ_plain,stepAt_guard,stepQ_guard,guardK_yes,guardK_no,guardQ_yes,guardQ_no,gval_eq,gvO_some,gv_bool,gv_undef,putK_some,readK_at,readK_no,effK_some,ok_none,ok_nil,true_and,pickK_some,pickK_any,put_some,put_none,
  bin2_some,map1_some,ia2_some,opK_move,opK_assign,opK_bin,opK_un,opK_convert,opK_idxAddr,opK_idx,quK_move,quK_assign,quK_bin,quK_un,quK_convert,quK_idxAddr,quK_idx,opK_len,quK_len,opK_load,quK_load,ld1_some,opK_pick,quK_pick,opK_call,call2_some,opK_buildSlice,opK_slice,quK_slice,opK_fad,quK_fad,opK_fld,quK_fld,opK_ext,quK_ext,ext_tuple,opK_nck,quK_nck,opK_mki,quK_mki,opK_mkf,quK_mkf,opK_panic,panK_iface,Option.map_none,opK_append,opK_cap,opK_clear,opK_store,opK_box,opK_alloc,opK_makeSlice,eff_append_eq,eff_store_eq,evs_nil,evs_cons,cons2_some,
  ev_tmp,ev_const,ev_func,ofValue,ofCell,Option.map_some,bin_add,bin_sub,bin_mul,bin_eql,bin_neq,bin_lss,bin_leq,bin_gtr,bin_geq,un_not,un_neg,
  List.range,List.range.loop,Array.size,List.length_cons,List.length_nil,List.size_toArray,Nat.reduceAdd,Nat.reduceSub,Nat.reduceEqDiff,Nat.zero_add,List.getElem?_toArray,List.getElem?_cons_zero,List.getElem?_cons_succ,List.replicate,List.cons_append,List.nil_append,List.append_nil,List.set_cons_zero,List.set_cons_succ,List.getD_cons_zero,List.getD_cons_succ,
  retR_ret,retR_normal,retR_pan,resAs_nil,resAs_cons,resA_tmp,resA_cell,fin_one,fin_none,fin_two,
  decide_eq_true_eq,decide_not,Bool.not_eq_true',Bool.false_eq_true,Bool.true_eq_false,ne_eq,not_true_eq_false,not_false_eq_true,if_true,if_false,decide_true,decide_false,Bool.not_true,Bool.not_false,eq_self,↓reduceIte,reduceCtorEq]
 refine callK_ret _ _ _ _ (call_lent [] (ok33 zs hlen) rfl rfl (by simp) (by simp)) (ok_nil _ _) ?_
 simp -implicitDefEqProofs only [subAny,subA,subL,backSub,back,putBack,subBlk,Option.getD_some,List.map_cons,List.map_nil,Nat.not_lt_zero,Nat.sub_zero,Nat.add_zero,List.length_map,
  awp_seq,awp_skip,awp_ret,awp_exit,awp_label,awp_block,awp_cond,awp_reg,awp_loop,thenC_normal,thenC_ret,thenC_exit,thenC_pan,then_normal,then_ret,then_exit,then_pan,inBlock_normal,inBlock_ret,inBlock_pan,inBlock_exit,condK_bool,condK_any,
  nxt_nil,nxt_dnil,nxt_at,nxt_draw,nxt_quiet,stepAt_plain,stepQ_plain,stepAt_guard,stepQ_guard,guardK_yes,guardK_no,guardQ_yes,guardQ_no,gval_eq,gvO_some,gv_bool,gv_undef,putK_some,readK_at,readK_no,effK_some,ok_none,ok_nil,true_and,pickK_some,pickK_any,put_some,put_none,
  bin2_some,map1_some,ia2_some,opK_move,opK_assign,opK_bin,opK_un,opK_convert,opK_idxAddr,opK_idx,quK_move,quK_assign,quK_bin,quK_un,quK_convert,quK_idxAddr,quK_idx,opK_len,quK_len,opK_load,quK_load,ld1_some,opK_pick,quK_pick,opK_call,call2_some,opK_buildSlice,opK_slice,quK_slice,opK_fad,quK_fad,opK_fld,quK_fld,opK_ext,quK_ext,ext_tuple,opK_nck,quK_nck,opK_mki,quK_mki,opK_mkf,quK_mkf,opK_panic,panK_iface,Option.map_none,opK_append,opK_cap,opK_clear,opK_store,opK_box,opK_alloc,opK_makeSlice,eff_append_eq,eff_store_eq,evs_nil,evs_cons,cons2_some,
  ev_tmp,ev_const,ev_func,ofValue,ofCell,Option.map_some,bin_add,bin_sub,bin_mul,bin_eql,bin_neq,bin_lss,bin_leq,bin_gtr,bin_geq,un_not,un_neg,
  List.range,List.range.loop,Array.size,List.length_cons,List.length_nil,List.size_toArray,Nat.reduceAdd,Nat.reduceSub,Nat.reduceEqDiff,Nat.zero_add,List.getElem?_toArray,List.getElem?_cons_zero,List.getElem?_cons_succ,List.replicate,List.cons_append,List.nil_append,List.append_nil,List.set_cons_zero,List.set_cons_succ,List.getD_cons_zero,List.getD_cons_succ,
  retR_ret,retR_normal,retR_pan,resAs_nil,resAs_cons,resA_tmp,resA_cell,fin_one,fin_none,fin_two,
  decide_eq_true_eq,decide_not,Bool.not_eq_true',Bool.false_eq_true,Bool.true_eq_false,ne_eq,not_true_eq_false,not_false_eq_true,if_true,if_false,decide_true,decide_false,Bool.not_true,Bool.not_false,eq_self,↓reduceIte,reduceCtorEq]
 refine callK_ret _ _ _ _ (call_lent [0] (ok34 zs hlen) rfl rfl (by simp) (by simp [Blk.live])) (ok_none _ _) ?_
 simp -implicitDefEqProofs only [subAny,subA,subL,backSub,back,putBack,subBlk,Option.getD_some,List.map_cons,List.map_nil,Nat.not_lt_zero,Nat.sub_zero,Nat.add_zero,List.length_map,
  awp_seq,awp_skip,awp_ret,awp_exit,awp_label,awp_block,awp_cond,awp_reg,awp_loop,thenC_normal,thenC_ret,thenC_exit,thenC_pan,then_normal,then_ret,then_exit,then_pan,inBlock_normal,inBlock_ret,inBlock_pan,inBlock_exit,condK_bool,condK_any,
  nxt_nil,nxt_dnil,nxt_at,nxt_draw,nxt_quiet,stepAt_plain,stepQ_plain,stepAt_guard,stepQ_guard,guardK_yes,guardK_no,guardQ_yes,guardQ_no,gval_eq,gvO_some,gv_bool,gv_undef,putK_some,readK_at,readK_no,effK_some,ok_none,ok_nil,true_and,pickK_some,pickK_any,put_some,put_none,
  bin2_some,map1_some,ia2_some,opK_move,opK_assign,opK_bin,opK_un,opK_convert,opK_idxAddr,opK_idx,quK_move,quK_assign,quK_bin,quK_un,quK_convert,quK_idxAddr,quK_idx,opK_len,quK_len,opK_load,quK_load,ld1_some,opK_pick,quK_pick,opK_call,call2_some,opK_buildSlice,opK_slice,quK_slice,opK_fad,quK_fad,opK_fld,quK_fld,opK_ext,quK_ext,ext_tuple,opK_nck,quK_nck,opK_mki,quK_mki,opK_mkf,quK_mkf,opK_panic,panK_iface,Option.map_none,opK_append,opK_cap,opK_clear,opK_store,opK_box,opK_alloc,opK_makeSlice,eff_append_eq,eff_store_eq,evs_nil,evs_cons,cons2_some,
  ev_tmp,ev_const,ev_func,ofValue,ofCell,Option.map_some,bin_add,bin_sub,bin_mul,bin_eql,bin_neq,bin_lss,bin_leq,bin_gtr,bin_geq,un_not,un_neg,
  List.range,List.range.loop,Array.size,List.length_cons,List.length_nil,List.size_toArray,Nat.reduceAdd,Nat.reduceSub,Nat.reduceEqDiff,Nat.zero_add,List.getElem?_toArray,List.getElem?_cons_zero,List.getElem?_cons_succ,List.replicate,List.cons_append,List.nil_append,List.append_nil,List.set_cons_zero,List.set_cons_succ,List.getD_cons_zero,List.getD_cons_succ,
  retR_ret,retR_normal,retR_pan,resAs_nil,resAs_cons,resA_tmp,resA_cell,fin_one,fin_none,fin_two,
  decide_eq_true_eq,decide_not,Bool.not_eq_true',Bool.false_eq_true,Bool.true_eq_false,ne_eq,not_true_eq_false,not_false_eq_true,if_true,if_false,decide_true,decide_false,Bool.not_true,Bool.not_false,eq_self,↓reduceIte,reduceCtorEq]
 refine callK_ret _ _ _ _ (call_lent [0] (ok35s zs hlen) rfl rfl (by simp) (by simp [Blk.live])) (ok_none _ _) ?_
 simp -implicitDefEqProofs only [subAny,subA,subL,backSub,back,putBack,subBlk,Option.getD_some,List.map_cons,List.map_nil,Nat.not_lt_zero,Nat.sub_zero,Nat.add_zero,List.length_map,
  awp_seq,awp_skip,awp_ret,awp_exit,awp_label,awp_block,awp_cond,awp_reg,awp_loop,thenC_normal,thenC_ret,thenC_exit,thenC_pan,then_normal,then_ret,then_exit,then_pan,inBlock_normal,inBlock_ret,inBlock_pan,inBlock_exit,condK_bool,condK_any,
  nxt_nil,nxt_dnil,nxt_at,nxt_draw,nxt_quiet,stepAt_plain,stepQ_plain,stepAt_guard,stepQ_guard,guardK_yes,guardK_no,guardQ_yes,guardQ_no,gval_eq,gvO_some,gv_bool,gv_undef,putK_some,readK_at,readK_no,effK_some,ok_none,ok_nil,true_and,pickK_some,pickK_any,put_some,put_none,
  bin2_some,map1_some,ia2_some,opK_move,opK_assign,opK_bin,opK_un,opK_convert,opK_idxAddr,opK_idx,quK_move,quK_assign,quK_bin,quK_un,quK_convert,quK_idxAddr,quK_idx,opK_len,quK_len,opK_load,quK_load,ld1_some,opK_pick,quK_pick,opK_call,call2_some,opK_buildSlice,opK_slice,quK_slice,opK_fad,quK_fad,opK_fld,quK_fld,opK_ext,quK_ext,ext_tuple,opK_nck,quK_nck,opK_mki,quK_mki,opK_mkf,quK_mkf,opK_panic,panK_iface,Option.map_none,opK_append,opK_cap,opK_clear,opK_store,opK_box,opK_alloc,opK_makeSlice,eff_append_eq,eff_store_eq,evs_nil,evs_cons,cons2_some,
  ev_tmp,ev_const,ev_func,ofValue,ofCell,Option.map_some,bin_add,bin_sub,bin_mul,bin_eql,bin_neq,bin_lss,bin_leq,bin_gtr,bin_geq,un_not,un_neg,
  List.range,List.range.loop,Array.size,List.length_cons,List.length_nil,List.size_toArray,Nat.reduceAdd,Nat.reduceSub,Nat.reduceEqDiff,Nat.zero_add,List.getElem?_toArray,List.getElem?_cons_zero,List.getElem?_cons_succ,List.replicate,List.cons_append,List.nil_append,List.append_nil,List.set_cons_zero,List.set_cons_succ,List.getD_cons_zero,List.getD_cons_succ,
  retR_ret,retR_normal,retR_pan,resAs_nil,resAs_cons,resA_tmp,resA_cell,fin_one,fin_none,fin_two,
  decide_eq_true_eq,decide_not,Bool.not_eq_true',Bool.false_eq_true,Bool.true_eq_false,ne_eq,not_true_eq_false,not_false_eq_true,if_true,if_false,decide_true,decide_false,Bool.not_true,Bool.not_false,eq_self,↓reduceIte,reduceCtorEq]
 exact Le.refl _ _
theorem bsl2 (hp : List Blk) (x y : FV) : bsK ⟨.slice 3,1,24,some [.nils]⟩ [.nils] 2 hp (some [(0,.fv x),(1,.fv y)]) = some (.ref hp.length 1 0 2,hp ++ [.plain 1 [[x],[y]]],[]) := by
 simp [bsK,fillA,flatN,toFs,chunk,splice,cellsA]
theorem ok14 (a b : List Int) (ha : a.length < 262144) (hb : b.length < 262144) : Ok Try.prog 14 [.fv (.lst 1 (ints a)),.fv (.lst 1 (ints b))] [] (.ret (.fv (.lst 1 (ints (setOf (a ++ b)))))) [] := by
 refine ok_start (k := 8) (n0 := 0) (rs := [.tmp 4]) mix Try.func14 rfl rfl rfl rfl rfl rfl rfl ?_
 simp -implicitDefEqProofs only [eff_bs _ ty25 rfl ty24 rfl 2 (by simp),evParts,bsl2,
  awp_seq,awp_skip,awp_ret,awp_exit,awp_label,awp_block,awp_cond,awp_reg,awp_loop,thenC_normal,thenC_ret,thenC_exit,thenC_pan,then_normal,then_ret,then_exit,then_pan,inBlock_normal,inBlock_ret,inBlock_pan,inBlock_exit,condK_bool,condK_any,
  nxt_nil,nxt_dnil,nxt_at,nxt_draw,nxt_quiet,stepAt_plain,stepQ_plain,stepAt_guard,stepQ_guard,guardK_yes,guardK_no,guardQ_yes,guardQ_no,gval_eq,gvO_some,gv_bool,gv_undef,putK_some,readK_at,readK_no,effK_some,ok_none,ok_nil,true_and,pickK_some,pickK_any,put_some,put_none,
  bin2_some,map1_some,ia2_some,opK_move,opK_assign,opK_bin,opK_un,opK_convert,opK_idxAddr,opK_idx,quK_move,quK_assign,quK_bin,quK_un,quK_convert,quK_idxAddr,quK_idx,opK_len,quK_len,opK_load,quK_load,ld1_some,opK_pick,quK_pick,opK_call,call2_some,opK_buildSlice,opK_slice,quK_slice,opK_fad,quK_fad,opK_fld,quK_fld,opK_ext,quK_ext,ext_tuple,opK_nck,quK_nck,opK_mki,quK_mki,opK_mkf,quK_mkf,opK_panic,panK_iface,Option.map_none,opK_append,opK_cap,opK_clear,opK_store,opK_box,opK_alloc,opK_makeSlice,eff_append_eq,eff_store_eq,evs_nil,evs_cons,cons2_some,
  ev_tmp,ev_const,ev_func,ofValue,ofCell,Option.map_some,bin_add,bin_sub,bin_mul,bin_eql,bin_neq,bin_lss,bin_leq,bin_gtr,bin_geq,un_not,un_neg,
  List.range,List.range.loop,Array.size,List.length_cons,List.length_nil,List.size_toArray,Nat.reduceAdd,Nat.reduceSub,Nat.reduceEqDiff,Nat.zero_add,List.getElem?_toArray,List.getElem?_cons_zero,List.getElem?_cons_succ,List.replicate,List.cons_append,List.nil_append,List.append_nil,List.set_cons_zero,List.set_cons_succ,List.getD_cons_zero,List.getD_cons_succ,
  retR_ret,retR_normal,retR_pan,resAs_nil,resAs_cons,resA_tmp,resA_cell,fin_one,fin_none,fin_two,
  decide_eq_true_eq,decide_not,Bool.not_eq_true',Bool.false_eq_true,Bool.true_eq_false,ne_eq,not_true_eq_false,not_false_eq_true,if_true,if_false,decide_true,decide_false,Bool.not_true,Bool.not_false,eq_self,↓reduceIte,reduceCtorEq]
 refine callK_ret _ _ _ _ (call_freeze [0] (by simp) rfl rfl (call_lent [] (ok32 [a,b] (by simp) (by simp [total]; omega)) rfl rfl (by simp) (by simp)) [0] (by simp) (by simp) (by intro i hi hl; simp at hi hl; omega)) (ok_none _ _) ?_
 simp -implicitDefEqProofs only [subAny,subA,subL,backSub,back,putBack,subBlk,Option.getD_some,List.map_cons,List.map_nil,Nat.not_lt_zero,Nat.sub_zero,Nat.add_zero,List.length_map,freezeSt,frzSub,killAll,List.contains_cons,List.contains_nil,Bool.or_false,beq_self_eq_true,
  awp_seq,awp_skip,awp_ret,awp_exit,awp_label,awp_block,awp_cond,awp_reg,awp_loop,thenC_normal,thenC_ret,thenC_exit,thenC_pan,then_normal,then_ret,then_exit,then_pan,inBlock_normal,inBlock_ret,inBlock_pan,inBlock_exit,condK_bool,condK_any,
  nxt_nil,nxt_dnil,nxt_at,nxt_draw,nxt_quiet,stepAt_plain,stepQ_plain,stepAt_guard,stepQ_guard,guardK_yes,guardK_no,guardQ_yes,guardQ_no,gval_eq,gvO_some,gv_bool,gv_undef,putK_some,readK_at,readK_no,effK_some,ok_none,ok_nil,true_and,pickK_some,pickK_any,put_some,put_none,
  bin2_some,map1_some,ia2_some,opK_move,opK_assign,opK_bin,opK_un,opK_convert,opK_idxAddr,opK_idx,quK_move,quK_assign,quK_bin,quK_un,quK_convert,quK_idxAddr,quK_idx,opK_len,quK_len,opK_load,quK_load,ld1_some,opK_pick,quK_pick,opK_call,call2_some,opK_buildSlice,opK_slice,quK_slice,opK_fad,quK_fad,opK_fld,quK_fld,opK_ext,quK_ext,ext_tuple,opK_nck,quK_nck,opK_mki,quK_mki,opK_mkf,quK_mkf,opK_panic,panK_iface,Option.map_none,opK_append,opK_cap,opK_clear,opK_store,opK_box,opK_alloc,opK_makeSlice,eff_append_eq,eff_store_eq,evs_nil,evs_cons,cons2_some,
  ev_tmp,ev_const,ev_func,ofValue,ofCell,Option.map_some,bin_add,bin_sub,bin_mul,bin_eql,bin_neq,bin_lss,bin_leq,bin_gtr,bin_geq,un_not,un_neg,
  List.range,List.range.loop,Array.size,List.length_cons,List.length_nil,List.size_toArray,Nat.reduceAdd,Nat.reduceSub,Nat.reduceEqDiff,Nat.zero_add,List.getElem?_toArray,List.getElem?_cons_zero,List.getElem?_cons_succ,List.replicate,List.cons_append,List.nil_append,List.append_nil,List.set_cons_zero,List.set_cons_succ,List.getD_cons_zero,List.getD_cons_succ,
  retR_ret,retR_normal,retR_pan,resAs_nil,resAs_cons,resA_tmp,resA_cell,fin_one,fin_none,fin_two,
  decide_eq_true_eq,decide_not,Bool.not_eq_true',Bool.false_eq_true,Bool.true_eq_false,ne_eq,not_true_eq_false,not_false_eq_true,if_true,if_false,decide_true,decide_false,Bool.not_true,Bool.not_false,eq_self,↓reduceIte,reduceCtorEq]
 have e : [a,b].flatten = a ++ b := by simp
 rw [e]
 refine callK_ret _ _ _ _ (call_freeze (args' := [.fv (.lst 1 (ints (a ++ b)))]) [1] (by simp) (by simp [subAny,subA,frzSub,ints_length,List.take_of_length_le]) rfl
  (call_pure (ok15 (a ++ b) (by simp; omega)) (fun _ => rfl) (fun _ => rfl)) [1] (by simp) (by simp) (fun i hi hl => by
   have : i = 0 := by simp at hi hl; omega
   subst this; rfl)) (ok_none _ _) ?_
 simp -implicitDefEqProofs only [subAny,subA,subL,backSub,back,putBack,subBlk,Option.getD_some,List.map_cons,List.map_nil,Nat.not_lt_zero,Nat.sub_zero,Nat.add_zero,List.length_map,freezeSt,
  awp_seq,awp_skip,awp_ret,awp_exit,awp_label,awp_block,awp_cond,awp_reg,awp_loop,thenC_normal,thenC_ret,thenC_exit,thenC_pan,then_normal,then_ret,then_exit,then_pan,inBlock_normal,inBlock_ret,inBlock_pan,inBlock_exit,condK_bool,condK_any,
  nxt_nil,nxt_dnil,nxt_at,nxt_draw,nxt_quiet,stepAt_plain,stepQ_plain,stepAt_guard,stepQ_guard,guardK_yes,guardK_no,guardQ_yes,guardQ_no,gval_eq,gvO_some,gv_bool,gv_undef,putK_some,readK_at,readK_no,effK_some,ok_none,ok_nil,true_and,pickK_some,pickK_any,put_some,put_none,
  bin2_some,map1_some,ia2_some,opK_move,opK_assign,opK_bin,opK_un,opK_convert,opK_idxAddr,opK_idx,quK_move,quK_assign,quK_bin,quK_un,quK_convert,quK_idxAddr,quK_idx,opK_len,quK_len,opK_load,quK_load,ld1_some,opK_pick,quK_pick,opK_call,call2_some,opK_buildSlice,opK_slice,quK_slice,opK_fad,quK_fad,opK_fld,quK_fld,opK_ext,quK_ext,ext_tuple,opK_nck,quK_nck,opK_mki,quK_mki,opK_mkf,quK_mkf,opK_panic,panK_iface,Option.map_none,opK_append,opK_cap,opK_clear,opK_store,opK_box,opK_alloc,opK_makeSlice,eff_append_eq,eff_store_eq,evs_nil,evs_cons,cons2_some,
  ev_tmp,ev_const,ev_func,ofValue,ofCell,Option.map_some,bin_add,bin_sub,bin_mul,bin_eql,bin_neq,bin_lss,bin_leq,bin_gtr,bin_geq,un_not,un_neg,
  List.range,List.range.loop,Array.size,List.length_cons,List.length_nil,List.size_toArray,Nat.reduceAdd,Nat.reduceSub,Nat.reduceEqDiff,Nat.zero_add,List.getElem?_toArray,List.getElem?_cons_zero,List.getElem?_cons_succ,List.replicate,List.cons_append,List.nil_append,List.append_nil,List.set_cons_zero,List.set_cons_succ,List.getD_cons_zero,List.getD_cons_succ,
  retR_ret,retR_normal,retR_pan,resAs_nil,resAs_cons,resA_tmp,resA_cell,fin_one,fin_none,fin_two,
  decide_eq_true_eq,decide_not,Bool.not_eq_true',Bool.false_eq_true,Bool.true_eq_false,ne_eq,not_true_eq_false,not_false_eq_true,if_true,if_false,decide_true,decide_false,Bool.not_true,Bool.not_false,eq_self,↓reduceIte,reduceCtorEq]
 exact le_to [] [] rfl (by simp) (by simp) (by simp) (by simp) rfl
theorem ok41 (a b : List Int) (t : Bool) (ha : a.length < 1048576) (hb : b.length < 1048576) :
  Ok Try.prog 41 [.fv (.lst 1 (ints a)),.fv (.lst 1 (ints b)),.fv (.bool t)] [] (.ret (.fv (.lst 1 (ints ((setOf a).filter (fun x => decide (x ∈ b) == t)))))) [] := by
 have hsa := setOf_length_le a
 have hsb := setOf_length_le b
 obtain ⟨us,h12⟩ := ok15_r a ha
 have hm : (fun x => decide (x ∈ b) == t) = fun x => decide (x ∈ setOf b) == t := by
  funext x; rw [decide_eq_decide.2 (mem_setOf b x)]
 rw [hm]
 have h38 := ok48 (setOf b) t (setOf a) us (by omega) (setOf_rises b) (by omega)
 refine ok_start (k := 10) (n0 := 0) (rs := [.tmp 6]) mix Try.func41 rfl rfl rfl rfl rfl rfl rfl ?_
 simp -implicitDefEqProofs only [evx,evy,ofValue,ofCell,List.range,List.range.loop,Array.size,Nat.reduceAdd,Nat.reduceSub,Nat.reduceEqDiff,List.replicate,if_true,if_false,↓reduceIte,reduceCtorEq,elB,evParts,Int.reduceToNat,Int.reduceLE,Int.reduceLT,Int.reduceEq,Nat.reduceMul,Nat.reduceLeDiff,Nat.reduceLT,ty3,ty4,ty24,ty70,ty25]
 refine callK_ret _ _ _ _ (call_pure (ok15 b hb) (fun _ => rfl) (fun _ => rfl)) (ok_nil _ _) ?_
 simp -implicitDefEqProofs only [evx,evy,ofValue,ofCell,List.range,List.range.loop,Array.size,Nat.reduceAdd,Nat.reduceSub,Nat.reduceEqDiff,List.replicate,if_true,if_false,↓reduceIte,reduceCtorEq,elB,evParts,Int.reduceToNat,Int.reduceLE,Int.reduceLT,Int.reduceEq,Nat.reduceMul,Nat.reduceLeDiff,Nat.reduceLT,ty3,ty4,ty24,ty70,ty25]
 refine callK_ret _ _ _ _ (call_lent [] h12 rfl rfl (by simp) (by simp)) (ok_nil _ _) ?_
 simp -implicitDefEqProofs only [subAny,subA,subL,backSub,back,putBack,subBlk,Option.getD_some,List.map_cons,List.map_nil,Nat.not_lt_zero,Nat.sub_zero,Nat.add_zero,List.length_map,
  evx,evy,ofValue,ofCell,List.range,List.range.loop,Array.size,Nat.reduceAdd,Nat.reduceSub,Nat.reduceEqDiff,List.replicate,if_true,if_false,↓reduceIte,reduceCtorEq,elB,evParts,Int.reduceToNat,Int.reduceLE,Int.reduceLT,Int.reduceEq,Nat.reduceMul,Nat.reduceLeDiff,Nat.reduceLT,ty3,ty4,ty24,ty70,ty25]
 refine callK_ret _ _ _ _ (call_lent [2,0,1] h38 rfl rfl (by simp) (by simp [Blk.live])) (ok_none _ _) ?_
 simp -implicitDefEqProofs only [subAny,subA,subL,backSub,back,putBack,subBlk,Option.getD_some,List.map_cons,List.map_nil,Nat.not_lt_zero,Nat.sub_zero,Nat.add_zero,List.length_map,
  evx,evy,ofValue,ofCell,List.range,List.range.loop,Array.size,Nat.reduceAdd,Nat.reduceSub,Nat.reduceEqDiff,List.replicate,if_true,if_false,↓reduceIte,reduceCtorEq,elB,evParts,Int.reduceToNat,Int.reduceLE,Int.reduceLT,Int.reduceEq,Nat.reduceMul,Nat.reduceLeDiff,Nat.reduceLT,ty3,ty4,ty24,ty70,ty25]
 refine le_lst (rows := ints ((setOf a).filter (fun x => decide (x ∈ setOf b) == t) ++ List.replicate ((setOf a).length - ((setOf a).filter (fun x => decide (x ∈ setOf b) == t)).length) 0 ++ us)) rfl (by simp [ints_length]) ?_
 rw [List.drop_zero,ints_take,List.append_assoc,List.take_left]
theorem ok27 (a b : List Int) (ha : a.length < 1048576) (hb : b.length < 1048576) :
  Ok Try.prog 27 [.fv (.lst 1 (ints a)),.fv (.lst 1 (ints b))] [] (.ret (.fv (.lst 1 (ints ((setOf a).filter (fun x => decide (x ∈ b))))))) [] := by
 have h := ok41 a b true ha hb
 simp only [beq_true] at h
 refine ok_start (k := 6) (n0 := 0) (rs := [.tmp 4]) mix Try.func27 rfl rfl rfl rfl rfl rfl rfl ?_
 simp -implicitDefEqProofs only [evx,evy,ofValue,ofCell,List.range,List.range.loop,Array.size,Nat.reduceAdd,Nat.reduceSub,Nat.reduceEqDiff,List.replicate,if_true,if_false,↓reduceIte,reduceCtorEq,elB,evParts,Int.reduceToNat,Int.reduceLE,Int.reduceLT,Int.reduceEq,Nat.reduceMul,Nat.reduceLeDiff,Nat.reduceLT,ty3,ty4,ty24,ty70,ty25]
 refine callK_ret _ _ _ _ (call_pure (h) (fun _ => rfl) (fun _ => rfl)) (ok_nil _ _) ?_
 simp -implicitDefEqProofs only [evx,evy,ofValue,ofCell,List.range,List.range.loop,Array.size,Nat.reduceAdd,Nat.reduceSub,Nat.reduceEqDiff,List.replicate,if_true,if_false,↓reduceIte,reduceCtorEq,elB,evParts,Int.reduceToNat,Int.reduceLE,Int.reduceLT,Int.reduceEq,Nat.reduceMul,Nat.reduceLeDiff,Nat.reduceLT,ty3,ty4,ty24,ty70,ty25]
 exact Le.refl _ _
end Go.Abs
/- Sets of bytes: whether one has a byte. -/
namespace Go.Abs
open Go.Proofs
set_option linter.unusedVariables false
set_option linter.unusedSimpArgs false
set_option maxRecDepth 100000
set_option maxHeartbeats 1000000
theorem wrap_u8 {n : Nat} (h : n < 256) : IntKind.wrap .u8 (n : Int) = n := by
 simp only [IntKind.wrap,IntKind.signed,IntKind.bits]
 simp
 omega
/-- A set as a value's cells. -/
def sc (p : Nat → Bool) : List AV := [.fv (.int .u64 (wd p 0)),.fv (.int .u64 (wd p 1)),.fv (.int .u64 (wd p 2)),.fv (.int .u64 (wd p 3))]
theorem sc_len (p : Nat → Bool) : (sc p).length = 4 := rfl
theorem sc_take (p : Nat → Bool) : (sc p).take 4 = sc p := rfl
theorem sc_ok (p : Nat → Bool) : (sc p).all okCell = true := rfl
theorem sc_get (p : Nat → Bool) (i : Nat) (h : i < 4) : (sc p)[i]? = some (.fv (.int .u64 (wd p i))) := by
 match i,h with
 | 0,_ => rfl
 | 1,_ => rfl
 | 2,_ => rfl
 | 3,_ => rfl
theorem sc_congr {p q : Nat → Bool} (h : ∀ b,b < 256 → p b = q b) : sc p = sc q := by
 simp only [sc]
 rw [wd_congr (p := p) (q := q) (i := 0) fun j hj => h _ (by omega),wd_congr (p := p) (q := q) (i := 1) fun j hj => h _ (by omega),
  wd_congr (p := p) (q := q) (i := 2) fun j hj => h _ (by omega),wd_congr (p := p) (q := q) (i := 3) fun j hj => h _ (by omega)]
theorem sc_set (p q : Nat → Bool) (i : Nat) (hi : i < 4) (h : ∀ b,b < 256 → b / 64 ≠ i → p b = q b) : (sc p).set i (.fv (.int .u64 (wd q i))) = sc q := by
 have hw : ∀ k,k < 4 → k ≠ i → wd p k = wd q k := fun k hk hki => wd_congr fun j hj => h _ (by omega) (by omega)
 match i,hi with
 | 0,_ => simp [sc,hw 1 (by omega) (by omega),hw 2 (by omega) (by omega),hw 3 (by omega) (by omega)]
 | 1,_ => simp [sc,hw 0 (by omega) (by omega),hw 2 (by omega) (by omega),hw 3 (by omega) (by omega)]
 | 2,_ => simp [sc,hw 1 (by omega) (by omega),hw 0 (by omega) (by omega),hw 3 (by omega) (by omega)]
 | 3,_ => simp [sc,hw 1 (by omega) (by omega),hw 2 (by omega) (by omega),hw 0 (by omega) (by omega)]
theorem sc_zero : sc (fun _ => false) = [.fv (.int .u64 0),.fv (.int .u64 0),.fv (.int .u64 0),.fv (.int .u64 0)] := by
 simp [sc,wd_zero]
theorem sc_zero' : List.map AV.fv [.int .u64 0,.int .u64 0,.int .u64 0,.int .u64 0] = sc (fun _ => false) := by
 rw [sc_zero]; rfl
theorem sc_zl : [AV.fv (.int .u64 0),.fv (.int .u64 0),.fv (.int .u64 0),.fv (.int .u64 0)] = sc (fun _ => false) := sc_zero.symm
theorem shr_wd (x k : Nat) (hk : k < 64) : shiftA .shr .u64 (x : Int) (k : Int) = some (.int .u64 ((x >>> k : Nat) : Int)) := by
 have h1 : ¬ ((k : Int) < 0) := by omega
 have h2 : min k 64 = k := by omega
 simp only [shiftA,h1,if_false,Int.toNat_natCast,IntKind.bits,h2]
 have h3 : (2 : Int) ^ k = ((2 ^ k : Nat) : Int) := by simp
 rw [Nat.shiftRight_eq_div_pow,h3,Int.fdiv_eq_ediv_of_nonneg _ (Int.natCast_nonneg _)]
 rfl
theorem shl_one (k : Nat) (hk : k < 64) : shiftA .shl .u64 1 (k : Int) = some (.int .u64 ((2 ^ k : Nat) : Int)) := by
 have h1 : ¬ ((k : Int) < 0) := by omega
 have h2 : min k 64 = k := by omega
 simp only [shiftA,h1,if_false,Int.toNat_natCast,IntKind.bits,h2]
 have h3 : (2 : Nat) ^ k < 18446744073709551616 := Nat.pow_lt_pow_right (n := 64) (by omega) hk
 have h4 : (1 : Int) * 2 ^ k = ((2 ^ k : Nat) : Int) := by simp
 rw [h4,wrap_u64 h3]
theorem and1_u64 (x : Nat) (hx : x < 18446744073709551616) : intBits .and .u64 (x : Int) 1 = some ((x % 2 : Nat) : Int) := by
 have h := and_u64 hx (y := 1) (by omega)
 rw [Nat.and_one_is_mod] at h
 exact h
theorem shr_lt {x : Nat} (k : Nat) (hx : x < 18446744073709551616) : x >>> k < 18446744073709551616 := by
 rw [Nat.shiftRight_eq_div_pow]
 exact Nat.lt_of_le_of_lt (Nat.div_le_self _ _) hx
theorem test_mod (x k : Nat) : decide (((x >>> k % 2 : Nat) : Int) = 1) = x.testBit k := by
 rw [Nat.testBit_eq_decide_div_mod_eq,← Nat.shiftRight_eq_div_pow,decide_eq_decide]
 omega
theorem wd_bit (p : Nat → Bool) (b : Nat) (hb : b < 256) : (wd p (b / 64)).testBit (b % 64) = p b := by
 rw [wd_test _ _ _ (Nat.mod_lt _ (by omega)),show 64 * (b / 64) + b % 64 = b from by omega]
theorem ok26 (p : Nat → Bool) (b : Nat) (hb : b < 256) : Ok Try.prog 26 [.agg (sc p),.fv (.int .u8 b)] [] (.ret (.fv (.bool (p b)))) [] := by
 have hq : IntKind.wrap .u8 ((b : Int).tdiv 64) = ((b / 64 : Nat) : Int) := by
  rw [show ((b : Int).tdiv 64) = ((b / 64 : Nat) : Int) from by rw [Int.tdiv_eq_ediv_of_nonneg (by omega)]; rfl,wrap_u8 (by omega)]
 have hr : (b : Int).tmod 64 = ((b % 64 : Nat) : Int) := by rw [Int.tmod_eq_emod_of_nonneg (by omega)]; rfl
 have hi : (((b / 64 : Nat) : Int) < 4) = True := by simp; omega
 have hg := sc_get p (b / 64) (by omega)
 have hk : b % 64 < 64 := Nat.mod_lt _ (by omega)
 have hs := shr_wd (wd p (b / 64)) (b % 64) hk
 have ha := and1_u64 _ (shr_lt (b % 64) (wd_lt p (b / 64)))
 have ht := test_mod (wd p (b / 64)) (b % 64)
 rw [wd_bit p b hb] at ht
 generalize hx : wd p (b / 64) >>> (b % 64) = x at *
 refine ok_start (k := 12) (n0 := 0) (rs := [.tmp 4]) mix Try.func26 rfl rfl rfl rfl rfl rfl rfl ?_
 simp -implicitDefEqProofs only [bin_quo,bin_rem,hq,hr,hi,hg,bin_shr hs,bin_and ha,ht,
  evx,evy,ofValue,ofCell,List.range,List.range.loop,Array.size,Nat.reduceAdd,Nat.reduceSub,Nat.reduceEqDiff,List.replicate,if_true,if_false,↓reduceIte,reduceCtorEq,elB,evParts,Int.reduceToNat,Int.reduceLE,Int.reduceLT,Int.reduceEq,Nat.reduceMul,Nat.reduceLeDiff,Nat.reduceLT,ty3,ty4,ty5,ty39,ty40,ty41,ty23,ty24,ty25,ty70]
 exact ⟨by omega,le_flat rfl⟩
theorem ok30 (p : Nat → Bool) (b : Nat) (hb : b < 256) : Ok Try.prog 30 [.agg (sc p),.fv (.int .i64 b)] [] (.ret (.fv (.bool (p b)))) [] := by
 have hq : IntKind.wrap .i64 ((b : Int).tdiv 64) = ((b / 64 : Nat) : Int) := by
  rw [show ((b : Int).tdiv 64) = ((b / 64 : Nat) : Int) from by rw [Int.tdiv_eq_ediv_of_nonneg (by omega)]; rfl,wrapn _ (by omega)]
 have hr : (b : Int).tmod 64 = ((b % 64 : Nat) : Int) := by rw [Int.tmod_eq_emod_of_nonneg (by omega)]; rfl
 have hk : b % 64 < 64 := Nat.mod_lt _ (by omega)
 have hwr : IntKind.wrap .u64 ((b % 64 : Nat) : Int) = ((b % 64 : Nat) : Int) := wrap_u64 (by omega)
 have hg := sc_get p (b / 64) (by omega)
 have hs := shl_one (b % 64) hk
 have hne : ((2 ^ (b % 64) : Nat) : Int) ≠ 0 := by
  have := Nat.two_pow_pos (b % 64)
  omega
 have hd : IntKind.wrap .u64 ((wd p (b / 64) : Int).tdiv ((2 ^ (b % 64) : Nat) : Int)) = ((wd p (b / 64) >>> (b % 64) : Nat) : Int) := by
  rw [Int.tdiv_eq_ediv_of_nonneg (Int.natCast_nonneg _),Nat.shiftRight_eq_div_pow]
  exact wrap_u64 (Nat.lt_of_le_of_lt (Nat.div_le_self _ _) (wd_lt p _))
 have hm : ((wd p (b / 64) >>> (b % 64) : Nat) : Int).tmod 2 = ((wd p (b / 64) >>> (b % 64) % 2 : Nat) : Int) := by rw [Int.tmod_eq_emod_of_nonneg (Int.natCast_nonneg _)]; rfl
 have ht := test_mod (wd p (b / 64)) (b % 64)
 rw [wd_bit p b hb] at ht
 generalize hx : wd p (b / 64) >>> (b % 64) = x at *
 generalize hy : ((2 ^ (b % 64) : Nat) : Int) = y at *
 refine ok_start (k := 14) (n0 := 0) (rs := [.tmp 4]) mix Try.func30 rfl rfl rfl rfl rfl rfl rfl ?_
 simp -implicitDefEqProofs only [bin_quo,bin_rem,hq,hr,hg,convT_int,hwr,bin_shl hs,hne,hd,hm,ht,
  evx,evy,ofValue,ofCell,List.range,List.range.loop,Array.size,Nat.reduceAdd,Nat.reduceSub,Nat.reduceEqDiff,List.replicate,if_true,if_false,↓reduceIte,reduceCtorEq,elB,evParts,Int.reduceToNat,Int.reduceLE,Int.reduceLT,Int.reduceEq,Nat.reduceMul,Nat.reduceLeDiff,Nat.reduceLT,ty3,ty4,ty5,ty39,ty40,ty41,ty23,ty24,ty25,ty70]
 exact ⟨by omega,le_flat rfl⟩
end Go.Abs
/- Names of symbols: the document's; how great a grammar is. -/
namespace Go.Abs
open Go.Proofs
set_option linter.unusedVariables false
set_option linter.unusedSimpArgs false
set_option maxRecDepth 100000
set_option maxHeartbeats 1000000
/-- Blocks are picked, slots forgotten. -/
theorem le_pk {n0 : Nat} (keep : List Nat) {t t' : List AV} {h h' : List Blk} (hpre : keep.take n0 = List.range n0) (hnd : keep.Nodup) (hlt : ∀ i ∈ keep,i < h.length)
  (hh : keep.map (fun i => subBlk (mkSub keep [] h) (h.getD i .dead)) = h') (hw : wk (t.map (subAny (mkSub keep [] h))) t') : Le n0 ⟨t,h,[]⟩ ⟨t',h',[]⟩ := by
 subst hh
 refine Le.trans (le_to keep [] hpre hnd hlt (fun i hi => by simp at hi) (fun i hi => by simp at hi) rfl) ?_
 simp only [subSt,List.map_nil]
 exact le_wk hw
theorem long_of {g : Gra} {np : Nat} (h : (decide (40 < g.rules.length) || decide (40 < g.nonts.length) || decide (100 < g.levels.length) || decide (np < g.prods.length)) = true) : g.longB np = true := by
 unfold Gra.longB
 rw [h]; rfl
theorem gt_true {i n : Nat} (h : i < n) : ((i : Int) < (n : Int)) = True := by simp; omega
theorem lit_true {n : Nat} {k : Int} (h : k < (n : Int)) : (k < (n : Int)) = True := by simpa using h
theorem lit_false {n : Nat} {k : Int} (h : ¬ k < (n : Int)) : (k < (n : Int)) = False := by simpa using h
theorem Small.up {g : Gra} {n m : Nat} (h : Small g n) (hm : n ≤ m) : Small g m := ⟨h.nrules,h.nnonts,h.nlevels,Nat.le_trans h.nprods hm,h.rules,h.nonts,h.prods⟩
end Go.Abs
