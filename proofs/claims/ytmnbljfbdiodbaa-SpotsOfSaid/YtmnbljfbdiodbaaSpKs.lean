/- Sets of numbers: what two have in common, what one has alone. -/
import Derived.Test.YtmnbljfbdiodbaaTyTrys
import Derived.Test.YtmnbljfbdiodbaaDrTrys
import Derived.Test.YtmnbljfbdiodbaaAbsS
import Derived.Test.YtmnbljfbdiodbaaFiKs
import Derived.Test.YtmnbljfbdiodbaaTopA
import Derived.Test.YtmnbljfbdiodbaaBytesM
import Derived.Test.YtmnbljfbdiodbaaAbsZ
import Derived.Test.YtmnbljfbdiodbaaTopGs
namespace Go.Abs
open Go.Proofs
set_option linter.unusedVariables false
set_option linter.unusedSimpArgs false
set_option maxRecDepth 100000
set_option maxHeartbeats 1000000
theorem bsl2 (hp : List Blk) (x y : FV) : bsK ⟨.slice 3,1,24,some [.nils]⟩ [.nils] 2 hp (some [(0,.fv x),(1,.fv y)]) = some (.ref hp.length 1 0 2,hp ++ [.plain 1 [[x],[y]]],[]) := by
 simp [bsK,fillA,flatN,toFs,chunk,splice,cellsA]
theorem ok14 (a b : List Int) (ha : a.length < 262144) (hb : b.length < 262144) : Ok Try.prog 14 [.fv (.lst 1 (ints a)),.fv (.lst 1 (ints b))] [] (.ret (.fv (.lst 1 (ints (setOf (a ++ b)))))) [] := by
 refine ok_start (k := 8) (n0 := 0) (rs := [.tmp 4]) mix Try.func14 rfl rfl rfl rfl rfl rfl rfl ?_
 simp -implicitDefEqProofs only [eff_bs _ ty25 rfl ty24 rfl 2 (by simp),evParts,bsl2,
  awp_seq,awp_skip,awp_ret,awp_exit,awp_label,awp_block,awp_cond,awp_reg,awp_loop,thenC_normal,thenC_ret,thenC_exit,thenC_pan,then_normal,then_ret,then_exit,then_pan,inBlock_normal,inBlock_ret,inBlock_pan,inBlock_exit,condK_bool,condK_any,
  nxt_nil,nxt_dnil,nxt_at,nxt_draw,nxt_quiet,stepAt_plain,stepQ_plain,stepAt_guard,stepQ_guard,guardK_yes,guardK_no,guardQ_yes,guardQ_no,gval_eq,gvO_some,gv_bool,gv_undef,putK_some,readK_at,readK_no,effK_some,ok_none,ok_nil,true_and,pickK_some,pickK_any,put_some,put_none,
  bin2_some,map1_some,ia2_some,opK_move,opK_assign,opK_bin,opK_un,opK_convert,opK_idxAddr,opK_idx,quK_move,quK_assign,quK_bin,quK_un,quK_convert,quK_idxAddr,quK_idx,opK_len,quK_len,opK_load,quK_load,ld1_some,opK_pick,quK_pick,opK_call,call2_some,opK_buildSlice,opK_slice,quK_slice,opK_fad,quK_fad,opK_fld,quK_fld,opK_ext,quK_ext,ext_tuple,opK_nck,quK_nck,opK_mki,quK_mki,opK_mkf,quK_mkf,opK_panic,panK_iface,Option.map_none,opK_append,opK_cap,opK_clear,opK_store,opK_box,opK_alloc,opK_makeSlice,eff_append_eq,eff_store_eq,evs_nil,evs_cons,cons2_some,
  ev_tmp,ev_const,ev_func,ofValue,ofCell,Option.map_some,bin_add,bin_sub,bin_mul,bin_eql,bin_neq,bin_lss,bin_leq,bin_gtr,bin_geq,un_not,un_neg,
  List.range,List.range.loop,Array.size,List.length_cons,List.length_nil,List.size_toArray,Nat.reduceAdd,Nat.reduceSub,Nat.reduceEqDiff,Nat.zero_add,List.getElem?_toArray,List.getElem?_cons_zero,List.getElem?_cons_succ,List.replicate,List.cons_append,List.nil_append,List.append_nil,List.set_cons_zero,List.set_cons_succ,List.getD_cons_zero,List.getD_cons_succ,
  retR_ret,retR_normal,retR_pan,resAs_nil,resAs_cons,resA_tmp,resA_cell,fin_one,fin_none,fin_two,
  decide_eq_true_eq,decide_not,Bool.not_eq_true',Bool.false_eq_true,Bool.true_eq_false,ne_eq,not_true_eq_false,not_false_eq_true,if_true,if_false,decide_true,decide_false,Bool.not_true,Bool.not_false,eq_self,↓reduceIte,reduceCtorEq]
 refine callK_ret _ _ _ _ (call_freeze [0] (by simp) rfl rfl (call_lent [] (ok32 [a,b] (by simp) (by simp [total]; omega)) rfl rfl (by simp) (by simp)) [0] (by simp) (by simp) (by intro i hi hl; simp at hi hl; omega)) (ok_none _ _) ?_
 simp -implicitDefEqProofs only [subAny,subA,subL,backSub,back,putBack,subBlk,Option.getD_some,List.map_cons,List.map_nil,Nat.not_lt_zero,Nat.sub_zero,Nat.add_zero,List.length_map,freezeSt,frzSub,killAll,List.contains_cons,List.contains_nil,Bool.or_false,beq_self_eq_true,
  awp_seq,awp_skip,awp_ret,awp_exit,awp_label,awp_block,awp_cond,awp_reg,awp_loop,thenC_normal,thenC_ret,thenC_exit,thenC_pan,then_normal,then_ret,then_exit,then_pan,inBlock_normal,inBlock_ret,inBlock_pan,inBlock_exit,condK_bool,condK_any,
  nxt_nil,nxt_dnil,nxt_at,nxt_draw,nxt_quiet,stepAt_plain,stepQ_plain,stepAt_guard,stepQ_guard,guardK_yes,guardK_no,guardQ_yes,guardQ_no,gval_eq,gvO_some,gv_bool,gv_undef,putK_some,readK_at,readK_no,effK_some,ok_none,ok_nil,true_and,pickK_some,pickK_any,put_some,put_none,
  bin2_some,map1_some,ia2_some,opK_move,opK_assign,opK_bin,opK_un,opK_convert,opK_idxAddr,opK_idx,quK_move,quK_assign,quK_bin,quK_un,quK_convert,quK_idxAddr,quK_idx,opK_len,quK_len,opK_load,quK_load,ld1_some,opK_pick,quK_pick,opK_call,call2_some,opK_buildSlice,opK_slice,quK_slice,opK_fad,quK_fad,opK_fld,quK_fld,opK_ext,quK_ext,ext_tuple,opK_nck,quK_nck,opK_mki,quK_mki,opK_mkf,quK_mkf,opK_panic,panK_iface,Option.map_none,opK_append,opK_cap,opK_clear,opK_store,opK_box,opK_alloc,opK_makeSlice,eff_append_eq,eff_store_eq,evs_nil,evs_cons,cons2_some,
  ev_tmp,ev_const,ev_func,ofValue,ofCell,Option.map_some,bin_add,bin_sub,bin_mul,bin_eql,bin_neq,bin_lss,bin_leq,bin_gtr,bin_geq,un_not,un_neg,
  List.range,List.range.loop,Array.size,List.length_cons,List.length_nil,List.size_toArray,Nat.reduceAdd,Nat.reduceSub,Nat.reduceEqDiff,Nat.zero_add,List.getElem?_toArray,List.getElem?_cons_zero,List.getElem?_cons_succ,List.replicate,List.cons_append,List.nil_append,List.append_nil,List.set_cons_zero,List.set_cons_succ,List.getD_cons_zero,List.getD_cons_succ,
  retR_ret,retR_normal,retR_pan,resAs_nil,resAs_cons,resA_tmp,resA_cell,fin_one,fin_none,fin_two,
  decide_eq_true_eq,decide_not,Bool.not_eq_true',Bool.false_eq_true,Bool.true_eq_false,ne_eq,not_true_eq_false,not_false_eq_true,if_true,if_false,decide_true,decide_false,Bool.not_true,Bool.not_false,eq_self,↓reduceIte,reduceCtorEq]
 have e : [a,b].flatten = a ++ b := by simp
 rw [e]
 refine callK_ret _ _ _ _ (call_freeze (args' := [.fv (.lst 1 (ints (a ++ b)))]) [1] (by simp) (by simp [subAny,subA,frzSub,ints_length,List.take_of_length_le]) rfl
  (call_pure (ok15 (a ++ b) (by simp; omega)) (fun _ => rfl) (fun _ => rfl)) [1] (by simp) (by simp) (fun i hi hl => by
   have : i = 0 := by simp at hi hl; omega
   subst this; rfl)) (ok_none _ _) ?_
 simp -implicitDefEqProofs only [subAny,subA,subL,backSub,back,putBack,subBlk,Option.getD_some,List.map_cons,List.map_nil,Nat.not_lt_zero,Nat.sub_zero,Nat.add_zero,List.length_map,freezeSt,
  awp_seq,awp_skip,awp_ret,awp_exit,awp_label,awp_block,awp_cond,awp_reg,awp_loop,thenC_normal,thenC_ret,thenC_exit,thenC_pan,then_normal,then_ret,then_exit,then_pan,inBlock_normal,inBlock_ret,inBlock_pan,inBlock_exit,condK_bool,condK_any,
  nxt_nil,nxt_dnil,nxt_at,nxt_draw,nxt_quiet,stepAt_plain,stepQ_plain,stepAt_guard,stepQ_guard,guardK_yes,guardK_no,guardQ_yes,guardQ_no,gval_eq,gvO_some,gv_bool,gv_undef,putK_some,readK_at,readK_no,effK_some,ok_none,ok_nil,true_and,pickK_some,pickK_any,put_some,put_none,
  bin2_some,map1_some,ia2_some,opK_move,opK_assign,opK_bin,opK_un,opK_convert,opK_idxAddr,opK_idx,quK_move,quK_assign,quK_bin,quK_un,quK_convert,quK_idxAddr,quK_idx,opK_len,quK_len,opK_load,quK_load,ld1_some,opK_pick,quK_pick,opK_call,call2_some,opK_buildSlice,opK_slice,quK_slice,opK_fad,quK_fad,opK_fld,quK_fld,opK_ext,quK_ext,ext_tuple,opK_nck,quK_nck,opK_mki,quK_mki,opK_mkf,quK_mkf,opK_panic,panK_iface,Option.map_none,opK_append,opK_cap,opK_clear,opK_store,opK_box,opK_alloc,opK_makeSlice,eff_append_eq,eff_store_eq,evs_nil,evs_cons,cons2_some,
  ev_tmp,ev_const,ev_func,ofValue,ofCell,Option.map_some,bin_add,bin_sub,bin_mul,bin_eql,bin_neq,bin_lss,bin_leq,bin_gtr,bin_geq,un_not,un_neg,
  List.range,List.range.loop,Array.size,List.length_cons,List.length_nil,List.size_toArray,Nat.reduceAdd,Nat.reduceSub,Nat.reduceEqDiff,Nat.zero_add,List.getElem?_toArray,List.getElem?_cons_zero,List.getElem?_cons_succ,List.replicate,List.cons_append,List.nil_append,List.append_nil,List.set_cons_zero,List.set_cons_succ,List.getD_cons_zero,List.getD_cons_succ,
  retR_ret,retR_normal,retR_pan,resAs_nil,resAs_cons,resA_tmp,resA_cell,fin_one,fin_none,fin_two,
  decide_eq_true_eq,decide_not,Bool.not_eq_true',Bool.false_eq_true,Bool.true_eq_false,ne_eq,not_true_eq_false,not_false_eq_true,if_true,if_false,decide_true,decide_false,Bool.not_true,Bool.not_false,eq_self,↓reduceIte,reduceCtorEq]
 exact le_to [] [] rfl (by simp) (by simp) (by simp) (by simp) rfl
end Go.Abs
/- Sets of bytes: whether one has a byte. -/
namespace Go.Abs
open Go.Proofs
set_option linter.unusedVariables false
set_option linter.unusedSimpArgs false
set_option maxRecDepth 100000
set_option maxHeartbeats 1000000
end Go.Abs
/- Names of symbols: the document's; how great a grammar is. -/
namespace Go.Abs
open Go.Proofs
set_option linter.unusedVariables false
set_option linter.unusedSimpArgs false
set_option maxRecDepth 100000
set_option maxHeartbeats 1000000
/-- Blocks are picked, slots forgotten. -/
theorem le_pk {n0 : Nat} (keep : List Nat) {t t' : List AV} {h h' : List Blk} (hpre : keep.take n0 = List.range n0) (hnd : keep.Nodup) (hlt : ∀ i ∈ keep,i < h.length)
  (hh : keep.map (fun i => subBlk (mkSub keep [] h) (h.getD i .dead)) = h') (hw : wk (t.map (subAny (mkSub keep [] h))) t') : Le n0 ⟨t,h,[]⟩ ⟨t',h',[]⟩ := by
 subst hh
 refine Le.trans (le_to keep [] hpre hnd hlt (fun i hi => by simp at hi) (fun i hi => by simp at hi) rfl) ?_
 simp only [subSt,List.map_nil]
 exact le_wk hw
theorem lit_true {n : Nat} {k : Int} (h : k < (n : Int)) : (k < (n : Int)) = True := by simpa using h
theorem lit_false {n : Nat} {k : Int} (h : ¬ k < (n : Int)) : (k < (n : Int)) = False := by simpa using h
theorem Small.up {g : Gra} {n m : Nat} (h : Small g n) (hm : n ≤ m) : Small g m := ⟨h.nrules,h.nnonts,h.nlevels,Nat.le_trans h.nprods hm,h.rules,h.nonts,h.prods⟩
end Go.Abs
