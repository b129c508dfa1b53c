/- A text of the claim: part of the proof. -/
import Derived.Test.YtablmjophjjabaaAbsS
import Derived.Test.YtablmjophjjabaaSetsB
namespace Go.Abs
open Go.Proofs
set_option linter.unusedVariables false
set_option linter.unusedSimpArgs false
set_option maxRecDepth 100000
set_option maxHeartbeats 1000000
theorem el3 : elOk ⟨.int .i64, 1, 8, some [.int .i64 0]⟩ := by simp [elOk]
theorem bs0 (hp : List Blk) : bsK ⟨.int .i64, 1, 8, some [.int .i64 0]⟩ [.int .i64 0] 0 hp (some []) = some (.ref hp.length 1 0 0, hp ++ [.plain 1 []], []) := by
  simp [bsK, fillA, flatN, toFs, chunk]
theorem ok16 (a : List Int) (ha : a.length < 1048576) : Ok Try.prog 16 [.fv (.lst 1 (ints a))] [] (.ret (.fv (.lst 1 (ints a)))) [] := by
  refine ok_start (k := 5) (n0 := 0) (rs := [.tmp 2]) mix Try.func16 rfl rfl rfl rfl rfl rfl rfl ?_
  simp -implicitDefEqProofs only [eff_bs _ t22 rfl t3 rfl 0 (by simp), evParts, bs0,
    awp_seq, awp_skip, awp_ret, awp_exit, awp_label, awp_block, awp_cond, awp_reg, awp_loop, thenC_normal, thenC_ret, thenC_exit, thenC_pan, then_normal, then_ret, then_exit, then_pan, inBlock_normal, inBlock_ret, inBlock_pan, inBlock_exit, condK_bool, condK_any,
    nxt_nil, nxt_dnil, nxt_at, nxt_draw, nxt_quiet, stepAt_plain, stepQ_plain, stepAt_guard, stepQ_guard, guardK_yes, guardK_no, guardQ_yes, guardQ_no, gval_eq, gvO_some, gv_bool, gv_undef, putK_some, readK_at, readK_no, effK_some, ok_none, ok_nil, true_and, pickK_some, pickK_any, put_some, put_none,
    bin2_some, map1_some, ia2_some, opK_move, opK_assign, opK_bin, opK_un, opK_convert, opK_idxAddr, opK_idx, quK_move, quK_assign, quK_bin, quK_un, quK_convert, quK_idxAddr, quK_idx, opK_len, quK_len, opK_load, quK_load, ld1_some, opK_pick, quK_pick, opK_call, call2_some, opK_buildSlice, opK_slice, quK_slice, opK_fad, quK_fad, opK_fld, quK_fld, opK_ext, quK_ext, ext_tuple, opK_nck, quK_nck, opK_mki, quK_mki, opK_mkf, quK_mkf, opK_panic, panK_iface, Option.map_none, opK_append, opK_cap, opK_clear, opK_store, opK_box, opK_alloc, opK_makeSlice, eff_append_eq, eff_store_eq, evs_nil, evs_cons, cons2_some,
    ev_tmp, ev_const, ev_func, ofValue, ofCell, Option.map_some, bin_add, bin_sub, bin_mul, bin_eql, bin_neq, bin_lss, bin_leq, bin_gtr, bin_geq, un_not, un_neg,
    List.range, List.range.loop, Array.size, List.length_cons, List.length_nil, List.size_toArray, Nat.reduceAdd, Nat.reduceSub, Nat.reduceEqDiff, Nat.zero_add, List.getElem?_toArray, List.getElem?_cons_zero, List.getElem?_cons_succ, List.replicate, List.cons_append, List.nil_append, List.append_nil, List.set_cons_zero, List.set_cons_succ, List.getD_cons_zero, List.getD_cons_succ,
    retR_ret, retR_normal, retR_pan, resAs_nil, resAs_cons, resA_tmp, resA_cell, fin_one, fin_none, fin_two,
    decide_eq_true_eq, decide_not, Bool.not_eq_true', Bool.false_eq_true, Bool.true_eq_false, ne_eq, not_true_eq_false, not_false_eq_true, if_true, if_false, decide_true, decide_false, Bool.not_true, Bool.not_false, eq_self, ↓reduceIte, reduceCtorEq]
  rw [ap_rows t22 rfl t22 t3 el3 (by simp) (src_lst rfl _ _) (app_ref (ie := ⟨.int .i64, 1, 8, some [.int .i64 0]⟩) 0 0 0 [] _ rfl (by simp) (by simp [ints_length]; omega))]
  simp -implicitDefEqProofs only [awp_seq, awp_skip, awp_ret, awp_exit, awp_label, awp_block, awp_cond, awp_reg, awp_loop, thenC_normal, thenC_ret, thenC_exit, thenC_pan, then_normal, then_ret, then_exit, then_pan, inBlock_normal, inBlock_ret, inBlock_pan, inBlock_exit, condK_bool, condK_any,
    nxt_nil, nxt_dnil, nxt_at, nxt_draw, nxt_quiet, stepAt_plain, stepQ_plain, stepAt_guard, stepQ_guard, guardK_yes, guardK_no, guardQ_yes, guardQ_no, gval_eq, gvO_some, gv_bool, gv_undef, putK_some, readK_at, readK_no, effK_some, ok_none, ok_nil, true_and, pickK_some, pickK_any, put_some, put_none,
    bin2_some, map1_some, ia2_some, opK_move, opK_assign, opK_bin, opK_un, opK_convert, opK_idxAddr, opK_idx, quK_move, quK_assign, quK_bin, quK_un, quK_convert, quK_idxAddr, quK_idx, opK_len, quK_len, opK_load, quK_load, ld1_some, opK_pick, quK_pick, opK_call, call2_some, opK_buildSlice, opK_slice, quK_slice, opK_fad, quK_fad, opK_fld, quK_fld, opK_ext, quK_ext, ext_tuple, opK_nck, quK_nck, opK_mki, quK_mki, opK_mkf, quK_mkf, opK_panic, panK_iface, Option.map_none, opK_append, opK_cap, opK_clear, opK_store, opK_box, opK_alloc, opK_makeSlice, eff_append_eq, eff_store_eq, evs_nil, evs_cons, cons2_some,
    ev_tmp, ev_const, ev_func, ofValue, ofCell, Option.map_some, bin_add, bin_sub, bin_mul, bin_eql, bin_neq, bin_lss, bin_leq, bin_gtr, bin_geq, un_not, un_neg,
    List.range, List.range.loop, Array.size, List.length_cons, List.length_nil, List.size_toArray, Nat.reduceAdd, Nat.reduceSub, Nat.reduceEqDiff, Nat.zero_add, List.getElem?_toArray, List.getElem?_cons_zero, List.getElem?_cons_succ, List.replicate, List.cons_append, List.nil_append, List.append_nil, List.set_cons_zero, List.set_cons_succ, List.getD_cons_zero, List.getD_cons_succ,
    retR_ret, retR_normal, retR_pan, resAs_nil, resAs_cons, resA_tmp, resA_cell, fin_one, fin_none, fin_two,
    decide_eq_true_eq, decide_not, Bool.not_eq_true', Bool.false_eq_true, Bool.true_eq_false, ne_eq, not_true_eq_false, not_false_eq_true, if_true, if_false, decide_true, decide_false, Bool.not_true, Bool.not_false, eq_self, ↓reduceIte, reduceCtorEq]
  exact le_lst rfl (by simp) (by simp)
theorem eql_lst (hp : tiOf Try.prog 22 = some ⟨.slice 3, 1, 24, some [.nils]⟩) (one : Bool) (a : List Int) (ha : a ≠ []) : binA Try.prog .eql 22 one (.fv (.lst 1 (ints a))) (.fv .nils) = some (.fv (.bool false)) := by
  cases a with
  | nil => exact absurd rfl ha
  | cons x a => exact eql_cons 22 one t22 rfl 1 _ _
theorem ok27 (a : List Int) (ha : a.length < 1048576) : Ok Try.prog 27 [.fv (.lst 1 (ints a))] [] (.ret (.ref 0 1 0 a.length)) [.plain 1 (ints a)] := by
  refine ok_start (k := 7) (n0 := 0) (rs := [.tmp 2]) mix Try.func27 rfl rfl rfl rfl rfl rfl rfl ?_
  by_cases hn : a = []
  · subst hn
    have e : ints [] = [] := rfl
    simp -implicitDefEqProofs only [e, eql_nil 22 _ t22 rfl, eff_bs _ t22 rfl t3 rfl 0 (by simp), evParts, bs0,
    awp_seq, awp_skip, awp_ret, awp_exit, awp_label, awp_block, awp_cond, awp_reg, awp_loop, thenC_normal, thenC_ret, thenC_exit, thenC_pan, then_normal, then_ret, then_exit, then_pan, inBlock_normal, inBlock_ret, inBlock_pan, inBlock_exit, condK_bool, condK_any,
    nxt_nil, nxt_dnil, nxt_at, nxt_draw, nxt_quiet, stepAt_plain, stepQ_plain, stepAt_guard, stepQ_guard, guardK_yes, guardK_no, guardQ_yes, guardQ_no, gval_eq, gvO_some, gv_bool, gv_undef, putK_some, readK_at, readK_no, effK_some, ok_none, ok_nil, true_and, pickK_some, pickK_any, put_some, put_none,
    bin2_some, map1_some, ia2_some, opK_move, opK_assign, opK_bin, opK_un, opK_convert, opK_idxAddr, opK_idx, quK_move, quK_assign, quK_bin, quK_un, quK_convert, quK_idxAddr, quK_idx, opK_len, quK_len, opK_load, quK_load, ld1_some, opK_pick, quK_pick, opK_call, call2_some, opK_buildSlice, opK_slice, quK_slice, opK_fad, quK_fad, opK_fld, quK_fld, opK_ext, quK_ext, ext_tuple, opK_nck, quK_nck, opK_mki, quK_mki, opK_mkf, quK_mkf, opK_panic, panK_iface, Option.map_none, opK_append, opK_cap, opK_clear, opK_store, opK_box, opK_alloc, opK_makeSlice, eff_append_eq, eff_store_eq, evs_nil, evs_cons, cons2_some,
    ev_tmp, ev_const, ev_func, ofValue, ofCell, Option.map_some, bin_add, bin_sub, bin_mul, bin_eql, bin_neq, bin_lss, bin_leq, bin_gtr, bin_geq, un_not, un_neg,
    List.range, List.range.loop, Array.size, List.length_cons, List.length_nil, List.size_toArray, Nat.reduceAdd, Nat.reduceSub, Nat.reduceEqDiff, Nat.zero_add, List.getElem?_toArray, List.getElem?_cons_zero, List.getElem?_cons_succ, List.replicate, List.cons_append, List.nil_append, List.append_nil, List.set_cons_zero, List.set_cons_succ, List.getD_cons_zero, List.getD_cons_succ,
    retR_ret, retR_normal, retR_pan, resAs_nil, resAs_cons, resA_tmp, resA_cell, fin_one, fin_none, fin_two,
    decide_eq_true_eq, decide_not, Bool.not_eq_true', Bool.false_eq_true, Bool.true_eq_false, ne_eq, not_true_eq_false, not_false_eq_true, if_true, if_false, decide_true, decide_false, Bool.not_true, Bool.not_false, eq_self, ↓reduceIte, reduceCtorEq]
    refine ⟨?_, ?_⟩
    · exact le_virt 0 1 rfl
    · rw [ap_rows t22 rfl t22 t3 el3 (by simp) (src_lst rfl _ _) (app_ref (ie := ⟨.int .i64, 1, 8, some [.int .i64 0]⟩) 0 0 0 [] _ rfl (by simp) (by simp))]
      simp -implicitDefEqProofs only [awp_seq, awp_skip, awp_ret, awp_exit, awp_label, awp_block, awp_cond, awp_reg, awp_loop, thenC_normal, thenC_ret, thenC_exit, thenC_pan, then_normal, then_ret, then_exit, then_pan, inBlock_normal, inBlock_ret, inBlock_pan, inBlock_exit, condK_bool, condK_any,
    nxt_nil, nxt_dnil, nxt_at, nxt_draw, nxt_quiet, stepAt_plain, stepQ_plain, stepAt_guard, stepQ_guard, guardK_yes, guardK_no, guardQ_yes, guardQ_no, gval_eq, gvO_some, gv_bool, gv_undef, putK_some, readK_at, readK_no, effK_some, ok_none, ok_nil, true_and, pickK_some, pickK_any, put_some, put_none,
    bin2_some, map1_some, ia2_some, opK_move, opK_assign, opK_bin, opK_un, opK_convert, opK_idxAddr, opK_idx, quK_move, quK_assign, quK_bin, quK_un, quK_convert, quK_idxAddr, quK_idx, opK_len, quK_len, opK_load, quK_load, ld1_some, opK_pick, quK_pick, opK_call, call2_some, opK_buildSlice, opK_slice, quK_slice, opK_fad, quK_fad, opK_fld, quK_fld, opK_ext, quK_ext, ext_tuple, opK_nck, quK_nck, opK_mki, quK_mki, opK_mkf, quK_mkf, opK_panic, panK_iface, Option.map_none, opK_append, opK_cap, opK_clear, opK_store, opK_box, opK_alloc, opK_makeSlice, eff_append_eq, eff_store_eq, evs_nil, evs_cons, cons2_some,
    ev_tmp, ev_const, ev_func, ofValue, ofCell, Option.map_some, bin_add, bin_sub, bin_mul, bin_eql, bin_neq, bin_lss, bin_leq, bin_gtr, bin_geq, un_not, un_neg,
    List.range, List.range.loop, Array.size, List.length_cons, List.length_nil, List.size_toArray, Nat.reduceAdd, Nat.reduceSub, Nat.reduceEqDiff, Nat.zero_add, List.getElem?_toArray, List.getElem?_cons_zero, List.getElem?_cons_succ, List.replicate, List.cons_append, List.nil_append, List.append_nil, List.set_cons_zero, List.set_cons_succ, List.getD_cons_zero, List.getD_cons_succ,
    retR_ret, retR_normal, retR_pan, resAs_nil, resAs_cons, resA_tmp, resA_cell, fin_one, fin_none, fin_two,
    decide_eq_true_eq, decide_not, Bool.not_eq_true', Bool.false_eq_true, Bool.true_eq_false, ne_eq, not_true_eq_false, not_false_eq_true, if_true, if_false, decide_true, decide_false, Bool.not_true, Bool.not_false, eq_self, ↓reduceIte, reduceCtorEq]
      exact le_to [1] [] rfl (by simp) (by simp) (by simp) (by simp) (by simp [subSt, subAny, subA, mkSub, idx, subBlk])
  · simp -implicitDefEqProofs only [eql_lst t22 _ a hn, eff_bs _ t22 rfl t3 rfl 0 (by simp), evParts, bs0,
    awp_seq, awp_skip, awp_ret, awp_exit, awp_label, awp_block, awp_cond, awp_reg, awp_loop, thenC_normal, thenC_ret, thenC_exit, thenC_pan, then_normal, then_ret, then_exit, then_pan, inBlock_normal, inBlock_ret, inBlock_pan, inBlock_exit, condK_bool, condK_any,
    nxt_nil, nxt_dnil, nxt_at, nxt_draw, nxt_quiet, stepAt_plain, stepQ_plain, stepAt_guard, stepQ_guard, guardK_yes, guardK_no, guardQ_yes, guardQ_no, gval_eq, gvO_some, gv_bool, gv_undef, putK_some, readK_at, readK_no, effK_some, ok_none, ok_nil, true_and, pickK_some, pickK_any, put_some, put_none,
    bin2_some, map1_some, ia2_some, opK_move, opK_assign, opK_bin, opK_un, opK_convert, opK_idxAddr, opK_idx, quK_move, quK_assign, quK_bin, quK_un, quK_convert, quK_idxAddr, quK_idx, opK_len, quK_len, opK_load, quK_load, ld1_some, opK_pick, quK_pick, opK_call, call2_some, opK_buildSlice, opK_slice, quK_slice, opK_fad, quK_fad, opK_fld, quK_fld, opK_ext, quK_ext, ext_tuple, opK_nck, quK_nck, opK_mki, quK_mki, opK_mkf, quK_mkf, opK_panic, panK_iface, Option.map_none, opK_append, opK_cap, opK_clear, opK_store, opK_box, opK_alloc, opK_makeSlice, eff_append_eq, eff_store_eq, evs_nil, evs_cons, cons2_some,
    ev_tmp, ev_const, ev_func, ofValue, ofCell, Option.map_some, bin_add, bin_sub, bin_mul, bin_eql, bin_neq, bin_lss, bin_leq, bin_gtr, bin_geq, un_not, un_neg,
    List.range, List.range.loop, Array.size, List.length_cons, List.length_nil, List.size_toArray, Nat.reduceAdd, Nat.reduceSub, Nat.reduceEqDiff, Nat.zero_add, List.getElem?_toArray, List.getElem?_cons_zero, List.getElem?_cons_succ, List.replicate, List.cons_append, List.nil_append, List.append_nil, List.set_cons_zero, List.set_cons_succ, List.getD_cons_zero, List.getD_cons_succ,
    retR_ret, retR_normal, retR_pan, resAs_nil, resAs_cons, resA_tmp, resA_cell, fin_one, fin_none, fin_two,
    decide_eq_true_eq, decide_not, Bool.not_eq_true', Bool.false_eq_true, Bool.true_eq_false, ne_eq, not_true_eq_false, not_false_eq_true, if_true, if_false, decide_true, decide_false, Bool.not_true, Bool.not_false, eq_self, ↓reduceIte, reduceCtorEq]
    rw [ap_rows t22 rfl t22 t3 el3 (by simp) (src_lst rfl _ _) (app_ref (ie := ⟨.int .i64, 1, 8, some [.int .i64 0]⟩) 0 0 0 [] _ rfl (by simp) (by simp [ints_length]; omega))]
    simp -implicitDefEqProofs only [awp_seq, awp_skip, awp_ret, awp_exit, awp_label, awp_block, awp_cond, awp_reg, awp_loop, thenC_normal, thenC_ret, thenC_exit, thenC_pan, then_normal, then_ret, then_exit, then_pan, inBlock_normal, inBlock_ret, inBlock_pan, inBlock_exit, condK_bool, condK_any,
    nxt_nil, nxt_dnil, nxt_at, nxt_draw, nxt_quiet, stepAt_plain, stepQ_plain, stepAt_guard, stepQ_guard, guardK_yes, guardK_no, guardQ_yes, guardQ_no, gval_eq, gvO_some, gv_bool, gv_undef, putK_some, readK_at, readK_no, effK_some, ok_none, ok_nil, true_and, pickK_some, pickK_any, put_some, put_none,
    bin2_some, map1_some, ia2_some, opK_move, opK_assign, opK_bin, opK_un, opK_convert, opK_idxAddr, opK_idx, quK_move, quK_assign, quK_bin, quK_un, quK_convert, quK_idxAddr, quK_idx, opK_len, quK_len, opK_load, quK_load, ld1_some, opK_pick, quK_pick, opK_call, call2_some, opK_buildSlice, opK_slice, quK_slice, opK_fad, quK_fad, opK_fld, quK_fld, opK_ext, quK_ext, ext_tuple, opK_nck, quK_nck, opK_mki, quK_mki, opK_mkf, quK_mkf, opK_panic, panK_iface, Option.map_none, opK_append, opK_cap, opK_clear, opK_store, opK_box, opK_alloc, opK_makeSlice, eff_append_eq, eff_store_eq, evs_nil, evs_cons, cons2_some,
    ev_tmp, ev_const, ev_func, ofValue, ofCell, Option.map_some, bin_add, bin_sub, bin_mul, bin_eql, bin_neq, bin_lss, bin_leq, bin_gtr, bin_geq, un_not, un_neg,
    List.range, List.range.loop, Array.size, List.length_cons, List.length_nil, List.size_toArray, Nat.reduceAdd, Nat.reduceSub, Nat.reduceEqDiff, Nat.zero_add, List.getElem?_toArray, List.getElem?_cons_zero, List.getElem?_cons_succ, List.replicate, List.cons_append, List.nil_append, List.append_nil, List.set_cons_zero, List.set_cons_succ, List.getD_cons_zero, List.getD_cons_succ,
    retR_ret, retR_normal, retR_pan, resAs_nil, resAs_cons, resA_tmp, resA_cell, fin_one, fin_none, fin_two,
    decide_eq_true_eq, decide_not, Bool.not_eq_true', Bool.false_eq_true, Bool.true_eq_false, ne_eq, not_true_eq_false, not_false_eq_true, if_true, if_false, decide_true, decide_false, Bool.not_true, Bool.not_false, eq_self, ↓reduceIte, reduceCtorEq]
    exact le_to [1] [] rfl (by simp) (by simp) (by simp) (by simp) (by simp [subSt, subAny, subA, mkSub, idx, subBlk, ints_length])
end Go.Abs
