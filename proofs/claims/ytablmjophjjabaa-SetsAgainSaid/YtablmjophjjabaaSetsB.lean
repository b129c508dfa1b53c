/- A text of the claim: part of the proof. -/
import Derived.Test.YtablmjophjjabaaAbsR
import Derived.Test.YtablmjophjjabaaSetsA
import Derived.Test.YtablmjophjjabaaSetsDr
namespace Go.Abs
open Go.Proofs
set_option linter.unusedVariables false
set_option linter.unusedSimpArgs false
set_option maxRecDepth 100000
set_option maxHeartbeats 1000000
theorem ok10 (a b : List Int) (ha : a.length < 4611686018427387904) (hb : b.length < 4611686018427387904) :
    Ok Try.prog 10 [.fv (.lst 1 (ints a)), .fv (.lst 1 (ints b))] [] (.ret (.fv (.int .i64 (cmpL a b)))) [] := by
  refine ok_start (k := 44) (n0 := 0) (rs := [.tmp 4]) mix Try.func10 rfl rfl rfl rfl rfl rfl rfl ?_
  simp -implicitDefEqProofs only [len_lst 22 t22 rfl,
    awp_seq, awp_skip, awp_ret, awp_exit, awp_label, awp_block, awp_cond, awp_reg, awp_loop, thenC_normal, thenC_ret, thenC_exit, thenC_pan, then_normal, then_ret, then_exit, then_pan, inBlock_normal, inBlock_ret, inBlock_pan, inBlock_exit, condK_bool, condK_any,
    nxt_nil, nxt_dnil, nxt_at, nxt_draw, nxt_quiet, stepAt_plain, stepQ_plain, stepAt_guard, stepQ_guard, guardK_yes, guardK_no, guardQ_yes, guardQ_no, gval_eq, gvO_some, gv_bool, gv_undef, putK_some, readK_at, readK_no, effK_some, ok_none, ok_nil, true_and, pickK_some, pickK_any, put_some, put_none,
    bin2_some, map1_some, ia2_some, opK_move, opK_assign, opK_bin, opK_un, opK_convert, opK_idxAddr, opK_idx, quK_move, quK_assign, quK_bin, quK_un, quK_convert, quK_idxAddr, quK_idx, opK_len, quK_len, opK_load, quK_load, ld1_some, opK_pick, quK_pick, opK_call, call2_some, opK_buildSlice, opK_slice, quK_slice, opK_fad, quK_fad, opK_fld, quK_fld, opK_ext, quK_ext, ext_tuple, opK_nck, quK_nck, opK_mki, quK_mki, opK_mkf, quK_mkf, opK_panic, panK_iface, Option.map_none, opK_append, opK_cap, opK_clear, opK_store, opK_box, opK_alloc, opK_makeSlice, eff_append_eq, eff_store_eq, evs_nil, evs_cons, cons2_some,
    ev_tmp, ev_const, ev_func, ofValue, ofCell, Option.map_some, bin_add, bin_sub, bin_mul, bin_eql, bin_neq, bin_lss, bin_leq, bin_gtr, bin_geq, un_not, un_neg,
    List.range, List.range.loop, Array.size, List.length_cons, List.length_nil, List.size_toArray, Nat.reduceAdd, Nat.reduceSub, Nat.reduceEqDiff, Nat.zero_add, List.getElem?_toArray, List.getElem?_cons_zero, List.getElem?_cons_succ, List.replicate, List.cons_append, List.nil_append, List.append_nil, List.set_cons_zero, List.set_cons_succ, List.getD_cons_zero, List.getD_cons_succ,
    retR_ret, retR_normal, retR_pan, resAs_nil, resAs_cons, resA_tmp, resA_cell, fin_one, fin_none, fin_two,
    decide_eq_true_eq, decide_not, Bool.not_eq_true', Bool.false_eq_true, Bool.true_eq_false, ne_eq, not_true_eq_false, not_false_eq_true, if_true, if_false, decide_true, decide_false, Bool.not_true, Bool.not_false, eq_self, ↓reduceIte, reduceCtorEq]
  refine loop_rule (fun i : Nat => ⟨[.fv (.lst 1 (ints a)), .fv (.lst 1 (ints b)), .any, .any, .fv (.int .i64 0), .fv (.int .i64 i), .any, .any, .any, .any, .any, .any, .any, .any, .any, .any, .any, .any, .any, .any, .any, .any, .any, .any, .any, .any, .any, .any, .any, .any, .any, .any, .any, .any, .any, .any, .any, .any, .any, .any, .any, .any, .any, .any, .any, .any], [], []⟩)
    (fun i => i ≤ a.length ∧ i ≤ b.length ∧ cmpL a b = cmpL (a.drop i) (b.drop i)) (fun i => a.length - i) 0 (le_wk (by simp [wk])) (by simp) (fun i hp s hs => ?_)
  obtain ⟨h1, h2, h3⟩ := hp
  have hla := ints_length a
  have hlb := ints_length b
  by_cases hia : i < a.length
  · have hc : ((i : Int) < ((ints a).length : Int)) = True := by simp; omega
    have hra : (ints a)[(i : Int).toNat]? = some [.int .i64 a[i]] := ints_get a i hia
    by_cases hib : i < b.length
    · have hc2 : ((i : Int) < ((ints b).length : Int)) = True := by simp; omega
      have hrb : (ints b)[(i : Int).toNat]? = some [.int .i64 b[i]] := ints_get b i hib
      have hw : IntKind.wrap .i64 ((i : Int) + 1) = ((i + 1 : Nat) : Int) := wrap_small (by omega) (by omega)
      simp -implicitDefEqProofs only [awp_draw _ _ Trydr10_4, awp_draw _ _ Trydr10_6, len_lst 22 t22 rfl, hc, hc2, hw, idx_lst 22 t22 rfl t3 1 rfl (ints a) i _ hra (by omega), ld_fptr 3 t3 rfl, idx_lst 22 t22 rfl t3 1 rfl (ints b) i _ hrb (by omega),
    awp_seq, awp_skip, awp_ret, awp_exit, awp_label, awp_block, awp_cond, awp_reg, awp_loop, thenC_normal, thenC_ret, thenC_exit, thenC_pan, then_normal, then_ret, then_exit, then_pan, inBlock_normal, inBlock_ret, inBlock_pan, inBlock_exit, condK_bool, condK_any,
    nxt_nil, nxt_dnil, nxt_at, nxt_draw, nxt_quiet, stepAt_plain, stepQ_plain, stepAt_guard, stepQ_guard, guardK_yes, guardK_no, guardQ_yes, guardQ_no, gval_eq, gvO_some, gv_bool, gv_undef, putK_some, readK_at, readK_no, effK_some, ok_none, ok_nil, true_and, pickK_some, pickK_any, put_some, put_none,
    bin2_some, map1_some, ia2_some, opK_move, opK_assign, opK_bin, opK_un, opK_convert, opK_idxAddr, opK_idx, quK_move, quK_assign, quK_bin, quK_un, quK_convert, quK_idxAddr, quK_idx, opK_len, quK_len, opK_load, quK_load, ld1_some, opK_pick, quK_pick, opK_call, call2_some, opK_buildSlice, opK_slice, quK_slice, opK_fad, quK_fad, opK_fld, quK_fld, opK_ext, quK_ext, ext_tuple, opK_nck, quK_nck, opK_mki, quK_mki, opK_mkf, quK_mkf, opK_panic, panK_iface, Option.map_none, opK_append, opK_cap, opK_clear, opK_store, opK_box, opK_alloc, opK_makeSlice, eff_append_eq, eff_store_eq, evs_nil, evs_cons, cons2_some,
    ev_tmp, ev_const, ev_func, ofValue, ofCell, Option.map_some, bin_add, bin_sub, bin_mul, bin_eql, bin_neq, bin_lss, bin_leq, bin_gtr, bin_geq, un_not, un_neg,
    List.range, List.range.loop, Array.size, List.length_cons, List.length_nil, List.size_toArray, Nat.reduceAdd, Nat.reduceSub, Nat.reduceEqDiff, Nat.zero_add, List.getElem?_toArray, List.getElem?_cons_zero, List.getElem?_cons_succ, List.replicate, List.cons_append, List.nil_append, List.append_nil, List.set_cons_zero, List.set_cons_succ, List.getD_cons_zero, List.getD_cons_succ,
    retR_ret, retR_normal, retR_pan, resAs_nil, resAs_cons, resA_tmp, resA_cell, fin_one, fin_none, fin_two,
    decide_eq_true_eq, decide_not, Bool.not_eq_true', Bool.false_eq_true, Bool.true_eq_false, ne_eq, not_true_eq_false, not_false_eq_true, if_true, if_false, decide_true, decide_false, Bool.not_true, Bool.not_false, eq_self, ↓reduceIte, reduceCtorEq]
      have hs3 := cmpL_step a b i hia hib
      by_cases hz : a[i] < b[i]
      · have hk : cmpI a[i] b[i] = -1 := by simp [cmpI, hz]
        rw [if_pos hz, h3, hs3, hk]
        exact Le.refl _ _
      · rw [if_neg hz]
        by_cases hy : b[i] < a[i]
        · have hk : cmpI a[i] b[i] = 1 := by simp [cmpI, hz, hy]
          rw [if_pos hy, h3, hs3, hk]
          exact Le.refl _ _
        · have hk : cmpI a[i] b[i] = 0 := by simp [cmpI, hz, hy]
          rw [if_neg hy]
          exact back_intro hs (i + 1) (le_wk (by simp [wk])) ⟨by omega, by omega, by rw [h3, hs3, if_pos hk]⟩ (by omega)
    · have hc2 : ((i : Int) < ((ints b).length : Int)) = False := by simp; omega
      have hc3 : (((ints a).length : Int) < ((ints b).length : Int)) = False := by simp; omega
      have hc4 : (((ints b).length : Int) < ((ints a).length : Int)) = True := by simp; omega
      simp -implicitDefEqProofs only [len_lst 22 t22 rfl, hc, hc2, hc3, hc4,
    awp_seq, awp_skip, awp_ret, awp_exit, awp_label, awp_block, awp_cond, awp_reg, awp_loop, thenC_normal, thenC_ret, thenC_exit, thenC_pan, then_normal, then_ret, then_exit, then_pan, inBlock_normal, inBlock_ret, inBlock_pan, inBlock_exit, condK_bool, condK_any,
    nxt_nil, nxt_dnil, nxt_at, nxt_draw, nxt_quiet, stepAt_plain, stepQ_plain, stepAt_guard, stepQ_guard, guardK_yes, guardK_no, guardQ_yes, guardQ_no, gval_eq, gvO_some, gv_bool, gv_undef, putK_some, readK_at, readK_no, effK_some, ok_none, ok_nil, true_and, pickK_some, pickK_any, put_some, put_none,
    bin2_some, map1_some, ia2_some, opK_move, opK_assign, opK_bin, opK_un, opK_convert, opK_idxAddr, opK_idx, quK_move, quK_assign, quK_bin, quK_un, quK_convert, quK_idxAddr, quK_idx, opK_len, quK_len, opK_load, quK_load, ld1_some, opK_pick, quK_pick, opK_call, call2_some, opK_buildSlice, opK_slice, quK_slice, opK_fad, quK_fad, opK_fld, quK_fld, opK_ext, quK_ext, ext_tuple, opK_nck, quK_nck, opK_mki, quK_mki, opK_mkf, quK_mkf, opK_panic, panK_iface, Option.map_none, opK_append, opK_cap, opK_clear, opK_store, opK_box, opK_alloc, opK_makeSlice, eff_append_eq, eff_store_eq, evs_nil, evs_cons, cons2_some,
    ev_tmp, ev_const, ev_func, ofValue, ofCell, Option.map_some, bin_add, bin_sub, bin_mul, bin_eql, bin_neq, bin_lss, bin_leq, bin_gtr, bin_geq, un_not, un_neg,
    List.range, List.range.loop, Array.size, List.length_cons, List.length_nil, List.size_toArray, Nat.reduceAdd, Nat.reduceSub, Nat.reduceEqDiff, Nat.zero_add, List.getElem?_toArray, List.getElem?_cons_zero, List.getElem?_cons_succ, List.replicate, List.cons_append, List.nil_append, List.append_nil, List.set_cons_zero, List.set_cons_succ, List.getD_cons_zero, List.getD_cons_succ,
    retR_ret, retR_normal, retR_pan, resAs_nil, resAs_cons, resA_tmp, resA_cell, fin_one, fin_none, fin_two,
    decide_eq_true_eq, decide_not, Bool.not_eq_true', Bool.false_eq_true, Bool.true_eq_false, ne_eq, not_true_eq_false, not_false_eq_true, if_true, if_false, decide_true, decide_false, Bool.not_true, Bool.not_false, eq_self, ↓reduceIte, reduceCtorEq]
      rw [h3, List.drop_eq_getElem_cons hia, List.drop_eq_nil_of_le (Nat.le_of_not_lt hib)]
      exact Le.refl _ _
  · have hc : ((i : Int) < ((ints a).length : Int)) = False := by simp; omega
    have hc4 : (((ints b).length : Int) < ((ints a).length : Int)) = False := by simp; omega
    rw [List.drop_eq_nil_of_le (Nat.le_of_not_lt hia)] at h3
    by_cases hib : i < b.length
    · have hc2 : (((ints a).length : Int) < ((ints b).length : Int)) = True := by simp; omega
      simp -implicitDefEqProofs only [len_lst 22 t22 rfl, hc, hc2,
    awp_seq, awp_skip, awp_ret, awp_exit, awp_label, awp_block, awp_cond, awp_reg, awp_loop, thenC_normal, thenC_ret, thenC_exit, thenC_pan, then_normal, then_ret, then_exit, then_pan, inBlock_normal, inBlock_ret, inBlock_pan, inBlock_exit, condK_bool, condK_any,
    nxt_nil, nxt_dnil, nxt_at, nxt_draw, nxt_quiet, stepAt_plain, stepQ_plain, stepAt_guard, stepQ_guard, guardK_yes, guardK_no, guardQ_yes, guardQ_no, gval_eq, gvO_some, gv_bool, gv_undef, putK_some, readK_at, readK_no, effK_some, ok_none, ok_nil, true_and, pickK_some, pickK_any, put_some, put_none,
    bin2_some, map1_some, ia2_some, opK_move, opK_assign, opK_bin, opK_un, opK_convert, opK_idxAddr, opK_idx, quK_move, quK_assign, quK_bin, quK_un, quK_convert, quK_idxAddr, quK_idx, opK_len, quK_len, opK_load, quK_load, ld1_some, opK_pick, quK_pick, opK_call, call2_some, opK_buildSlice, opK_slice, quK_slice, opK_fad, quK_fad, opK_fld, quK_fld, opK_ext, quK_ext, ext_tuple, opK_nck, quK_nck, opK_mki, quK_mki, opK_mkf, quK_mkf, opK_panic, panK_iface, Option.map_none, opK_append, opK_cap, opK_clear, opK_store, opK_box, opK_alloc, opK_makeSlice, eff_append_eq, eff_store_eq, evs_nil, evs_cons, cons2_some,
    ev_tmp, ev_const, ev_func, ofValue, ofCell, Option.map_some, bin_add, bin_sub, bin_mul, bin_eql, bin_neq, bin_lss, bin_leq, bin_gtr, bin_geq, un_not, un_neg,
    List.range, List.range.loop, Array.size, List.length_cons, List.length_nil, List.size_toArray, Nat.reduceAdd, Nat.reduceSub, Nat.reduceEqDiff, Nat.zero_add, List.getElem?_toArray, List.getElem?_cons_zero, List.getElem?_cons_succ, List.replicate, List.cons_append, List.nil_append, List.append_nil, List.set_cons_zero, List.set_cons_succ, List.getD_cons_zero, List.getD_cons_succ,
    retR_ret, retR_normal, retR_pan, resAs_nil, resAs_cons, resA_tmp, resA_cell, fin_one, fin_none, fin_two,
    decide_eq_true_eq, decide_not, Bool.not_eq_true', Bool.false_eq_true, Bool.true_eq_false, ne_eq, not_true_eq_false, not_false_eq_true, if_true, if_false, decide_true, decide_false, Bool.not_true, Bool.not_false, eq_self, ↓reduceIte, reduceCtorEq]
      rw [h3, List.drop_eq_getElem_cons hib]
      exact Le.refl _ _
    · have hc2 : (((ints a).length : Int) < ((ints b).length : Int)) = False := by simp; omega
      simp -implicitDefEqProofs only [len_lst 22 t22 rfl, hc, hc2, hc4,
    awp_seq, awp_skip, awp_ret, awp_exit, awp_label, awp_block, awp_cond, awp_reg, awp_loop, thenC_normal, thenC_ret, thenC_exit, thenC_pan, then_normal, then_ret, then_exit, then_pan, inBlock_normal, inBlock_ret, inBlock_pan, inBlock_exit, condK_bool, condK_any,
    nxt_nil, nxt_dnil, nxt_at, nxt_draw, nxt_quiet, stepAt_plain, stepQ_plain, stepAt_guard, stepQ_guard, guardK_yes, guardK_no, guardQ_yes, guardQ_no, gval_eq, gvO_some, gv_bool, gv_undef, putK_some, readK_at, readK_no, effK_some, ok_none, ok_nil, true_and, pickK_some, pickK_any, put_some, put_none,
    bin2_some, map1_some, ia2_some, opK_move, opK_assign, opK_bin, opK_un, opK_convert, opK_idxAddr, opK_idx, quK_move, quK_assign, quK_bin, quK_un, quK_convert, quK_idxAddr, quK_idx, opK_len, quK_len, opK_load, quK_load, ld1_some, opK_pick, quK_pick, opK_call, call2_some, opK_buildSlice, opK_slice, quK_slice, opK_fad, quK_fad, opK_fld, quK_fld, opK_ext, quK_ext, ext_tuple, opK_nck, quK_nck, opK_mki, quK_mki, opK_mkf, quK_mkf, opK_panic, panK_iface, Option.map_none, opK_append, opK_cap, opK_clear, opK_store, opK_box, opK_alloc, opK_makeSlice, eff_append_eq, eff_store_eq, evs_nil, evs_cons, cons2_some,
    ev_tmp, ev_const, ev_func, ofValue, ofCell, Option.map_some, bin_add, bin_sub, bin_mul, bin_eql, bin_neq, bin_lss, bin_leq, bin_gtr, bin_geq, un_not, un_neg,
    List.range, List.range.loop, Array.size, List.length_cons, List.length_nil, List.size_toArray, Nat.reduceAdd, Nat.reduceSub, Nat.reduceEqDiff, Nat.zero_add, List.getElem?_toArray, List.getElem?_cons_zero, List.getElem?_cons_succ, List.replicate, List.cons_append, List.nil_append, List.append_nil, List.set_cons_zero, List.set_cons_succ, List.getD_cons_zero, List.getD_cons_succ,
    retR_ret, retR_normal, retR_pan, resAs_nil, resAs_cons, resA_tmp, resA_cell, fin_one, fin_none, fin_two,
    decide_eq_true_eq, decide_not, Bool.not_eq_true', Bool.false_eq_true, Bool.true_eq_false, ne_eq, not_true_eq_false, not_false_eq_true, if_true, if_false, decide_true, decide_false, Bool.not_true, Bool.not_false, eq_self, ↓reduceIte, reduceCtorEq]
      rw [h3, List.drop_eq_nil_of_le (Nat.le_of_not_lt hib)]
      exact Le.refl _ _
theorem ok13 (a b : List Int) (ha : a.length < 4611686018427387904) (hb : b.length < 4611686018427387904) :
    Ok Try.prog 13 [.fv (.lst 1 (ints a)), .fv (.lst 1 (ints b))] [] (.ret (.fv (.bool (decide (cmpL a b = 0))))) [] := by
  refine ok_start (k := 7) (n0 := 0) (rs := [.tmp 4]) mix Try.func13 rfl rfl rfl rfl rfl rfl rfl ?_
  simp -implicitDefEqProofs only [awp_seq, awp_skip, awp_ret, awp_exit, awp_label, awp_block, awp_cond, awp_reg, awp_loop, thenC_normal, thenC_ret, thenC_exit, thenC_pan, then_normal, then_ret, then_exit, then_pan, inBlock_normal, inBlock_ret, inBlock_pan, inBlock_exit, condK_bool, condK_any,
    nxt_nil, nxt_dnil, nxt_at, nxt_draw, nxt_quiet, stepAt_plain, stepQ_plain, stepAt_guard, stepQ_guard, guardK_yes, guardK_no, guardQ_yes, guardQ_no, gval_eq, gvO_some, gv_bool, gv_undef, putK_some, readK_at, readK_no, effK_some, ok_none, ok_nil, true_and, pickK_some, pickK_any, put_some, put_none,
    bin2_some, map1_some, ia2_some, opK_move, opK_assign, opK_bin, opK_un, opK_convert, opK_idxAddr, opK_idx, quK_move, quK_assign, quK_bin, quK_un, quK_convert, quK_idxAddr, quK_idx, opK_len, quK_len, opK_load, quK_load, ld1_some, opK_pick, quK_pick, opK_call, call2_some, opK_buildSlice, opK_slice, quK_slice, opK_fad, quK_fad, opK_fld, quK_fld, opK_ext, quK_ext, ext_tuple, opK_nck, quK_nck, opK_mki, quK_mki, opK_mkf, quK_mkf, opK_panic, panK_iface, Option.map_none, opK_append, opK_cap, opK_clear, opK_store, opK_box, opK_alloc, opK_makeSlice, eff_append_eq, eff_store_eq, evs_nil, evs_cons, cons2_some,
    ev_tmp, ev_const, ev_func, ofValue, ofCell, Option.map_some, bin_add, bin_sub, bin_mul, bin_eql, bin_neq, bin_lss, bin_leq, bin_gtr, bin_geq, un_not, un_neg,
    List.range, List.range.loop, Array.size, List.length_cons, List.length_nil, List.size_toArray, Nat.reduceAdd, Nat.reduceSub, Nat.reduceEqDiff, Nat.zero_add, List.getElem?_toArray, List.getElem?_cons_zero, List.getElem?_cons_succ, List.replicate, List.cons_append, List.nil_append, List.append_nil, List.set_cons_zero, List.set_cons_succ, List.getD_cons_zero, List.getD_cons_succ,
    retR_ret, retR_normal, retR_pan, resAs_nil, resAs_cons, resA_tmp, resA_cell, fin_one, fin_none, fin_two,
    decide_eq_true_eq, decide_not, Bool.not_eq_true', Bool.false_eq_true, Bool.true_eq_false, ne_eq, not_true_eq_false, not_false_eq_true, if_true, if_false, decide_true, decide_false, Bool.not_true, Bool.not_false, eq_self, ↓reduceIte, reduceCtorEq]
  refine callK_ret _ _ _ _ (call_pure (ok10 a b ha hb) (fun _ => rfl) (fun _ => rfl)) (ok_nil _ _) ?_
  simp -implicitDefEqProofs only [awp_seq, awp_skip, awp_ret, awp_exit, awp_label, awp_block, awp_cond, awp_reg, awp_loop, thenC_normal, thenC_ret, thenC_exit, thenC_pan, then_normal, then_ret, then_exit, then_pan, inBlock_normal, inBlock_ret, inBlock_pan, inBlock_exit, condK_bool, condK_any,
    nxt_nil, nxt_dnil, nxt_at, nxt_draw, nxt_quiet, stepAt_plain, stepQ_plain, stepAt_guard, stepQ_guard, guardK_yes, guardK_no, guardQ_yes, guardQ_no, gval_eq, gvO_some, gv_bool, gv_undef, putK_some, readK_at, readK_no, effK_some, ok_none, ok_nil, true_and, pickK_some, pickK_any, put_some, put_none,
    bin2_some, map1_some, ia2_some, opK_move, opK_assign, opK_bin, opK_un, opK_convert, opK_idxAddr, opK_idx, quK_move, quK_assign, quK_bin, quK_un, quK_convert, quK_idxAddr, quK_idx, opK_len, quK_len, opK_load, quK_load, ld1_some, opK_pick, quK_pick, opK_call, call2_some, opK_buildSlice, opK_slice, quK_slice, opK_fad, quK_fad, opK_fld, quK_fld, opK_ext, quK_ext, ext_tuple, opK_nck, quK_nck, opK_mki, quK_mki, opK_mkf, quK_mkf, opK_panic, panK_iface, Option.map_none, opK_append, opK_cap, opK_clear, opK_store, opK_box, opK_alloc, opK_makeSlice, eff_append_eq, eff_store_eq, evs_nil, evs_cons, cons2_some,
    ev_tmp, ev_const, ev_func, ofValue, ofCell, Option.map_some, bin_add, bin_sub, bin_mul, bin_eql, bin_neq, bin_lss, bin_leq, bin_gtr, bin_geq, un_not, un_neg,
    List.range, List.range.loop, Array.size, List.length_cons, List.length_nil, List.size_toArray, Nat.reduceAdd, Nat.reduceSub, Nat.reduceEqDiff, Nat.zero_add, List.getElem?_toArray, List.getElem?_cons_zero, List.getElem?_cons_succ, List.replicate, List.cons_append, List.nil_append, List.append_nil, List.set_cons_zero, List.set_cons_succ, List.getD_cons_zero, List.getD_cons_succ,
    retR_ret, retR_normal, retR_pan, resAs_nil, resAs_cons, resA_tmp, resA_cell, fin_one, fin_none, fin_two,
    decide_eq_true_eq, decide_not, Bool.not_eq_true', Bool.false_eq_true, Bool.true_eq_false, ne_eq, not_true_eq_false, not_false_eq_true, if_true, if_false, decide_true, decide_false, Bool.not_true, Bool.not_false, eq_self, ↓reduceIte, reduceCtorEq]
  exact Le.refl _ _
end Go.Abs
