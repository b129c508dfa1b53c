/- A text of the claim: part of the proof. -/
import Derived.Test.YtablmjophjjabaaSetsF
namespace Go.Abs
open Go.Proofs
set_option linter.unusedVariables false
set_option linter.unusedSimpArgs false
set_option maxRecDepth 100000
set_option maxHeartbeats 1000000
theorem cmpI_neg (x y : Int) : cmpI y x = - cmpI x y := by
  unfold cmpI
  split <;> split <;> first | omega | (split <;> omega)
theorem cmpL_neg : ∀ a b : List Int, cmpL b a = - cmpL a b
  | [], [] => rfl
  | [], _ :: _ => rfl
  | _ :: _, [] => rfl
  | x :: a, y :: b => by
    simp only [cmpL, cmpI_neg x y, cmpL_neg a b]
    split <;> split <;> omega
theorem cmpI_range (x y : Int) : cmpI x y = -1 ∨ cmpI x y = 0 ∨ cmpI x y = 1 := by
  unfold cmpI
  split
  · simp
  · split <;> simp
theorem cmpL_range : ∀ a b : List Int, cmpL a b = -1 ∨ cmpL a b = 0 ∨ cmpL a b = 1
  | [], [] => by simp [cmpL]
  | [], _ :: _ => by simp [cmpL]
  | _ :: _, [] => by simp [cmpL]
  | x :: a, y :: b => by
    simp only [cmpL]
    split
    · exact cmpL_range a b
    · exact cmpI_range x y
theorem cmpL_trans : ∀ a b c : List Int, cmpL a b ≤ 0 → cmpL b c ≤ 0 → cmpL a c ≤ 0
  | [], [], [], _, _ => by simp [cmpL]
  | [], [], _ :: _, _, _ => by simp [cmpL]
  | [], _ :: _, [], _, h => by simp [cmpL] at h
  | [], _ :: _, _ :: _, _, _ => by simp [cmpL]
  | _ :: _, [], _, h, _ => by simp [cmpL] at h
  | _ :: _, _ :: _, [], _, h => by simp [cmpL] at h
  | x :: a, y :: b, z :: c, h1, h2 => by
    have ih := cmpL_trans a b c
    simp only [cmpL, cmpI] at h1 h2 ⊢
    by_cases e1 : x < y
    · have : x < z := by
        by_cases e2 : y < z
        · omega
        · by_cases e3 : z < y
          · simp [e2, e3] at h2
          · omega
      simp [this]
    · by_cases e2 : y < x
      · simp [e1, e2] at h1
      · have exy : x = y := by omega
        subst exy
        simp at h1
        by_cases e3 : x < z
        · simp [e3]
        · by_cases e4 : z < x
          · simp [e3, e4] at h2
          · simp [e3, e4] at h2 ⊢
            exact ih h1 h2
theorem ok3 (a b c : List Int) (ha : a.length < 4611686018427387904) (hb : b.length < 4611686018427387904) (hc : c.length < 4611686018427387904) :
    Ok Try.prog 3 [.fv (.lst 1 (ints a)), .fv (.lst 1 (ints b)), .fv (.lst 1 (ints c))] [] (.ret (.fv (.bool true))) [] := by
  have hab := ok9 a b ha hb
  have hbc := ok9 b c hb hc
  have hrab := ok10 a b ha hb
  have hba := ok9 b a hb ha
  have hac := ok9 a c ha hc
  have hw : IntKind.wrap .i64 (0 - cmpL a b) = cmpL b a := by
    rw [cmpL_neg a b]
    rcases cmpL_range a b with h | h | h <;> rw [h] <;> rfl
  have htr := cmpL_trans a b c
  generalize cmpL a b = X at *
  generalize cmpL b c = Y at *
  generalize cmpL b a = W at *
  generalize cmpL a c = Z at *
  refine ok_start (k := 39) (n0 := 0) (rs := [.tmp 6]) mix Try.func3 rfl rfl rfl rfl rfl rfl rfl ?_
  simp -implicitDefEqProofs only [awp_seq, awp_skip, awp_ret, awp_exit, awp_label, awp_block, awp_cond, awp_reg, awp_loop, thenC_normal, thenC_ret, thenC_exit, thenC_pan, then_normal, then_ret, then_exit, then_pan, inBlock_normal, inBlock_ret, inBlock_pan, inBlock_exit, condK_bool, condK_any,
    nxt_nil, nxt_dnil, nxt_at, nxt_draw, nxt_quiet, stepAt_plain, stepQ_plain, stepAt_guard, stepQ_guard, guardK_yes, guardK_no, guardQ_yes, guardQ_no, gval_eq, gvO_some, gv_bool, gv_undef, putK_some, readK_at, readK_no, effK_some, ok_none, ok_nil, true_and, pickK_some, pickK_any, put_some, put_none,
    bin2_some, map1_some, ia2_some, opK_move, opK_assign, opK_bin, opK_un, opK_convert, opK_idxAddr, opK_idx, quK_move, quK_assign, quK_bin, quK_un, quK_convert, quK_idxAddr, quK_idx, opK_len, quK_len, opK_load, quK_load, ld1_some, opK_pick, quK_pick, opK_call, call2_some, opK_buildSlice, opK_slice, quK_slice, opK_fad, quK_fad, opK_fld, quK_fld, opK_ext, quK_ext, ext_tuple, opK_nck, quK_nck, opK_mki, quK_mki, opK_mkf, quK_mkf, opK_panic, panK_iface, Option.map_none, opK_append, opK_cap, opK_clear, opK_store, opK_box, opK_alloc, opK_makeSlice, eff_append_eq, eff_store_eq, evs_nil, evs_cons, cons2_some,
    ev_tmp, ev_const, ev_func, ofValue, ofCell, Option.map_some, bin_add, bin_sub, bin_mul, bin_eql, bin_neq, bin_lss, bin_leq, bin_gtr, bin_geq, un_not, un_neg,
    List.range, List.range.loop, Array.size, List.length_cons, List.length_nil, List.size_toArray, Nat.reduceAdd, Nat.reduceSub, Nat.reduceEqDiff, Nat.zero_add, List.getElem?_toArray, List.getElem?_cons_zero, List.getElem?_cons_succ, List.replicate, List.cons_append, List.nil_append, List.append_nil, List.set_cons_zero, List.set_cons_succ, List.getD_cons_zero, List.getD_cons_succ,
    retR_ret, retR_normal, retR_pan, resAs_nil, resAs_cons, resA_tmp, resA_cell, fin_one, fin_none, fin_two,
    decide_eq_true_eq, decide_not, Bool.not_eq_true', Bool.false_eq_true, Bool.true_eq_false, ne_eq, not_true_eq_false, not_false_eq_true, if_true, if_false, decide_true, decide_false, Bool.not_true, Bool.not_false, eq_self, ↓reduceIte, reduceCtorEq]
  refine callK_ret _ _ _ _ (call_pure (ok8) (fun _ => rfl) (fun _ => rfl)) (ok_nil _ _) ?_
  simp -implicitDefEqProofs only [awp_seq, awp_skip, awp_ret, awp_exit, awp_label, awp_block, awp_cond, awp_reg, awp_loop, thenC_normal, thenC_ret, thenC_exit, thenC_pan, then_normal, then_ret, then_exit, then_pan, inBlock_normal, inBlock_ret, inBlock_pan, inBlock_exit, condK_bool, condK_any,
    nxt_nil, nxt_dnil, nxt_at, nxt_draw, nxt_quiet, stepAt_plain, stepQ_plain, stepAt_guard, stepQ_guard, guardK_yes, guardK_no, guardQ_yes, guardQ_no, gval_eq, gvO_some, gv_bool, gv_undef, putK_some, readK_at, readK_no, effK_some, ok_none, ok_nil, true_and, pickK_some, pickK_any, put_some, put_none,
    bin2_some, map1_some, ia2_some, opK_move, opK_assign, opK_bin, opK_un, opK_convert, opK_idxAddr, opK_idx, quK_move, quK_assign, quK_bin, quK_un, quK_convert, quK_idxAddr, quK_idx, opK_len, quK_len, opK_load, quK_load, ld1_some, opK_pick, quK_pick, opK_call, call2_some, opK_buildSlice, opK_slice, quK_slice, opK_fad, quK_fad, opK_fld, quK_fld, opK_ext, quK_ext, ext_tuple, opK_nck, quK_nck, opK_mki, quK_mki, opK_mkf, quK_mkf, opK_panic, panK_iface, Option.map_none, opK_append, opK_cap, opK_clear, opK_store, opK_box, opK_alloc, opK_makeSlice, eff_append_eq, eff_store_eq, evs_nil, evs_cons, cons2_some,
    ev_tmp, ev_const, ev_func, ofValue, ofCell, Option.map_some, bin_add, bin_sub, bin_mul, bin_eql, bin_neq, bin_lss, bin_leq, bin_gtr, bin_geq, un_not, un_neg,
    List.range, List.range.loop, Array.size, List.length_cons, List.length_nil, List.size_toArray, Nat.reduceAdd, Nat.reduceSub, Nat.reduceEqDiff, Nat.zero_add, List.getElem?_toArray, List.getElem?_cons_zero, List.getElem?_cons_succ, List.replicate, List.cons_append, List.nil_append, List.append_nil, List.set_cons_zero, List.set_cons_succ, List.getD_cons_zero, List.getD_cons_succ,
    retR_ret, retR_normal, retR_pan, resAs_nil, resAs_cons, resA_tmp, resA_cell, fin_one, fin_none, fin_two,
    decide_eq_true_eq, decide_not, Bool.not_eq_true', Bool.false_eq_true, Bool.true_eq_false, ne_eq, not_true_eq_false, not_false_eq_true, if_true, if_false, decide_true, decide_false, Bool.not_true, Bool.not_false, eq_self, ↓reduceIte, reduceCtorEq]
  refine callK_ret _ _ _ _ (call_pure (hab) (fun _ => rfl) (fun _ => rfl)) (ok_nil _ _) ?_
  simp -implicitDefEqProofs only [awp_seq, awp_skip, awp_ret, awp_exit, awp_label, awp_block, awp_cond, awp_reg, awp_loop, thenC_normal, thenC_ret, thenC_exit, thenC_pan, then_normal, then_ret, then_exit, then_pan, inBlock_normal, inBlock_ret, inBlock_pan, inBlock_exit, condK_bool, condK_any,
    nxt_nil, nxt_dnil, nxt_at, nxt_draw, nxt_quiet, stepAt_plain, stepQ_plain, stepAt_guard, stepQ_guard, guardK_yes, guardK_no, guardQ_yes, guardQ_no, gval_eq, gvO_some, gv_bool, gv_undef, putK_some, readK_at, readK_no, effK_some, ok_none, ok_nil, true_and, pickK_some, pickK_any, put_some, put_none,
    bin2_some, map1_some, ia2_some, opK_move, opK_assign, opK_bin, opK_un, opK_convert, opK_idxAddr, opK_idx, quK_move, quK_assign, quK_bin, quK_un, quK_convert, quK_idxAddr, quK_idx, opK_len, quK_len, opK_load, quK_load, ld1_some, opK_pick, quK_pick, opK_call, call2_some, opK_buildSlice, opK_slice, quK_slice, opK_fad, quK_fad, opK_fld, quK_fld, opK_ext, quK_ext, ext_tuple, opK_nck, quK_nck, opK_mki, quK_mki, opK_mkf, quK_mkf, opK_panic, panK_iface, Option.map_none, opK_append, opK_cap, opK_clear, opK_store, opK_box, opK_alloc, opK_makeSlice, eff_append_eq, eff_store_eq, evs_nil, evs_cons, cons2_some,
    ev_tmp, ev_const, ev_func, ofValue, ofCell, Option.map_some, bin_add, bin_sub, bin_mul, bin_eql, bin_neq, bin_lss, bin_leq, bin_gtr, bin_geq, un_not, un_neg,
    List.range, List.range.loop, Array.size, List.length_cons, List.length_nil, List.size_toArray, Nat.reduceAdd, Nat.reduceSub, Nat.reduceEqDiff, Nat.zero_add, List.getElem?_toArray, List.getElem?_cons_zero, List.getElem?_cons_succ, List.replicate, List.cons_append, List.nil_append, List.append_nil, List.set_cons_zero, List.set_cons_succ, List.getD_cons_zero, List.getD_cons_succ,
    retR_ret, retR_normal, retR_pan, resAs_nil, resAs_cons, resA_tmp, resA_cell, fin_one, fin_none, fin_two,
    decide_eq_true_eq, decide_not, Bool.not_eq_true', Bool.false_eq_true, Bool.true_eq_false, ne_eq, not_true_eq_false, not_false_eq_true, if_true, if_false, decide_true, decide_false, Bool.not_true, Bool.not_false, eq_self, ↓reduceIte, reduceCtorEq]
  refine callK_ret _ _ _ _ (call_pure (hbc) (fun _ => rfl) (fun _ => rfl)) (ok_nil _ _) ?_
  simp -implicitDefEqProofs only [awp_seq, awp_skip, awp_ret, awp_exit, awp_label, awp_block, awp_cond, awp_reg, awp_loop, thenC_normal, thenC_ret, thenC_exit, thenC_pan, then_normal, then_ret, then_exit, then_pan, inBlock_normal, inBlock_ret, inBlock_pan, inBlock_exit, condK_bool, condK_any,
    nxt_nil, nxt_dnil, nxt_at, nxt_draw, nxt_quiet, stepAt_plain, stepQ_plain, stepAt_guard, stepQ_guard, guardK_yes, guardK_no, guardQ_yes, guardQ_no, gval_eq, gvO_some, gv_bool, gv_undef, putK_some, readK_at, readK_no, effK_some, ok_none, ok_nil, true_and, pickK_some, pickK_any, put_some, put_none,
    bin2_some, map1_some, ia2_some, opK_move, opK_assign, opK_bin, opK_un, opK_convert, opK_idxAddr, opK_idx, quK_move, quK_assign, quK_bin, quK_un, quK_convert, quK_idxAddr, quK_idx, opK_len, quK_len, opK_load, quK_load, ld1_some, opK_pick, quK_pick, opK_call, call2_some, opK_buildSlice, opK_slice, quK_slice, opK_fad, quK_fad, opK_fld, quK_fld, opK_ext, quK_ext, ext_tuple, opK_nck, quK_nck, opK_mki, quK_mki, opK_mkf, quK_mkf, opK_panic, panK_iface, Option.map_none, opK_append, opK_cap, opK_clear, opK_store, opK_box, opK_alloc, opK_makeSlice, eff_append_eq, eff_store_eq, evs_nil, evs_cons, cons2_some,
    ev_tmp, ev_const, ev_func, ofValue, ofCell, Option.map_some, bin_add, bin_sub, bin_mul, bin_eql, bin_neq, bin_lss, bin_leq, bin_gtr, bin_geq, un_not, un_neg,
    List.range, List.range.loop, Array.size, List.length_cons, List.length_nil, List.size_toArray, Nat.reduceAdd, Nat.reduceSub, Nat.reduceEqDiff, Nat.zero_add, List.getElem?_toArray, List.getElem?_cons_zero, List.getElem?_cons_succ, List.replicate, List.cons_append, List.nil_append, List.append_nil, List.set_cons_zero, List.set_cons_succ, List.getD_cons_zero, List.getD_cons_succ,
    retR_ret, retR_normal, retR_pan, resAs_nil, resAs_cons, resA_tmp, resA_cell, fin_one, fin_none, fin_two,
    decide_eq_true_eq, decide_not, Bool.not_eq_true', Bool.false_eq_true, Bool.true_eq_false, ne_eq, not_true_eq_false, not_false_eq_true, if_true, if_false, decide_true, decide_false, Bool.not_true, Bool.not_false, eq_self, ↓reduceIte, reduceCtorEq]
  refine callK_ret _ _ _ _ (call_pure (hrab) (fun _ => rfl) (fun _ => rfl)) (ok_nil _ _) ?_
  simp -implicitDefEqProofs only [eq_self,
    awp_seq, awp_skip, awp_ret, awp_exit, awp_label, awp_block, awp_cond, awp_reg, awp_loop, thenC_normal, thenC_ret, thenC_exit, thenC_pan, then_normal, then_ret, then_exit, then_pan, inBlock_normal, inBlock_ret, inBlock_pan, inBlock_exit, condK_bool, condK_any,
    nxt_nil, nxt_dnil, nxt_at, nxt_draw, nxt_quiet, stepAt_plain, stepQ_plain, stepAt_guard, stepQ_guard, guardK_yes, guardK_no, guardQ_yes, guardQ_no, gval_eq, gvO_some, gv_bool, gv_undef, putK_some, readK_at, readK_no, effK_some, ok_none, ok_nil, true_and, pickK_some, pickK_any, put_some, put_none,
    bin2_some, map1_some, ia2_some, opK_move, opK_assign, opK_bin, opK_un, opK_convert, opK_idxAddr, opK_idx, quK_move, quK_assign, quK_bin, quK_un, quK_convert, quK_idxAddr, quK_idx, opK_len, quK_len, opK_load, quK_load, ld1_some, opK_pick, quK_pick, opK_call, call2_some, opK_buildSlice, opK_slice, quK_slice, opK_fad, quK_fad, opK_fld, quK_fld, opK_ext, quK_ext, ext_tuple, opK_nck, quK_nck, opK_mki, quK_mki, opK_mkf, quK_mkf, opK_panic, panK_iface, Option.map_none, opK_append, opK_cap, opK_clear, opK_store, opK_box, opK_alloc, opK_makeSlice, eff_append_eq, eff_store_eq, evs_nil, evs_cons, cons2_some,
    ev_tmp, ev_const, ev_func, ofValue, ofCell, Option.map_some, bin_add, bin_sub, bin_mul, bin_eql, bin_neq, bin_lss, bin_leq, bin_gtr, bin_geq, un_not, un_neg,
    List.range, List.range.loop, Array.size, List.length_cons, List.length_nil, List.size_toArray, Nat.reduceAdd, Nat.reduceSub, Nat.reduceEqDiff, Nat.zero_add, List.getElem?_toArray, List.getElem?_cons_zero, List.getElem?_cons_succ, List.replicate, List.cons_append, List.nil_append, List.append_nil, List.set_cons_zero, List.set_cons_succ, List.getD_cons_zero, List.getD_cons_succ,
    retR_ret, retR_normal, retR_pan, resAs_nil, resAs_cons, resA_tmp, resA_cell, fin_one, fin_none, fin_two,
    decide_eq_true_eq, decide_not, Bool.not_eq_true', Bool.false_eq_true, Bool.true_eq_false, ne_eq, not_true_eq_false, not_false_eq_true, if_true, if_false, decide_true, decide_false, Bool.not_true, Bool.not_false, eq_self, ↓reduceIte, reduceCtorEq]
  refine callK_ret _ _ _ _ (call_pure (hba) (fun _ => rfl) (fun _ => rfl)) (ok_nil _ _) ?_
  by_cases hX : 0 < X
  · have hX' : ((0 : Int) < X) = True := eq_true hX
    simp -implicitDefEqProofs only [eq_self, hw, hX',
    awp_seq, awp_skip, awp_ret, awp_exit, awp_label, awp_block, awp_cond, awp_reg, awp_loop, thenC_normal, thenC_ret, thenC_exit, thenC_pan, then_normal, then_ret, then_exit, then_pan, inBlock_normal, inBlock_ret, inBlock_pan, inBlock_exit, condK_bool, condK_any,
    nxt_nil, nxt_dnil, nxt_at, nxt_draw, nxt_quiet, stepAt_plain, stepQ_plain, stepAt_guard, stepQ_guard, guardK_yes, guardK_no, guardQ_yes, guardQ_no, gval_eq, gvO_some, gv_bool, gv_undef, putK_some, readK_at, readK_no, effK_some, ok_none, ok_nil, true_and, pickK_some, pickK_any, put_some, put_none,
    bin2_some, map1_some, ia2_some, opK_move, opK_assign, opK_bin, opK_un, opK_convert, opK_idxAddr, opK_idx, quK_move, quK_assign, quK_bin, quK_un, quK_convert, quK_idxAddr, quK_idx, opK_len, quK_len, opK_load, quK_load, ld1_some, opK_pick, quK_pick, opK_call, call2_some, opK_buildSlice, opK_slice, quK_slice, opK_fad, quK_fad, opK_fld, quK_fld, opK_ext, quK_ext, ext_tuple, opK_nck, quK_nck, opK_mki, quK_mki, opK_mkf, quK_mkf, opK_panic, panK_iface, Option.map_none, opK_append, opK_cap, opK_clear, opK_store, opK_box, opK_alloc, opK_makeSlice, eff_append_eq, eff_store_eq, evs_nil, evs_cons, cons2_some,
    ev_tmp, ev_const, ev_func, ofValue, ofCell, Option.map_some, bin_add, bin_sub, bin_mul, bin_eql, bin_neq, bin_lss, bin_leq, bin_gtr, bin_geq, un_not, un_neg,
    List.range, List.range.loop, Array.size, List.length_cons, List.length_nil, List.size_toArray, Nat.reduceAdd, Nat.reduceSub, Nat.reduceEqDiff, Nat.zero_add, List.getElem?_toArray, List.getElem?_cons_zero, List.getElem?_cons_succ, List.replicate, List.cons_append, List.nil_append, List.append_nil, List.set_cons_zero, List.set_cons_succ, List.getD_cons_zero, List.getD_cons_succ,
    retR_ret, retR_normal, retR_pan, resAs_nil, resAs_cons, resA_tmp, resA_cell, fin_one, fin_none, fin_two,
    decide_eq_true_eq, decide_not, Bool.not_eq_true', Bool.false_eq_true, Bool.true_eq_false, ne_eq, not_true_eq_false, not_false_eq_true, if_true, if_false, decide_true, decide_false, Bool.not_true, Bool.not_false, eq_self, ↓reduceIte, reduceCtorEq]
    exact le_flat rfl
  · have hX' : ((0 : Int) < X) = False := eq_false hX
    by_cases hY : 0 < Y
    · have hY' : ((0 : Int) < Y) = True := eq_true hY
      simp -implicitDefEqProofs only [eq_self, hw, hX', hY',
    awp_seq, awp_skip, awp_ret, awp_exit, awp_label, awp_block, awp_cond, awp_reg, awp_loop, thenC_normal, thenC_ret, thenC_exit, thenC_pan, then_normal, then_ret, then_exit, then_pan, inBlock_normal, inBlock_ret, inBlock_pan, inBlock_exit, condK_bool, condK_any,
    nxt_nil, nxt_dnil, nxt_at, nxt_draw, nxt_quiet, stepAt_plain, stepQ_plain, stepAt_guard, stepQ_guard, guardK_yes, guardK_no, guardQ_yes, guardQ_no, gval_eq, gvO_some, gv_bool, gv_undef, putK_some, readK_at, readK_no, effK_some, ok_none, ok_nil, true_and, pickK_some, pickK_any, put_some, put_none,
    bin2_some, map1_some, ia2_some, opK_move, opK_assign, opK_bin, opK_un, opK_convert, opK_idxAddr, opK_idx, quK_move, quK_assign, quK_bin, quK_un, quK_convert, quK_idxAddr, quK_idx, opK_len, quK_len, opK_load, quK_load, ld1_some, opK_pick, quK_pick, opK_call, call2_some, opK_buildSlice, opK_slice, quK_slice, opK_fad, quK_fad, opK_fld, quK_fld, opK_ext, quK_ext, ext_tuple, opK_nck, quK_nck, opK_mki, quK_mki, opK_mkf, quK_mkf, opK_panic, panK_iface, Option.map_none, opK_append, opK_cap, opK_clear, opK_store, opK_box, opK_alloc, opK_makeSlice, eff_append_eq, eff_store_eq, evs_nil, evs_cons, cons2_some,
    ev_tmp, ev_const, ev_func, ofValue, ofCell, Option.map_some, bin_add, bin_sub, bin_mul, bin_eql, bin_neq, bin_lss, bin_leq, bin_gtr, bin_geq, un_not, un_neg,
    List.range, List.range.loop, Array.size, List.length_cons, List.length_nil, List.size_toArray, Nat.reduceAdd, Nat.reduceSub, Nat.reduceEqDiff, Nat.zero_add, List.getElem?_toArray, List.getElem?_cons_zero, List.getElem?_cons_succ, List.replicate, List.cons_append, List.nil_append, List.append_nil, List.set_cons_zero, List.set_cons_succ, List.getD_cons_zero, List.getD_cons_succ,
    retR_ret, retR_normal, retR_pan, resAs_nil, resAs_cons, resA_tmp, resA_cell, fin_one, fin_none, fin_two,
    decide_eq_true_eq, decide_not, Bool.not_eq_true', Bool.false_eq_true, Bool.true_eq_false, ne_eq, not_true_eq_false, not_false_eq_true, if_true, if_false, decide_true, decide_false, Bool.not_true, Bool.not_false, eq_self, ↓reduceIte, reduceCtorEq]
      exact le_flat rfl
    · have hY' : ((0 : Int) < Y) = False := eq_false hY
      have hZ' : (Z ≤ 0) = True := eq_true (htr (by omega) (by omega))
      simp -implicitDefEqProofs only [eq_self, hw, hX', hY',
    awp_seq, awp_skip, awp_ret, awp_exit, awp_label, awp_block, awp_cond, awp_reg, awp_loop, thenC_normal, thenC_ret, thenC_exit, thenC_pan, then_normal, then_ret, then_exit, then_pan, inBlock_normal, inBlock_ret, inBlock_pan, inBlock_exit, condK_bool, condK_any,
    nxt_nil, nxt_dnil, nxt_at, nxt_draw, nxt_quiet, stepAt_plain, stepQ_plain, stepAt_guard, stepQ_guard, guardK_yes, guardK_no, guardQ_yes, guardQ_no, gval_eq, gvO_some, gv_bool, gv_undef, putK_some, readK_at, readK_no, effK_some, ok_none, ok_nil, true_and, pickK_some, pickK_any, put_some, put_none,
    bin2_some, map1_some, ia2_some, opK_move, opK_assign, opK_bin, opK_un, opK_convert, opK_idxAddr, opK_idx, quK_move, quK_assign, quK_bin, quK_un, quK_convert, quK_idxAddr, quK_idx, opK_len, quK_len, opK_load, quK_load, ld1_some, opK_pick, quK_pick, opK_call, call2_some, opK_buildSlice, opK_slice, quK_slice, opK_fad, quK_fad, opK_fld, quK_fld, opK_ext, quK_ext, ext_tuple, opK_nck, quK_nck, opK_mki, quK_mki, opK_mkf, quK_mkf, opK_panic, panK_iface, Option.map_none, opK_append, opK_cap, opK_clear, opK_store, opK_box, opK_alloc, opK_makeSlice, eff_append_eq, eff_store_eq, evs_nil, evs_cons, cons2_some,
    ev_tmp, ev_const, ev_func, ofValue, ofCell, Option.map_some, bin_add, bin_sub, bin_mul, bin_eql, bin_neq, bin_lss, bin_leq, bin_gtr, bin_geq, un_not, un_neg,
    List.range, List.range.loop, Array.size, List.length_cons, List.length_nil, List.size_toArray, Nat.reduceAdd, Nat.reduceSub, Nat.reduceEqDiff, Nat.zero_add, List.getElem?_toArray, List.getElem?_cons_zero, List.getElem?_cons_succ, List.replicate, List.cons_append, List.nil_append, List.append_nil, List.set_cons_zero, List.set_cons_succ, List.getD_cons_zero, List.getD_cons_succ,
    retR_ret, retR_normal, retR_pan, resAs_nil, resAs_cons, resA_tmp, resA_cell, fin_one, fin_none, fin_two,
    decide_eq_true_eq, decide_not, Bool.not_eq_true', Bool.false_eq_true, Bool.true_eq_false, ne_eq, not_true_eq_false, not_false_eq_true, if_true, if_false, decide_true, decide_false, Bool.not_true, Bool.not_false, eq_self, ↓reduceIte, reduceCtorEq]
      refine callK_ret _ _ _ _ (call_pure (hac) (fun _ => rfl) (fun _ => rfl)) (ok_nil _ _) ?_
      simp -implicitDefEqProofs only [hZ',
    awp_seq, awp_skip, awp_ret, awp_exit, awp_label, awp_block, awp_cond, awp_reg, awp_loop, thenC_normal, thenC_ret, thenC_exit, thenC_pan, then_normal, then_ret, then_exit, then_pan, inBlock_normal, inBlock_ret, inBlock_pan, inBlock_exit, condK_bool, condK_any,
    nxt_nil, nxt_dnil, nxt_at, nxt_draw, nxt_quiet, stepAt_plain, stepQ_plain, stepAt_guard, stepQ_guard, guardK_yes, guardK_no, guardQ_yes, guardQ_no, gval_eq, gvO_some, gv_bool, gv_undef, putK_some, readK_at, readK_no, effK_some, ok_none, ok_nil, true_and, pickK_some, pickK_any, put_some, put_none,
    bin2_some, map1_some, ia2_some, opK_move, opK_assign, opK_bin, opK_un, opK_convert, opK_idxAddr, opK_idx, quK_move, quK_assign, quK_bin, quK_un, quK_convert, quK_idxAddr, quK_idx, opK_len, quK_len, opK_load, quK_load, ld1_some, opK_pick, quK_pick, opK_call, call2_some, opK_buildSlice, opK_slice, quK_slice, opK_fad, quK_fad, opK_fld, quK_fld, opK_ext, quK_ext, ext_tuple, opK_nck, quK_nck, opK_mki, quK_mki, opK_mkf, quK_mkf, opK_panic, panK_iface, Option.map_none, opK_append, opK_cap, opK_clear, opK_store, opK_box, opK_alloc, opK_makeSlice, eff_append_eq, eff_store_eq, evs_nil, evs_cons, cons2_some,
    ev_tmp, ev_const, ev_func, ofValue, ofCell, Option.map_some, bin_add, bin_sub, bin_mul, bin_eql, bin_neq, bin_lss, bin_leq, bin_gtr, bin_geq, un_not, un_neg,
    List.range, List.range.loop, Array.size, List.length_cons, List.length_nil, List.size_toArray, Nat.reduceAdd, Nat.reduceSub, Nat.reduceEqDiff, Nat.zero_add, List.getElem?_toArray, List.getElem?_cons_zero, List.getElem?_cons_succ, List.replicate, List.cons_append, List.nil_append, List.append_nil, List.set_cons_zero, List.set_cons_succ, List.getD_cons_zero, List.getD_cons_succ,
    retR_ret, retR_normal, retR_pan, resAs_nil, resAs_cons, resA_tmp, resA_cell, fin_one, fin_none, fin_two,
    decide_eq_true_eq, decide_not, Bool.not_eq_true', Bool.false_eq_true, Bool.true_eq_false, ne_eq, not_true_eq_false, not_false_eq_true, if_true, if_false, decide_true, decide_false, Bool.not_true, Bool.not_false, eq_self, ↓reduceIte, reduceCtorEq]
      exact le_flat rfl
end Go.Abs
