/- A text of the claim: part of the proof. -/
import Derived.Test.YtablmjophjjabaaAbsS
import Derived.Test.YtablmjophjjabaaSetsD
import Derived.Test.YtablmjophjjabaaSetsM
namespace Go.Abs
open Go.Proofs
set_option linter.unusedVariables false
set_option linter.unusedSimpArgs false
set_option maxRecDepth 100000
set_option maxHeartbeats 1000000
theorem ok15 (a : List Int) (x : Int) (ha : a.length < 4611686018427387904) :
    Ok Try.prog 15 [.fv (.lst 1 (ints a)), .fv (.int .i64 x)] [] (.ret (.fv (.bool (decide (x ∈ a))))) [] := by
  refine ok_start (k := 16) (n0 := 0) (rs := [.tmp 4]) mix Try.func15 rfl rfl rfl rfl rfl rfl rfl ?_
  simp -implicitDefEqProofs only [len_lst 22 t22 rfl,
    awp_seq, awp_skip, awp_ret, awp_exit, awp_label, awp_block, awp_cond, awp_reg, awp_loop, thenC_normal, thenC_ret, thenC_exit, thenC_pan, then_normal, then_ret, then_exit, then_pan, inBlock_normal, inBlock_ret, inBlock_pan, inBlock_exit, condK_bool, condK_any,
    nxt_nil, nxt_dnil, nxt_at, nxt_draw, nxt_quiet, stepAt_plain, stepQ_plain, stepAt_guard, stepQ_guard, guardK_yes, guardK_no, guardQ_yes, guardQ_no, gval_eq, gvO_some, gv_bool, gv_undef, putK_some, readK_at, readK_no, effK_some, ok_none, ok_nil, true_and, pickK_some, pickK_any, put_some, put_none,
    bin2_some, map1_some, ia2_some, opK_move, opK_assign, opK_bin, opK_un, opK_convert, opK_idxAddr, opK_idx, quK_move, quK_assign, quK_bin, quK_un, quK_convert, quK_idxAddr, quK_idx, opK_len, quK_len, opK_load, quK_load, ld1_some, opK_pick, quK_pick, opK_call, call2_some, opK_buildSlice, opK_slice, quK_slice, opK_fad, quK_fad, opK_fld, quK_fld, opK_ext, quK_ext, ext_tuple, opK_nck, quK_nck, opK_mki, quK_mki, opK_mkf, quK_mkf, opK_panic, panK_iface, Option.map_none, opK_append, opK_cap, opK_clear, opK_store, opK_box, opK_alloc, opK_makeSlice, eff_append_eq, eff_store_eq, evs_nil, evs_cons, cons2_some,
    ev_tmp, ev_const, ev_func, ofValue, ofCell, Option.map_some, bin_add, bin_sub, bin_mul, bin_eql, bin_neq, bin_lss, bin_leq, bin_gtr, bin_geq, un_not, un_neg,
    List.range, List.range.loop, Array.size, List.length_cons, List.length_nil, List.size_toArray, Nat.reduceAdd, Nat.reduceSub, Nat.reduceEqDiff, Nat.zero_add, List.getElem?_toArray, List.getElem?_cons_zero, List.getElem?_cons_succ, List.replicate, List.cons_append, List.nil_append, List.append_nil, List.set_cons_zero, List.set_cons_succ, List.getD_cons_zero, List.getD_cons_succ,
    retR_ret, retR_normal, retR_pan, resAs_nil, resAs_cons, resA_tmp, resA_cell, fin_one, fin_none, fin_two,
    decide_eq_true_eq, decide_not, Bool.not_eq_true', Bool.false_eq_true, Bool.true_eq_false, ne_eq, not_true_eq_false, not_false_eq_true, if_true, if_false, decide_true, decide_false, Bool.not_true, Bool.not_false, eq_self, ↓reduceIte, reduceCtorEq]
  refine loop_rule (fun i : Nat => ⟨[.fv (.lst 1 (ints a)), .fv (.int .i64 x), .any, .any, .fv (.bool false), .fv (.int .i64 i), .any, .any, .any, .any, .any, .any, .any, .any, .any, .any, .any, .any], [], []⟩)
    (fun i => i ≤ a.length ∧ x ∉ a.take i) (fun i => a.length - i) 0 (le_wk (by simp [wk])) (by simp) (fun i hp s hs => ?_)
  obtain ⟨h1, h2⟩ := hp
  have hla := ints_length a
  by_cases hia : i < a.length
  · have hc : ((i : Int) < ((ints a).length : Int)) = True := by simp; omega
    have hra : (ints a)[(i : Int).toNat]? = some [.int .i64 a[i]] := ints_get a i hia
    have hw : IntKind.wrap .i64 ((i : Int) + 1) = ((i + 1 : Nat) : Int) := wrap_small (by omega) (by omega)
    have ht := List.take_succ_eq_append_getElem hia
    by_cases he : a[i] = x
    · have hb : (a[i] = x) = True := by simpa using he
      have hm : decide (x ∈ a) = true := by rw [decide_eq_true_eq, ← he]; exact List.getElem_mem hia
      simp -implicitDefEqProofs only [len_lst 22 t22 rfl, hc, idx_lst 22 t22 rfl t3 1 rfl (ints a) i _ hra (by omega), ld_fptr 3 t3 rfl, hb, hm,
    awp_seq, awp_skip, awp_ret, awp_exit, awp_label, awp_block, awp_cond, awp_reg, awp_loop, thenC_normal, thenC_ret, thenC_exit, thenC_pan, then_normal, then_ret, then_exit, then_pan, inBlock_normal, inBlock_ret, inBlock_pan, inBlock_exit, condK_bool, condK_any,
    nxt_nil, nxt_dnil, nxt_at, nxt_draw, nxt_quiet, stepAt_plain, stepQ_plain, stepAt_guard, stepQ_guard, guardK_yes, guardK_no, guardQ_yes, guardQ_no, gval_eq, gvO_some, gv_bool, gv_undef, putK_some, readK_at, readK_no, effK_some, ok_none, ok_nil, true_and, pickK_some, pickK_any, put_some, put_none,
    bin2_some, map1_some, ia2_some, opK_move, opK_assign, opK_bin, opK_un, opK_convert, opK_idxAddr, opK_idx, quK_move, quK_assign, quK_bin, quK_un, quK_convert, quK_idxAddr, quK_idx, opK_len, quK_len, opK_load, quK_load, ld1_some, opK_pick, quK_pick, opK_call, call2_some, opK_buildSlice, opK_slice, quK_slice, opK_fad, quK_fad, opK_fld, quK_fld, opK_ext, quK_ext, ext_tuple, opK_nck, quK_nck, opK_mki, quK_mki, opK_mkf, quK_mkf, opK_panic, panK_iface, Option.map_none, opK_append, opK_cap, opK_clear, opK_store, opK_box, opK_alloc, opK_makeSlice, eff_append_eq, eff_store_eq, evs_nil, evs_cons, cons2_some,
    ev_tmp, ev_const, ev_func, ofValue, ofCell, Option.map_some, bin_add, bin_sub, bin_mul, bin_eql, bin_neq, bin_lss, bin_leq, bin_gtr, bin_geq, un_not, un_neg,
    List.range, List.range.loop, Array.size, List.length_cons, List.length_nil, List.size_toArray, Nat.reduceAdd, Nat.reduceSub, Nat.reduceEqDiff, Nat.zero_add, List.getElem?_toArray, List.getElem?_cons_zero, List.getElem?_cons_succ, List.replicate, List.cons_append, List.nil_append, List.append_nil, List.set_cons_zero, List.set_cons_succ, List.getD_cons_zero, List.getD_cons_succ,
    retR_ret, retR_normal, retR_pan, resAs_nil, resAs_cons, resA_tmp, resA_cell, fin_one, fin_none, fin_two,
    decide_eq_true_eq, decide_not, Bool.not_eq_true', Bool.false_eq_true, Bool.true_eq_false, ne_eq, not_true_eq_false, not_false_eq_true, if_true, if_false, decide_true, decide_false, Bool.not_true, Bool.not_false, eq_self, ↓reduceIte, reduceCtorEq]
      exact Le.refl _ _
    · have hb : (a[i] = x) = False := by simpa using he
      simp -implicitDefEqProofs only [len_lst 22 t22 rfl, hc, idx_lst 22 t22 rfl t3 1 rfl (ints a) i _ hra (by omega), ld_fptr 3 t3 rfl, hb, hw,
    awp_seq, awp_skip, awp_ret, awp_exit, awp_label, awp_block, awp_cond, awp_reg, awp_loop, thenC_normal, thenC_ret, thenC_exit, thenC_pan, then_normal, then_ret, then_exit, then_pan, inBlock_normal, inBlock_ret, inBlock_pan, inBlock_exit, condK_bool, condK_any,
    nxt_nil, nxt_dnil, nxt_at, nxt_draw, nxt_quiet, stepAt_plain, stepQ_plain, stepAt_guard, stepQ_guard, guardK_yes, guardK_no, guardQ_yes, guardQ_no, gval_eq, gvO_some, gv_bool, gv_undef, putK_some, readK_at, readK_no, effK_some, ok_none, ok_nil, true_and, pickK_some, pickK_any, put_some, put_none,
    bin2_some, map1_some, ia2_some, opK_move, opK_assign, opK_bin, opK_un, opK_convert, opK_idxAddr, opK_idx, quK_move, quK_assign, quK_bin, quK_un, quK_convert, quK_idxAddr, quK_idx, opK_len, quK_len, opK_load, quK_load, ld1_some, opK_pick, quK_pick, opK_call, call2_some, opK_buildSlice, opK_slice, quK_slice, opK_fad, quK_fad, opK_fld, quK_fld, opK_ext, quK_ext, ext_tuple, opK_nck, quK_nck, opK_mki, quK_mki, opK_mkf, quK_mkf, opK_panic, panK_iface, Option.map_none, opK_append, opK_cap, opK_clear, opK_store, opK_box, opK_alloc, opK_makeSlice, eff_append_eq, eff_store_eq, evs_nil, evs_cons, cons2_some,
    ev_tmp, ev_const, ev_func, ofValue, ofCell, Option.map_some, bin_add, bin_sub, bin_mul, bin_eql, bin_neq, bin_lss, bin_leq, bin_gtr, bin_geq, un_not, un_neg,
    List.range, List.range.loop, Array.size, List.length_cons, List.length_nil, List.size_toArray, Nat.reduceAdd, Nat.reduceSub, Nat.reduceEqDiff, Nat.zero_add, List.getElem?_toArray, List.getElem?_cons_zero, List.getElem?_cons_succ, List.replicate, List.cons_append, List.nil_append, List.append_nil, List.set_cons_zero, List.set_cons_succ, List.getD_cons_zero, List.getD_cons_succ,
    retR_ret, retR_normal, retR_pan, resAs_nil, resAs_cons, resA_tmp, resA_cell, fin_one, fin_none, fin_two,
    decide_eq_true_eq, decide_not, Bool.not_eq_true', Bool.false_eq_true, Bool.true_eq_false, ne_eq, not_true_eq_false, not_false_eq_true, if_true, if_false, decide_true, decide_false, Bool.not_true, Bool.not_false, eq_self, ↓reduceIte, reduceCtorEq]
      refine back_intro hs (i + 1) (le_wk (by simp [wk])) ⟨by omega, ?_⟩ (by omega)
      rw [ht, List.mem_append, List.mem_singleton]
      rintro (h | h)
      · exact h2 h
      · exact he h.symm
  · have hc : ((i : Int) < ((ints a).length : Int)) = False := by simp; omega
    have hie : i = a.length := by omega
    subst hie
    rw [List.take_length] at h2
    have hm : decide (x ∈ a) = false := by simpa using h2
    simp -implicitDefEqProofs only [len_lst 22 t22 rfl, hc, hm,
    awp_seq, awp_skip, awp_ret, awp_exit, awp_label, awp_block, awp_cond, awp_reg, awp_loop, thenC_normal, thenC_ret, thenC_exit, thenC_pan, then_normal, then_ret, then_exit, then_pan, inBlock_normal, inBlock_ret, inBlock_pan, inBlock_exit, condK_bool, condK_any,
    nxt_nil, nxt_dnil, nxt_at, nxt_draw, nxt_quiet, stepAt_plain, stepQ_plain, stepAt_guard, stepQ_guard, guardK_yes, guardK_no, guardQ_yes, guardQ_no, gval_eq, gvO_some, gv_bool, gv_undef, putK_some, readK_at, readK_no, effK_some, ok_none, ok_nil, true_and, pickK_some, pickK_any, put_some, put_none,
    bin2_some, map1_some, ia2_some, opK_move, opK_assign, opK_bin, opK_un, opK_convert, opK_idxAddr, opK_idx, quK_move, quK_assign, quK_bin, quK_un, quK_convert, quK_idxAddr, quK_idx, opK_len, quK_len, opK_load, quK_load, ld1_some, opK_pick, quK_pick, opK_call, call2_some, opK_buildSlice, opK_slice, quK_slice, opK_fad, quK_fad, opK_fld, quK_fld, opK_ext, quK_ext, ext_tuple, opK_nck, quK_nck, opK_mki, quK_mki, opK_mkf, quK_mkf, opK_panic, panK_iface, Option.map_none, opK_append, opK_cap, opK_clear, opK_store, opK_box, opK_alloc, opK_makeSlice, eff_append_eq, eff_store_eq, evs_nil, evs_cons, cons2_some,
    ev_tmp, ev_const, ev_func, ofValue, ofCell, Option.map_some, bin_add, bin_sub, bin_mul, bin_eql, bin_neq, bin_lss, bin_leq, bin_gtr, bin_geq, un_not, un_neg,
    List.range, List.range.loop, Array.size, List.length_cons, List.length_nil, List.size_toArray, Nat.reduceAdd, Nat.reduceSub, Nat.reduceEqDiff, Nat.zero_add, List.getElem?_toArray, List.getElem?_cons_zero, List.getElem?_cons_succ, List.replicate, List.cons_append, List.nil_append, List.append_nil, List.set_cons_zero, List.set_cons_succ, List.getD_cons_zero, List.getD_cons_succ,
    retR_ret, retR_normal, retR_pan, resAs_nil, resAs_cons, resA_tmp, resA_cell, fin_one, fin_none, fin_two,
    decide_eq_true_eq, decide_not, Bool.not_eq_true', Bool.false_eq_true, Bool.true_eq_false, ne_eq, not_true_eq_false, not_false_eq_true, if_true, if_false, decide_true, decide_false, Bool.not_true, Bool.not_false, eq_self, ↓reduceIte, reduceCtorEq]
    exact Le.refl _ _
theorem ok36 (a : List Int) (x : Int) (ha : a.length < 4611686018427387904) :
    ∃ r : Int, (0 ≤ r ↔ x ∈ a) ∧ Ok Try.prog 36 [.fv (.lst 1 (ints a)), .fv (.int .i64 x)] [] (.ret (.fv (.int .i64 r))) [] := by
  have hla := ints_length a
  by_cases hx : x ∈ a
  · obtain ⟨k, hk, hkx, hmin⟩ : ∃ k, ∃ hk : k < a.length, a[k] = x ∧ ∀ j (hj : j < k), a[j] ≠ x := by
      have h1 : ∃ k, ∃ hk : k < a.length, a[k] = x := by
        obtain ⟨k, hk, e⟩ := List.getElem_of_mem hx
        exact ⟨k, hk, e⟩
      have : ∀ n, (∃ k, k < n ∧ ∃ hk : k < a.length, a[k] = x) → ∃ k, ∃ hk : k < a.length, a[k] = x ∧ ∀ j (hj : j < k), a[j] ≠ x := by
        intro n
        induction n with
        | zero => rintro ⟨k, h, _⟩; omega
        | succ n ih =>
          rintro ⟨k, hkn, hk, e⟩
          by_cases h : ∃ k, k < n ∧ ∃ hk : k < a.length, a[k] = x
          · exact ih h
          · refine ⟨k, hk, e, fun j hj ej => h ⟨j, by omega, by omega, ej⟩⟩
      obtain ⟨k, hk, e⟩ := h1
      exact this (k + 1) ⟨k, by omega, hk, e⟩
    refine ⟨k, by simp [hx], ?_⟩
    refine ok_start (k := 17) (n0 := 0) (rs := [.tmp 4]) mix Try.func36 rfl rfl rfl rfl rfl rfl rfl ?_
    simp -implicitDefEqProofs only [len_lst 22 t22 rfl,
    awp_seq, awp_skip, awp_ret, awp_exit, awp_label, awp_block, awp_cond, awp_reg, awp_loop, thenC_normal, thenC_ret, thenC_exit, thenC_pan, then_normal, then_ret, then_exit, then_pan, inBlock_normal, inBlock_ret, inBlock_pan, inBlock_exit, condK_bool, condK_any,
    nxt_nil, nxt_dnil, nxt_at, nxt_draw, nxt_quiet, stepAt_plain, stepQ_plain, stepAt_guard, stepQ_guard, guardK_yes, guardK_no, guardQ_yes, guardQ_no, gval_eq, gvO_some, gv_bool, gv_undef, putK_some, readK_at, readK_no, effK_some, ok_none, ok_nil, true_and, pickK_some, pickK_any, put_some, put_none,
    bin2_some, map1_some, ia2_some, opK_move, opK_assign, opK_bin, opK_un, opK_convert, opK_idxAddr, opK_idx, quK_move, quK_assign, quK_bin, quK_un, quK_convert, quK_idxAddr, quK_idx, opK_len, quK_len, opK_load, quK_load, ld1_some, opK_pick, quK_pick, opK_call, call2_some, opK_buildSlice, opK_slice, quK_slice, opK_fad, quK_fad, opK_fld, quK_fld, opK_ext, quK_ext, ext_tuple, opK_nck, quK_nck, opK_mki, quK_mki, opK_mkf, quK_mkf, opK_panic, panK_iface, Option.map_none, opK_append, opK_cap, opK_clear, opK_store, opK_box, opK_alloc, opK_makeSlice, eff_append_eq, eff_store_eq, evs_nil, evs_cons, cons2_some,
    ev_tmp, ev_const, ev_func, ofValue, ofCell, Option.map_some, bin_add, bin_sub, bin_mul, bin_eql, bin_neq, bin_lss, bin_leq, bin_gtr, bin_geq, un_not, un_neg,
    List.range, List.range.loop, Array.size, List.length_cons, List.length_nil, List.size_toArray, Nat.reduceAdd, Nat.reduceSub, Nat.reduceEqDiff, Nat.zero_add, List.getElem?_toArray, List.getElem?_cons_zero, List.getElem?_cons_succ, List.replicate, List.cons_append, List.nil_append, List.append_nil, List.set_cons_zero, List.set_cons_succ, List.getD_cons_zero, List.getD_cons_succ,
    retR_ret, retR_normal, retR_pan, resAs_nil, resAs_cons, resA_tmp, resA_cell, fin_one, fin_none, fin_two,
    decide_eq_true_eq, decide_not, Bool.not_eq_true', Bool.false_eq_true, Bool.true_eq_false, ne_eq, not_true_eq_false, not_false_eq_true, if_true, if_false, decide_true, decide_false, Bool.not_true, Bool.not_false, eq_self, ↓reduceIte, reduceCtorEq]
    refine loop_rule (fun i : Nat => ⟨[.fv (.lst 1 (ints a)), .fv (.int .i64 x), .any, .any, .fv (.int .i64 0), .any, .fv (.lst 1 (ints a)), .fv (.int .i64 (ints a).length), .fv (.int .i64 i), .any, .any, .any, .any, .any, .any, .any, .any, .any, .any], [], []⟩)
      (fun i => i ≤ k) (fun i => a.length - i) 0 (le_wk (by simp [wk])) (by simp) (fun i hp s hs => ?_)
    have hia : i < a.length := by omega
    have hc : ((i : Int) < ((ints a).length : Int)) = True := by simp; omega
    have hra : (ints a)[(i : Int).toNat]? = some [.int .i64 a[i]] := ints_get a i hia
    have hw : IntKind.wrap .i64 ((i : Int) + 1) = ((i + 1 : Nat) : Int) := wrap_small (by omega) (by omega)
    by_cases he : i = k
    · subst he
      have hb : (x = a[i]) = True := by simp [hkx]
      simp -implicitDefEqProofs only [len_lst 22 t22 rfl, hc, idx_lst 22 t22 rfl t3 1 rfl (ints a) i _ hra (by omega), ld_fptr 3 t3 rfl, hb,
    awp_seq, awp_skip, awp_ret, awp_exit, awp_label, awp_block, awp_cond, awp_reg, awp_loop, thenC_normal, thenC_ret, thenC_exit, thenC_pan, then_normal, then_ret, then_exit, then_pan, inBlock_normal, inBlock_ret, inBlock_pan, inBlock_exit, condK_bool, condK_any,
    nxt_nil, nxt_dnil, nxt_at, nxt_draw, nxt_quiet, stepAt_plain, stepQ_plain, stepAt_guard, stepQ_guard, guardK_yes, guardK_no, guardQ_yes, guardQ_no, gval_eq, gvO_some, gv_bool, gv_undef, putK_some, readK_at, readK_no, effK_some, ok_none, ok_nil, true_and, pickK_some, pickK_any, put_some, put_none,
    bin2_some, map1_some, ia2_some, opK_move, opK_assign, opK_bin, opK_un, opK_convert, opK_idxAddr, opK_idx, quK_move, quK_assign, quK_bin, quK_un, quK_convert, quK_idxAddr, quK_idx, opK_len, quK_len, opK_load, quK_load, ld1_some, opK_pick, quK_pick, opK_call, call2_some, opK_buildSlice, opK_slice, quK_slice, opK_fad, quK_fad, opK_fld, quK_fld, opK_ext, quK_ext, ext_tuple, opK_nck, quK_nck, opK_mki, quK_mki, opK_mkf, quK_mkf, opK_panic, panK_iface, Option.map_none, opK_append, opK_cap, opK_clear, opK_store, opK_box, opK_alloc, opK_makeSlice, eff_append_eq, eff_store_eq, evs_nil, evs_cons, cons2_some,
    ev_tmp, ev_const, ev_func, ofValue, ofCell, Option.map_some, bin_add, bin_sub, bin_mul, bin_eql, bin_neq, bin_lss, bin_leq, bin_gtr, bin_geq, un_not, un_neg,
    List.range, List.range.loop, Array.size, List.length_cons, List.length_nil, List.size_toArray, Nat.reduceAdd, Nat.reduceSub, Nat.reduceEqDiff, Nat.zero_add, List.getElem?_toArray, List.getElem?_cons_zero, List.getElem?_cons_succ, List.replicate, List.cons_append, List.nil_append, List.append_nil, List.set_cons_zero, List.set_cons_succ, List.getD_cons_zero, List.getD_cons_succ,
    retR_ret, retR_normal, retR_pan, resAs_nil, resAs_cons, resA_tmp, resA_cell, fin_one, fin_none, fin_two,
    decide_eq_true_eq, decide_not, Bool.not_eq_true', Bool.false_eq_true, Bool.true_eq_false, ne_eq, not_true_eq_false, not_false_eq_true, if_true, if_false, decide_true, decide_false, Bool.not_true, Bool.not_false, eq_self, ↓reduceIte, reduceCtorEq]
      exact Le.refl _ _
    · have hb : (x = a[i]) = False := by simpa using fun e => hmin i (by omega) e.symm
      simp -implicitDefEqProofs only [len_lst 22 t22 rfl, hc, idx_lst 22 t22 rfl t3 1 rfl (ints a) i _ hra (by omega), ld_fptr 3 t3 rfl, hb, hw,
    awp_seq, awp_skip, awp_ret, awp_exit, awp_label, awp_block, awp_cond, awp_reg, awp_loop, thenC_normal, thenC_ret, thenC_exit, thenC_pan, then_normal, then_ret, then_exit, then_pan, inBlock_normal, inBlock_ret, inBlock_pan, inBlock_exit, condK_bool, condK_any,
    nxt_nil, nxt_dnil, nxt_at, nxt_draw, nxt_quiet, stepAt_plain, stepQ_plain, stepAt_guard, stepQ_guard, guardK_yes, guardK_no, guardQ_yes, guardQ_no, gval_eq, gvO_some, gv_bool, gv_undef, putK_some, readK_at, readK_no, effK_some, ok_none, ok_nil, true_and, pickK_some, pickK_any, put_some, put_none,
    bin2_some, map1_some, ia2_some, opK_move, opK_assign, opK_bin, opK_un, opK_convert, opK_idxAddr, opK_idx, quK_move, quK_assign, quK_bin, quK_un, quK_convert, quK_idxAddr, quK_idx, opK_len, quK_len, opK_load, quK_load, ld1_some, opK_pick, quK_pick, opK_call, call2_some, opK_buildSlice, opK_slice, quK_slice, opK_fad, quK_fad, opK_fld, quK_fld, opK_ext, quK_ext, ext_tuple, opK_nck, quK_nck, opK_mki, quK_mki, opK_mkf, quK_mkf, opK_panic, panK_iface, Option.map_none, opK_append, opK_cap, opK_clear, opK_store, opK_box, opK_alloc, opK_makeSlice, eff_append_eq, eff_store_eq, evs_nil, evs_cons, cons2_some,
    ev_tmp, ev_const, ev_func, ofValue, ofCell, Option.map_some, bin_add, bin_sub, bin_mul, bin_eql, bin_neq, bin_lss, bin_leq, bin_gtr, bin_geq, un_not, un_neg,
    List.range, List.range.loop, Array.size, List.length_cons, List.length_nil, List.size_toArray, Nat.reduceAdd, Nat.reduceSub, Nat.reduceEqDiff, Nat.zero_add, List.getElem?_toArray, List.getElem?_cons_zero, List.getElem?_cons_succ, List.replicate, List.cons_append, List.nil_append, List.append_nil, List.set_cons_zero, List.set_cons_succ, List.getD_cons_zero, List.getD_cons_succ,
    retR_ret, retR_normal, retR_pan, resAs_nil, resAs_cons, resA_tmp, resA_cell, fin_one, fin_none, fin_two,
    decide_eq_true_eq, decide_not, Bool.not_eq_true', Bool.false_eq_true, Bool.true_eq_false, ne_eq, not_true_eq_false, not_false_eq_true, if_true, if_false, decide_true, decide_false, Bool.not_true, Bool.not_false, eq_self, ↓reduceIte, reduceCtorEq]
      exact back_intro hs (i + 1) (le_wk (by simp [wk])) (by omega) (by omega)
  · refine ⟨-1, by simp [hx], ?_⟩
    refine ok_start (k := 17) (n0 := 0) (rs := [.tmp 4]) mix Try.func36 rfl rfl rfl rfl rfl rfl rfl ?_
    simp -implicitDefEqProofs only [len_lst 22 t22 rfl,
    awp_seq, awp_skip, awp_ret, awp_exit, awp_label, awp_block, awp_cond, awp_reg, awp_loop, thenC_normal, thenC_ret, thenC_exit, thenC_pan, then_normal, then_ret, then_exit, then_pan, inBlock_normal, inBlock_ret, inBlock_pan, inBlock_exit, condK_bool, condK_any,
    nxt_nil, nxt_dnil, nxt_at, nxt_draw, nxt_quiet, stepAt_plain, stepQ_plain, stepAt_guard, stepQ_guard, guardK_yes, guardK_no, guardQ_yes, guardQ_no, gval_eq, gvO_some, gv_bool, gv_undef, putK_some, readK_at, readK_no, effK_some, ok_none, ok_nil, true_and, pickK_some, pickK_any, put_some, put_none,
    bin2_some, map1_some, ia2_some, opK_move, opK_assign, opK_bin, opK_un, opK_convert, opK_idxAddr, opK_idx, quK_move, quK_assign, quK_bin, quK_un, quK_convert, quK_idxAddr, quK_idx, opK_len, quK_len, opK_load, quK_load, ld1_some, opK_pick, quK_pick, opK_call, call2_some, opK_buildSlice, opK_slice, quK_slice, opK_fad, quK_fad, opK_fld, quK_fld, opK_ext, quK_ext, ext_tuple, opK_nck, quK_nck, opK_mki, quK_mki, opK_mkf, quK_mkf, opK_panic, panK_iface, Option.map_none, opK_append, opK_cap, opK_clear, opK_store, opK_box, opK_alloc, opK_makeSlice, eff_append_eq, eff_store_eq, evs_nil, evs_cons, cons2_some,
    ev_tmp, ev_const, ev_func, ofValue, ofCell, Option.map_some, bin_add, bin_sub, bin_mul, bin_eql, bin_neq, bin_lss, bin_leq, bin_gtr, bin_geq, un_not, un_neg,
    List.range, List.range.loop, Array.size, List.length_cons, List.length_nil, List.size_toArray, Nat.reduceAdd, Nat.reduceSub, Nat.reduceEqDiff, Nat.zero_add, List.getElem?_toArray, List.getElem?_cons_zero, List.getElem?_cons_succ, List.replicate, List.cons_append, List.nil_append, List.append_nil, List.set_cons_zero, List.set_cons_succ, List.getD_cons_zero, List.getD_cons_succ,
    retR_ret, retR_normal, retR_pan, resAs_nil, resAs_cons, resA_tmp, resA_cell, fin_one, fin_none, fin_two,
    decide_eq_true_eq, decide_not, Bool.not_eq_true', Bool.false_eq_true, Bool.true_eq_false, ne_eq, not_true_eq_false, not_false_eq_true, if_true, if_false, decide_true, decide_false, Bool.not_true, Bool.not_false, eq_self, ↓reduceIte, reduceCtorEq]
    refine loop_rule (fun i : Nat => ⟨[.fv (.lst 1 (ints a)), .fv (.int .i64 x), .any, .any, .fv (.int .i64 0), .any, .fv (.lst 1 (ints a)), .fv (.int .i64 (ints a).length), .fv (.int .i64 i), .any, .any, .any, .any, .any, .any, .any, .any, .any, .any], [], []⟩)
      (fun i => i ≤ a.length) (fun i => a.length - i) 0 (le_wk (by simp [wk])) (by simp) (fun i hp s hs => ?_)
    by_cases hia : i < a.length
    · have hc : ((i : Int) < ((ints a).length : Int)) = True := by simp; omega
      have hra : (ints a)[(i : Int).toNat]? = some [.int .i64 a[i]] := ints_get a i hia
      have hw : IntKind.wrap .i64 ((i : Int) + 1) = ((i + 1 : Nat) : Int) := wrap_small (by omega) (by omega)
      have hb : (x = a[i]) = False := by
        simp only [eq_iff_iff, iff_false]
        rintro rfl
        exact hx (List.getElem_mem hia)
      simp -implicitDefEqProofs only [len_lst 22 t22 rfl, hc, idx_lst 22 t22 rfl t3 1 rfl (ints a) i _ hra (by omega), ld_fptr 3 t3 rfl, hb, hw,
    awp_seq, awp_skip, awp_ret, awp_exit, awp_label, awp_block, awp_cond, awp_reg, awp_loop, thenC_normal, thenC_ret, thenC_exit, thenC_pan, then_normal, then_ret, then_exit, then_pan, inBlock_normal, inBlock_ret, inBlock_pan, inBlock_exit, condK_bool, condK_any,
    nxt_nil, nxt_dnil, nxt_at, nxt_draw, nxt_quiet, stepAt_plain, stepQ_plain, stepAt_guard, stepQ_guard, guardK_yes, guardK_no, guardQ_yes, guardQ_no, gval_eq, gvO_some, gv_bool, gv_undef, putK_some, readK_at, readK_no, effK_some, ok_none, ok_nil, true_and, pickK_some, pickK_any, put_some, put_none,
    bin2_some, map1_some, ia2_some, opK_move, opK_assign, opK_bin, opK_un, opK_convert, opK_idxAddr, opK_idx, quK_move, quK_assign, quK_bin, quK_un, quK_convert, quK_idxAddr, quK_idx, opK_len, quK_len, opK_load, quK_load, ld1_some, opK_pick, quK_pick, opK_call, call2_some, opK_buildSlice, opK_slice, quK_slice, opK_fad, quK_fad, opK_fld, quK_fld, opK_ext, quK_ext, ext_tuple, opK_nck, quK_nck, opK_mki, quK_mki, opK_mkf, quK_mkf, opK_panic, panK_iface, Option.map_none, opK_append, opK_cap, opK_clear, opK_store, opK_box, opK_alloc, opK_makeSlice, eff_append_eq, eff_store_eq, evs_nil, evs_cons, cons2_some,
    ev_tmp, ev_const, ev_func, ofValue, ofCell, Option.map_some, bin_add, bin_sub, bin_mul, bin_eql, bin_neq, bin_lss, bin_leq, bin_gtr, bin_geq, un_not, un_neg,
    List.range, List.range.loop, Array.size, List.length_cons, List.length_nil, List.size_toArray, Nat.reduceAdd, Nat.reduceSub, Nat.reduceEqDiff, Nat.zero_add, List.getElem?_toArray, List.getElem?_cons_zero, List.getElem?_cons_succ, List.replicate, List.cons_append, List.nil_append, List.append_nil, List.set_cons_zero, List.set_cons_succ, List.getD_cons_zero, List.getD_cons_succ,
    retR_ret, retR_normal, retR_pan, resAs_nil, resAs_cons, resA_tmp, resA_cell, fin_one, fin_none, fin_two,
    decide_eq_true_eq, decide_not, Bool.not_eq_true', Bool.false_eq_true, Bool.true_eq_false, ne_eq, not_true_eq_false, not_false_eq_true, if_true, if_false, decide_true, decide_false, Bool.not_true, Bool.not_false, eq_self, ↓reduceIte, reduceCtorEq]
      exact back_intro hs (i + 1) (le_wk (by simp [wk])) (by omega) (by omega)
    · have hc : ((i : Int) < ((ints a).length : Int)) = False := by simp; omega
      simp -implicitDefEqProofs only [len_lst 22 t22 rfl, hc,
    awp_seq, awp_skip, awp_ret, awp_exit, awp_label, awp_block, awp_cond, awp_reg, awp_loop, thenC_normal, thenC_ret, thenC_exit, thenC_pan, then_normal, then_ret, then_exit, then_pan, inBlock_normal, inBlock_ret, inBlock_pan, inBlock_exit, condK_bool, condK_any,
    nxt_nil, nxt_dnil, nxt_at, nxt_draw, nxt_quiet, stepAt_plain, stepQ_plain, stepAt_guard, stepQ_guard, guardK_yes, guardK_no, guardQ_yes, guardQ_no, gval_eq, gvO_some, gv_bool, gv_undef, putK_some, readK_at, readK_no, effK_some, ok_none, ok_nil, true_and, pickK_some, pickK_any, put_some, put_none,
    bin2_some, map1_some, ia2_some, opK_move, opK_assign, opK_bin, opK_un, opK_convert, opK_idxAddr, opK_idx, quK_move, quK_assign, quK_bin, quK_un, quK_convert, quK_idxAddr, quK_idx, opK_len, quK_len, opK_load, quK_load, ld1_some, opK_pick, quK_pick, opK_call, call2_some, opK_buildSlice, opK_slice, quK_slice, opK_fad, quK_fad, opK_fld, quK_fld, opK_ext, quK_ext, ext_tuple, opK_nck, quK_nck, opK_mki, quK_mki, opK_mkf, quK_mkf, opK_panic, panK_iface, Option.map_none, opK_append, opK_cap, opK_clear, opK_store, opK_box, opK_alloc, opK_makeSlice, eff_append_eq, eff_store_eq, evs_nil, evs_cons, cons2_some,
    ev_tmp, ev_const, ev_func, ofValue, ofCell, Option.map_some, bin_add, bin_sub, bin_mul, bin_eql, bin_neq, bin_lss, bin_leq, bin_gtr, bin_geq, un_not, un_neg,
    List.range, List.range.loop, Array.size, List.length_cons, List.length_nil, List.size_toArray, Nat.reduceAdd, Nat.reduceSub, Nat.reduceEqDiff, Nat.zero_add, List.getElem?_toArray, List.getElem?_cons_zero, List.getElem?_cons_succ, List.replicate, List.cons_append, List.nil_append, List.append_nil, List.set_cons_zero, List.set_cons_succ, List.getD_cons_zero, List.getD_cons_succ,
    retR_ret, retR_normal, retR_pan, resAs_nil, resAs_cons, resA_tmp, resA_cell, fin_one, fin_none, fin_two,
    decide_eq_true_eq, decide_not, Bool.not_eq_true', Bool.false_eq_true, Bool.true_eq_false, ne_eq, not_true_eq_false, not_false_eq_true, if_true, if_false, decide_true, decide_false, Bool.not_true, Bool.not_false, eq_self, ↓reduceIte, reduceCtorEq]
      exact Le.refl _ _
theorem ok30 (a : List Int) (x : Int) (ha : a.length < 4611686018427387904) :
    Ok Try.prog 30 [.fv (.lst 1 (ints a)), .fv (.int .i64 x)] [] (.ret (.fv (.bool (decide (x ∈ a))))) [] := by
  obtain ⟨r, hr, h36⟩ := ok36 a x ha
  have e : decide (x ∈ a) = decide (r ≥ 0) := by simp [← hr]
  refine ok_start (k := 7) (n0 := 0) (rs := [.tmp 4]) mix Try.func30 rfl rfl rfl rfl rfl rfl rfl ?_
  simp -implicitDefEqProofs only [awp_seq, awp_skip, awp_ret, awp_exit, awp_label, awp_block, awp_cond, awp_reg, awp_loop, thenC_normal, thenC_ret, thenC_exit, thenC_pan, then_normal, then_ret, then_exit, then_pan, inBlock_normal, inBlock_ret, inBlock_pan, inBlock_exit, condK_bool, condK_any,
    nxt_nil, nxt_dnil, nxt_at, nxt_draw, nxt_quiet, stepAt_plain, stepQ_plain, stepAt_guard, stepQ_guard, guardK_yes, guardK_no, guardQ_yes, guardQ_no, gval_eq, gvO_some, gv_bool, gv_undef, putK_some, readK_at, readK_no, effK_some, ok_none, ok_nil, true_and, pickK_some, pickK_any, put_some, put_none,
    bin2_some, map1_some, ia2_some, opK_move, opK_assign, opK_bin, opK_un, opK_convert, opK_idxAddr, opK_idx, quK_move, quK_assign, quK_bin, quK_un, quK_convert, quK_idxAddr, quK_idx, opK_len, quK_len, opK_load, quK_load, ld1_some, opK_pick, quK_pick, opK_call, call2_some, opK_buildSlice, opK_slice, quK_slice, opK_fad, quK_fad, opK_fld, quK_fld, opK_ext, quK_ext, ext_tuple, opK_nck, quK_nck, opK_mki, quK_mki, opK_mkf, quK_mkf, opK_panic, panK_iface, Option.map_none, opK_append, opK_cap, opK_clear, opK_store, opK_box, opK_alloc, opK_makeSlice, eff_append_eq, eff_store_eq, evs_nil, evs_cons, cons2_some,
    ev_tmp, ev_const, ev_func, ofValue, ofCell, Option.map_some, bin_add, bin_sub, bin_mul, bin_eql, bin_neq, bin_lss, bin_leq, bin_gtr, bin_geq, un_not, un_neg,
    List.range, List.range.loop, Array.size, List.length_cons, List.length_nil, List.size_toArray, Nat.reduceAdd, Nat.reduceSub, Nat.reduceEqDiff, Nat.zero_add, List.getElem?_toArray, List.getElem?_cons_zero, List.getElem?_cons_succ, List.replicate, List.cons_append, List.nil_append, List.append_nil, List.set_cons_zero, List.set_cons_succ, List.getD_cons_zero, List.getD_cons_succ,
    retR_ret, retR_normal, retR_pan, resAs_nil, resAs_cons, resA_tmp, resA_cell, fin_one, fin_none, fin_two,
    decide_eq_true_eq, decide_not, Bool.not_eq_true', Bool.false_eq_true, Bool.true_eq_false, ne_eq, not_true_eq_false, not_false_eq_true, if_true, if_false, decide_true, decide_false, Bool.not_true, Bool.not_false, eq_self, ↓reduceIte, reduceCtorEq]
  refine callK_ret _ _ _ _ (call_pure (h36) (fun _ => rfl) (fun _ => rfl)) (ok_nil _ _) ?_
  simp -implicitDefEqProofs only [e,
    awp_seq, awp_skip, awp_ret, awp_exit, awp_label, awp_block, awp_cond, awp_reg, awp_loop, thenC_normal, thenC_ret, thenC_exit, thenC_pan, then_normal, then_ret, then_exit, then_pan, inBlock_normal, inBlock_ret, inBlock_pan, inBlock_exit, condK_bool, condK_any,
    nxt_nil, nxt_dnil, nxt_at, nxt_draw, nxt_quiet, stepAt_plain, stepQ_plain, stepAt_guard, stepQ_guard, guardK_yes, guardK_no, guardQ_yes, guardQ_no, gval_eq, gvO_some, gv_bool, gv_undef, putK_some, readK_at, readK_no, effK_some, ok_none, ok_nil, true_and, pickK_some, pickK_any, put_some, put_none,
    bin2_some, map1_some, ia2_some, opK_move, opK_assign, opK_bin, opK_un, opK_convert, opK_idxAddr, opK_idx, quK_move, quK_assign, quK_bin, quK_un, quK_convert, quK_idxAddr, quK_idx, opK_len, quK_len, opK_load, quK_load, ld1_some, opK_pick, quK_pick, opK_call, call2_some, opK_buildSlice, opK_slice, quK_slice, opK_fad, quK_fad, opK_fld, quK_fld, opK_ext, quK_ext, ext_tuple, opK_nck, quK_nck, opK_mki, quK_mki, opK_mkf, quK_mkf, opK_panic, panK_iface, Option.map_none, opK_append, opK_cap, opK_clear, opK_store, opK_box, opK_alloc, opK_makeSlice, eff_append_eq, eff_store_eq, evs_nil, evs_cons, cons2_some,
    ev_tmp, ev_const, ev_func, ofValue, ofCell, Option.map_some, bin_add, bin_sub, bin_mul, bin_eql, bin_neq, bin_lss, bin_leq, bin_gtr, bin_geq, un_not, un_neg,
    List.range, List.range.loop, Array.size, List.length_cons, List.length_nil, List.size_toArray, Nat.reduceAdd, Nat.reduceSub, Nat.reduceEqDiff, Nat.zero_add, List.getElem?_toArray, List.getElem?_cons_zero, List.getElem?_cons_succ, List.replicate, List.cons_append, List.nil_append, List.append_nil, List.set_cons_zero, List.set_cons_succ, List.getD_cons_zero, List.getD_cons_succ,
    retR_ret, retR_normal, retR_pan, resAs_nil, resAs_cons, resA_tmp, resA_cell, fin_one, fin_none, fin_two,
    decide_eq_true_eq, decide_not, Bool.not_eq_true', Bool.false_eq_true, Bool.true_eq_false, ne_eq, not_true_eq_false, not_false_eq_true, if_true, if_false, decide_true, decide_false, Bool.not_true, Bool.not_false, eq_self, ↓reduceIte, reduceCtorEq]
  exact Le.refl _ _
theorem ok14 (a : List Int) (x : Int) (ha : a.length < 4611686018427387904) :
    Ok Try.prog 14 [.fv (.lst 1 (ints a)), .fv (.int .i64 x)] [] (.ret (.fv (.bool (decide (x ∈ a))))) [] := by
  refine ok_start (k := 6) (n0 := 0) (rs := [.tmp 4]) mix Try.func14 rfl rfl rfl rfl rfl rfl rfl ?_
  simp -implicitDefEqProofs only [awp_seq, awp_skip, awp_ret, awp_exit, awp_label, awp_block, awp_cond, awp_reg, awp_loop, thenC_normal, thenC_ret, thenC_exit, thenC_pan, then_normal, then_ret, then_exit, then_pan, inBlock_normal, inBlock_ret, inBlock_pan, inBlock_exit, condK_bool, condK_any,
    nxt_nil, nxt_dnil, nxt_at, nxt_draw, nxt_quiet, stepAt_plain, stepQ_plain, stepAt_guard, stepQ_guard, guardK_yes, guardK_no, guardQ_yes, guardQ_no, gval_eq, gvO_some, gv_bool, gv_undef, putK_some, readK_at, readK_no, effK_some, ok_none, ok_nil, true_and, pickK_some, pickK_any, put_some, put_none,
    bin2_some, map1_some, ia2_some, opK_move, opK_assign, opK_bin, opK_un, opK_convert, opK_idxAddr, opK_idx, quK_move, quK_assign, quK_bin, quK_un, quK_convert, quK_idxAddr, quK_idx, opK_len, quK_len, opK_load, quK_load, ld1_some, opK_pick, quK_pick, opK_call, call2_some, opK_buildSlice, opK_slice, quK_slice, opK_fad, quK_fad, opK_fld, quK_fld, opK_ext, quK_ext, ext_tuple, opK_nck, quK_nck, opK_mki, quK_mki, opK_mkf, quK_mkf, opK_panic, panK_iface, Option.map_none, opK_append, opK_cap, opK_clear, opK_store, opK_box, opK_alloc, opK_makeSlice, eff_append_eq, eff_store_eq, evs_nil, evs_cons, cons2_some,
    ev_tmp, ev_const, ev_func, ofValue, ofCell, Option.map_some, bin_add, bin_sub, bin_mul, bin_eql, bin_neq, bin_lss, bin_leq, bin_gtr, bin_geq, un_not, un_neg,
    List.range, List.range.loop, Array.size, List.length_cons, List.length_nil, List.size_toArray, Nat.reduceAdd, Nat.reduceSub, Nat.reduceEqDiff, Nat.zero_add, List.getElem?_toArray, List.getElem?_cons_zero, List.getElem?_cons_succ, List.replicate, List.cons_append, List.nil_append, List.append_nil, List.set_cons_zero, List.set_cons_succ, List.getD_cons_zero, List.getD_cons_succ,
    retR_ret, retR_normal, retR_pan, resAs_nil, resAs_cons, resA_tmp, resA_cell, fin_one, fin_none, fin_two,
    decide_eq_true_eq, decide_not, Bool.not_eq_true', Bool.false_eq_true, Bool.true_eq_false, ne_eq, not_true_eq_false, not_false_eq_true, if_true, if_false, decide_true, decide_false, Bool.not_true, Bool.not_false, eq_self, ↓reduceIte, reduceCtorEq]
  refine callK_ret _ _ _ _ (call_pure (ok30 a x ha) (fun _ => rfl) (fun _ => rfl)) (ok_nil _ _) ?_
  simp -implicitDefEqProofs only [awp_seq, awp_skip, awp_ret, awp_exit, awp_label, awp_block, awp_cond, awp_reg, awp_loop, thenC_normal, thenC_ret, thenC_exit, thenC_pan, then_normal, then_ret, then_exit, then_pan, inBlock_normal, inBlock_ret, inBlock_pan, inBlock_exit, condK_bool, condK_any,
    nxt_nil, nxt_dnil, nxt_at, nxt_draw, nxt_quiet, stepAt_plain, stepQ_plain, stepAt_guard, stepQ_guard, guardK_yes, guardK_no, guardQ_yes, guardQ_no, gval_eq, gvO_some, gv_bool, gv_undef, putK_some, readK_at, readK_no, effK_some, ok_none, ok_nil, true_and, pickK_some, pickK_any, put_some, put_none,
    bin2_some, map1_some, ia2_some, opK_move, opK_assign, opK_bin, opK_un, opK_convert, opK_idxAddr, opK_idx, quK_move, quK_assign, quK_bin, quK_un, quK_convert, quK_idxAddr, quK_idx, opK_len, quK_len, opK_load, quK_load, ld1_some, opK_pick, quK_pick, opK_call, call2_some, opK_buildSlice, opK_slice, quK_slice, opK_fad, quK_fad, opK_fld, quK_fld, opK_ext, quK_ext, ext_tuple, opK_nck, quK_nck, opK_mki, quK_mki, opK_mkf, quK_mkf, opK_panic, panK_iface, Option.map_none, opK_append, opK_cap, opK_clear, opK_store, opK_box, opK_alloc, opK_makeSlice, eff_append_eq, eff_store_eq, evs_nil, evs_cons, cons2_some,
    ev_tmp, ev_const, ev_func, ofValue, ofCell, Option.map_some, bin_add, bin_sub, bin_mul, bin_eql, bin_neq, bin_lss, bin_leq, bin_gtr, bin_geq, un_not, un_neg,
    List.range, List.range.loop, Array.size, List.length_cons, List.length_nil, List.size_toArray, Nat.reduceAdd, Nat.reduceSub, Nat.reduceEqDiff, Nat.zero_add, List.getElem?_toArray, List.getElem?_cons_zero, List.getElem?_cons_succ, List.replicate, List.cons_append, List.nil_append, List.append_nil, List.set_cons_zero, List.set_cons_succ, List.getD_cons_zero, List.getD_cons_succ,
    retR_ret, retR_normal, retR_pan, resAs_nil, resAs_cons, resA_tmp, resA_cell, fin_one, fin_none, fin_two,
    decide_eq_true_eq, decide_not, Bool.not_eq_true', Bool.false_eq_true, Bool.true_eq_false, ne_eq, not_true_eq_false, not_false_eq_true, if_true, if_false, decide_true, decide_false, Bool.not_true, Bool.not_false, eq_self, ↓reduceIte, reduceCtorEq]
  exact Le.refl _ _
theorem ok18 (a : List Int) (ha : a.length < 4611686018427387904) :
    Ok Try.prog 18 [.fv (.lst 1 (ints a))] [] (.ret (.fv (.bool (decide (a.Pairwise (· < ·)))))) [] := by
  refine ok_start (k := 19) (n0 := 0) (rs := [.tmp 2]) mix Try.func18 rfl rfl rfl rfl rfl rfl rfl ?_
  simp -implicitDefEqProofs only [len_lst 22 t22 rfl,
    awp_seq, awp_skip, awp_ret, awp_exit, awp_label, awp_block, awp_cond, awp_reg, awp_loop, thenC_normal, thenC_ret, thenC_exit, thenC_pan, then_normal, then_ret, then_exit, then_pan, inBlock_normal, inBlock_ret, inBlock_pan, inBlock_exit, condK_bool, condK_any,
    nxt_nil, nxt_dnil, nxt_at, nxt_draw, nxt_quiet, stepAt_plain, stepQ_plain, stepAt_guard, stepQ_guard, guardK_yes, guardK_no, guardQ_yes, guardQ_no, gval_eq, gvO_some, gv_bool, gv_undef, putK_some, readK_at, readK_no, effK_some, ok_none, ok_nil, true_and, pickK_some, pickK_any, put_some, put_none,
    bin2_some, map1_some, ia2_some, opK_move, opK_assign, opK_bin, opK_un, opK_convert, opK_idxAddr, opK_idx, quK_move, quK_assign, quK_bin, quK_un, quK_convert, quK_idxAddr, quK_idx, opK_len, quK_len, opK_load, quK_load, ld1_some, opK_pick, quK_pick, opK_call, call2_some, opK_buildSlice, opK_slice, quK_slice, opK_fad, quK_fad, opK_fld, quK_fld, opK_ext, quK_ext, ext_tuple, opK_nck, quK_nck, opK_mki, quK_mki, opK_mkf, quK_mkf, opK_panic, panK_iface, Option.map_none, opK_append, opK_cap, opK_clear, opK_store, opK_box, opK_alloc, opK_makeSlice, eff_append_eq, eff_store_eq, evs_nil, evs_cons, cons2_some,
    ev_tmp, ev_const, ev_func, ofValue, ofCell, Option.map_some, bin_add, bin_sub, bin_mul, bin_eql, bin_neq, bin_lss, bin_leq, bin_gtr, bin_geq, un_not, un_neg,
    List.range, List.range.loop, Array.size, List.length_cons, List.length_nil, List.size_toArray, Nat.reduceAdd, Nat.reduceSub, Nat.reduceEqDiff, Nat.zero_add, List.getElem?_toArray, List.getElem?_cons_zero, List.getElem?_cons_succ, List.replicate, List.cons_append, List.nil_append, List.append_nil, List.set_cons_zero, List.set_cons_succ, List.getD_cons_zero, List.getD_cons_succ,
    retR_ret, retR_normal, retR_pan, resAs_nil, resAs_cons, resA_tmp, resA_cell, fin_one, fin_none, fin_two,
    decide_eq_true_eq, decide_not, Bool.not_eq_true', Bool.false_eq_true, Bool.true_eq_false, ne_eq, not_true_eq_false, not_false_eq_true, if_true, if_false, decide_true, decide_false, Bool.not_true, Bool.not_false, eq_self, ↓reduceIte, reduceCtorEq]
  refine loop_rule (fun i : Nat => ⟨[.fv (.lst 1 (ints a)), .any, .fv (.bool false), .fv (.int .i64 (i + 1 : Nat)), .any, .any, .any, .any, .any, .any, .any, .any, .any, .any, .any, .any, .any, .any, .any, .any], [], []⟩)
    (fun i => (a.take (i + 1)).Pairwise (· < ·)) (fun i => a.length - i) 0 (le_wk (by simp [wk])) (by simp; cases a <;> simp) (fun i hp s hs => ?_)
  have hla := ints_length a
  by_cases hia : i + 1 < a.length
  · have hc : (((i + 1 : Nat) : Int) < ((ints a).length : Int)) = True := by simp; omega
    have hra : (ints a)[((i + 1 : Nat) : Int).toNat]? = some [.int .i64 a[i + 1]] := ints_get a (i + 1) hia
    have hrb : (ints a)[(i : Int).toNat]? = some [.int .i64 a[i]] := ints_get a i (by omega)
    have hw : IntKind.wrap .i64 (((i + 1 : Nat) : Int) + 1) = ((i + 1 + 1 : Nat) : Int) := wrap_small (by omega) (by omega)
    have hw2 : IntKind.wrap .i64 (((i + 1 : Nat) : Int) - 1) = (i : Int) := by rw [wrap_small (by omega) (by omega)]; omega
    have ht := List.take_succ_eq_append_getElem hia
    by_cases he : a[i + 1] ≤ a[i]
    · have hb : (a[i + 1] ≤ a[i]) = True := by simpa using he
      have hm : decide (a.Pairwise (· < ·)) = false := by
        rw [decide_eq_false_iff_not]
        intro h
        have := List.pairwise_iff_getElem.1 h i (i + 1) (by omega) hia (by omega)
        omega
      simp -implicitDefEqProofs only [awp_draw _ _ Trydr18_4, len_lst 22 t22 rfl, hc, hw2, idx_lst 22 t22 rfl t3 1 rfl (ints a) _ _ hra (by omega), idx_lst 22 t22 rfl t3 1 rfl (ints a) i _ hrb (by omega), ld_fptr 3 t3 rfl, hb, hm,
    awp_seq, awp_skip, awp_ret, awp_exit, awp_label, awp_block, awp_cond, awp_reg, awp_loop, thenC_normal, thenC_ret, thenC_exit, thenC_pan, then_normal, then_ret, then_exit, then_pan, inBlock_normal, inBlock_ret, inBlock_pan, inBlock_exit, condK_bool, condK_any,
    nxt_nil, nxt_dnil, nxt_at, nxt_draw, nxt_quiet, stepAt_plain, stepQ_plain, stepAt_guard, stepQ_guard, guardK_yes, guardK_no, guardQ_yes, guardQ_no, gval_eq, gvO_some, gv_bool, gv_undef, putK_some, readK_at, readK_no, effK_some, ok_none, ok_nil, true_and, pickK_some, pickK_any, put_some, put_none,
    bin2_some, map1_some, ia2_some, opK_move, opK_assign, opK_bin, opK_un, opK_convert, opK_idxAddr, opK_idx, quK_move, quK_assign, quK_bin, quK_un, quK_convert, quK_idxAddr, quK_idx, opK_len, quK_len, opK_load, quK_load, ld1_some, opK_pick, quK_pick, opK_call, call2_some, opK_buildSlice, opK_slice, quK_slice, opK_fad, quK_fad, opK_fld, quK_fld, opK_ext, quK_ext, ext_tuple, opK_nck, quK_nck, opK_mki, quK_mki, opK_mkf, quK_mkf, opK_panic, panK_iface, Option.map_none, opK_append, opK_cap, opK_clear, opK_store, opK_box, opK_alloc, opK_makeSlice, eff_append_eq, eff_store_eq, evs_nil, evs_cons, cons2_some,
    ev_tmp, ev_const, ev_func, ofValue, ofCell, Option.map_some, bin_add, bin_sub, bin_mul, bin_eql, bin_neq, bin_lss, bin_leq, bin_gtr, bin_geq, un_not, un_neg,
    List.range, List.range.loop, Array.size, List.length_cons, List.length_nil, List.size_toArray, Nat.reduceAdd, Nat.reduceSub, Nat.reduceEqDiff, Nat.zero_add, List.getElem?_toArray, List.getElem?_cons_zero, List.getElem?_cons_succ, List.replicate, List.cons_append, List.nil_append, List.append_nil, List.set_cons_zero, List.set_cons_succ, List.getD_cons_zero, List.getD_cons_succ,
    retR_ret, retR_normal, retR_pan, resAs_nil, resAs_cons, resA_tmp, resA_cell, fin_one, fin_none, fin_two,
    decide_eq_true_eq, decide_not, Bool.not_eq_true', Bool.false_eq_true, Bool.true_eq_false, ne_eq, not_true_eq_false, not_false_eq_true, if_true, if_false, decide_true, decide_false, Bool.not_true, Bool.not_false, eq_self, ↓reduceIte, reduceCtorEq]
      exact Le.refl _ _
    · have hb : (a[i + 1] ≤ a[i]) = False := by simpa using he
      simp -implicitDefEqProofs only [awp_draw _ _ Trydr18_4, len_lst 22 t22 rfl, hc, hw2, idx_lst 22 t22 rfl t3 1 rfl (ints a) _ _ hra (by omega), idx_lst 22 t22 rfl t3 1 rfl (ints a) i _ hrb (by omega), ld_fptr 3 t3 rfl, hb, hw,
    awp_seq, awp_skip, awp_ret, awp_exit, awp_label, awp_block, awp_cond, awp_reg, awp_loop, thenC_normal, thenC_ret, thenC_exit, thenC_pan, then_normal, then_ret, then_exit, then_pan, inBlock_normal, inBlock_ret, inBlock_pan, inBlock_exit, condK_bool, condK_any,
    nxt_nil, nxt_dnil, nxt_at, nxt_draw, nxt_quiet, stepAt_plain, stepQ_plain, stepAt_guard, stepQ_guard, guardK_yes, guardK_no, guardQ_yes, guardQ_no, gval_eq, gvO_some, gv_bool, gv_undef, putK_some, readK_at, readK_no, effK_some, ok_none, ok_nil, true_and, pickK_some, pickK_any, put_some, put_none,
    bin2_some, map1_some, ia2_some, opK_move, opK_assign, opK_bin, opK_un, opK_convert, opK_idxAddr, opK_idx, quK_move, quK_assign, quK_bin, quK_un, quK_convert, quK_idxAddr, quK_idx, opK_len, quK_len, opK_load, quK_load, ld1_some, opK_pick, quK_pick, opK_call, call2_some, opK_buildSlice, opK_slice, quK_slice, opK_fad, quK_fad, opK_fld, quK_fld, opK_ext, quK_ext, ext_tuple, opK_nck, quK_nck, opK_mki, quK_mki, opK_mkf, quK_mkf, opK_panic, panK_iface, Option.map_none, opK_append, opK_cap, opK_clear, opK_store, opK_box, opK_alloc, opK_makeSlice, eff_append_eq, eff_store_eq, evs_nil, evs_cons, cons2_some,
    ev_tmp, ev_const, ev_func, ofValue, ofCell, Option.map_some, bin_add, bin_sub, bin_mul, bin_eql, bin_neq, bin_lss, bin_leq, bin_gtr, bin_geq, un_not, un_neg,
    List.range, List.range.loop, Array.size, List.length_cons, List.length_nil, List.size_toArray, Nat.reduceAdd, Nat.reduceSub, Nat.reduceEqDiff, Nat.zero_add, List.getElem?_toArray, List.getElem?_cons_zero, List.getElem?_cons_succ, List.replicate, List.cons_append, List.nil_append, List.append_nil, List.set_cons_zero, List.set_cons_succ, List.getD_cons_zero, List.getD_cons_succ,
    retR_ret, retR_normal, retR_pan, resAs_nil, resAs_cons, resA_tmp, resA_cell, fin_one, fin_none, fin_two,
    decide_eq_true_eq, decide_not, Bool.not_eq_true', Bool.false_eq_true, Bool.true_eq_false, ne_eq, not_true_eq_false, not_false_eq_true, if_true, if_false, decide_true, decide_false, Bool.not_true, Bool.not_false, eq_self, ↓reduceIte, reduceCtorEq]
      refine back_intro hs (i + 1) (le_wk (by simp [wk])) ?_ (by omega)
      rw [ht, List.pairwise_append]
      refine ⟨hp, by simp, fun y hy z hz => ?_⟩
      simp only [List.mem_singleton] at hz
      subst hz
      obtain ⟨j, hj, e⟩ := List.getElem_of_mem hy
      rw [List.getElem_take] at e
      rw [List.length_take] at hj
      by_cases hji : j = i
      · subst hji; omega
      · have h2 := List.pairwise_iff_getElem.1 hp j i (by simp; omega) (by simp; omega) (by omega)
        rw [List.getElem_take, List.getElem_take] at h2
        omega
  · have hc : (((i + 1 : Nat) : Int) < ((ints a).length : Int)) = False := by simp; omega
    rw [List.take_of_length_le (by omega)] at hp
    have hm : decide (a.Pairwise (· < ·)) = true := by simpa using hp
    simp -implicitDefEqProofs only [len_lst 22 t22 rfl, hc, hm,
    awp_seq, awp_skip, awp_ret, awp_exit, awp_label, awp_block, awp_cond, awp_reg, awp_loop, thenC_normal, thenC_ret, thenC_exit, thenC_pan, then_normal, then_ret, then_exit, then_pan, inBlock_normal, inBlock_ret, inBlock_pan, inBlock_exit, condK_bool, condK_any,
    nxt_nil, nxt_dnil, nxt_at, nxt_draw, nxt_quiet, stepAt_plain, stepQ_plain, stepAt_guard, stepQ_guard, guardK_yes, guardK_no, guardQ_yes, guardQ_no, gval_eq, gvO_some, gv_bool, gv_undef, putK_some, readK_at, readK_no, effK_some, ok_none, ok_nil, true_and, pickK_some, pickK_any, put_some, put_none,
    bin2_some, map1_some, ia2_some, opK_move, opK_assign, opK_bin, opK_un, opK_convert, opK_idxAddr, opK_idx, quK_move, quK_assign, quK_bin, quK_un, quK_convert, quK_idxAddr, quK_idx, opK_len, quK_len, opK_load, quK_load, ld1_some, opK_pick, quK_pick, opK_call, call2_some, opK_buildSlice, opK_slice, quK_slice, opK_fad, quK_fad, opK_fld, quK_fld, opK_ext, quK_ext, ext_tuple, opK_nck, quK_nck, opK_mki, quK_mki, opK_mkf, quK_mkf, opK_panic, panK_iface, Option.map_none, opK_append, opK_cap, opK_clear, opK_store, opK_box, opK_alloc, opK_makeSlice, eff_append_eq, eff_store_eq, evs_nil, evs_cons, cons2_some,
    ev_tmp, ev_const, ev_func, ofValue, ofCell, Option.map_some, bin_add, bin_sub, bin_mul, bin_eql, bin_neq, bin_lss, bin_leq, bin_gtr, bin_geq, un_not, un_neg,
    List.range, List.range.loop, Array.size, List.length_cons, List.length_nil, List.size_toArray, Nat.reduceAdd, Nat.reduceSub, Nat.reduceEqDiff, Nat.zero_add, List.getElem?_toArray, List.getElem?_cons_zero, List.getElem?_cons_succ, List.replicate, List.cons_append, List.nil_append, List.append_nil, List.set_cons_zero, List.set_cons_succ, List.getD_cons_zero, List.getD_cons_succ,
    retR_ret, retR_normal, retR_pan, resAs_nil, resAs_cons, resA_tmp, resA_cell, fin_one, fin_none, fin_two,
    decide_eq_true_eq, decide_not, Bool.not_eq_true', Bool.false_eq_true, Bool.true_eq_false, ne_eq, not_true_eq_false, not_false_eq_true, if_true, if_false, decide_true, decide_false, Bool.not_true, Bool.not_false, eq_self, ↓reduceIte, reduceCtorEq]
    exact Le.refl _ _
end Go.Abs
