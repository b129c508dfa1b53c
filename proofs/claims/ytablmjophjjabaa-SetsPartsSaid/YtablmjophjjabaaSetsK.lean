/- A text of the claim: part of the proof. -/
import Derived.Test.YtablmjophjjabaaAbsT
import Derived.Test.YtablmjophjjabaaSetsJ
import Derived.Test.YtablmjophjjabaaSetsM
import Derived.Test.YtablmjophjjabaaBytesO
namespace Go.Abs
open Go.Proofs
set_option linter.unusedVariables false
set_option linter.unusedSimpArgs false
set_option maxRecDepth 100000
set_option maxHeartbeats 1000000
theorem ty3 : tiOf Try.prog 3 = some ⟨.int .i64, 1, 8, some [.int .i64 0]⟩ := by kernel_rfl
theorem ty4 : tiOf Try.prog 4 = some ⟨.bool, 1, 1, some [.bool false]⟩ := by kernel_rfl
theorem ty22 : tiOf Try.prog 22 = some ⟨.slice 3, 1, 24, some [.nils]⟩ := by kernel_rfl
theorem ty37 : tiOf Try.prog 37 = some ⟨.int .u64, 1, 8, some [.int .u64 0]⟩ := by kernel_rfl
theorem ty39 : tiOf Try.prog 39 = some ⟨.slice 22, 1, 24, some [.nils]⟩ := by kernel_rfl
theorem ok54 (x : Int) : Ok Try.prog 54 [.fv (.int .i64 x)] [] (.ret (.fv (.bool false))) [] := by
  refine ok_start (k := 5) (n0 := 0) (rs := [.tmp 2]) mix Try.func54 rfl rfl rfl rfl rfl rfl rfl ?_
  simp -implicitDefEqProofs only [awp_seq, awp_skip, awp_ret, awp_exit, awp_label, awp_block, awp_cond, awp_reg, awp_loop, thenC_normal, thenC_ret, thenC_exit, thenC_pan, then_normal, then_ret, then_exit, then_pan, inBlock_normal, inBlock_ret, inBlock_pan, inBlock_exit, condK_bool, condK_any,
    nxt_nil, nxt_dnil, nxt_at, nxt_draw, nxt_quiet, stepAt_plain, stepQ_plain, stepAt_guard, stepQ_guard, guardK_yes, guardK_no, guardQ_yes, guardQ_no, gval_eq, gvO_some, gv_bool, gv_undef, putK_some, readK_at, readK_no, effK_some, ok_none, ok_nil, true_and, pickK_some, pickK_any, put_some, put_none,
    bin2_some, map1_some, ia2_some, opK_move, opK_assign, opK_bin, opK_un, opK_convert, opK_idxAddr, opK_idx, quK_move, quK_assign, quK_bin, quK_un, quK_convert, quK_idxAddr, quK_idx, opK_len, quK_len, opK_load, quK_load, ld1_some, opK_pick, quK_pick, opK_call, call2_some, opK_buildSlice, opK_slice, quK_slice, opK_fad, quK_fad, opK_fld, quK_fld, opK_ext, quK_ext, ext_tuple, opK_nck, quK_nck, opK_mki, quK_mki, opK_mkf, quK_mkf, opK_panic, panK_iface, Option.map_none, opK_append, opK_cap, opK_clear, opK_store, opK_box, opK_alloc, opK_makeSlice, eff_append_eq, eff_store_eq, evs_nil, evs_cons, cons2_some,
    ev_tmp, ev_const, ev_func, ofValue, ofCell, Option.map_some, bin_add, bin_sub, bin_mul, bin_eql, bin_neq, bin_lss, bin_leq, bin_gtr, bin_geq, un_not, un_neg,
    List.range, List.range.loop, Array.size, List.length_cons, List.length_nil, List.size_toArray, Nat.reduceAdd, Nat.reduceSub, Nat.reduceEqDiff, Nat.zero_add, List.getElem?_toArray, List.getElem?_cons_zero, List.getElem?_cons_succ, List.replicate, List.cons_append, List.nil_append, List.append_nil, List.set_cons_zero, List.set_cons_succ, List.getD_cons_zero, List.getD_cons_succ,
    retR_ret, retR_normal, retR_pan, resAs_nil, resAs_cons, resA_tmp, resA_cell, fin_one, fin_none, fin_two,
    decide_eq_true_eq, decide_not, Bool.not_eq_true', Bool.false_eq_true, Bool.true_eq_false, ne_eq, not_true_eq_false, not_false_eq_true, if_true, if_false, decide_true, decide_false, Bool.not_true, Bool.not_false, eq_self, ↓reduceIte, reduceCtorEq]
  exact Le.refl _ _
theorem ok48 (x y : Int) : Ok Try.prog 48 [.fv (.int .i64 x), .fv (.int .i64 y)] [] (.ret (.fv (.bool (decide (x < y))))) [] := by
  refine ok_start (k := 15) (n0 := 0) (rs := [.tmp 4]) mix Try.func48 rfl rfl rfl rfl rfl rfl rfl ?_
  simp -implicitDefEqProofs only [awp_seq, awp_skip, awp_ret, awp_exit, awp_label, awp_block, awp_cond, awp_reg, awp_loop, thenC_normal, thenC_ret, thenC_exit, thenC_pan, then_normal, then_ret, then_exit, then_pan, inBlock_normal, inBlock_ret, inBlock_pan, inBlock_exit, condK_bool, condK_any,
    nxt_nil, nxt_dnil, nxt_at, nxt_draw, nxt_quiet, stepAt_plain, stepQ_plain, stepAt_guard, stepQ_guard, guardK_yes, guardK_no, guardQ_yes, guardQ_no, gval_eq, gvO_some, gv_bool, gv_undef, putK_some, readK_at, readK_no, effK_some, ok_none, ok_nil, true_and, pickK_some, pickK_any, put_some, put_none,
    bin2_some, map1_some, ia2_some, opK_move, opK_assign, opK_bin, opK_un, opK_convert, opK_idxAddr, opK_idx, quK_move, quK_assign, quK_bin, quK_un, quK_convert, quK_idxAddr, quK_idx, opK_len, quK_len, opK_load, quK_load, ld1_some, opK_pick, quK_pick, opK_call, call2_some, opK_buildSlice, opK_slice, quK_slice, opK_fad, quK_fad, opK_fld, quK_fld, opK_ext, quK_ext, ext_tuple, opK_nck, quK_nck, opK_mki, quK_mki, opK_mkf, quK_mkf, opK_panic, panK_iface, Option.map_none, opK_append, opK_cap, opK_clear, opK_store, opK_box, opK_alloc, opK_makeSlice, eff_append_eq, eff_store_eq, evs_nil, evs_cons, cons2_some,
    ev_tmp, ev_const, ev_func, ofValue, ofCell, Option.map_some, bin_add, bin_sub, bin_mul, bin_eql, bin_neq, bin_lss, bin_leq, bin_gtr, bin_geq, un_not, un_neg,
    List.range, List.range.loop, Array.size, List.length_cons, List.length_nil, List.size_toArray, Nat.reduceAdd, Nat.reduceSub, Nat.reduceEqDiff, Nat.zero_add, List.getElem?_toArray, List.getElem?_cons_zero, List.getElem?_cons_succ, List.replicate, List.cons_append, List.nil_append, List.append_nil, List.set_cons_zero, List.set_cons_succ, List.getD_cons_zero, List.getD_cons_succ,
    retR_ret, retR_normal, retR_pan, resAs_nil, resAs_cons, resA_tmp, resA_cell, fin_one, fin_none, fin_two,
    decide_eq_true_eq, decide_not, Bool.not_eq_true', Bool.false_eq_true, Bool.true_eq_false, ne_eq, not_true_eq_false, not_false_eq_true, if_true, if_false, decide_true, decide_false, Bool.not_true, Bool.not_false, eq_self, ↓reduceIte, reduceCtorEq]
  refine callK_ret _ _ _ _ (call_pure (ok41 _) (fun _ => rfl) (fun _ => rfl)) (ok_nil _ _) ?_
  simp -implicitDefEqProofs only [awp_seq, awp_skip, awp_ret, awp_exit, awp_label, awp_block, awp_cond, awp_reg, awp_loop, thenC_normal, thenC_ret, thenC_exit, thenC_pan, then_normal, then_ret, then_exit, then_pan, inBlock_normal, inBlock_ret, inBlock_pan, inBlock_exit, condK_bool, condK_any,
    nxt_nil, nxt_dnil, nxt_at, nxt_draw, nxt_quiet, stepAt_plain, stepQ_plain, stepAt_guard, stepQ_guard, guardK_yes, guardK_no, guardQ_yes, guardQ_no, gval_eq, gvO_some, gv_bool, gv_undef, putK_some, readK_at, readK_no, effK_some, ok_none, ok_nil, true_and, pickK_some, pickK_any, put_some, put_none,
    bin2_some, map1_some, ia2_some, opK_move, opK_assign, opK_bin, opK_un, opK_convert, opK_idxAddr, opK_idx, quK_move, quK_assign, quK_bin, quK_un, quK_convert, quK_idxAddr, quK_idx, opK_len, quK_len, opK_load, quK_load, ld1_some, opK_pick, quK_pick, opK_call, call2_some, opK_buildSlice, opK_slice, quK_slice, opK_fad, quK_fad, opK_fld, quK_fld, opK_ext, quK_ext, ext_tuple, opK_nck, quK_nck, opK_mki, quK_mki, opK_mkf, quK_mkf, opK_panic, panK_iface, Option.map_none, opK_append, opK_cap, opK_clear, opK_store, opK_box, opK_alloc, opK_makeSlice, eff_append_eq, eff_store_eq, evs_nil, evs_cons, cons2_some,
    ev_tmp, ev_const, ev_func, ofValue, ofCell, Option.map_some, bin_add, bin_sub, bin_mul, bin_eql, bin_neq, bin_lss, bin_leq, bin_gtr, bin_geq, un_not, un_neg,
    List.range, List.range.loop, Array.size, List.length_cons, List.length_nil, List.size_toArray, Nat.reduceAdd, Nat.reduceSub, Nat.reduceEqDiff, Nat.zero_add, List.getElem?_toArray, List.getElem?_cons_zero, List.getElem?_cons_succ, List.replicate, List.cons_append, List.nil_append, List.append_nil, List.set_cons_zero, List.set_cons_succ, List.getD_cons_zero, List.getD_cons_succ,
    retR_ret, retR_normal, retR_pan, resAs_nil, resAs_cons, resA_tmp, resA_cell, fin_one, fin_none, fin_two,
    decide_eq_true_eq, decide_not, Bool.not_eq_true', Bool.false_eq_true, Bool.true_eq_false, ne_eq, not_true_eq_false, not_false_eq_true, if_true, if_false, decide_true, decide_false, Bool.not_true, Bool.not_false, eq_self, ↓reduceIte, reduceCtorEq]
  exact Le.refl _ _
theorem ok40 (b : List Int) (x : Int) (hb : b.length < 1048576) (hs : b.Pairwise (· < ·)) :
    ∃ r : Int, Ok Try.prog 40 [.fv (.lst 1 (ints b)), .fv (.int .i64 x)] [] (.ret (.tuple [.fv (.int .i64 r), .fv (.bool (decide (x ∈ b)))])) [] := by
  have hlb := ints_length b
  have hpw := List.pairwise_iff_getElem.1 hs
  obtain ⟨r, hr1, hr2, hr3⟩ : ∃ r, r ≤ b.length ∧ (∀ k (h : k < b.length), k < r → b[k] < x) ∧ (∀ k (h : k < b.length), r ≤ k → x ≤ b[k]) := by
    clear hlb hb
    induction b with
    | nil => exact ⟨0, by simp, fun k h => by simp at h, fun k h => by simp at h⟩
    | cons y b ih =>
      rw [List.pairwise_cons] at hs
      by_cases hy : y < x
      · obtain ⟨r, h1, h2, h3⟩ := ih hs.2 (List.pairwise_iff_getElem.1 hs.2)
        refine ⟨r + 1, by simp; omega, fun k h hk => ?_, fun k h hk => ?_⟩
        · cases k with
          | zero => exact hy
          | succ k => exact h2 k (by simpa using h) (by omega)
        · cases k with
          | zero => omega
          | succ k => exact h3 k (by simpa using h) (by omega)
      · refine ⟨0, by omega, fun k h hk => by omega, fun k h hk => ?_⟩
        cases k with
        | zero => simp; omega
        | succ k =>
          have := hs.1 _ (List.getElem_mem (l := b) (n := k) (by simpa using h))
          simp; omega
  refine ⟨r, ?_⟩
  refine ok_start (k := 52) (n0 := 0) (rs := [.tmp 4, .tmp 5]) mix Try.func40 rfl rfl rfl rfl rfl rfl rfl ?_
  simp -implicitDefEqProofs only [len_lst 22 t22 rfl,
    awp_seq, awp_skip, awp_ret, awp_exit, awp_label, awp_block, awp_cond, awp_reg, awp_loop, thenC_normal, thenC_ret, thenC_exit, thenC_pan, then_normal, then_ret, then_exit, then_pan, inBlock_normal, inBlock_ret, inBlock_pan, inBlock_exit, condK_bool, condK_any,
    nxt_nil, nxt_dnil, nxt_at, nxt_draw, nxt_quiet, stepAt_plain, stepQ_plain, stepAt_guard, stepQ_guard, guardK_yes, guardK_no, guardQ_yes, guardQ_no, gval_eq, gvO_some, gv_bool, gv_undef, putK_some, readK_at, readK_no, effK_some, ok_none, ok_nil, true_and, pickK_some, pickK_any, put_some, put_none,
    bin2_some, map1_some, ia2_some, opK_move, opK_assign, opK_bin, opK_un, opK_convert, opK_idxAddr, opK_idx, quK_move, quK_assign, quK_bin, quK_un, quK_convert, quK_idxAddr, quK_idx, opK_len, quK_len, opK_load, quK_load, ld1_some, opK_pick, quK_pick, opK_call, call2_some, opK_buildSlice, opK_slice, quK_slice, opK_fad, quK_fad, opK_fld, quK_fld, opK_ext, quK_ext, ext_tuple, opK_nck, quK_nck, opK_mki, quK_mki, opK_mkf, quK_mkf, opK_panic, panK_iface, Option.map_none, opK_append, opK_cap, opK_clear, opK_store, opK_box, opK_alloc, opK_makeSlice, eff_append_eq, eff_store_eq, evs_nil, evs_cons, cons2_some,
    ev_tmp, ev_const, ev_func, ofValue, ofCell, Option.map_some, bin_add, bin_sub, bin_mul, bin_eql, bin_neq, bin_lss, bin_leq, bin_gtr, bin_geq, un_not, un_neg,
    List.range, List.range.loop, Array.size, List.length_cons, List.length_nil, List.size_toArray, Nat.reduceAdd, Nat.reduceSub, Nat.reduceEqDiff, Nat.zero_add, List.getElem?_toArray, List.getElem?_cons_zero, List.getElem?_cons_succ, List.replicate, List.cons_append, List.nil_append, List.append_nil, List.set_cons_zero, List.set_cons_succ, List.getD_cons_zero, List.getD_cons_succ,
    retR_ret, retR_normal, retR_pan, resAs_nil, resAs_cons, resA_tmp, resA_cell, fin_one, fin_none, fin_two,
    decide_eq_true_eq, decide_not, Bool.not_eq_true', Bool.false_eq_true, Bool.true_eq_false, ne_eq, not_true_eq_false, not_false_eq_true, if_true, if_false, decide_true, decide_false, Bool.not_true, Bool.not_false, eq_self, ↓reduceIte, reduceCtorEq]
  refine loop_rule (fun p : Nat × Nat => ⟨[.fv (.lst 1 (ints b)), .fv (.int .i64 x), .any, .any, .any, .any, .fv (.int .i64 (ints b).length), .fv (.int .i64 p.1), .fv (.int .i64 p.2), .any, .any, .any, .any, .any, .any, .any, .any, .any, .any, .any, .any, .any, .any, .any, .any, .any, .any, .any, .any, .any, .any, .any, .any, .any, .any, .any, .any, .any, .any, .any, .any, .any, .any, .any, .any, .any, .any, .any, .any, .any, .any, .any, .any, .any], [], []⟩)
    (fun p => p.1 ≤ r ∧ r ≤ p.2 ∧ p.2 ≤ b.length) (fun p => p.2 - p.1) (0, b.length) (le_wk (by simp [wk, hlb])) (by simp; omega) (fun p hp s hrk => ?_)
  obtain ⟨i, j⟩ := p
  obtain ⟨h1, h2, h3⟩ := hp
  simp only at h1 h2 h3 hrk ⊢
  by_cases hij : i < j
  · have hc : ((i : Int) < (j : Int)) = True := by simp; omega
    have hw : IntKind.wrap .i64 ((i : Int) + (j : Int)) = ((i + j : Nat) : Int) := by rw [wrap_small (by omega) (by omega)]; omega
    have hwu : IntKind.wrap .u64 ((i + j : Nat) : Int) = ((i + j : Nat) : Int) := wrap_u64 (by omega)
    have hsh : shiftA .shr .u64 ((i + j : Nat) : Int) 1 = some (.int .u64 (((i + j) / 2 : Nat) : Int)) := by
      simp [shiftA, IntKind.bits, Int.fdiv_eq_ediv_of_nonneg]
    have hw2 : IntKind.wrap .i64 (((i + j) / 2 : Nat) : Int) = (((i + j) / 2 : Nat) : Int) := wrap_small (by omega) (by omega)
    have hm : (i + j) / 2 < b.length := by omega
    have hrb : (ints b)[((((i + j) / 2 : Nat) : Int)).toNat]? = some [.int .i64 b[(i + j) / 2]] := ints_get b _ hm
    generalize hh : (i + j) / 2 = h at *
    have hw3 : IntKind.wrap .i64 ((h : Int) + 1) = ((h + 1 : Nat) : Int) := wrap_small (by omega) (by omega)
    simp -implicitDefEqProofs only [hc, hw, conv_int t3 t37 rfl, hwu, bin_shr hsh, conv_int t37 t3 rfl, hw2, idx_lst 22 t22 rfl t3 1 rfl (ints b) h _ hrb (by omega), ld_fptr 3 t3 rfl,
    awp_seq, awp_skip, awp_ret, awp_exit, awp_label, awp_block, awp_cond, awp_reg, awp_loop, thenC_normal, thenC_ret, thenC_exit, thenC_pan, then_normal, then_ret, then_exit, then_pan, inBlock_normal, inBlock_ret, inBlock_pan, inBlock_exit, condK_bool, condK_any,
    nxt_nil, nxt_dnil, nxt_at, nxt_draw, nxt_quiet, stepAt_plain, stepQ_plain, stepAt_guard, stepQ_guard, guardK_yes, guardK_no, guardQ_yes, guardQ_no, gval_eq, gvO_some, gv_bool, gv_undef, putK_some, readK_at, readK_no, effK_some, ok_none, ok_nil, true_and, pickK_some, pickK_any, put_some, put_none,
    bin2_some, map1_some, ia2_some, opK_move, opK_assign, opK_bin, opK_un, opK_convert, opK_idxAddr, opK_idx, quK_move, quK_assign, quK_bin, quK_un, quK_convert, quK_idxAddr, quK_idx, opK_len, quK_len, opK_load, quK_load, ld1_some, opK_pick, quK_pick, opK_call, call2_some, opK_buildSlice, opK_slice, quK_slice, opK_fad, quK_fad, opK_fld, quK_fld, opK_ext, quK_ext, ext_tuple, opK_nck, quK_nck, opK_mki, quK_mki, opK_mkf, quK_mkf, opK_panic, panK_iface, Option.map_none, opK_append, opK_cap, opK_clear, opK_store, opK_box, opK_alloc, opK_makeSlice, eff_append_eq, eff_store_eq, evs_nil, evs_cons, cons2_some,
    ev_tmp, ev_const, ev_func, ofValue, ofCell, Option.map_some, bin_add, bin_sub, bin_mul, bin_eql, bin_neq, bin_lss, bin_leq, bin_gtr, bin_geq, un_not, un_neg,
    List.range, List.range.loop, Array.size, List.length_cons, List.length_nil, List.size_toArray, Nat.reduceAdd, Nat.reduceSub, Nat.reduceEqDiff, Nat.zero_add, List.getElem?_toArray, List.getElem?_cons_zero, List.getElem?_cons_succ, List.replicate, List.cons_append, List.nil_append, List.append_nil, List.set_cons_zero, List.set_cons_succ, List.getD_cons_zero, List.getD_cons_succ,
    retR_ret, retR_normal, retR_pan, resAs_nil, resAs_cons, resA_tmp, resA_cell, fin_one, fin_none, fin_two,
    decide_eq_true_eq, decide_not, Bool.not_eq_true', Bool.false_eq_true, Bool.true_eq_false, ne_eq, not_true_eq_false, not_false_eq_true, if_true, if_false, decide_true, decide_false, Bool.not_true, Bool.not_false, eq_self, ↓reduceIte, reduceCtorEq]
    refine callK_ret _ _ _ _ (call_pure (ok48 _ _) (fun _ => rfl) (fun _ => rfl)) (ok_nil _ _) ?_
    by_cases hx : b[h] < x
    · have e : decide (b[h] < x) = true := by simpa using hx
      have hhr : h < r := by
        rcases Nat.lt_or_ge h r with h' | h'
        · exact h'
        · have := hr3 h hm h'
          omega
      simp -implicitDefEqProofs only [e, hw3,
    awp_seq, awp_skip, awp_ret, awp_exit, awp_label, awp_block, awp_cond, awp_reg, awp_loop, thenC_normal, thenC_ret, thenC_exit, thenC_pan, then_normal, then_ret, then_exit, then_pan, inBlock_normal, inBlock_ret, inBlock_pan, inBlock_exit, condK_bool, condK_any,
    nxt_nil, nxt_dnil, nxt_at, nxt_draw, nxt_quiet, stepAt_plain, stepQ_plain, stepAt_guard, stepQ_guard, guardK_yes, guardK_no, guardQ_yes, guardQ_no, gval_eq, gvO_some, gv_bool, gv_undef, putK_some, readK_at, readK_no, effK_some, ok_none, ok_nil, true_and, pickK_some, pickK_any, put_some, put_none,
    bin2_some, map1_some, ia2_some, opK_move, opK_assign, opK_bin, opK_un, opK_convert, opK_idxAddr, opK_idx, quK_move, quK_assign, quK_bin, quK_un, quK_convert, quK_idxAddr, quK_idx, opK_len, quK_len, opK_load, quK_load, ld1_some, opK_pick, quK_pick, opK_call, call2_some, opK_buildSlice, opK_slice, quK_slice, opK_fad, quK_fad, opK_fld, quK_fld, opK_ext, quK_ext, ext_tuple, opK_nck, quK_nck, opK_mki, quK_mki, opK_mkf, quK_mkf, opK_panic, panK_iface, Option.map_none, opK_append, opK_cap, opK_clear, opK_store, opK_box, opK_alloc, opK_makeSlice, eff_append_eq, eff_store_eq, evs_nil, evs_cons, cons2_some,
    ev_tmp, ev_const, ev_func, ofValue, ofCell, Option.map_some, bin_add, bin_sub, bin_mul, bin_eql, bin_neq, bin_lss, bin_leq, bin_gtr, bin_geq, un_not, un_neg,
    List.range, List.range.loop, Array.size, List.length_cons, List.length_nil, List.size_toArray, Nat.reduceAdd, Nat.reduceSub, Nat.reduceEqDiff, Nat.zero_add, List.getElem?_toArray, List.getElem?_cons_zero, List.getElem?_cons_succ, List.replicate, List.cons_append, List.nil_append, List.append_nil, List.set_cons_zero, List.set_cons_succ, List.getD_cons_zero, List.getD_cons_succ,
    retR_ret, retR_normal, retR_pan, resAs_nil, resAs_cons, resA_tmp, resA_cell, fin_one, fin_none, fin_two,
    decide_eq_true_eq, decide_not, Bool.not_eq_true', Bool.false_eq_true, Bool.true_eq_false, ne_eq, not_true_eq_false, not_false_eq_true, if_true, if_false, decide_true, decide_false, Bool.not_true, Bool.not_false, eq_self, ↓reduceIte, reduceCtorEq]
      exact back_intro hrk (h + 1, j) (le_wk (by simp [wk])) ⟨by simp only; omega, h2, h3⟩ (by simp only; omega)
    · have e : decide (b[h] < x) = false := by simpa using hx
      have hhr : r ≤ h := by
        rcases Nat.lt_or_ge h r with h' | h'
        · have := hr2 h hm h'
          omega
        · exact h'
      simp -implicitDefEqProofs only [e,
    awp_seq, awp_skip, awp_ret, awp_exit, awp_label, awp_block, awp_cond, awp_reg, awp_loop, thenC_normal, thenC_ret, thenC_exit, thenC_pan, then_normal, then_ret, then_exit, then_pan, inBlock_normal, inBlock_ret, inBlock_pan, inBlock_exit, condK_bool, condK_any,
    nxt_nil, nxt_dnil, nxt_at, nxt_draw, nxt_quiet, stepAt_plain, stepQ_plain, stepAt_guard, stepQ_guard, guardK_yes, guardK_no, guardQ_yes, guardQ_no, gval_eq, gvO_some, gv_bool, gv_undef, putK_some, readK_at, readK_no, effK_some, ok_none, ok_nil, true_and, pickK_some, pickK_any, put_some, put_none,
    bin2_some, map1_some, ia2_some, opK_move, opK_assign, opK_bin, opK_un, opK_convert, opK_idxAddr, opK_idx, quK_move, quK_assign, quK_bin, quK_un, quK_convert, quK_idxAddr, quK_idx, opK_len, quK_len, opK_load, quK_load, ld1_some, opK_pick, quK_pick, opK_call, call2_some, opK_buildSlice, opK_slice, quK_slice, opK_fad, quK_fad, opK_fld, quK_fld, opK_ext, quK_ext, ext_tuple, opK_nck, quK_nck, opK_mki, quK_mki, opK_mkf, quK_mkf, opK_panic, panK_iface, Option.map_none, opK_append, opK_cap, opK_clear, opK_store, opK_box, opK_alloc, opK_makeSlice, eff_append_eq, eff_store_eq, evs_nil, evs_cons, cons2_some,
    ev_tmp, ev_const, ev_func, ofValue, ofCell, Option.map_some, bin_add, bin_sub, bin_mul, bin_eql, bin_neq, bin_lss, bin_leq, bin_gtr, bin_geq, un_not, un_neg,
    List.range, List.range.loop, Array.size, List.length_cons, List.length_nil, List.size_toArray, Nat.reduceAdd, Nat.reduceSub, Nat.reduceEqDiff, Nat.zero_add, List.getElem?_toArray, List.getElem?_cons_zero, List.getElem?_cons_succ, List.replicate, List.cons_append, List.nil_append, List.append_nil, List.set_cons_zero, List.set_cons_succ, List.getD_cons_zero, List.getD_cons_succ,
    retR_ret, retR_normal, retR_pan, resAs_nil, resAs_cons, resA_tmp, resA_cell, fin_one, fin_none, fin_two,
    decide_eq_true_eq, decide_not, Bool.not_eq_true', Bool.false_eq_true, Bool.true_eq_false, ne_eq, not_true_eq_false, not_false_eq_true, if_true, if_false, decide_true, decide_false, Bool.not_true, Bool.not_false, eq_self, ↓reduceIte, reduceCtorEq]
      exact back_intro hrk (i, h) (le_wk (by simp [wk])) ⟨h1, hhr, by simp only; omega⟩ (by simp only; omega)
  · have hc : ((i : Int) < (j : Int)) = False := by simp; omega
    have hir : i = r := by omega
    subst hir
    by_cases hin : i < b.length
    · have hc2 : ((i : Int) < ((ints b).length : Int)) = True := by simp; omega
      have hrb : (ints b)[(i : Int).toNat]? = some [.int .i64 b[i]] := ints_get b _ hin
      by_cases he : b[i] = x
      · have he' : (b[i] = x) = True := by simpa using he
        have hm : decide (x ∈ b) = true := by rw [decide_eq_true_eq, ← he]; exact List.getElem_mem hin
        simp -implicitDefEqProofs only [hc, hc2, len_lst 22 t22 rfl, idx_lst 22 t22 rfl t3 1 rfl (ints b) i _ hrb (by omega), ld_fptr 3 t3 rfl, he', hm,
    awp_seq, awp_skip, awp_ret, awp_exit, awp_label, awp_block, awp_cond, awp_reg, awp_loop, thenC_normal, thenC_ret, thenC_exit, thenC_pan, then_normal, then_ret, then_exit, then_pan, inBlock_normal, inBlock_ret, inBlock_pan, inBlock_exit, condK_bool, condK_any,
    nxt_nil, nxt_dnil, nxt_at, nxt_draw, nxt_quiet, stepAt_plain, stepQ_plain, stepAt_guard, stepQ_guard, guardK_yes, guardK_no, guardQ_yes, guardQ_no, gval_eq, gvO_some, gv_bool, gv_undef, putK_some, readK_at, readK_no, effK_some, ok_none, ok_nil, true_and, pickK_some, pickK_any, put_some, put_none,
    bin2_some, map1_some, ia2_some, opK_move, opK_assign, opK_bin, opK_un, opK_convert, opK_idxAddr, opK_idx, quK_move, quK_assign, quK_bin, quK_un, quK_convert, quK_idxAddr, quK_idx, opK_len, quK_len, opK_load, quK_load, ld1_some, opK_pick, quK_pick, opK_call, call2_some, opK_buildSlice, opK_slice, quK_slice, opK_fad, quK_fad, opK_fld, quK_fld, opK_ext, quK_ext, ext_tuple, opK_nck, quK_nck, opK_mki, quK_mki, opK_mkf, quK_mkf, opK_panic, panK_iface, Option.map_none, opK_append, opK_cap, opK_clear, opK_store, opK_box, opK_alloc, opK_makeSlice, eff_append_eq, eff_store_eq, evs_nil, evs_cons, cons2_some,
    ev_tmp, ev_const, ev_func, ofValue, ofCell, Option.map_some, bin_add, bin_sub, bin_mul, bin_eql, bin_neq, bin_lss, bin_leq, bin_gtr, bin_geq, un_not, un_neg,
    List.range, List.range.loop, Array.size, List.length_cons, List.length_nil, List.size_toArray, Nat.reduceAdd, Nat.reduceSub, Nat.reduceEqDiff, Nat.zero_add, List.getElem?_toArray, List.getElem?_cons_zero, List.getElem?_cons_succ, List.replicate, List.cons_append, List.nil_append, List.append_nil, List.set_cons_zero, List.set_cons_succ, List.getD_cons_zero, List.getD_cons_succ,
    retR_ret, retR_normal, retR_pan, resAs_nil, resAs_cons, resA_tmp, resA_cell, fin_one, fin_none, fin_two,
    decide_eq_true_eq, decide_not, Bool.not_eq_true', Bool.false_eq_true, Bool.true_eq_false, ne_eq, not_true_eq_false, not_false_eq_true, if_true, if_false, decide_true, decide_false, Bool.not_true, Bool.not_false, eq_self, ↓reduceIte, reduceCtorEq]
        exact Le.refl _ _
      · have he' : (b[i] = x) = False := by simpa using he
        have hm : decide (x ∈ b) = false := by
          rw [decide_eq_false_iff_not]
          intro hx
          obtain ⟨k, hk, e⟩ := List.getElem_of_mem hx
          rcases Nat.lt_trichotomy k i with h | h | h
          · have := hr2 k hk h; omega
          · subst h; exact he e
          · have := hr3 i hin (Nat.le_refl _)
            have := hpw i k hin hk h
            omega
        simp -implicitDefEqProofs only [hc, hc2, len_lst 22 t22 rfl, idx_lst 22 t22 rfl t3 1 rfl (ints b) i _ hrb (by omega), ld_fptr 3 t3 rfl, he', hm,
    awp_seq, awp_skip, awp_ret, awp_exit, awp_label, awp_block, awp_cond, awp_reg, awp_loop, thenC_normal, thenC_ret, thenC_exit, thenC_pan, then_normal, then_ret, then_exit, then_pan, inBlock_normal, inBlock_ret, inBlock_pan, inBlock_exit, condK_bool, condK_any,
    nxt_nil, nxt_dnil, nxt_at, nxt_draw, nxt_quiet, stepAt_plain, stepQ_plain, stepAt_guard, stepQ_guard, guardK_yes, guardK_no, guardQ_yes, guardQ_no, gval_eq, gvO_some, gv_bool, gv_undef, putK_some, readK_at, readK_no, effK_some, ok_none, ok_nil, true_and, pickK_some, pickK_any, put_some, put_none,
    bin2_some, map1_some, ia2_some, opK_move, opK_assign, opK_bin, opK_un, opK_convert, opK_idxAddr, opK_idx, quK_move, quK_assign, quK_bin, quK_un, quK_convert, quK_idxAddr, quK_idx, opK_len, quK_len, opK_load, quK_load, ld1_some, opK_pick, quK_pick, opK_call, call2_some, opK_buildSlice, opK_slice, quK_slice, opK_fad, quK_fad, opK_fld, quK_fld, opK_ext, quK_ext, ext_tuple, opK_nck, quK_nck, opK_mki, quK_mki, opK_mkf, quK_mkf, opK_panic, panK_iface, Option.map_none, opK_append, opK_cap, opK_clear, opK_store, opK_box, opK_alloc, opK_makeSlice, eff_append_eq, eff_store_eq, evs_nil, evs_cons, cons2_some,
    ev_tmp, ev_const, ev_func, ofValue, ofCell, Option.map_some, bin_add, bin_sub, bin_mul, bin_eql, bin_neq, bin_lss, bin_leq, bin_gtr, bin_geq, un_not, un_neg,
    List.range, List.range.loop, Array.size, List.length_cons, List.length_nil, List.size_toArray, Nat.reduceAdd, Nat.reduceSub, Nat.reduceEqDiff, Nat.zero_add, List.getElem?_toArray, List.getElem?_cons_zero, List.getElem?_cons_succ, List.replicate, List.cons_append, List.nil_append, List.append_nil, List.set_cons_zero, List.set_cons_succ, List.getD_cons_zero, List.getD_cons_succ,
    retR_ret, retR_normal, retR_pan, resAs_nil, resAs_cons, resA_tmp, resA_cell, fin_one, fin_none, fin_two,
    decide_eq_true_eq, decide_not, Bool.not_eq_true', Bool.false_eq_true, Bool.true_eq_false, ne_eq, not_true_eq_false, not_false_eq_true, if_true, if_false, decide_true, decide_false, Bool.not_true, Bool.not_false, eq_self, ↓reduceIte, reduceCtorEq]
        refine callK_ret _ _ _ _ (call_pure (ok54 _) (fun _ => rfl) (fun _ => rfl)) (ok_nil _ _) ?_
        simp -implicitDefEqProofs only [awp_seq, awp_skip, awp_ret, awp_exit, awp_label, awp_block, awp_cond, awp_reg, awp_loop, thenC_normal, thenC_ret, thenC_exit, thenC_pan, then_normal, then_ret, then_exit, then_pan, inBlock_normal, inBlock_ret, inBlock_pan, inBlock_exit, condK_bool, condK_any,
    nxt_nil, nxt_dnil, nxt_at, nxt_draw, nxt_quiet, stepAt_plain, stepQ_plain, stepAt_guard, stepQ_guard, guardK_yes, guardK_no, guardQ_yes, guardQ_no, gval_eq, gvO_some, gv_bool, gv_undef, putK_some, readK_at, readK_no, effK_some, ok_none, ok_nil, true_and, pickK_some, pickK_any, put_some, put_none,
    bin2_some, map1_some, ia2_some, opK_move, opK_assign, opK_bin, opK_un, opK_convert, opK_idxAddr, opK_idx, quK_move, quK_assign, quK_bin, quK_un, quK_convert, quK_idxAddr, quK_idx, opK_len, quK_len, opK_load, quK_load, ld1_some, opK_pick, quK_pick, opK_call, call2_some, opK_buildSlice, opK_slice, quK_slice, opK_fad, quK_fad, opK_fld, quK_fld, opK_ext, quK_ext, ext_tuple, opK_nck, quK_nck, opK_mki, quK_mki, opK_mkf, quK_mkf, opK_panic, panK_iface, Option.map_none, opK_append, opK_cap, opK_clear, opK_store, opK_box, opK_alloc, opK_makeSlice, eff_append_eq, eff_store_eq, evs_nil, evs_cons, cons2_some,
    ev_tmp, ev_const, ev_func, ofValue, ofCell, Option.map_some, bin_add, bin_sub, bin_mul, bin_eql, bin_neq, bin_lss, bin_leq, bin_gtr, bin_geq, un_not, un_neg,
    List.range, List.range.loop, Array.size, List.length_cons, List.length_nil, List.size_toArray, Nat.reduceAdd, Nat.reduceSub, Nat.reduceEqDiff, Nat.zero_add, List.getElem?_toArray, List.getElem?_cons_zero, List.getElem?_cons_succ, List.replicate, List.cons_append, List.nil_append, List.append_nil, List.set_cons_zero, List.set_cons_succ, List.getD_cons_zero, List.getD_cons_succ,
    retR_ret, retR_normal, retR_pan, resAs_nil, resAs_cons, resA_tmp, resA_cell, fin_one, fin_none, fin_two,
    decide_eq_true_eq, decide_not, Bool.not_eq_true', Bool.false_eq_true, Bool.true_eq_false, ne_eq, not_true_eq_false, not_false_eq_true, if_true, if_false, decide_true, decide_false, Bool.not_true, Bool.not_false, eq_self, ↓reduceIte, reduceCtorEq]
        exact Le.refl _ _
    · have hc2 : ((i : Int) < ((ints b).length : Int)) = False := by simp; omega
      have hm : decide (x ∈ b) = false := by
        rw [decide_eq_false_iff_not]
        intro hx
        obtain ⟨k, hk, e⟩ := List.getElem_of_mem hx
        have := hr2 k hk (by omega)
        omega
      simp -implicitDefEqProofs only [hc, hc2, len_lst 22 t22 rfl, hm,
    awp_seq, awp_skip, awp_ret, awp_exit, awp_label, awp_block, awp_cond, awp_reg, awp_loop, thenC_normal, thenC_ret, thenC_exit, thenC_pan, then_normal, then_ret, then_exit, then_pan, inBlock_normal, inBlock_ret, inBlock_pan, inBlock_exit, condK_bool, condK_any,
    nxt_nil, nxt_dnil, nxt_at, nxt_draw, nxt_quiet, stepAt_plain, stepQ_plain, stepAt_guard, stepQ_guard, guardK_yes, guardK_no, guardQ_yes, guardQ_no, gval_eq, gvO_some, gv_bool, gv_undef, putK_some, readK_at, readK_no, effK_some, ok_none, ok_nil, true_and, pickK_some, pickK_any, put_some, put_none,
    bin2_some, map1_some, ia2_some, opK_move, opK_assign, opK_bin, opK_un, opK_convert, opK_idxAddr, opK_idx, quK_move, quK_assign, quK_bin, quK_un, quK_convert, quK_idxAddr, quK_idx, opK_len, quK_len, opK_load, quK_load, ld1_some, opK_pick, quK_pick, opK_call, call2_some, opK_buildSlice, opK_slice, quK_slice, opK_fad, quK_fad, opK_fld, quK_fld, opK_ext, quK_ext, ext_tuple, opK_nck, quK_nck, opK_mki, quK_mki, opK_mkf, quK_mkf, opK_panic, panK_iface, Option.map_none, opK_append, opK_cap, opK_clear, opK_store, opK_box, opK_alloc, opK_makeSlice, eff_append_eq, eff_store_eq, evs_nil, evs_cons, cons2_some,
    ev_tmp, ev_const, ev_func, ofValue, ofCell, Option.map_some, bin_add, bin_sub, bin_mul, bin_eql, bin_neq, bin_lss, bin_leq, bin_gtr, bin_geq, un_not, un_neg,
    List.range, List.range.loop, Array.size, List.length_cons, List.length_nil, List.size_toArray, Nat.reduceAdd, Nat.reduceSub, Nat.reduceEqDiff, Nat.zero_add, List.getElem?_toArray, List.getElem?_cons_zero, List.getElem?_cons_succ, List.replicate, List.cons_append, List.nil_append, List.append_nil, List.set_cons_zero, List.set_cons_succ, List.getD_cons_zero, List.getD_cons_succ,
    retR_ret, retR_normal, retR_pan, resAs_nil, resAs_cons, resA_tmp, resA_cell, fin_one, fin_none, fin_two,
    decide_eq_true_eq, decide_not, Bool.not_eq_true', Bool.false_eq_true, Bool.true_eq_false, ne_eq, not_true_eq_false, not_false_eq_true, if_true, if_false, decide_true, decide_false, Bool.not_true, Bool.not_false, eq_self, ↓reduceIte, reduceCtorEq]
      exact Le.refl _ _
theorem ok39 (b : List Int) (t : Bool) (x : Int) (hb : b.length < 1048576) (hs : b.Pairwise (· < ·)) :
    Ok Try.prog 39 [.fv (.int .i64 x), .ptr 0 0 0 0, .ptr 1 0 0 0] [.box [.fv (.lst 1 (ints b))], .box [.fv (.bool t)]] (.ret (.fv (.bool (decide (x ∈ b) != t)))) [.box [.fv (.lst 1 (ints b))], .box [.fv (.bool t)]] := by
  obtain ⟨r, h40⟩ := ok40 b x hb hs
  refine ok_start (k := 13) (n0 := 2) (rs := [.tmp 4]) mix Try.func39 rfl rfl rfl rfl rfl rfl rfl ?_
  simp -implicitDefEqProofs only [awp_seq, awp_skip, awp_ret, awp_exit, awp_label, awp_block, awp_cond, awp_reg, awp_loop, thenC_normal, thenC_ret, thenC_exit, thenC_pan, then_normal, then_ret, then_exit, then_pan, inBlock_normal, inBlock_ret, inBlock_pan, inBlock_exit, condK_bool, condK_any,
    nxt_nil, nxt_dnil, nxt_at, nxt_draw, nxt_quiet, stepAt_plain, stepQ_plain, stepAt_guard, stepQ_guard, guardK_yes, guardK_no, guardQ_yes, guardQ_no, gval_eq, gvO_some, gv_bool, gv_undef, putK_some, readK_at, readK_no, effK_some, ok_none, ok_nil, true_and, pickK_some, pickK_any, put_some, put_none,
    bin2_some, map1_some, ia2_some, opK_move, opK_assign, opK_bin, opK_un, opK_convert, opK_idxAddr, opK_idx, quK_move, quK_assign, quK_bin, quK_un, quK_convert, quK_idxAddr, quK_idx, opK_len, quK_len, opK_load, quK_load, ld1_some, opK_pick, quK_pick, opK_call, call2_some, opK_buildSlice, opK_slice, quK_slice, opK_fad, quK_fad, opK_fld, quK_fld, opK_ext, quK_ext, ext_tuple, opK_nck, quK_nck, opK_mki, quK_mki, opK_mkf, quK_mkf, opK_panic, panK_iface, Option.map_none, opK_append, opK_cap, opK_clear, opK_store, opK_box, opK_alloc, opK_makeSlice, eff_append_eq, eff_store_eq, evs_nil, evs_cons, cons2_some,
    ev_tmp, ev_const, ev_func, ofValue, ofCell, Option.map_some, bin_add, bin_sub, bin_mul, bin_eql, bin_neq, bin_lss, bin_leq, bin_gtr, bin_geq, un_not, un_neg,
    List.range, List.range.loop, Array.size, List.length_cons, List.length_nil, List.size_toArray, Nat.reduceAdd, Nat.reduceSub, Nat.reduceEqDiff, Nat.zero_add, List.getElem?_toArray, List.getElem?_cons_zero, List.getElem?_cons_succ, List.replicate, List.cons_append, List.nil_append, List.append_nil, List.set_cons_zero, List.set_cons_succ, List.getD_cons_zero, List.getD_cons_succ,
    retR_ret, retR_normal, retR_pan, resAs_nil, resAs_cons, resA_tmp, resA_cell, fin_one, fin_none, fin_two,
    decide_eq_true_eq, decide_not, Bool.not_eq_true', Bool.false_eq_true, Bool.true_eq_false, ne_eq, not_true_eq_false, not_false_eq_true, if_true, if_false, decide_true, decide_false, Bool.not_true, Bool.not_false, eq_self, ↓reduceIte, reduceCtorEq,
    lenK_eq, lenT_ref, lenT_lst, lenT_nils, lenT_str, idxAddrA_eq, idxT_slice, idxT_array, idxS_lst, idxS_ref, idxAr_ptr, idxAr_fptr, idxA_eq, idxVT_array, idxVT_str, idxV_some, partA_eq, partB_one, partB_agg, isAgg_bool, isAgg_int, isAgg_string, isAgg_slice, isAgg_pointer, isAgg_map, isAgg_struct, isAgg_array, ldK_eq, ldT_ptr, ldT_fptr, ldB_plain, ldB_box, ldR_some, stK_eq, stT_ptr, stB_plain1, stR_some, stB_box1, okCell_fv, okCell_ref, okCell_ptr, okCell_mp, okCell_fptr, splice_one, effK_ite, putK_ite, map_ite,
    apK_eq, apT_slice, apE_slice, apE_string, elB, srcR_lst, srcR_nils, srcR_ref, srcR_str, srcB_plain, bind_ite, ite_ite, apS_nils, apS_ref, apR_plain, eff_bs_eq, bsT_slice, bsE_0, bsE_1, bsE_2, bsE_3, evParts, convA_eq, convT_int, Option.bind_some, Option.some.injEq, Bool.and_self, Bool.and_true, Int.toNat_natCast, Int.natCast_nonneg, Int.reduceToNat, Int.reduceLE, Int.reduceLT, Int.reduceEq, Nat.reduceMul, Nat.reduceLeDiff, Nat.reduceLT, Nat.zero_mul, Nat.mul_one, List.drop_zero, List.take_succ_cons, List.take_zero, List.drop_succ_cons, List.take_nil, List.map_cons, List.map_nil, List.length_append, ty3, ty4, ty22, ty37, ty39]
  refine callK_ret _ _ _ _ (call_pure (h40) (fun _ => rfl) (fun _ => rfl)) (ok_nil _ _) ?_
  simp -implicitDefEqProofs only [neq_bool ty4,
    awp_seq, awp_skip, awp_ret, awp_exit, awp_label, awp_block, awp_cond, awp_reg, awp_loop, thenC_normal, thenC_ret, thenC_exit, thenC_pan, then_normal, then_ret, then_exit, then_pan, inBlock_normal, inBlock_ret, inBlock_pan, inBlock_exit, condK_bool, condK_any,
    nxt_nil, nxt_dnil, nxt_at, nxt_draw, nxt_quiet, stepAt_plain, stepQ_plain, stepAt_guard, stepQ_guard, guardK_yes, guardK_no, guardQ_yes, guardQ_no, gval_eq, gvO_some, gv_bool, gv_undef, putK_some, readK_at, readK_no, effK_some, ok_none, ok_nil, true_and, pickK_some, pickK_any, put_some, put_none,
    bin2_some, map1_some, ia2_some, opK_move, opK_assign, opK_bin, opK_un, opK_convert, opK_idxAddr, opK_idx, quK_move, quK_assign, quK_bin, quK_un, quK_convert, quK_idxAddr, quK_idx, opK_len, quK_len, opK_load, quK_load, ld1_some, opK_pick, quK_pick, opK_call, call2_some, opK_buildSlice, opK_slice, quK_slice, opK_fad, quK_fad, opK_fld, quK_fld, opK_ext, quK_ext, ext_tuple, opK_nck, quK_nck, opK_mki, quK_mki, opK_mkf, quK_mkf, opK_panic, panK_iface, Option.map_none, opK_append, opK_cap, opK_clear, opK_store, opK_box, opK_alloc, opK_makeSlice, eff_append_eq, eff_store_eq, evs_nil, evs_cons, cons2_some,
    ev_tmp, ev_const, ev_func, ofValue, ofCell, Option.map_some, bin_add, bin_sub, bin_mul, bin_eql, bin_neq, bin_lss, bin_leq, bin_gtr, bin_geq, un_not, un_neg,
    List.range, List.range.loop, Array.size, List.length_cons, List.length_nil, List.size_toArray, Nat.reduceAdd, Nat.reduceSub, Nat.reduceEqDiff, Nat.zero_add, List.getElem?_toArray, List.getElem?_cons_zero, List.getElem?_cons_succ, List.replicate, List.cons_append, List.nil_append, List.append_nil, List.set_cons_zero, List.set_cons_succ, List.getD_cons_zero, List.getD_cons_succ,
    retR_ret, retR_normal, retR_pan, resAs_nil, resAs_cons, resA_tmp, resA_cell, fin_one, fin_none, fin_two,
    decide_eq_true_eq, decide_not, Bool.not_eq_true', Bool.false_eq_true, Bool.true_eq_false, ne_eq, not_true_eq_false, not_false_eq_true, if_true, if_false, decide_true, decide_false, Bool.not_true, Bool.not_false, eq_self, ↓reduceIte, reduceCtorEq,
    lenK_eq, lenT_ref, lenT_lst, lenT_nils, lenT_str, idxAddrA_eq, idxT_slice, idxT_array, idxS_lst, idxS_ref, idxAr_ptr, idxAr_fptr, idxA_eq, idxVT_array, idxVT_str, idxV_some, partA_eq, partB_one, partB_agg, isAgg_bool, isAgg_int, isAgg_string, isAgg_slice, isAgg_pointer, isAgg_map, isAgg_struct, isAgg_array, ldK_eq, ldT_ptr, ldT_fptr, ldB_plain, ldB_box, ldR_some, stK_eq, stT_ptr, stB_plain1, stR_some, stB_box1, okCell_fv, okCell_ref, okCell_ptr, okCell_mp, okCell_fptr, splice_one, effK_ite, putK_ite, map_ite,
    apK_eq, apT_slice, apE_slice, apE_string, elB, srcR_lst, srcR_nils, srcR_ref, srcR_str, srcB_plain, bind_ite, ite_ite, apS_nils, apS_ref, apR_plain, eff_bs_eq, bsT_slice, bsE_0, bsE_1, bsE_2, bsE_3, evParts, convA_eq, convT_int, Option.bind_some, Option.some.injEq, Bool.and_self, Bool.and_true, Int.toNat_natCast, Int.natCast_nonneg, Int.reduceToNat, Int.reduceLE, Int.reduceLT, Int.reduceEq, Nat.reduceMul, Nat.reduceLeDiff, Nat.reduceLT, Nat.zero_mul, Nat.mul_one, List.drop_zero, List.take_succ_cons, List.take_zero, List.drop_succ_cons, List.take_nil, List.map_cons, List.map_nil, List.length_append, ty3, ty4, ty22, ty37, ty39]
  exact Le.refl _ _
end Go.Abs
