/- Sets of bytes: the document's loops; the least byte. -/
import Derived.Test.YtablmjophjjabaaDoorBytesA
import Derived.Test.YtablmjophjjabaaDoorBytesN
import Derived.Lib.TrailingZeros
namespace Go.Abs
open Go.Proofs
set_option linter.unusedVariables false
set_option linter.unusedSimpArgs false
set_option maxRecDepth 100000
set_option maxHeartbeats 1000000
theorem w256 {i : Nat} (h : i < 256) : IntKind.wrap .i64 ((i : Int) + 1) = ((i + 1 : Nat) : Int) := wrap_small (by omega) (by omega)
theorem step_or (p q : Nat → Bool) (i : Nat) : (if q i then putP (fun b => p b || (decide (b < i) && q b)) i else fun b => p b || (decide (b < i) && q b)) = fun b => p b || (decide (b < i + 1) && q b) := by
  funext b
  by_cases h : q i
  · rw [if_pos h]
    by_cases e : b = i
    · subst e; simp [putP, h]
    · have h2 : (b < i + 1) = (b < i) := by simp; omega
      have h3 : (b == i) = false := by simpa using e
      simp [putP, h2, h3]
  · rw [if_neg h]
    by_cases e : b = i
    · subst e; simp [h]
    · have h2 : (b < i + 1) = (b < i) := by simp; omega
      simp [h2]
theorem ok14 (p q : Nat → Bool) : Ok Tryd.prog 14 [.agg (sc p), .agg (sc q)] [] (.ret (.agg (sc (fun b => p b || q b)))) [] := by
  have e0 : sc (fun b => p b || (decide (b < 0) && q b)) = sc p := sc_congr fun b _ => by simp
  refine ok_start (k := 15) (n0 := 0) (rs := [.cell 4 25]) mix Tryd.func14 rfl rfl rfl rfl rfl rfl rfl ?_
  simp -implicitDefEqProofs only [sc_len, sc_take, sc_zl, stB_boxA, sc_ok, splice_all,
    evx, true_and, Option.map_none, ofValue, ofCell, Option.map_some, List.range, List.range.loop, Array.size, List.length_cons, List.length_nil, List.size_toArray, Nat.reduceAdd, Nat.reduceSub, Nat.reduceEqDiff, List.getElem?_toArray, List.getElem?_cons_zero, List.getElem?_cons_succ, List.replicate, List.cons_append, List.nil_append, List.append_nil, List.set_cons_zero, List.set_cons_succ, List.getD_cons_zero, List.getD_cons_succ, decide_not, ne_eq, if_true, if_false, eq_self, ↓reduceIte, reduceCtorEq, splice_one, map_ite, elB, bind_ite, ite_ite, evParts, Option.bind_some, Option.some.injEq, Int.reduceToNat, Int.reduceLE, Int.reduceLT, Int.reduceEq, Nat.reduceMul, Nat.reduceLeDiff, Nat.reduceLT, List.drop_zero, List.take_succ_cons, List.take_zero, List.drop_succ_cons, List.take_nil, List.map_cons, List.map_nil, List.length_append, ty3, ty4, ty5, ty23, ty24, ty25, ty33, ty39, ty40, ty45, ty51, ty74]
  refine loop_rule (fun i : Nat => ⟨[.any, .any, .ptr 0 0 0 0, .ptr 1 0 0 0, .ptr 2 0 0 0, .fv (.int .i64 i), .any, .any, .any, .any, .any, .any, .any, .any, .any, .any, .any], [.box (sc (fun b => p b || (decide (b < i) && q b))), .box (sc q), .box (sc fun _ => false)], []⟩)
    (fun i => i ≤ 256) (fun i => 256 - i) 0 (by
      show Le 0 _ ⟨_, [.box (sc (fun b => p b || (decide (b < 0) && q b))), .box (sc q), .box (sc fun _ => false)], []⟩
      rw [e0]
      exact le_wk (by simp [wk])) (by simp) (fun i hi s hs => ?_)
  by_cases hlt : i < 256
  · have hc : ((i : Int) < 256) = True := by simp; omega
    have h26 := ok26 q i hlt
    have h31 := ok31 (fun b => p b || (decide (b < i) && q b)) i hlt
    have hst := step_or p q i
    cases hq : q i with
    | true =>
      rw [hq] at h26
      rw [if_pos hq] at hst
      rw [hst] at h31
      simp -implicitDefEqProofs only [hc, sc_len, sc_take, sc_zl, stB_boxA, sc_ok, splice_all,
    evx, true_and, Option.map_none, ofValue, ofCell, Option.map_some, List.range, List.range.loop, Array.size, List.length_cons, List.length_nil, List.size_toArray, Nat.reduceAdd, Nat.reduceSub, Nat.reduceEqDiff, List.getElem?_toArray, List.getElem?_cons_zero, List.getElem?_cons_succ, List.replicate, List.cons_append, List.nil_append, List.append_nil, List.set_cons_zero, List.set_cons_succ, List.getD_cons_zero, List.getD_cons_succ, decide_not, ne_eq, if_true, if_false, eq_self, ↓reduceIte, reduceCtorEq, splice_one, map_ite, elB, bind_ite, ite_ite, evParts, Option.bind_some, Option.some.injEq, Int.reduceToNat, Int.reduceLE, Int.reduceLT, Int.reduceEq, Nat.reduceMul, Nat.reduceLeDiff, Nat.reduceLT, List.drop_zero, List.take_succ_cons, List.take_zero, List.drop_succ_cons, List.take_nil, List.map_cons, List.map_nil, List.length_append, ty3, ty4, ty5, ty23, ty24, ty25, ty33, ty39, ty40, ty45, ty51, ty74]
      refine callK_ret _ _ _ _ (call_pure (h26) (fun _ => rfl) (fun _ => rfl)) (ok_nil _ _) ?_
      simp -implicitDefEqProofs only [sc_len, sc_take, sc_zl, stB_boxA, sc_ok, splice_all,
    evx, true_and, Option.map_none, ofValue, ofCell, Option.map_some, List.range, List.range.loop, Array.size, List.length_cons, List.length_nil, List.size_toArray, Nat.reduceAdd, Nat.reduceSub, Nat.reduceEqDiff, List.getElem?_toArray, List.getElem?_cons_zero, List.getElem?_cons_succ, List.replicate, List.cons_append, List.nil_append, List.append_nil, List.set_cons_zero, List.set_cons_succ, List.getD_cons_zero, List.getD_cons_succ, decide_not, ne_eq, if_true, if_false, eq_self, ↓reduceIte, reduceCtorEq, splice_one, map_ite, elB, bind_ite, ite_ite, evParts, Option.bind_some, Option.some.injEq, Int.reduceToNat, Int.reduceLE, Int.reduceLT, Int.reduceEq, Nat.reduceMul, Nat.reduceLeDiff, Nat.reduceLT, List.drop_zero, List.take_succ_cons, List.take_zero, List.drop_succ_cons, List.take_nil, List.map_cons, List.map_nil, List.length_append, ty3, ty4, ty5, ty23, ty24, ty25, ty33, ty39, ty40, ty45, ty51, ty74]
      refine callK_ret _ _ _ _ (call_pure (h31) (fun _ => rfl) (fun _ => rfl)) (ok_nil _ _) ?_
      simp -implicitDefEqProofs only [sc_len, sc_take, sc_zl, stB_boxA, sc_ok, splice_all, w256 hlt,
    evx, true_and, Option.map_none, ofValue, ofCell, Option.map_some, List.range, List.range.loop, Array.size, List.length_cons, List.length_nil, List.size_toArray, Nat.reduceAdd, Nat.reduceSub, Nat.reduceEqDiff, List.getElem?_toArray, List.getElem?_cons_zero, List.getElem?_cons_succ, List.replicate, List.cons_append, List.nil_append, List.append_nil, List.set_cons_zero, List.set_cons_succ, List.getD_cons_zero, List.getD_cons_succ, decide_not, ne_eq, if_true, if_false, eq_self, ↓reduceIte, reduceCtorEq, splice_one, map_ite, elB, bind_ite, ite_ite, evParts, Option.bind_some, Option.some.injEq, Int.reduceToNat, Int.reduceLE, Int.reduceLT, Int.reduceEq, Nat.reduceMul, Nat.reduceLeDiff, Nat.reduceLT, List.drop_zero, List.take_succ_cons, List.take_zero, List.drop_succ_cons, List.take_nil, List.map_cons, List.map_nil, List.length_append, ty3, ty4, ty5, ty23, ty24, ty25, ty33, ty39, ty40, ty45, ty51, ty74]
      exact back_intro hs (i + 1) (le_wk (by simp [wk])) (by omega) (by omega)
    | false =>
      rw [hq] at h26
      have hn : ¬ q i = true := by rw [hq]; simp
      rw [if_neg hn] at hst
      simp -implicitDefEqProofs only [hc, sc_len, sc_take, sc_zl, stB_boxA, sc_ok, splice_all,
    evx, true_and, Option.map_none, ofValue, ofCell, Option.map_some, List.range, List.range.loop, Array.size, List.length_cons, List.length_nil, List.size_toArray, Nat.reduceAdd, Nat.reduceSub, Nat.reduceEqDiff, List.getElem?_toArray, List.getElem?_cons_zero, List.getElem?_cons_succ, List.replicate, List.cons_append, List.nil_append, List.append_nil, List.set_cons_zero, List.set_cons_succ, List.getD_cons_zero, List.getD_cons_succ, decide_not, ne_eq, if_true, if_false, eq_self, ↓reduceIte, reduceCtorEq, splice_one, map_ite, elB, bind_ite, ite_ite, evParts, Option.bind_some, Option.some.injEq, Int.reduceToNat, Int.reduceLE, Int.reduceLT, Int.reduceEq, Nat.reduceMul, Nat.reduceLeDiff, Nat.reduceLT, List.drop_zero, List.take_succ_cons, List.take_zero, List.drop_succ_cons, List.take_nil, List.map_cons, List.map_nil, List.length_append, ty3, ty4, ty5, ty23, ty24, ty25, ty33, ty39, ty40, ty45, ty51, ty74]
      refine callK_ret _ _ _ _ (call_pure (h26) (fun _ => rfl) (fun _ => rfl)) (ok_nil _ _) ?_
      simp -implicitDefEqProofs only [sc_len, sc_take, sc_zl, stB_boxA, sc_ok, splice_all, w256 hlt,
    evx, true_and, Option.map_none, ofValue, ofCell, Option.map_some, List.range, List.range.loop, Array.size, List.length_cons, List.length_nil, List.size_toArray, Nat.reduceAdd, Nat.reduceSub, Nat.reduceEqDiff, List.getElem?_toArray, List.getElem?_cons_zero, List.getElem?_cons_succ, List.replicate, List.cons_append, List.nil_append, List.append_nil, List.set_cons_zero, List.set_cons_succ, List.getD_cons_zero, List.getD_cons_succ, decide_not, ne_eq, if_true, if_false, eq_self, ↓reduceIte, reduceCtorEq, splice_one, map_ite, elB, bind_ite, ite_ite, evParts, Option.bind_some, Option.some.injEq, Int.reduceToNat, Int.reduceLE, Int.reduceLT, Int.reduceEq, Nat.reduceMul, Nat.reduceLeDiff, Nat.reduceLT, List.drop_zero, List.take_succ_cons, List.take_zero, List.drop_succ_cons, List.take_nil, List.map_cons, List.map_nil, List.length_append, ty3, ty4, ty5, ty23, ty24, ty25, ty33, ty39, ty40, ty45, ty51, ty74]
      refine back_intro hs (i + 1) (by rw [hst]; exact le_wk (by simp [wk])) (by omega) (by omega)
  · have hc : ((i : Int) < 256) = False := by simp; omega
    have e : sc (fun b => p b || (decide (b < i) && q b)) = sc (fun b => p b || q b) := sc_congr fun b hb => by
      have : b < i := by omega
      simp [this]
    simp -implicitDefEqProofs only [hc, sc_len, sc_take, sc_zl, stB_boxA, sc_ok, splice_all, e,
    evx, true_and, Option.map_none, ofValue, ofCell, Option.map_some, List.range, List.range.loop, Array.size, List.length_cons, List.length_nil, List.size_toArray, Nat.reduceAdd, Nat.reduceSub, Nat.reduceEqDiff, List.getElem?_toArray, List.getElem?_cons_zero, List.getElem?_cons_succ, List.replicate, List.cons_append, List.nil_append, List.append_nil, List.set_cons_zero, List.set_cons_succ, List.getD_cons_zero, List.getD_cons_succ, decide_not, ne_eq, if_true, if_false, eq_self, ↓reduceIte, reduceCtorEq, splice_one, map_ite, elB, bind_ite, ite_ite, evParts, Option.bind_some, Option.some.injEq, Int.reduceToNat, Int.reduceLE, Int.reduceLT, Int.reduceEq, Nat.reduceMul, Nat.reduceLeDiff, Nat.reduceLT, List.drop_zero, List.take_succ_cons, List.take_zero, List.drop_succ_cons, List.take_nil, List.map_cons, List.map_nil, List.length_append, ty3, ty4, ty5, ty23, ty24, ty25, ty33, ty39, ty40, ty45, ty51, ty74]
    exact le_flat rfl
theorem ok16 (p q : Nat → Bool) : Ok Tryd.prog 16 [.agg (sc p), .agg (sc q)] [] (.ret (.agg (sc (fun b => p b && q b)))) [] := by
  have e0 : sc (fun b => false || (decide (b < 0) && (p b && q b))) = sc (fun _ => false) := sc_congr fun b _ => by simp
  refine ok_start (k := 22) (n0 := 0) (rs := [.cell 4 25]) mix Tryd.func16 rfl rfl rfl rfl rfl rfl rfl ?_
  simp -implicitDefEqProofs only [sc_len, sc_take, sc_zl, stB_boxA, sc_ok, splice_all,
    evx, true_and, Option.map_none, ofValue, ofCell, Option.map_some, List.range, List.range.loop, Array.size, List.length_cons, List.length_nil, List.size_toArray, Nat.reduceAdd, Nat.reduceSub, Nat.reduceEqDiff, List.getElem?_toArray, List.getElem?_cons_zero, List.getElem?_cons_succ, List.replicate, List.cons_append, List.nil_append, List.append_nil, List.set_cons_zero, List.set_cons_succ, List.getD_cons_zero, List.getD_cons_succ, decide_not, ne_eq, if_true, if_false, eq_self, ↓reduceIte, reduceCtorEq, splice_one, map_ite, elB, bind_ite, ite_ite, evParts, Option.bind_some, Option.some.injEq, Int.reduceToNat, Int.reduceLE, Int.reduceLT, Int.reduceEq, Nat.reduceMul, Nat.reduceLeDiff, Nat.reduceLT, List.drop_zero, List.take_succ_cons, List.take_zero, List.drop_succ_cons, List.take_nil, List.map_cons, List.map_nil, List.length_append, ty3, ty4, ty5, ty23, ty24, ty25, ty33, ty39, ty40, ty45, ty51, ty74]
  refine loop_rule (fun i : Nat => ⟨[.any, .any, .ptr 0 0 0 0, .ptr 1 0 0 0, .ptr 2 0 0 0, .ptr 3 0 0 0, .fv (.int .i64 i), .any, .any, .any, .any, .any, .any, .any, .any, .any, .any, .any, .any, .any, .any, .any, .any, .any], [.box (sc p), .box (sc q), .box (sc fun _ => false), .box (sc (fun b => false || (decide (b < i) && (p b && q b))))], []⟩)
    (fun i => i ≤ 256) (fun i => 256 - i) 0 (by
      show Le 0 _ ⟨_, [.box (sc p), .box (sc q), .box (sc fun _ => false), .box (sc (fun b => false || (decide (b < 0) && (p b && q b))))], []⟩
      rw [e0]
      exact le_wk (by simp [wk])) (by simp) (fun i hi s hs => ?_)
  by_cases hlt : i < 256
  · have hc : ((i : Int) < 256) = True := by simp; omega
    have h26 := ok26 p i hlt
    have h26q := ok26 q i hlt
    have h31 := ok31 (fun b => false || (decide (b < i) && (p b && q b))) i hlt
    have hst := step_or (fun _ => false) (fun b => p b && q b) i
    cases hp : p i with
    | true =>
      rw [hp] at h26
      cases hq : q i with
      | true =>
        rw [hq] at h26q
        rw [hp, hq, Bool.and_self, if_pos rfl] at hst
        rw [hst] at h31
        simp -implicitDefEqProofs only [hc, sc_len, sc_take, sc_zl, stB_boxA, sc_ok, splice_all,
    evx, true_and, Option.map_none, ofValue, ofCell, Option.map_some, List.range, List.range.loop, Array.size, List.length_cons, List.length_nil, List.size_toArray, Nat.reduceAdd, Nat.reduceSub, Nat.reduceEqDiff, List.getElem?_toArray, List.getElem?_cons_zero, List.getElem?_cons_succ, List.replicate, List.cons_append, List.nil_append, List.append_nil, List.set_cons_zero, List.set_cons_succ, List.getD_cons_zero, List.getD_cons_succ, decide_not, ne_eq, if_true, if_false, eq_self, ↓reduceIte, reduceCtorEq, splice_one, map_ite, elB, bind_ite, ite_ite, evParts, Option.bind_some, Option.some.injEq, Int.reduceToNat, Int.reduceLE, Int.reduceLT, Int.reduceEq, Nat.reduceMul, Nat.reduceLeDiff, Nat.reduceLT, List.drop_zero, List.take_succ_cons, List.take_zero, List.drop_succ_cons, List.take_nil, List.map_cons, List.map_nil, List.length_append, ty3, ty4, ty5, ty23, ty24, ty25, ty33, ty39, ty40, ty45, ty51, ty74]
        refine callK_ret _ _ _ _ (call_pure (h26) (fun _ => rfl) (fun _ => rfl)) (ok_nil _ _) ?_
        simp -implicitDefEqProofs only [sc_len, sc_take, sc_zl, stB_boxA, sc_ok, splice_all,
    evx, true_and, Option.map_none, ofValue, ofCell, Option.map_some, List.range, List.range.loop, Array.size, List.length_cons, List.length_nil, List.size_toArray, Nat.reduceAdd, Nat.reduceSub, Nat.reduceEqDiff, List.getElem?_toArray, List.getElem?_cons_zero, List.getElem?_cons_succ, List.replicate, List.cons_append, List.nil_append, List.append_nil, List.set_cons_zero, List.set_cons_succ, List.getD_cons_zero, List.getD_cons_succ, decide_not, ne_eq, if_true, if_false, eq_self, ↓reduceIte, reduceCtorEq, splice_one, map_ite, elB, bind_ite, ite_ite, evParts, Option.bind_some, Option.some.injEq, Int.reduceToNat, Int.reduceLE, Int.reduceLT, Int.reduceEq, Nat.reduceMul, Nat.reduceLeDiff, Nat.reduceLT, List.drop_zero, List.take_succ_cons, List.take_zero, List.drop_succ_cons, List.take_nil, List.map_cons, List.map_nil, List.length_append, ty3, ty4, ty5, ty23, ty24, ty25, ty33, ty39, ty40, ty45, ty51, ty74]
        refine callK_ret _ _ _ _ (call_pure (h26q) (fun _ => rfl) (fun _ => rfl)) (ok_nil _ _) ?_
        simp -implicitDefEqProofs only [sc_len, sc_take, sc_zl, stB_boxA, sc_ok, splice_all,
    evx, true_and, Option.map_none, ofValue, ofCell, Option.map_some, List.range, List.range.loop, Array.size, List.length_cons, List.length_nil, List.size_toArray, Nat.reduceAdd, Nat.reduceSub, Nat.reduceEqDiff, List.getElem?_toArray, List.getElem?_cons_zero, List.getElem?_cons_succ, List.replicate, List.cons_append, List.nil_append, List.append_nil, List.set_cons_zero, List.set_cons_succ, List.getD_cons_zero, List.getD_cons_succ, decide_not, ne_eq, if_true, if_false, eq_self, ↓reduceIte, reduceCtorEq, splice_one, map_ite, elB, bind_ite, ite_ite, evParts, Option.bind_some, Option.some.injEq, Int.reduceToNat, Int.reduceLE, Int.reduceLT, Int.reduceEq, Nat.reduceMul, Nat.reduceLeDiff, Nat.reduceLT, List.drop_zero, List.take_succ_cons, List.take_zero, List.drop_succ_cons, List.take_nil, List.map_cons, List.map_nil, List.length_append, ty3, ty4, ty5, ty23, ty24, ty25, ty33, ty39, ty40, ty45, ty51, ty74]
        refine callK_ret _ _ _ _ (call_pure (h31) (fun _ => rfl) (fun _ => rfl)) (ok_nil _ _) ?_
        simp -implicitDefEqProofs only [sc_len, sc_take, sc_zl, stB_boxA, sc_ok, splice_all, w256 hlt,
    evx, true_and, Option.map_none, ofValue, ofCell, Option.map_some, List.range, List.range.loop, Array.size, List.length_cons, List.length_nil, List.size_toArray, Nat.reduceAdd, Nat.reduceSub, Nat.reduceEqDiff, List.getElem?_toArray, List.getElem?_cons_zero, List.getElem?_cons_succ, List.replicate, List.cons_append, List.nil_append, List.append_nil, List.set_cons_zero, List.set_cons_succ, List.getD_cons_zero, List.getD_cons_succ, decide_not, ne_eq, if_true, if_false, eq_self, ↓reduceIte, reduceCtorEq, splice_one, map_ite, elB, bind_ite, ite_ite, evParts, Option.bind_some, Option.some.injEq, Int.reduceToNat, Int.reduceLE, Int.reduceLT, Int.reduceEq, Nat.reduceMul, Nat.reduceLeDiff, Nat.reduceLT, List.drop_zero, List.take_succ_cons, List.take_zero, List.drop_succ_cons, List.take_nil, List.map_cons, List.map_nil, List.length_append, ty3, ty4, ty5, ty23, ty24, ty25, ty33, ty39, ty40, ty45, ty51, ty74]
        exact back_intro hs (i + 1) (le_wk (by simp [wk])) (by omega) (by omega)
      | false =>
        rw [hq] at h26q
        rw [hp, hq, Bool.and_false, if_neg (by simp)] at hst
        simp -implicitDefEqProofs only [hc, sc_len, sc_take, sc_zl, stB_boxA, sc_ok, splice_all,
    evx, true_and, Option.map_none, ofValue, ofCell, Option.map_some, List.range, List.range.loop, Array.size, List.length_cons, List.length_nil, List.size_toArray, Nat.reduceAdd, Nat.reduceSub, Nat.reduceEqDiff, List.getElem?_toArray, List.getElem?_cons_zero, List.getElem?_cons_succ, List.replicate, List.cons_append, List.nil_append, List.append_nil, List.set_cons_zero, List.set_cons_succ, List.getD_cons_zero, List.getD_cons_succ, decide_not, ne_eq, if_true, if_false, eq_self, ↓reduceIte, reduceCtorEq, splice_one, map_ite, elB, bind_ite, ite_ite, evParts, Option.bind_some, Option.some.injEq, Int.reduceToNat, Int.reduceLE, Int.reduceLT, Int.reduceEq, Nat.reduceMul, Nat.reduceLeDiff, Nat.reduceLT, List.drop_zero, List.take_succ_cons, List.take_zero, List.drop_succ_cons, List.take_nil, List.map_cons, List.map_nil, List.length_append, ty3, ty4, ty5, ty23, ty24, ty25, ty33, ty39, ty40, ty45, ty51, ty74]
        refine callK_ret _ _ _ _ (call_pure (h26) (fun _ => rfl) (fun _ => rfl)) (ok_nil _ _) ?_
        simp -implicitDefEqProofs only [sc_len, sc_take, sc_zl, stB_boxA, sc_ok, splice_all,
    evx, true_and, Option.map_none, ofValue, ofCell, Option.map_some, List.range, List.range.loop, Array.size, List.length_cons, List.length_nil, List.size_toArray, Nat.reduceAdd, Nat.reduceSub, Nat.reduceEqDiff, List.getElem?_toArray, List.getElem?_cons_zero, List.getElem?_cons_succ, List.replicate, List.cons_append, List.nil_append, List.append_nil, List.set_cons_zero, List.set_cons_succ, List.getD_cons_zero, List.getD_cons_succ, decide_not, ne_eq, if_true, if_false, eq_self, ↓reduceIte, reduceCtorEq, splice_one, map_ite, elB, bind_ite, ite_ite, evParts, Option.bind_some, Option.some.injEq, Int.reduceToNat, Int.reduceLE, Int.reduceLT, Int.reduceEq, Nat.reduceMul, Nat.reduceLeDiff, Nat.reduceLT, List.drop_zero, List.take_succ_cons, List.take_zero, List.drop_succ_cons, List.take_nil, List.map_cons, List.map_nil, List.length_append, ty3, ty4, ty5, ty23, ty24, ty25, ty33, ty39, ty40, ty45, ty51, ty74]
        refine callK_ret _ _ _ _ (call_pure (h26q) (fun _ => rfl) (fun _ => rfl)) (ok_nil _ _) ?_
        simp -implicitDefEqProofs only [sc_len, sc_take, sc_zl, stB_boxA, sc_ok, splice_all, w256 hlt,
    evx, true_and, Option.map_none, ofValue, ofCell, Option.map_some, List.range, List.range.loop, Array.size, List.length_cons, List.length_nil, List.size_toArray, Nat.reduceAdd, Nat.reduceSub, Nat.reduceEqDiff, List.getElem?_toArray, List.getElem?_cons_zero, List.getElem?_cons_succ, List.replicate, List.cons_append, List.nil_append, List.append_nil, List.set_cons_zero, List.set_cons_succ, List.getD_cons_zero, List.getD_cons_succ, decide_not, ne_eq, if_true, if_false, eq_self, ↓reduceIte, reduceCtorEq, splice_one, map_ite, elB, bind_ite, ite_ite, evParts, Option.bind_some, Option.some.injEq, Int.reduceToNat, Int.reduceLE, Int.reduceLT, Int.reduceEq, Nat.reduceMul, Nat.reduceLeDiff, Nat.reduceLT, List.drop_zero, List.take_succ_cons, List.take_zero, List.drop_succ_cons, List.take_nil, List.map_cons, List.map_nil, List.length_append, ty3, ty4, ty5, ty23, ty24, ty25, ty33, ty39, ty40, ty45, ty51, ty74]
        exact back_intro hs (i + 1) (by rw [hst]; exact le_wk (by simp [wk])) (by omega) (by omega)
    | false =>
      rw [hp] at h26
      rw [hp, Bool.false_and, if_neg (by simp)] at hst
      simp -implicitDefEqProofs only [hc, sc_len, sc_take, sc_zl, stB_boxA, sc_ok, splice_all,
    evx, true_and, Option.map_none, ofValue, ofCell, Option.map_some, List.range, List.range.loop, Array.size, List.length_cons, List.length_nil, List.size_toArray, Nat.reduceAdd, Nat.reduceSub, Nat.reduceEqDiff, List.getElem?_toArray, List.getElem?_cons_zero, List.getElem?_cons_succ, List.replicate, List.cons_append, List.nil_append, List.append_nil, List.set_cons_zero, List.set_cons_succ, List.getD_cons_zero, List.getD_cons_succ, decide_not, ne_eq, if_true, if_false, eq_self, ↓reduceIte, reduceCtorEq, splice_one, map_ite, elB, bind_ite, ite_ite, evParts, Option.bind_some, Option.some.injEq, Int.reduceToNat, Int.reduceLE, Int.reduceLT, Int.reduceEq, Nat.reduceMul, Nat.reduceLeDiff, Nat.reduceLT, List.drop_zero, List.take_succ_cons, List.take_zero, List.drop_succ_cons, List.take_nil, List.map_cons, List.map_nil, List.length_append, ty3, ty4, ty5, ty23, ty24, ty25, ty33, ty39, ty40, ty45, ty51, ty74]
      refine callK_ret _ _ _ _ (call_pure (h26) (fun _ => rfl) (fun _ => rfl)) (ok_nil _ _) ?_
      simp -implicitDefEqProofs only [sc_len, sc_take, sc_zl, stB_boxA, sc_ok, splice_all, w256 hlt,
    evx, true_and, Option.map_none, ofValue, ofCell, Option.map_some, List.range, List.range.loop, Array.size, List.length_cons, List.length_nil, List.size_toArray, Nat.reduceAdd, Nat.reduceSub, Nat.reduceEqDiff, List.getElem?_toArray, List.getElem?_cons_zero, List.getElem?_cons_succ, List.replicate, List.cons_append, List.nil_append, List.append_nil, List.set_cons_zero, List.set_cons_succ, List.getD_cons_zero, List.getD_cons_succ, decide_not, ne_eq, if_true, if_false, eq_self, ↓reduceIte, reduceCtorEq, splice_one, map_ite, elB, bind_ite, ite_ite, evParts, Option.bind_some, Option.some.injEq, Int.reduceToNat, Int.reduceLE, Int.reduceLT, Int.reduceEq, Nat.reduceMul, Nat.reduceLeDiff, Nat.reduceLT, List.drop_zero, List.take_succ_cons, List.take_zero, List.drop_succ_cons, List.take_nil, List.map_cons, List.map_nil, List.length_append, ty3, ty4, ty5, ty23, ty24, ty25, ty33, ty39, ty40, ty45, ty51, ty74]
      exact back_intro hs (i + 1) (by rw [hst]; exact le_wk (by simp [wk])) (by omega) (by omega)
  · have hc : ((i : Int) < 256) = False := by simp; omega
    have e : sc (fun b => false || (decide (b < i) && (p b && q b))) = sc (fun b => p b && q b) := sc_congr fun b hb => by
      have : b < i := by omega
      simp [this]
    simp -implicitDefEqProofs only [hc, sc_len, sc_take, sc_zl, stB_boxA, sc_ok, splice_all, e,
    evx, true_and, Option.map_none, ofValue, ofCell, Option.map_some, List.range, List.range.loop, Array.size, List.length_cons, List.length_nil, List.size_toArray, Nat.reduceAdd, Nat.reduceSub, Nat.reduceEqDiff, List.getElem?_toArray, List.getElem?_cons_zero, List.getElem?_cons_succ, List.replicate, List.cons_append, List.nil_append, List.append_nil, List.set_cons_zero, List.set_cons_succ, List.getD_cons_zero, List.getD_cons_succ, decide_not, ne_eq, if_true, if_false, eq_self, ↓reduceIte, reduceCtorEq, splice_one, map_ite, elB, bind_ite, ite_ite, evParts, Option.bind_some, Option.some.injEq, Int.reduceToNat, Int.reduceLE, Int.reduceLT, Int.reduceEq, Nat.reduceMul, Nat.reduceLeDiff, Nat.reduceLT, List.drop_zero, List.take_succ_cons, List.take_zero, List.drop_succ_cons, List.take_nil, List.map_cons, List.map_nil, List.length_append, ty3, ty4, ty5, ty23, ty24, ty25, ty33, ty39, ty40, ty45, ty51, ty74]
    exact le_flat rfl
theorem ok18 (p : Nat → Bool) : Ok Tryd.prog 18 [.agg (sc p)] [] (.ret (.agg (sc (fun b => !p b)))) [] := by
  have e0 : sc (fun b => false || (decide (b < 0) && !p b)) = sc (fun _ => false) := sc_congr fun b _ => by simp
  refine ok_start (k := 17) (n0 := 0) (rs := [.cell 2 25]) mix Tryd.func18 rfl rfl rfl rfl rfl rfl rfl ?_
  simp -implicitDefEqProofs only [sc_len, sc_take, sc_zl, stB_boxA, sc_ok, splice_all,
    evx, true_and, Option.map_none, ofValue, ofCell, Option.map_some, List.range, List.range.loop, Array.size, List.length_cons, List.length_nil, List.size_toArray, Nat.reduceAdd, Nat.reduceSub, Nat.reduceEqDiff, List.getElem?_toArray, List.getElem?_cons_zero, List.getElem?_cons_succ, List.replicate, List.cons_append, List.nil_append, List.append_nil, List.set_cons_zero, List.set_cons_succ, List.getD_cons_zero, List.getD_cons_succ, decide_not, ne_eq, if_true, if_false, eq_self, ↓reduceIte, reduceCtorEq, splice_one, map_ite, elB, bind_ite, ite_ite, evParts, Option.bind_some, Option.some.injEq, Int.reduceToNat, Int.reduceLE, Int.reduceLT, Int.reduceEq, Nat.reduceMul, Nat.reduceLeDiff, Nat.reduceLT, List.drop_zero, List.take_succ_cons, List.take_zero, List.drop_succ_cons, List.take_nil, List.map_cons, List.map_nil, List.length_append, ty3, ty4, ty5, ty23, ty24, ty25, ty33, ty39, ty40, ty45, ty51, ty74]
  refine loop_rule (fun i : Nat => ⟨[.any, .ptr 0 0 0 0, .ptr 1 0 0 0, .ptr 2 0 0 0, .fv (.int .i64 i), .any, .any, .any, .any, .any, .any, .any, .any, .any, .any, .any, .any, .any], [.box (sc p), .box (sc fun _ => false), .box (sc (fun b => false || (decide (b < i) && !p b)))], []⟩)
    (fun i => i ≤ 256) (fun i => 256 - i) 0 (by
      show Le 0 _ ⟨_, [.box (sc p), .box (sc fun _ => false), .box (sc (fun b => false || (decide (b < 0) && !p b)))], []⟩
      rw [e0]
      exact le_wk (by simp [wk])) (by simp) (fun i hi s hs => ?_)
  by_cases hlt : i < 256
  · have hc : ((i : Int) < 256) = True := by simp; omega
    have h26 := ok26 p i hlt
    have h31 := ok31 (fun b => false || (decide (b < i) && !p b)) i hlt
    have hst := step_or (fun _ => false) (fun b => !p b) i
    cases hp : p i with
    | false =>
      rw [hp] at h26
      rw [hp, Bool.not_false, if_pos rfl] at hst
      rw [hst] at h31
      simp -implicitDefEqProofs only [hc, sc_len, sc_take, sc_zl, stB_boxA, sc_ok, splice_all,
    evx, true_and, Option.map_none, ofValue, ofCell, Option.map_some, List.range, List.range.loop, Array.size, List.length_cons, List.length_nil, List.size_toArray, Nat.reduceAdd, Nat.reduceSub, Nat.reduceEqDiff, List.getElem?_toArray, List.getElem?_cons_zero, List.getElem?_cons_succ, List.replicate, List.cons_append, List.nil_append, List.append_nil, List.set_cons_zero, List.set_cons_succ, List.getD_cons_zero, List.getD_cons_succ, decide_not, ne_eq, if_true, if_false, eq_self, ↓reduceIte, reduceCtorEq, splice_one, map_ite, elB, bind_ite, ite_ite, evParts, Option.bind_some, Option.some.injEq, Int.reduceToNat, Int.reduceLE, Int.reduceLT, Int.reduceEq, Nat.reduceMul, Nat.reduceLeDiff, Nat.reduceLT, List.drop_zero, List.take_succ_cons, List.take_zero, List.drop_succ_cons, List.take_nil, List.map_cons, List.map_nil, List.length_append, ty3, ty4, ty5, ty23, ty24, ty25, ty33, ty39, ty40, ty45, ty51, ty74]
      refine callK_ret _ _ _ _ (call_pure (h26) (fun _ => rfl) (fun _ => rfl)) (ok_nil _ _) ?_
      simp -implicitDefEqProofs only [sc_len, sc_take, sc_zl, stB_boxA, sc_ok, splice_all,
    evx, true_and, Option.map_none, ofValue, ofCell, Option.map_some, List.range, List.range.loop, Array.size, List.length_cons, List.length_nil, List.size_toArray, Nat.reduceAdd, Nat.reduceSub, Nat.reduceEqDiff, List.getElem?_toArray, List.getElem?_cons_zero, List.getElem?_cons_succ, List.replicate, List.cons_append, List.nil_append, List.append_nil, List.set_cons_zero, List.set_cons_succ, List.getD_cons_zero, List.getD_cons_succ, decide_not, ne_eq, if_true, if_false, eq_self, ↓reduceIte, reduceCtorEq, splice_one, map_ite, elB, bind_ite, ite_ite, evParts, Option.bind_some, Option.some.injEq, Int.reduceToNat, Int.reduceLE, Int.reduceLT, Int.reduceEq, Nat.reduceMul, Nat.reduceLeDiff, Nat.reduceLT, List.drop_zero, List.take_succ_cons, List.take_zero, List.drop_succ_cons, List.take_nil, List.map_cons, List.map_nil, List.length_append, ty3, ty4, ty5, ty23, ty24, ty25, ty33, ty39, ty40, ty45, ty51, ty74]
      refine callK_ret _ _ _ _ (call_pure (h31) (fun _ => rfl) (fun _ => rfl)) (ok_nil _ _) ?_
      simp -implicitDefEqProofs only [sc_len, sc_take, sc_zl, stB_boxA, sc_ok, splice_all, w256 hlt,
    evx, true_and, Option.map_none, ofValue, ofCell, Option.map_some, List.range, List.range.loop, Array.size, List.length_cons, List.length_nil, List.size_toArray, Nat.reduceAdd, Nat.reduceSub, Nat.reduceEqDiff, List.getElem?_toArray, List.getElem?_cons_zero, List.getElem?_cons_succ, List.replicate, List.cons_append, List.nil_append, List.append_nil, List.set_cons_zero, List.set_cons_succ, List.getD_cons_zero, List.getD_cons_succ, decide_not, ne_eq, if_true, if_false, eq_self, ↓reduceIte, reduceCtorEq, splice_one, map_ite, elB, bind_ite, ite_ite, evParts, Option.bind_some, Option.some.injEq, Int.reduceToNat, Int.reduceLE, Int.reduceLT, Int.reduceEq, Nat.reduceMul, Nat.reduceLeDiff, Nat.reduceLT, List.drop_zero, List.take_succ_cons, List.take_zero, List.drop_succ_cons, List.take_nil, List.map_cons, List.map_nil, List.length_append, ty3, ty4, ty5, ty23, ty24, ty25, ty33, ty39, ty40, ty45, ty51, ty74]
      exact back_intro hs (i + 1) (le_wk (by simp [wk])) (by omega) (by omega)
    | true =>
      rw [hp] at h26
      rw [hp, Bool.not_true, if_neg (by simp)] at hst
      simp -implicitDefEqProofs only [hc, sc_len, sc_take, sc_zl, stB_boxA, sc_ok, splice_all,
    evx, true_and, Option.map_none, ofValue, ofCell, Option.map_some, List.range, List.range.loop, Array.size, List.length_cons, List.length_nil, List.size_toArray, Nat.reduceAdd, Nat.reduceSub, Nat.reduceEqDiff, List.getElem?_toArray, List.getElem?_cons_zero, List.getElem?_cons_succ, List.replicate, List.cons_append, List.nil_append, List.append_nil, List.set_cons_zero, List.set_cons_succ, List.getD_cons_zero, List.getD_cons_succ, decide_not, ne_eq, if_true, if_false, eq_self, ↓reduceIte, reduceCtorEq, splice_one, map_ite, elB, bind_ite, ite_ite, evParts, Option.bind_some, Option.some.injEq, Int.reduceToNat, Int.reduceLE, Int.reduceLT, Int.reduceEq, Nat.reduceMul, Nat.reduceLeDiff, Nat.reduceLT, List.drop_zero, List.take_succ_cons, List.take_zero, List.drop_succ_cons, List.take_nil, List.map_cons, List.map_nil, List.length_append, ty3, ty4, ty5, ty23, ty24, ty25, ty33, ty39, ty40, ty45, ty51, ty74]
      refine callK_ret _ _ _ _ (call_pure (h26) (fun _ => rfl) (fun _ => rfl)) (ok_nil _ _) ?_
      simp -implicitDefEqProofs only [sc_len, sc_take, sc_zl, stB_boxA, sc_ok, splice_all, w256 hlt,
    evx, true_and, Option.map_none, ofValue, ofCell, Option.map_some, List.range, List.range.loop, Array.size, List.length_cons, List.length_nil, List.size_toArray, Nat.reduceAdd, Nat.reduceSub, Nat.reduceEqDiff, List.getElem?_toArray, List.getElem?_cons_zero, List.getElem?_cons_succ, List.replicate, List.cons_append, List.nil_append, List.append_nil, List.set_cons_zero, List.set_cons_succ, List.getD_cons_zero, List.getD_cons_succ, decide_not, ne_eq, if_true, if_false, eq_self, ↓reduceIte, reduceCtorEq, splice_one, map_ite, elB, bind_ite, ite_ite, evParts, Option.bind_some, Option.some.injEq, Int.reduceToNat, Int.reduceLE, Int.reduceLT, Int.reduceEq, Nat.reduceMul, Nat.reduceLeDiff, Nat.reduceLT, List.drop_zero, List.take_succ_cons, List.take_zero, List.drop_succ_cons, List.take_nil, List.map_cons, List.map_nil, List.length_append, ty3, ty4, ty5, ty23, ty24, ty25, ty33, ty39, ty40, ty45, ty51, ty74]
      exact back_intro hs (i + 1) (by rw [hst]; exact le_wk (by simp [wk])) (by omega) (by omega)
  · have hc : ((i : Int) < 256) = False := by simp; omega
    have e : sc (fun b => false || (decide (b < i) && !p b)) = sc (fun b => !p b) := sc_congr fun b hb => by
      have : b < i := by omega
      simp [this]
    simp -implicitDefEqProofs only [hc, sc_len, sc_take, sc_zl, stB_boxA, sc_ok, splice_all, e,
    evx, true_and, Option.map_none, ofValue, ofCell, Option.map_some, List.range, List.range.loop, Array.size, List.length_cons, List.length_nil, List.size_toArray, Nat.reduceAdd, Nat.reduceSub, Nat.reduceEqDiff, List.getElem?_toArray, List.getElem?_cons_zero, List.getElem?_cons_succ, List.replicate, List.cons_append, List.nil_append, List.append_nil, List.set_cons_zero, List.set_cons_succ, List.getD_cons_zero, List.getD_cons_succ, decide_not, ne_eq, if_true, if_false, eq_self, ↓reduceIte, reduceCtorEq, splice_one, map_ite, elB, bind_ite, ite_ite, evParts, Option.bind_some, Option.some.injEq, Int.reduceToNat, Int.reduceLE, Int.reduceLT, Int.reduceEq, Nat.reduceMul, Nat.reduceLeDiff, Nat.reduceLT, List.drop_zero, List.take_succ_cons, List.take_zero, List.drop_succ_cons, List.take_nil, List.map_cons, List.map_nil, List.length_append, ty3, ty4, ty5, ty23, ty24, ty25, ty33, ty39, ty40, ty45, ty51, ty74]
    exact le_flat rfl
theorem ok22 (p : Nat → Bool) : Ok Tryd.prog 22 [.agg (sc p)] [] (.ret (.fv (.int .i64 (cnt p 256)))) [] := by
  refine ok_start (k := 14) (n0 := 0) (rs := [.tmp 2]) mix Tryd.func22 rfl rfl rfl rfl rfl rfl rfl ?_
  simp -implicitDefEqProofs only [sc_len, sc_take, sc_zl, stB_boxA, sc_ok, splice_all,
    evx, true_and, Option.map_none, ofValue, ofCell, Option.map_some, List.range, List.range.loop, Array.size, List.length_cons, List.length_nil, List.size_toArray, Nat.reduceAdd, Nat.reduceSub, Nat.reduceEqDiff, List.getElem?_toArray, List.getElem?_cons_zero, List.getElem?_cons_succ, List.replicate, List.cons_append, List.nil_append, List.append_nil, List.set_cons_zero, List.set_cons_succ, List.getD_cons_zero, List.getD_cons_succ, decide_not, ne_eq, if_true, if_false, eq_self, ↓reduceIte, reduceCtorEq, splice_one, map_ite, elB, bind_ite, ite_ite, evParts, Option.bind_some, Option.some.injEq, Int.reduceToNat, Int.reduceLE, Int.reduceLT, Int.reduceEq, Nat.reduceMul, Nat.reduceLeDiff, Nat.reduceLT, List.drop_zero, List.take_succ_cons, List.take_zero, List.drop_succ_cons, List.take_nil, List.map_cons, List.map_nil, List.length_append, ty3, ty4, ty5, ty23, ty24, ty25, ty33, ty39, ty40, ty45, ty51, ty74]
  refine loop_rule (fun i : Nat => ⟨[.any, .ptr 0 0 0 0, .any, .fv (.int .i64 (cnt p i)), .fv (.int .i64 i), .any, .any, .any, .any, .any, .any, .any, .any, .any, .any], [.box (sc p)], []⟩)
    (fun i => i ≤ 256) (fun i => 256 - i) 0 (le_wk (by simp [wk, cnt])) (by simp) (fun i hi s hs => ?_)
  by_cases hlt : i < 256
  · have hc : ((i : Int) < 256) = True := by simp; omega
    have h26 := ok26 p i hlt
    have hle := cnt_le p i
    cases hp : p i with
    | true =>
      rw [hp] at h26
      have e : cnt p (i + 1) = cnt p i + 1 := by rw [cnt, hp]; rfl
      have hw : IntKind.wrap .i64 ((cnt p i : Int) + 1) = ((cnt p (i + 1) : Nat) : Int) := by rw [e]; exact wrap_small (by omega) (by omega)
      simp -implicitDefEqProofs only [hc, sc_len, sc_take, sc_zl, stB_boxA, sc_ok, splice_all,
    evx, true_and, Option.map_none, ofValue, ofCell, Option.map_some, List.range, List.range.loop, Array.size, List.length_cons, List.length_nil, List.size_toArray, Nat.reduceAdd, Nat.reduceSub, Nat.reduceEqDiff, List.getElem?_toArray, List.getElem?_cons_zero, List.getElem?_cons_succ, List.replicate, List.cons_append, List.nil_append, List.append_nil, List.set_cons_zero, List.set_cons_succ, List.getD_cons_zero, List.getD_cons_succ, decide_not, ne_eq, if_true, if_false, eq_self, ↓reduceIte, reduceCtorEq, splice_one, map_ite, elB, bind_ite, ite_ite, evParts, Option.bind_some, Option.some.injEq, Int.reduceToNat, Int.reduceLE, Int.reduceLT, Int.reduceEq, Nat.reduceMul, Nat.reduceLeDiff, Nat.reduceLT, List.drop_zero, List.take_succ_cons, List.take_zero, List.drop_succ_cons, List.take_nil, List.map_cons, List.map_nil, List.length_append, ty3, ty4, ty5, ty23, ty24, ty25, ty33, ty39, ty40, ty45, ty51, ty74]
      refine callK_ret _ _ _ _ (call_pure (h26) (fun _ => rfl) (fun _ => rfl)) (ok_nil _ _) ?_
      simp -implicitDefEqProofs only [hw, w256 hlt,
    evx, true_and, Option.map_none, ofValue, ofCell, Option.map_some, List.range, List.range.loop, Array.size, List.length_cons, List.length_nil, List.size_toArray, Nat.reduceAdd, Nat.reduceSub, Nat.reduceEqDiff, List.getElem?_toArray, List.getElem?_cons_zero, List.getElem?_cons_succ, List.replicate, List.cons_append, List.nil_append, List.append_nil, List.set_cons_zero, List.set_cons_succ, List.getD_cons_zero, List.getD_cons_succ, decide_not, ne_eq, if_true, if_false, eq_self, ↓reduceIte, reduceCtorEq, splice_one, map_ite, elB, bind_ite, ite_ite, evParts, Option.bind_some, Option.some.injEq, Int.reduceToNat, Int.reduceLE, Int.reduceLT, Int.reduceEq, Nat.reduceMul, Nat.reduceLeDiff, Nat.reduceLT, List.drop_zero, List.take_succ_cons, List.take_zero, List.drop_succ_cons, List.take_nil, List.map_cons, List.map_nil, List.length_append, ty3, ty4, ty5, ty23, ty24, ty25, ty33, ty39, ty40, ty45, ty51, ty74]
      exact back_intro hs (i + 1) (le_wk (by simp [wk])) (by omega) (by omega)
    | false =>
      rw [hp] at h26
      have e : cnt p (i + 1) = cnt p i := by rw [cnt, hp]; rfl
      simp -implicitDefEqProofs only [hc, sc_len, sc_take, sc_zl, stB_boxA, sc_ok, splice_all,
    evx, true_and, Option.map_none, ofValue, ofCell, Option.map_some, List.range, List.range.loop, Array.size, List.length_cons, List.length_nil, List.size_toArray, Nat.reduceAdd, Nat.reduceSub, Nat.reduceEqDiff, List.getElem?_toArray, List.getElem?_cons_zero, List.getElem?_cons_succ, List.replicate, List.cons_append, List.nil_append, List.append_nil, List.set_cons_zero, List.set_cons_succ, List.getD_cons_zero, List.getD_cons_succ, decide_not, ne_eq, if_true, if_false, eq_self, ↓reduceIte, reduceCtorEq, splice_one, map_ite, elB, bind_ite, ite_ite, evParts, Option.bind_some, Option.some.injEq, Int.reduceToNat, Int.reduceLE, Int.reduceLT, Int.reduceEq, Nat.reduceMul, Nat.reduceLeDiff, Nat.reduceLT, List.drop_zero, List.take_succ_cons, List.take_zero, List.drop_succ_cons, List.take_nil, List.map_cons, List.map_nil, List.length_append, ty3, ty4, ty5, ty23, ty24, ty25, ty33, ty39, ty40, ty45, ty51, ty74]
      refine callK_ret _ _ _ _ (call_pure (h26) (fun _ => rfl) (fun _ => rfl)) (ok_nil _ _) ?_
      simp -implicitDefEqProofs only [w256 hlt,
    evx, true_and, Option.map_none, ofValue, ofCell, Option.map_some, List.range, List.range.loop, Array.size, List.length_cons, List.length_nil, List.size_toArray, Nat.reduceAdd, Nat.reduceSub, Nat.reduceEqDiff, List.getElem?_toArray, List.getElem?_cons_zero, List.getElem?_cons_succ, List.replicate, List.cons_append, List.nil_append, List.append_nil, List.set_cons_zero, List.set_cons_succ, List.getD_cons_zero, List.getD_cons_succ, decide_not, ne_eq, if_true, if_false, eq_self, ↓reduceIte, reduceCtorEq, splice_one, map_ite, elB, bind_ite, ite_ite, evParts, Option.bind_some, Option.some.injEq, Int.reduceToNat, Int.reduceLE, Int.reduceLT, Int.reduceEq, Nat.reduceMul, Nat.reduceLeDiff, Nat.reduceLT, List.drop_zero, List.take_succ_cons, List.take_zero, List.drop_succ_cons, List.take_nil, List.map_cons, List.map_nil, List.length_append, ty3, ty4, ty5, ty23, ty24, ty25, ty33, ty39, ty40, ty45, ty51, ty74]
      exact back_intro hs (i + 1) (by rw [e]; exact le_wk (by simp [wk])) (by omega) (by omega)
  · have hc : ((i : Int) < 256) = False := by simp; omega
    have hie : i = 256 := by omega
    subst hie
    simp -implicitDefEqProofs only [hc,
    evx, true_and, Option.map_none, ofValue, ofCell, Option.map_some, List.range, List.range.loop, Array.size, List.length_cons, List.length_nil, List.size_toArray, Nat.reduceAdd, Nat.reduceSub, Nat.reduceEqDiff, List.getElem?_toArray, List.getElem?_cons_zero, List.getElem?_cons_succ, List.replicate, List.cons_append, List.nil_append, List.append_nil, List.set_cons_zero, List.set_cons_succ, List.getD_cons_zero, List.getD_cons_succ, decide_not, ne_eq, if_true, if_false, eq_self, ↓reduceIte, reduceCtorEq, splice_one, map_ite, elB, bind_ite, ite_ite, evParts, Option.bind_some, Option.some.injEq, Int.reduceToNat, Int.reduceLE, Int.reduceLT, Int.reduceEq, Nat.reduceMul, Nat.reduceLeDiff, Nat.reduceLT, List.drop_zero, List.take_succ_cons, List.take_zero, List.drop_succ_cons, List.take_nil, List.map_cons, List.map_nil, List.length_append, ty3, ty4, ty5, ty23, ty24, ty25, ty33, ty39, ty40, ty45, ty51, ty74]
    exact le_flat rfl
/-- The least byte, or -1. -/
def leastP (p : Nat → Bool) : Int := if (List.range 256).findIdx p < 256 then ((List.range 256).findIdx p : Int) else -1
theorem least_at (p : Nat → Bool) (i : Nat) (hi : i < 256) (hp : p i = true) (hn : ∀ j, j < i → p j = false) : leastP p = (i : Int) := by
  have h : (List.range 256).findIdx p = i := by
    rw [List.findIdx_eq (by simpa using hi)]
    refine ⟨by simpa using hp, fun j hj => ?_⟩
    simpa using hn j hj
  rw [leastP, h, if_pos hi]
theorem least_none (p : Nat → Bool) (hn : ∀ j, j < 256 → p j = false) : leastP p = -1 := by
  have h : (List.range 256).findIdx p = 256 := by
    have := List.findIdx_eq_length_of_false (p := p) (xs := List.range 256) (fun x hx => hn x (by simpa using hx))
    simpa using this
  rw [leastP, h, if_neg (by omega)]
theorem ok24 (p : Nat → Bool) : Ok Tryd.prog 24 [.agg (sc p)] [] (.ret (.fv (.int .i64 (leastP p)))) [] := by
  refine ok_start (k := 11) (n0 := 0) (rs := [.tmp 2]) mix Tryd.func24 rfl rfl rfl rfl rfl rfl rfl ?_
  simp -implicitDefEqProofs only [sc_len, sc_take, sc_zl, stB_boxA, sc_ok, splice_all,
    evx, true_and, Option.map_none, ofValue, ofCell, Option.map_some, List.range, List.range.loop, Array.size, List.length_cons, List.length_nil, List.size_toArray, Nat.reduceAdd, Nat.reduceSub, Nat.reduceEqDiff, List.getElem?_toArray, List.getElem?_cons_zero, List.getElem?_cons_succ, List.replicate, List.cons_append, List.nil_append, List.append_nil, List.set_cons_zero, List.set_cons_succ, List.getD_cons_zero, List.getD_cons_succ, decide_not, ne_eq, if_true, if_false, eq_self, ↓reduceIte, reduceCtorEq, splice_one, map_ite, elB, bind_ite, ite_ite, evParts, Option.bind_some, Option.some.injEq, Int.reduceToNat, Int.reduceLE, Int.reduceLT, Int.reduceEq, Nat.reduceMul, Nat.reduceLeDiff, Nat.reduceLT, List.drop_zero, List.take_succ_cons, List.take_zero, List.drop_succ_cons, List.take_nil, List.map_cons, List.map_nil, List.length_append, ty3, ty4, ty5, ty23, ty24, ty25, ty33, ty39, ty40, ty45, ty51, ty74]
  refine loop_rule (fun i : Nat => ⟨[.any, .ptr 0 0 0 0, .any, .fv (.int .i64 i), .any, .any, .any, .any, .any, .any, .any, .any], [.box (sc p)], []⟩)
    (fun i => i ≤ 256 ∧ ∀ j, j < i → p j = false) (fun i => 256 - i) 0 (le_wk (by simp [wk])) (by simp) (fun i hi s hs => ?_)
  obtain ⟨hi, hn⟩ := hi
  by_cases hlt : i < 256
  · have hc : ((i : Int) < 256) = True := by simp; omega
    have h26 := ok26 p i hlt
    cases hp : p i with
    | true =>
      rw [hp] at h26
      rw [least_at p i hlt hp hn]
      simp -implicitDefEqProofs only [hc, sc_len, sc_take, sc_zl, stB_boxA, sc_ok, splice_all,
    evx, true_and, Option.map_none, ofValue, ofCell, Option.map_some, List.range, List.range.loop, Array.size, List.length_cons, List.length_nil, List.size_toArray, Nat.reduceAdd, Nat.reduceSub, Nat.reduceEqDiff, List.getElem?_toArray, List.getElem?_cons_zero, List.getElem?_cons_succ, List.replicate, List.cons_append, List.nil_append, List.append_nil, List.set_cons_zero, List.set_cons_succ, List.getD_cons_zero, List.getD_cons_succ, decide_not, ne_eq, if_true, if_false, eq_self, ↓reduceIte, reduceCtorEq, splice_one, map_ite, elB, bind_ite, ite_ite, evParts, Option.bind_some, Option.some.injEq, Int.reduceToNat, Int.reduceLE, Int.reduceLT, Int.reduceEq, Nat.reduceMul, Nat.reduceLeDiff, Nat.reduceLT, List.drop_zero, List.take_succ_cons, List.take_zero, List.drop_succ_cons, List.take_nil, List.map_cons, List.map_nil, List.length_append, ty3, ty4, ty5, ty23, ty24, ty25, ty33, ty39, ty40, ty45, ty51, ty74]
      refine callK_ret _ _ _ _ (call_pure (h26) (fun _ => rfl) (fun _ => rfl)) (ok_nil _ _) ?_
      simp -implicitDefEqProofs only [evx, true_and, Option.map_none, ofValue, ofCell, Option.map_some, List.range, List.range.loop, Array.size, List.length_cons, List.length_nil, List.size_toArray, Nat.reduceAdd, Nat.reduceSub, Nat.reduceEqDiff, List.getElem?_toArray, List.getElem?_cons_zero, List.getElem?_cons_succ, List.replicate, List.cons_append, List.nil_append, List.append_nil, List.set_cons_zero, List.set_cons_succ, List.getD_cons_zero, List.getD_cons_succ, decide_not, ne_eq, if_true, if_false, eq_self, ↓reduceIte, reduceCtorEq, splice_one, map_ite, elB, bind_ite, ite_ite, evParts, Option.bind_some, Option.some.injEq, Int.reduceToNat, Int.reduceLE, Int.reduceLT, Int.reduceEq, Nat.reduceMul, Nat.reduceLeDiff, Nat.reduceLT, List.drop_zero, List.take_succ_cons, List.take_zero, List.drop_succ_cons, List.take_nil, List.map_cons, List.map_nil, List.length_append, ty3, ty4, ty5, ty23, ty24, ty25, ty33, ty39, ty40, ty45, ty51, ty74]
      exact le_flat rfl
    | false =>
      rw [hp] at h26
      simp -implicitDefEqProofs only [hc, sc_len, sc_take, sc_zl, stB_boxA, sc_ok, splice_all,
    evx, true_and, Option.map_none, ofValue, ofCell, Option.map_some, List.range, List.range.loop, Array.size, List.length_cons, List.length_nil, List.size_toArray, Nat.reduceAdd, Nat.reduceSub, Nat.reduceEqDiff, List.getElem?_toArray, List.getElem?_cons_zero, List.getElem?_cons_succ, List.replicate, List.cons_append, List.nil_append, List.append_nil, List.set_cons_zero, List.set_cons_succ, List.getD_cons_zero, List.getD_cons_succ, decide_not, ne_eq, if_true, if_false, eq_self, ↓reduceIte, reduceCtorEq, splice_one, map_ite, elB, bind_ite, ite_ite, evParts, Option.bind_some, Option.some.injEq, Int.reduceToNat, Int.reduceLE, Int.reduceLT, Int.reduceEq, Nat.reduceMul, Nat.reduceLeDiff, Nat.reduceLT, List.drop_zero, List.take_succ_cons, List.take_zero, List.drop_succ_cons, List.take_nil, List.map_cons, List.map_nil, List.length_append, ty3, ty4, ty5, ty23, ty24, ty25, ty33, ty39, ty40, ty45, ty51, ty74]
      refine callK_ret _ _ _ _ (call_pure (h26) (fun _ => rfl) (fun _ => rfl)) (ok_nil _ _) ?_
      simp -implicitDefEqProofs only [w256 hlt,
    evx, true_and, Option.map_none, ofValue, ofCell, Option.map_some, List.range, List.range.loop, Array.size, List.length_cons, List.length_nil, List.size_toArray, Nat.reduceAdd, Nat.reduceSub, Nat.reduceEqDiff, List.getElem?_toArray, List.getElem?_cons_zero, List.getElem?_cons_succ, List.replicate, List.cons_append, List.nil_append, List.append_nil, List.set_cons_zero, List.set_cons_succ, List.getD_cons_zero, List.getD_cons_succ, decide_not, ne_eq, if_true, if_false, eq_self, ↓reduceIte, reduceCtorEq, splice_one, map_ite, elB, bind_ite, ite_ite, evParts, Option.bind_some, Option.some.injEq, Int.reduceToNat, Int.reduceLE, Int.reduceLT, Int.reduceEq, Nat.reduceMul, Nat.reduceLeDiff, Nat.reduceLT, List.drop_zero, List.take_succ_cons, List.take_zero, List.drop_succ_cons, List.take_nil, List.map_cons, List.map_nil, List.length_append, ty3, ty4, ty5, ty23, ty24, ty25, ty33, ty39, ty40, ty45, ty51, ty74]
      refine back_intro hs (i + 1) (le_wk (by simp [wk])) ⟨by omega, fun j hj => ?_⟩ (by omega)
      by_cases e : j = i
      · rw [e]; exact hp
      · exact hn j (by omega)
  · have hc : ((i : Int) < 256) = False := by simp; omega
    rw [least_none p fun j hj => hn j (by omega)]
    simp -implicitDefEqProofs only [hc,
    evx, true_and, Option.map_none, ofValue, ofCell, Option.map_some, List.range, List.range.loop, Array.size, List.length_cons, List.length_nil, List.size_toArray, Nat.reduceAdd, Nat.reduceSub, Nat.reduceEqDiff, List.getElem?_toArray, List.getElem?_cons_zero, List.getElem?_cons_succ, List.replicate, List.cons_append, List.nil_append, List.append_nil, List.set_cons_zero, List.set_cons_succ, List.getD_cons_zero, List.getD_cons_succ, decide_not, ne_eq, if_true, if_false, eq_self, ↓reduceIte, reduceCtorEq, splice_one, map_ite, elB, bind_ite, ite_ite, evParts, Option.bind_some, Option.some.injEq, Int.reduceToNat, Int.reduceLE, Int.reduceLT, Int.reduceEq, Nat.reduceMul, Nat.reduceLeDiff, Nat.reduceLT, List.drop_zero, List.take_succ_cons, List.take_zero, List.drop_succ_cons, List.take_nil, List.map_cons, List.map_nil, List.length_append, ty3, ty4, ty5, ty23, ty24, ty25, ty33, ty39, ty40, ty45, ty51, ty74]
    exact le_flat rfl
end Go.Abs
