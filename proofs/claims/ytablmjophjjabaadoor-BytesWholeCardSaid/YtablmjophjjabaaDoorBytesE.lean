/- Sets of bytes: the program's Parts. -/
import Derived.Test.YtablmjophjjabaaDoorBytesD
namespace Go.Abs
open Go.Proofs
set_option linter.unusedVariables false
set_option linter.unusedSimpArgs false
set_option maxRecDepth 100000
set_option maxHeartbeats 1000000
theorem sp8a' (p q : Nat → Bool) : splice (AV.fv (.int .u64 0) :: .fv (.int .u64 0) :: .fv (.int .u64 0) :: .fv (.int .u64 0) :: sc q) 0 (sc p) = some (sc p ++ sc q) := rfl
theorem part_len (out : List (Nat → Bool)) (s : Nat → Bool) : (partS out s).length ≤ 2 * out.length := by
  induction out with
  | nil => simp [partS]
  | cons p out ih =>
    have := stp_len p s
    simp only [partS, List.flatMap_cons, List.length_append, List.length_cons] at *
    omega
theorem two_len (p s : Nat → Bool) (k : Nat) : (two p s k).length ≤ 2 := Nat.le_trans (List.length_filter_le _ _) (by rw [List.length_take]; simp; omega)
theorem two_1 (p s : Nat → Bool) : two p s 1 = two p s 0 ++ (if emp (fun b => p b && s b) then [] else [fun b => p b && s b]) := by
  cases h : emp (fun b => p b && s b) <;> simp [two, h]
theorem two_2 (p s : Nat → Bool) : two p s 2 = two p s 1 ++ (if emp (fun b => p b && !s b) then [] else [fun b => p b && !s b]) := by
  cases h1 : emp (fun b => p b && s b) <;> cases h2 : emp (fun b => p b && !s b) <;> simp [two, h1, h2]
theorem sub_agg2 (σ : Nat → Option Sb) (p q : Nat → Bool) : subAny σ (.agg (sc p ++ sc q)) = .agg (sc p ++ sc q) := rfl
theorem sub_agg1 (σ : Nat → Option Sb) (p : Nat → Bool) : subAny σ (.agg (sc p)) = .agg (sc p) := rfl
theorem sub_scs (σ : Nat → Option Sb) (p : Nat → Bool) : (sc p).map (subAny σ) = sc p := rfl
theorem ok19s (sort : List (Nat → Bool) → List (Nat → Bool)) (hlen : ∀ ps, (sort ps).length = ps.length)
    (h32 : ∀ ps : List (Nat → Bool), ps ≠ [] → ps.length < 1048576 → Ok Tryd.prog 32 [.ref 0 4 0 ps.length, .func 33 []] [.plain 4 (srows ps)] (.ret (.tuple [])) [.plain 4 (srows (sort ps))])
    (l : List (Nat → Bool)) (hl : l.length < 1048576) (hsz : ∀ i, i ≤ l.length → partsOf (l.take i) ≠ [] ∧ (partsOf (l.take i)).length ≤ 256) :
    Ok Tryd.prog 19 [.fv (.lst 4 (srows l))] [] (.ret (.fv (.lst 4 (srows (sort (partsOf l)))))) [] := by
  have hll := srows_len l
  refine ok_start (k := 50) (n0 := 0) (rs := [.tmp 2]) mix Tryd.func19 rfl rfl rfl rfl rfl rfl rfl ?_
  simp -implicitDefEqProofs only [sc_len, sc_take, sc_zl, stB_boxA, sc_ok, splice_all, srow_map, srow_len, bsE_sc,
    evx, true_and, Option.map_none, ofValue, ofCell, Option.map_some, List.range, List.range.loop, Array.size, List.length_cons, List.length_nil, List.size_toArray, Nat.reduceAdd, Nat.reduceSub, Nat.reduceEqDiff, List.getElem?_toArray, List.getElem?_cons_zero, List.getElem?_cons_succ, List.replicate, List.cons_append, List.nil_append, List.append_nil, List.set_cons_zero, List.set_cons_succ, List.getD_cons_zero, List.getD_cons_succ, decide_not, ne_eq, if_true, if_false, eq_self, ↓reduceIte, reduceCtorEq, splice_one, map_ite, elB, bind_ite, ite_ite, evParts, Option.bind_some, Option.some.injEq, Int.reduceToNat, Int.reduceLE, Int.reduceLT, Int.reduceEq, Nat.reduceMul, Nat.reduceLeDiff, Nat.reduceLT, List.drop_zero, List.take_succ_cons, List.take_zero, List.drop_succ_cons, List.take_nil, List.map_cons, List.map_nil, List.length_append, ty3, ty4, ty5, ty23, ty24, ty25, ty33, ty39, ty40, ty45, ty51, ty74]
  refine callK_ret _ _ _ _ (call_pure (ok17 _) (fun _ => rfl) (fun _ => rfl)) (ok_nil _ _) ?_
  simp -implicitDefEqProofs only [sc_len, sc_take, sc_zl, stB_boxA, sc_ok, splice_all, srow_map, srow_len, bsE_sc, Bool.not_false,
    evx, true_and, Option.map_none, ofValue, ofCell, Option.map_some, List.range, List.range.loop, Array.size, List.length_cons, List.length_nil, List.size_toArray, Nat.reduceAdd, Nat.reduceSub, Nat.reduceEqDiff, List.getElem?_toArray, List.getElem?_cons_zero, List.getElem?_cons_succ, List.replicate, List.cons_append, List.nil_append, List.append_nil, List.set_cons_zero, List.set_cons_succ, List.getD_cons_zero, List.getD_cons_succ, decide_not, ne_eq, if_true, if_false, eq_self, ↓reduceIte, reduceCtorEq, splice_one, map_ite, elB, bind_ite, ite_ite, evParts, Option.bind_some, Option.some.injEq, Int.reduceToNat, Int.reduceLE, Int.reduceLT, Int.reduceEq, Nat.reduceMul, Nat.reduceLeDiff, Nat.reduceLT, List.drop_zero, List.take_succ_cons, List.take_zero, List.drop_succ_cons, List.take_nil, List.map_cons, List.map_nil, List.length_append, ty3, ty4, ty5, ty23, ty24, ty25, ty33, ty39, ty40, ty45, ty51, ty74]
  refine loop_rule (fun i : Nat => ⟨[.any, .any, .any, .ref 0 4 0 (partsOf (l.take i)).length, .any, .any, .any, .any, .any, .any, .any, .any, .any, .any, .fv (.lst 4 (srows l)), .fv (.int .i64 (srows l).length), .fv (.int .i64 i), .any, .any, .any, .any, .any, .any, .any, .any, .any, .any, .any, .any, .any, .any, .any, .any, .any, .any, .any, .any, .any, .any, .any, .any, .any, .any, .any, .any, .any, .any, .any, .any, .any, .any], [.plain 4 (srows (partsOf (l.take i)))], []⟩)
    (fun i => i ≤ l.length) (fun i => l.length - i) 0 (le_wk (by simp [wk, partsOf])) (by simp) (fun i hi s0 hs0 => ?_)
  obtain ⟨hne, hle⟩ := hsz i hi
  generalize hout : partsOf (l.take i) = out at *
  have holl := srows_len out
  by_cases hil : i < l.length
  · have hc : ((i : Int) < ((srows l).length : Int)) = True := by simp; omega
    have hg := srows_get l i hil
    have hw : IntKind.wrap .i64 ((i : Int) + 1) = ((i + 1 : Nat) : Int) := wrap_small (by omega) (by omega)
    have hout2 : partsOf (l.take (i + 1)) = partS out l[i] := by
      rw [List.take_succ_eq_append_getElem hil, partsOf, List.foldl_append, ← hout]
      rfl
    generalize hs : l[i] = s at *
    simp -implicitDefEqProofs only [hc, hg, sc_len, sc_take, sc_zl, stB_boxA, sc_ok, splice_all, srow_map, srow_len, bsE_sc,
    evx, true_and, Option.map_none, ofValue, ofCell, Option.map_some, List.range, List.range.loop, Array.size, List.length_cons, List.length_nil, List.size_toArray, Nat.reduceAdd, Nat.reduceSub, Nat.reduceEqDiff, List.getElem?_toArray, List.getElem?_cons_zero, List.getElem?_cons_succ, List.replicate, List.cons_append, List.nil_append, List.append_nil, List.set_cons_zero, List.set_cons_succ, List.getD_cons_zero, List.getD_cons_succ, decide_not, ne_eq, if_true, if_false, eq_self, ↓reduceIte, reduceCtorEq, splice_one, map_ite, elB, bind_ite, ite_ite, evParts, Option.bind_some, Option.some.injEq, Int.reduceToNat, Int.reduceLE, Int.reduceLT, Int.reduceEq, Nat.reduceMul, Nat.reduceLeDiff, Nat.reduceLT, List.drop_zero, List.take_succ_cons, List.take_zero, List.drop_succ_cons, List.take_nil, List.map_cons, List.map_nil, List.length_append, ty3, ty4, ty5, ty23, ty24, ty25, ty33, ty39, ty40, ty45, ty51, ty74]
    refine loop_rule (fun j : Nat => ⟨[.any, .any, .any, .ref 0 4 0 out.length, .any, .ptr 1 0 0 0, .ref 2 4 0 (partS (out.take j) s).length, .any, .any, .any, .any, .any, .any, .any, .fv (.lst 4 (srows l)), .fv (.int .i64 (srows l).length), .fv (.int .i64 i), .any, .any, .any, .ref 0 4 0 out.length, .fv (.int .i64 out.length), .fv (.int .i64 j), .any, .any, .any, .any, .any, .any, .any, .any, .any, .any, .any, .any, .any, .any, .any, .any, .any, .any, .any, .any, .any, .any, .any, .any, .any, .any, .any, .any], [.plain 4 (srows out), .box (sc s), .plain 4 (srows (partS (out.take j) s))], []⟩)
      (fun j => j ≤ out.length) (fun j => out.length - j) 0 (Le.trans (le_virt 6 4 rfl) (le_wk (by simp [wk, partS]))) (by simp) (fun j hj s1 hs1 => ?_)
    have hpl := part_len (out.take j) s
    have htl : (out.take j).length ≤ 256 := by rw [List.length_take]; omega
    by_cases hjo : j < out.length
    · have hcj : ((j : Int) < (out.length : Int)) = True := by simp; omega
      have hgj := srows_get out j hjo
      have hwj : IntKind.wrap .i64 ((j : Int) + 1) = ((j + 1 : Nat) : Int) := wrap_small (by omega) (by omega)
      have hnx : partS (out.take (j + 1)) s = partS (out.take j) s ++ part1 out[j] s := by
        rw [List.take_succ_eq_append_getElem hjo, partS, partS, List.flatMap_append]; simp only [List.flatMap_cons, List.flatMap_nil, List.append_nil]
      generalize hp : out[j] = p at *
      generalize hN : partS (out.take j) s = nx at *
      simp -implicitDefEqProofs only [awp_draw _ _ Tryddr19_9, hcj, hgj, sc_len, sc_take, sc_zl, stB_boxA, sc_ok, splice_all, srow_map, srow_len, bsE_sc,
    evx, true_and, Option.map_none, ofValue, ofCell, Option.map_some, List.range, List.range.loop, Array.size, List.length_cons, List.length_nil, List.size_toArray, Nat.reduceAdd, Nat.reduceSub, Nat.reduceEqDiff, List.getElem?_toArray, List.getElem?_cons_zero, List.getElem?_cons_succ, List.replicate, List.cons_append, List.nil_append, List.append_nil, List.set_cons_zero, List.set_cons_succ, List.getD_cons_zero, List.getD_cons_succ, decide_not, ne_eq, if_true, if_false, eq_self, ↓reduceIte, reduceCtorEq, splice_one, map_ite, elB, bind_ite, ite_ite, evParts, Option.bind_some, Option.some.injEq, Int.reduceToNat, Int.reduceLE, Int.reduceLT, Int.reduceEq, Nat.reduceMul, Nat.reduceLeDiff, Nat.reduceLT, List.drop_zero, List.take_succ_cons, List.take_zero, List.drop_succ_cons, List.take_nil, List.map_cons, List.map_nil, List.length_append, ty3, ty4, ty5, ty23, ty24, ty25, ty33, ty39, ty40, ty45, ty51, ty74]
      refine callK_ret _ _ _ _ (call_pure (ok15 p s) (fun _ => rfl) (fun _ => rfl)) (ok_nil _ _) ?_
      simp -implicitDefEqProofs only [awp_draw _ _ Tryddr19_9, sc_len, sc_take, sc_zl, stB_boxA, sc_ok, splice_all, srow_map, srow_len, bsE_sc,
    evx, true_and, Option.map_none, ofValue, ofCell, Option.map_some, List.range, List.range.loop, Array.size, List.length_cons, List.length_nil, List.size_toArray, Nat.reduceAdd, Nat.reduceSub, Nat.reduceEqDiff, List.getElem?_toArray, List.getElem?_cons_zero, List.getElem?_cons_succ, List.replicate, List.cons_append, List.nil_append, List.append_nil, List.set_cons_zero, List.set_cons_succ, List.getD_cons_zero, List.getD_cons_succ, decide_not, ne_eq, if_true, if_false, eq_self, ↓reduceIte, reduceCtorEq, splice_one, map_ite, elB, bind_ite, ite_ite, evParts, Option.bind_some, Option.some.injEq, Int.reduceToNat, Int.reduceLE, Int.reduceLT, Int.reduceEq, Nat.reduceMul, Nat.reduceLeDiff, Nat.reduceLT, List.drop_zero, List.take_succ_cons, List.take_zero, List.drop_succ_cons, List.take_nil, List.map_cons, List.map_nil, List.length_append, ty3, ty4, ty5, ty23, ty24, ty25, ty33, ty39, ty40, ty45, ty51, ty74]
      refine callK_ret _ _ _ _ (call_pure (ok17 s) (fun _ => rfl) (fun _ => rfl)) (ok_nil _ _) ?_
      simp -implicitDefEqProofs only [awp_draw _ _ Tryddr19_9, sc_len, sc_take, sc_zl, stB_boxA, sc_ok, splice_all, srow_map, srow_len, bsE_sc,
    evx, true_and, Option.map_none, ofValue, ofCell, Option.map_some, List.range, List.range.loop, Array.size, List.length_cons, List.length_nil, List.size_toArray, Nat.reduceAdd, Nat.reduceSub, Nat.reduceEqDiff, List.getElem?_toArray, List.getElem?_cons_zero, List.getElem?_cons_succ, List.replicate, List.cons_append, List.nil_append, List.append_nil, List.set_cons_zero, List.set_cons_succ, List.getD_cons_zero, List.getD_cons_succ, decide_not, ne_eq, if_true, if_false, eq_self, ↓reduceIte, reduceCtorEq, splice_one, map_ite, elB, bind_ite, ite_ite, evParts, Option.bind_some, Option.some.injEq, Int.reduceToNat, Int.reduceLE, Int.reduceLT, Int.reduceEq, Nat.reduceMul, Nat.reduceLeDiff, Nat.reduceLT, List.drop_zero, List.take_succ_cons, List.take_zero, List.drop_succ_cons, List.take_nil, List.map_cons, List.map_nil, List.length_append, ty3, ty4, ty5, ty23, ty24, ty25, ty33, ty39, ty40, ty45, ty51, ty74]
      refine callK_ret _ _ _ _ (call_pure (ok15 p (fun b => !s b)) (fun _ => rfl) (fun _ => rfl)) (ok_nil _ _) ?_
      simp -implicitDefEqProofs only [awp_draw _ _ Tryddr19_9, sp8a', sp8b, sc_len, sc_take, sc_zl, stB_boxA, sc_ok, splice_all, srow_map, srow_len, bsE_sc,
    evx, true_and, Option.map_none, ofValue, ofCell, Option.map_some, List.range, List.range.loop, Array.size, List.length_cons, List.length_nil, List.size_toArray, Nat.reduceAdd, Nat.reduceSub, Nat.reduceEqDiff, List.getElem?_toArray, List.getElem?_cons_zero, List.getElem?_cons_succ, List.replicate, List.cons_append, List.nil_append, List.append_nil, List.set_cons_zero, List.set_cons_succ, List.getD_cons_zero, List.getD_cons_succ, decide_not, ne_eq, if_true, if_false, eq_self, ↓reduceIte, reduceCtorEq, splice_one, map_ite, elB, bind_ite, ite_ite, evParts, Option.bind_some, Option.some.injEq, Int.reduceToNat, Int.reduceLE, Int.reduceLT, Int.reduceEq, Nat.reduceMul, Nat.reduceLeDiff, Nat.reduceLT, List.drop_zero, List.take_succ_cons, List.take_zero, List.drop_succ_cons, List.take_nil, List.map_cons, List.map_nil, List.length_append, ty3, ty4, ty5, ty23, ty24, ty25, ty33, ty39, ty40, ty45, ty51, ty74]
      refine loop_rule (fun k : Nat × List (Nat → Bool) => ⟨[.any, .any, .any, .ref 0 4 0 out.length, .any, .ptr 1 0 0 0, .ref 2 4 0 k.2.length, .any, .any, .any, .any, .any, .any, .any, .fv (.lst 4 (srows l)), .fv (.int .i64 (srows l).length), .fv (.int .i64 i), .any, .any, .any, .ref 0 4 0 out.length, .fv (.int .i64 out.length), .fv (.int .i64 j), .any, .any, .any, .any, .any, .any, .any, .any, .any, .any, .agg (sc (fun b => p b && s b) ++ sc (fun b => p b && !s b)), .fv (.int .i64 k.1), .any, .any, .any, .any, .any, .any, .any, .any, .any, .any, .any, .any, .any, .any, .any, .any], [.plain 4 (srows out), .box (sc s), .plain 4 (srows k.2), .box (sc p)], []⟩)
        (fun k => k.1 ≤ 2 ∧ k.2 = nx ++ two p s k.1) (fun k => 2 - k.1) (0, nx) (le_wk (by simp [wk])) (by simp [two0]) (fun kk hk s2 hs2 => ?_)
      obtain ⟨k, n2⟩ := kk
      obtain ⟨hk, hn2⟩ := hk
      simp only at hk hn2 hs2 ⊢
      have h2l := two_len p s k
      have hn2l : n2.length ≤ 1024 := by rw [hn2, List.length_append]; omega
      have hsr := srows_len n2
      rcases (by omega : k = 0 ∨ k = 1 ∨ k = 2) with rfl | rfl | rfl
      · have hz : ((0 : Nat) : Int) = 0 := rfl
        have hw1 : IntKind.wrap .i64 (0 : Int) = 0 := rfl
        have hw2 : IntKind.wrap .i64 ((0 : Int) + 1) = 1 := rfl
        have hc2 : ((0 : Int) < 2) = True := by simp
        cases he : emp (fun b => p b && s b) with
        | true =>
          have he' : same (fun b => p b && s b) (fun _ => false) = true := he
          have e2 : two p s 1 = two p s 0 := by rw [two_1, he]; simp
          simp -implicitDefEqProofs only [hz, hc2, hw2, tk0, tk4, neq_sc, he', sp8a', sc_len, sc_take, sc_zl, stB_boxA, sc_ok, splice_all, srow_map, srow_len, bsE_sc,
    evx, true_and, Option.map_none, ofValue, ofCell, Option.map_some, List.range, List.range.loop, Array.size, List.length_cons, List.length_nil, List.size_toArray, Nat.reduceAdd, Nat.reduceSub, Nat.reduceEqDiff, List.getElem?_toArray, List.getElem?_cons_zero, List.getElem?_cons_succ, List.replicate, List.cons_append, List.nil_append, List.append_nil, List.set_cons_zero, List.set_cons_succ, List.getD_cons_zero, List.getD_cons_succ, decide_not, ne_eq, if_true, if_false, eq_self, ↓reduceIte, reduceCtorEq, splice_one, map_ite, elB, bind_ite, ite_ite, evParts, Option.bind_some, Option.some.injEq, Int.reduceToNat, Int.reduceLE, Int.reduceLT, Int.reduceEq, Nat.reduceMul, Nat.reduceLeDiff, Nat.reduceLT, List.drop_zero, List.take_succ_cons, List.take_zero, List.drop_succ_cons, List.take_nil, List.map_cons, List.map_nil, List.length_append, ty3, ty4, ty5, ty23, ty24, ty25, ty33, ty39, ty40, ty45, ty51, ty74]
          refine ⟨by simp [sc2_len], ?_⟩
          refine back_intro hs2 (1, n2) (le_sub_wk [0, 1, 2, 3] [] rfl (by simp) (by simp) (by simp) (by simp) ?_ ?_ rfl) ⟨by simp, by rw [hn2, e2]⟩ (by simp)
          · simp only [subSt, List.map_cons, List.map_nil, sub_agg2, sub_agg1]
            simp [subAny, subA, mkSub, idx, wk]
          · simp [subSt, mkSub, subBlk, sub_scs]
        | false =>
          have he' : same (fun b => p b && s b) (fun _ => false) = false := he
          have e2 : two p s 1 = two p s 0 ++ [fun b => p b && s b] := by rw [two_1, he]; simp
          simp -implicitDefEqProofs only [hz, hc2, hw2, tk0, tk4, neq_sc, he', sp8a', sc_len, sc_take, sc_zl, stB_boxA, sc_ok, splice_all, srow_map, srow_len, bsE_sc,
    evx, true_and, Option.map_none, ofValue, ofCell, Option.map_some, List.range, List.range.loop, Array.size, List.length_cons, List.length_nil, List.size_toArray, Nat.reduceAdd, Nat.reduceSub, Nat.reduceEqDiff, List.getElem?_toArray, List.getElem?_cons_zero, List.getElem?_cons_succ, List.replicate, List.cons_append, List.nil_append, List.append_nil, List.set_cons_zero, List.set_cons_succ, List.getD_cons_zero, List.getD_cons_succ, decide_not, ne_eq, if_true, if_false, eq_self, ↓reduceIte, reduceCtorEq, splice_one, map_ite, elB, bind_ite, ite_ite, evParts, Option.bind_some, Option.some.injEq, Int.reduceToNat, Int.reduceLE, Int.reduceLT, Int.reduceEq, Nat.reduceMul, Nat.reduceLeDiff, Nat.reduceLT, List.drop_zero, List.take_succ_cons, List.take_zero, List.drop_succ_cons, List.take_nil, List.map_cons, List.map_nil, List.length_append, ty3, ty4, ty5, ty23, ty24, ty25, ty33, ty39, ty40, ty45, ty51, ty74]
          refine ⟨by simp [sc2_len], ⟨by omega, by omega⟩, ?_⟩
          refine back_intro hs2 (1, n2 ++ [fun b => p b && s b]) (le_sub_wk [0, 1, 6, 3] [] rfl (by simp) (by simp) (by simp) (by simp) ?_ ?_ rfl) ⟨by simp, by rw [hn2, e2, List.append_assoc]⟩ (by simp)
          · simp only [subSt, List.map_cons, List.map_nil, sub_agg2, sub_agg1]
            simp [subAny, subA, mkSub, idx, wk]
          · rw [srows_append, ← srow_one, List.take_of_length_le (by omega)]
            simp [subSt, mkSub, subBlk, sub_scs]
      · have hz : ((1 : Nat) : Int) = 1 := rfl
        have hw1 : IntKind.wrap .i64 (1 : Int) = 1 := rfl
        have hw2 : IntKind.wrap .i64 ((1 : Int) + 1) = 2 := rfl
        have hc2 : ((1 : Int) < 2) = True := by simp
        cases he : emp (fun b => p b && !s b) with
        | true =>
          have he' : same (fun b => p b && !s b) (fun _ => false) = true := he
          have e2 : two p s 2 = two p s 1 := by rw [two_2, he]; simp
          simp -implicitDefEqProofs only [hz, hc2, hw2, tk0, tk4, neq_sc, he', sp8a', sc_len, sc_take, sc_zl, stB_boxA, sc_ok, splice_all, srow_map, srow_len, bsE_sc,
    evx, true_and, Option.map_none, ofValue, ofCell, Option.map_some, List.range, List.range.loop, Array.size, List.length_cons, List.length_nil, List.size_toArray, Nat.reduceAdd, Nat.reduceSub, Nat.reduceEqDiff, List.getElem?_toArray, List.getElem?_cons_zero, List.getElem?_cons_succ, List.replicate, List.cons_append, List.nil_append, List.append_nil, List.set_cons_zero, List.set_cons_succ, List.getD_cons_zero, List.getD_cons_succ, decide_not, ne_eq, if_true, if_false, eq_self, ↓reduceIte, reduceCtorEq, splice_one, map_ite, elB, bind_ite, ite_ite, evParts, Option.bind_some, Option.some.injEq, Int.reduceToNat, Int.reduceLE, Int.reduceLT, Int.reduceEq, Nat.reduceMul, Nat.reduceLeDiff, Nat.reduceLT, List.drop_zero, List.take_succ_cons, List.take_zero, List.drop_succ_cons, List.take_nil, List.map_cons, List.map_nil, List.length_append, ty3, ty4, ty5, ty23, ty24, ty25, ty33, ty39, ty40, ty45, ty51, ty74]
          refine ⟨by simp [sc2_len], ?_⟩
          refine back_intro hs2 (2, n2) (le_sub_wk [0, 1, 2, 3] [] rfl (by simp) (by simp) (by simp) (by simp) ?_ ?_ rfl) ⟨by simp, by rw [hn2, e2]⟩ (by simp)
          · simp only [subSt, List.map_cons, List.map_nil, sub_agg2, sub_agg1]
            simp [subAny, subA, mkSub, idx, wk]
          · simp [subSt, mkSub, subBlk, sub_scs]
        | false =>
          have he' : same (fun b => p b && !s b) (fun _ => false) = false := he
          have e2 : two p s 2 = two p s 1 ++ [fun b => p b && !s b] := by rw [two_2, he]; simp
          simp -implicitDefEqProofs only [hz, hc2, hw2, tk0, tk4, neq_sc, he', sp8a', sc_len, sc_take, sc_zl, stB_boxA, sc_ok, splice_all, srow_map, srow_len, bsE_sc,
    evx, true_and, Option.map_none, ofValue, ofCell, Option.map_some, List.range, List.range.loop, Array.size, List.length_cons, List.length_nil, List.size_toArray, Nat.reduceAdd, Nat.reduceSub, Nat.reduceEqDiff, List.getElem?_toArray, List.getElem?_cons_zero, List.getElem?_cons_succ, List.replicate, List.cons_append, List.nil_append, List.append_nil, List.set_cons_zero, List.set_cons_succ, List.getD_cons_zero, List.getD_cons_succ, decide_not, ne_eq, if_true, if_false, eq_self, ↓reduceIte, reduceCtorEq, splice_one, map_ite, elB, bind_ite, ite_ite, evParts, Option.bind_some, Option.some.injEq, Int.reduceToNat, Int.reduceLE, Int.reduceLT, Int.reduceEq, Nat.reduceMul, Nat.reduceLeDiff, Nat.reduceLT, List.drop_zero, List.take_succ_cons, List.take_zero, List.drop_succ_cons, List.take_nil, List.map_cons, List.map_nil, List.length_append, ty3, ty4, ty5, ty23, ty24, ty25, ty33, ty39, ty40, ty45, ty51, ty74]
          refine ⟨by simp [sc2_len], ⟨by omega, by omega⟩, ?_⟩
          refine back_intro hs2 (2, n2 ++ [fun b => p b && !s b]) (le_sub_wk [0, 1, 6, 3] [] rfl (by simp) (by simp) (by simp) (by simp) ?_ ?_ rfl) ⟨by simp, by rw [hn2, e2, List.append_assoc]⟩ (by simp)
          · simp only [subSt, List.map_cons, List.map_nil, sub_agg2, sub_agg1]
            simp [subAny, subA, mkSub, idx, wk]
          · rw [srows_append, ← srow_one, List.take_of_length_le (by omega)]
            simp [subSt, mkSub, subBlk, sub_scs]
      · have hz : ((2 : Nat) : Int) = 2 := rfl
        have hc2 : ((2 : Int) < 2) = False := by simp
        rw [two2, ← hnx] at hn2
        simp -implicitDefEqProofs only [hz, hc2, hwj,
    evx, true_and, Option.map_none, ofValue, ofCell, Option.map_some, List.range, List.range.loop, Array.size, List.length_cons, List.length_nil, List.size_toArray, Nat.reduceAdd, Nat.reduceSub, Nat.reduceEqDiff, List.getElem?_toArray, List.getElem?_cons_zero, List.getElem?_cons_succ, List.replicate, List.cons_append, List.nil_append, List.append_nil, List.set_cons_zero, List.set_cons_succ, List.getD_cons_zero, List.getD_cons_succ, decide_not, ne_eq, if_true, if_false, eq_self, ↓reduceIte, reduceCtorEq, splice_one, map_ite, elB, bind_ite, ite_ite, evParts, Option.bind_some, Option.some.injEq, Int.reduceToNat, Int.reduceLE, Int.reduceLT, Int.reduceEq, Nat.reduceMul, Nat.reduceLeDiff, Nat.reduceLT, List.drop_zero, List.take_succ_cons, List.take_zero, List.drop_succ_cons, List.take_nil, List.map_cons, List.map_nil, List.length_append, ty3, ty4, ty5, ty23, ty24, ty25, ty33, ty39, ty40, ty45, ty51, ty74]
        refine back_intro hs1 (j + 1) (le_sub_wk [0, 1, 2] [] rfl (by simp) (by simp) (by simp) (by simp) ?_ ?_ rfl) (by omega) (by omega)
        · rw [hn2]; simp only [subSt, List.map_cons, List.map_nil, sub_agg2, sub_agg1]; simp [subAny, subA, mkSub, idx, wk]
        · rw [hn2]; simp [subSt, mkSub, subBlk, sub_scs]
    · have hcj : ((j : Int) < (out.length : Int)) = False := by simp; omega
      have hje : j = out.length := by omega
      subst hje
      rw [List.take_length]
      simp -implicitDefEqProofs only [hcj, hw,
    evx, true_and, Option.map_none, ofValue, ofCell, Option.map_some, List.range, List.range.loop, Array.size, List.length_cons, List.length_nil, List.size_toArray, Nat.reduceAdd, Nat.reduceSub, Nat.reduceEqDiff, List.getElem?_toArray, List.getElem?_cons_zero, List.getElem?_cons_succ, List.replicate, List.cons_append, List.nil_append, List.append_nil, List.set_cons_zero, List.set_cons_succ, List.getD_cons_zero, List.getD_cons_succ, decide_not, ne_eq, if_true, if_false, eq_self, ↓reduceIte, reduceCtorEq, splice_one, map_ite, elB, bind_ite, ite_ite, evParts, Option.bind_some, Option.some.injEq, Int.reduceToNat, Int.reduceLE, Int.reduceLT, Int.reduceEq, Nat.reduceMul, Nat.reduceLeDiff, Nat.reduceLT, List.drop_zero, List.take_succ_cons, List.take_zero, List.drop_succ_cons, List.take_nil, List.map_cons, List.map_nil, List.length_append, ty3, ty4, ty5, ty23, ty24, ty25, ty33, ty39, ty40, ty45, ty51, ty74]
      refine back_intro hs0 (i + 1) (le_sub_wk [2] [] rfl (by simp) (by simp) (by simp) (by simp) ?_ ?_ rfl) (by omega) (by omega)
      · rw [hout2]; simp only [subSt, List.map_cons, List.map_nil, sub_agg2, sub_agg1]; simp [subAny, subA, mkSub, idx, wk]
      · rw [hout2]; simp [subSt, mkSub, subBlk]
  · have hc : ((i : Int) < ((srows l).length : Int)) = False := by simp; omega
    have hie : i = l.length := by omega
    subst hie
    rw [List.take_length] at hout
    rw [hout]
    simp -implicitDefEqProofs only [hc,
    evx, true_and, Option.map_none, ofValue, ofCell, Option.map_some, List.range, List.range.loop, Array.size, List.length_cons, List.length_nil, List.size_toArray, Nat.reduceAdd, Nat.reduceSub, Nat.reduceEqDiff, List.getElem?_toArray, List.getElem?_cons_zero, List.getElem?_cons_succ, List.replicate, List.cons_append, List.nil_append, List.append_nil, List.set_cons_zero, List.set_cons_succ, List.getD_cons_zero, List.getD_cons_succ, decide_not, ne_eq, if_true, if_false, eq_self, ↓reduceIte, reduceCtorEq, splice_one, map_ite, elB, bind_ite, ite_ite, evParts, Option.bind_some, Option.some.injEq, Int.reduceToNat, Int.reduceLE, Int.reduceLT, Int.reduceEq, Nat.reduceMul, Nat.reduceLeDiff, Nat.reduceLT, List.drop_zero, List.take_succ_cons, List.take_zero, List.drop_succ_cons, List.take_nil, List.map_cons, List.map_nil, List.length_append, ty3, ty4, ty5, ty23, ty24, ty25, ty33, ty39, ty40, ty45, ty51, ty74]
    refine callK_ret _ _ _ _ (call_lent [0] (h32 out hne (by omega)) rfl rfl (by simp) (by simp [Blk.live])) (ok_none _ _) ?_
    simp -implicitDefEqProofs only [subAny, subA, subL, backSub, back, putBack, subBlk, Option.getD_some, List.map_cons, List.map_nil, Nat.not_lt_zero, Nat.sub_zero, Nat.add_zero, List.length_map,
    evx, true_and, Option.map_none, ofValue, ofCell, Option.map_some, List.range, List.range.loop, Array.size, List.length_cons, List.length_nil, List.size_toArray, Nat.reduceAdd, Nat.reduceSub, Nat.reduceEqDiff, List.getElem?_toArray, List.getElem?_cons_zero, List.getElem?_cons_succ, List.replicate, List.cons_append, List.nil_append, List.append_nil, List.set_cons_zero, List.set_cons_succ, List.getD_cons_zero, List.getD_cons_succ, decide_not, ne_eq, if_true, if_false, eq_self, ↓reduceIte, reduceCtorEq, splice_one, map_ite, elB, bind_ite, ite_ite, evParts, Option.bind_some, Option.some.injEq, Int.reduceToNat, Int.reduceLE, Int.reduceLT, Int.reduceEq, Nat.reduceMul, Nat.reduceLeDiff, Nat.reduceLT, List.drop_zero, List.take_succ_cons, List.take_zero, List.drop_succ_cons, List.take_nil, List.map_cons, List.map_nil, List.length_append, ty3, ty4, ty5, ty23, ty24, ty25, ty33, ty39, ty40, ty45, ty51, ty74]
    have hsl := hlen out
    refine le_lst (rows := srows (sort out)) rfl (by simp [srows_len, hsl]) ?_
    rw [List.drop_zero, List.take_of_length_le (by rw [srows_len, hsl]; exact Nat.le_refl _)]
end Go.Abs
