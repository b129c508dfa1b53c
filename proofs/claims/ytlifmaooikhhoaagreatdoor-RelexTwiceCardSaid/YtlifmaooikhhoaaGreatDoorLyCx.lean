/- Tokens behind an edit: what stays, what is moved. -/
import Derived.Test.YtlifmaooikhhoaaGreatDoorTyTryzx
import Derived.Test.YtlifmaooikhhoaaGreatDoorDrTryzx
import Derived.Test.YtlifmaooikhhoaaGreatDoorLyAx
import Derived.Test.YtlifmaooikhhoaaGreatDoorAbsTree
namespace Go.Abs
open Go.Proofs
set_option linter.unusedVariables false
set_option linter.unusedSimpArgs false
set_option maxRecDepth 100000
set_option maxHeartbeats 4000000
theorem frontN_cons (x : Tok) (l : List Tok) (a : Int) : frontN (x :: l) a = if (x.seen : Int) ≤ a then frontN l a + 1 else 0 := by
  unfold frontN
  rw [List.takeWhile_cons]
  by_cases h : (x.seen : Int) ≤ a
  · rw [decide_eq_true h, if_pos h]; rfl
  · rw [decide_eq_false h, if_neg h]; rfl
theorem ok46 (x : List Tok × Int) (hl : x.1.length ≤ 1000000) (a : Int) : Ok Tryz.prog 46 [lexedA x, .fv (.int .i64 a)] [] (.ret (.fv (.int .i64 (frontN x.1 a)))) [] := by
  obtain ⟨l, f⟩ := x
  simp only at hl ⊢
  refine ok_start (k := 21) (n0 := 0) (rs := [.tmp 4]) mix Tryz.func46 rfl rfl rfl rfl rfl rfl rfl ?_
  simp -implicitDefEqProofs only [lexedA,
    evx, evy, ofValue, ofCell, List.range, List.range.loop, Array.size, Nat.reduceAdd, Nat.reduceSub, Nat.reduceEqDiff, List.replicate, if_true, if_false, ↓reduceIte, reduceCtorEq, elB, evParts, Int.reduceToNat, Int.reduceLE, Int.reduceLT, Int.reduceEq, Nat.reduceMul, Nat.reduceLeDiff, Nat.reduceLT, ty3, ty4, ty9, ty23, ty5, ty35, ty31, ty38, ty43, ty55, ty52, ty99]
  refine loop_rule (fun i : Nat => ⟨[.any, .fv (.int .i64 a), .ptr 0 0 0 0, .any, .any, .fv (.int .i64 i), .any, .any, .any, .any, .any, .any, .any, .any, .any, .any, .any, .any, .any, .any, .any, .any, .any], [.box [.fv (.lst 3 (l.map tokRow)), .fv (.lst 1 (l.map seenRow)), .fv (.int .i64 f)]], []⟩)
    (fun i => i ≤ l.length ∧ frontN l a = i + frontN (l.drop i) a) (fun i => l.length - i) 0 (le_wk (by simp [wk])) (by simp) (fun i hi st hst => ?_)
  obtain ⟨hi, he⟩ := hi
  by_cases hlt : i < l.length
  · have hr := rows_at seenRow l i hlt
    rw [List.drop_eq_getElem_cons hlt, frontN_cons] at he
    generalize l[i] = t at hr he
    by_cases hc : (t.seen : Int) ≤ a
    · have hct : ((t.seen : Int) ≤ a) = True := eq_true hc
      rw [if_pos hc] at he
      simp -implicitDefEqProofs only [List.length_map, lt_true hlt, hr, seenRow, hct, wsucc i (by omega),
    evx, evy, ofValue, ofCell, List.range, List.range.loop, Array.size, Nat.reduceAdd, Nat.reduceSub, Nat.reduceEqDiff, List.replicate, if_true, if_false, ↓reduceIte, reduceCtorEq, elB, evParts, Int.reduceToNat, Int.reduceLE, Int.reduceLT, Int.reduceEq, Nat.reduceMul, Nat.reduceLeDiff, Nat.reduceLT, ty3, ty4, ty9, ty23, ty5, ty35, ty31, ty38, ty43, ty55, ty52, ty99]
      exact back_intro hst (i + 1) (le_wk (by simp [wk])) ⟨by omega, by omega⟩ (by omega)
    · have hct : ((t.seen : Int) ≤ a) = False := eq_false hc
      rw [if_neg hc, Nat.add_zero] at he
      rw [he]
      simp -implicitDefEqProofs only [List.length_map, lt_true hlt, hr, seenRow, hct,
    evx, evy, ofValue, ofCell, List.range, List.range.loop, Array.size, Nat.reduceAdd, Nat.reduceSub, Nat.reduceEqDiff, List.replicate, if_true, if_false, ↓reduceIte, reduceCtorEq, elB, evParts, Int.reduceToNat, Int.reduceLE, Int.reduceLT, Int.reduceEq, Nat.reduceMul, Nat.reduceLeDiff, Nat.reduceLT, ty3, ty4, ty9, ty23, ty5, ty35, ty31, ty38, ty43, ty55, ty52, ty99]
      exact le_flat rfl
  · obtain rfl : i = l.length := by omega
    rw [List.drop_length] at he
    have h0 : frontN [] a = 0 := rfl
    rw [h0, Nat.add_zero] at he
    rw [he]
    simp -implicitDefEqProofs only [List.length_map, lt_false hlt,
    evx, evy, ofValue, ofCell, List.range, List.range.loop, Array.size, Nat.reduceAdd, Nat.reduceSub, Nat.reduceEqDiff, List.replicate, if_true, if_false, ↓reduceIte, reduceCtorEq, elB, evParts, Int.reduceToNat, Int.reduceLE, Int.reduceLT, Int.reduceEq, Nat.reduceMul, Nat.reduceLeDiff, Nat.reduceLT, ty3, ty4, ty9, ty23, ty5, ty35, ty31, ty38, ty43, ty55, ty52, ty99]
    exact le_flat rfl
theorem dropN (i : Nat) : Held.drop ([] : Held) i = [] := rfl
theorem mvs0 (ops : Array Oper) : mvs ops [] = true := rfl
def cpB (h : List Blk) (o : Option Blk) (sz id off len : Nat) (xs : List (List FV)) : Option (AV × List Blk × List Nat) := match o with
  | some (.plain es rows) => if es = sz then (splice rows off (xs.take (min xs.length len))).map fun rows' => (.fv (.int .i64 (min xs.length len : Nat)), h.set id (.plain sz rows'), [id]) else none
  | _ => none
theorem cp_red {P : Program} {T U e e' : TypeId} {a b a' b' n sz : Nat} {z z' zz : Option (List FV)} {dd : TypeDesc} (hT : tiOf P T = some ⟨.slice e, a, b, z⟩) (hU : tiOf P U = some ⟨.slice e', a', b', z'⟩) (hie : tiOf P e = some ⟨dd, sz, n, zz⟩) (hpos : 0 < sz) (h : List Blk) (id off len : Nat)
    (xs : List (List FV)) : cpK P h [T, U] (some [.ref id sz off len, .fv (.lst sz xs)]) = cpB h h[id]? sz id off len xs := by
  simp only [cpK, hT, hU, hie, hpos, if_true, copyA]
  unfold cpB
  cases h[id]? with
  | none => rfl
  | some k =>
    cases k with
    | plain es' rows =>
      simp only [true_and, lenA, cutA, srcRows, Option.bind_some, if_true]
    | _ => rfl
theorem cpB_plain (h : List Blk) (sz id off len : Nat) (xs rows : List (List FV)) : cpB h (some (.plain sz rows)) sz id off len xs = (splice rows off (xs.take (min xs.length len))).map fun rows' => (.fv (.int .i64 (min xs.length len : Nat)), h.set id (.plain sz rows'), [id]) := by
  simp [cpB]
theorem splice_repl {α : Type} (n : Nat) (z : α) (l : List α) (h : l.length = n) : splice (List.replicate n z) 0 l = some l := by
  subst h
  simp [splice]
theorem ok47 (x : List Tok × Int) (hl : x.1.length ≤ 1000000) (n : Nat) (hn : n ≤ x.1.length) : Ok Tryz.prog 47 [lexedA x, .fv (.int .i64 n)] []
    (.ret (.agg [.ref 0 3 0 n, .ref 1 1 0 n, .fv (.int .i64 (-1))])) [.plain 3 ((x.1.take n).map tokRow), .plain 1 ((x.1.take n).map seenRow)] := by
  obtain ⟨l, f⟩ := x
  simp only at hl hn ⊢
  refine ok_start (k := 20) (n0 := 0) (rs := [.cell 4 55]) mix Tryz.func47 rfl rfl rfl rfl rfl rfl rfl ?_
  simp -implicitDefEqProofs only [lexedA,
    evx, evy, ofValue, ofCell, List.range, List.range.loop, Array.size, Nat.reduceAdd, Nat.reduceSub, Nat.reduceEqDiff, List.replicate, if_true, if_false, ↓reduceIte, reduceCtorEq, elB, evParts, Int.reduceToNat, Int.reduceLE, Int.reduceLT, Int.reduceEq, Nat.reduceMul, Nat.reduceLeDiff, Nat.reduceLT, ty3, ty4, ty9, ty23, ty5, ty35, ty31, ty38, ty43, ty55, ty52, ty99]
  refine awp_forks3 (t := .fork3 [(0, true), (2, true)] 1 (.fork [] 3 (.fork [] 4 (.lin [(5, false), (6, false)]) 5 (.lin [(4, false), (6, false)])) 5 (.lin [(3, false), (4, false), (6, false)])) 3 (.fork [] 1 (.fork [] 4 (.lin [(5, false), (6, false)]) 5 (.lin [(4, false), (6, false)])) 5 (.lin [(1, false), (4, false), (6, false)])) 5 (.fork [] 1 (.lin [(3, false), (4, false), (6, false)]) 3 (.lin [(1, false), (4, false), (6, false)]))) (by kernel_rfl) (by kernel_rfl) (by kernel_rfl)
    ⟨[.any, .any, .ptr 0 0 0 0, .any, .ptr 1 0 0 0, .ptr 2 0 0 0, .any, .any, .any, .any, .any, .any, .any, .any, .any, .any, .any, .any, .any, .any, .any, .any], [.box [.fv (.lst 3 (l.map tokRow)), .fv (.lst 1 (l.map seenRow)), .fv (.int .i64 f)], .box [.fv .nils, .fv .nils, .fv (.int .i64 0)], .box [.ref 3 3 0 n, .ref 4 1 0 n, .fv (.int .i64 (-1))], .plain 3 (List.replicate n [.int .i64 0, .int .i64 0, .int .i64 0]), .plain 1 (List.replicate n [.int .i64 0])], []⟩ ?_ ?_
  · simp only [ord4G]
    refine ⟨by kernel_rfl, ?_⟩
    try simp -implicitDefEqProofs only [evx, evy, ofValue, ofCell, List.range, List.range.loop, Array.size, Nat.reduceAdd, Nat.reduceSub, Nat.reduceEqDiff, List.replicate, if_true, if_false, ↓reduceIte, reduceCtorEq, elB, evParts, Int.reduceToNat, Int.reduceLE, Int.reduceLT, Int.reduceEq, Nat.reduceMul, Nat.reduceLeDiff, Nat.reduceLT, ty3, ty4, ty9, ty23, ty5, ty35, ty31, ty38, ty43, ty55, ty52, ty99]
    try simp only [onN, mvs0, true_and, dropN]
    refine ⟨?_, ?_, ?_⟩
    · try simp -implicitDefEqProofs only [dropN, stB_boxA, splice_all, List.all_cons, List.all_nil,
    evx, evy, ofValue, ofCell, List.range, List.range.loop, Array.size, Nat.reduceAdd, Nat.reduceSub, Nat.reduceEqDiff, List.replicate, if_true, if_false, ↓reduceIte, reduceCtorEq, elB, evParts, Int.reduceToNat, Int.reduceLE, Int.reduceLT, Int.reduceEq, Nat.reduceMul, Nat.reduceLeDiff, Nat.reduceLT, ty3, ty4, ty9, ty23, ty5, ty35, ty31, ty38, ty43, ty55, ty52, ty99]
      refine ⟨by omega, ?_⟩
      try simp only [onN, mvs0, true_and, dropN]
      try simp -implicitDefEqProofs only [dropN, stB_boxA, splice_all, List.all_cons, List.all_nil,
    evx, evy, ofValue, ofCell, List.range, List.range.loop, Array.size, Nat.reduceAdd, Nat.reduceSub, Nat.reduceEqDiff, List.replicate, if_true, if_false, ↓reduceIte, reduceCtorEq, elB, evParts, Int.reduceToNat, Int.reduceLE, Int.reduceLT, Int.reduceEq, Nat.reduceMul, Nat.reduceLeDiff, Nat.reduceLT, ty3, ty4, ty9, ty23, ty5, ty35, ty31, ty38, ty43, ty55, ty52, ty99]
      try simp only [onN, mvs0, true_and, dropN]
      refine ⟨?_, ?_⟩
      · try simp -implicitDefEqProofs only [dropN, stB_boxA, splice_all, List.all_cons, List.all_nil,
    evx, evy, ofValue, ofCell, List.range, List.range.loop, Array.size, Nat.reduceAdd, Nat.reduceSub, Nat.reduceEqDiff, List.replicate, if_true, if_false, ↓reduceIte, reduceCtorEq, elB, evParts, Int.reduceToNat, Int.reduceLE, Int.reduceLT, Int.reduceEq, Nat.reduceMul, Nat.reduceLeDiff, Nat.reduceLT, ty3, ty4, ty9, ty23, ty5, ty35, ty31, ty38, ty43, ty55, ty52, ty99]
        refine ⟨by omega, ?_⟩
        try simp only [onN, mvs0, true_and, dropN]
        try simp -implicitDefEqProofs only [dropN, stB_boxA, splice_all, List.all_cons, List.all_nil,
    evx, evy, ofValue, ofCell, List.range, List.range.loop, Array.size, Nat.reduceAdd, Nat.reduceSub, Nat.reduceEqDiff, List.replicate, if_true, if_false, ↓reduceIte, reduceCtorEq, elB, evParts, Int.reduceToNat, Int.reduceLE, Int.reduceLT, Int.reduceEq, Nat.reduceMul, Nat.reduceLeDiff, Nat.reduceLT, ty3, ty4, ty9, ty23, ty5, ty35, ty31, ty38, ty43, ty55, ty52, ty99]
        try simp only [onN, mvs0, true_and, dropN]
        refine ⟨?_, ?_⟩
        · try simp -implicitDefEqProofs only [dropN, stB_boxA, splice_all, List.all_cons, List.all_nil,
    evx, evy, ofValue, ofCell, List.range, List.range.loop, Array.size, Nat.reduceAdd, Nat.reduceSub, Nat.reduceEqDiff, List.replicate, if_true, if_false, ↓reduceIte, reduceCtorEq, elB, evParts, Int.reduceToNat, Int.reduceLE, Int.reduceLT, Int.reduceEq, Nat.reduceMul, Nat.reduceLeDiff, Nat.reduceLT, ty3, ty4, ty9, ty23, ty5, ty35, ty31, ty38, ty43, ty55, ty52, ty99]
          try simp only [onN, mvs0, true_and, dropN]
          try simp -implicitDefEqProofs only [dropN, stB_boxA, splice_all, List.all_cons, List.all_nil,
    evx, evy, ofValue, ofCell, List.range, List.range.loop, Array.size, Nat.reduceAdd, Nat.reduceSub, Nat.reduceEqDiff, List.replicate, if_true, if_false, ↓reduceIte, reduceCtorEq, elB, evParts, Int.reduceToNat, Int.reduceLE, Int.reduceLT, Int.reduceEq, Nat.reduceMul, Nat.reduceLeDiff, Nat.reduceLT, ty3, ty4, ty9, ty23, ty5, ty35, ty31, ty38, ty43, ty55, ty52, ty99]
          exact le_pk [0, 1, 4, 2, 3] rfl (by simp) (by simp) (by simp [subBlk, subAny, subA, subL, mkSub, idx]) (by simp [wk, subAny, subA, mkSub, idx])
        · try simp -implicitDefEqProofs only [dropN, stB_boxA, splice_all, List.all_cons, List.all_nil,
    evx, evy, ofValue, ofCell, List.range, List.range.loop, Array.size, Nat.reduceAdd, Nat.reduceSub, Nat.reduceEqDiff, List.replicate, if_true, if_false, ↓reduceIte, reduceCtorEq, elB, evParts, Int.reduceToNat, Int.reduceLE, Int.reduceLT, Int.reduceEq, Nat.reduceMul, Nat.reduceLeDiff, Nat.reduceLT, ty3, ty4, ty9, ty23, ty5, ty35, ty31, ty38, ty43, ty55, ty52, ty99]
          try simp only [onN, mvs0, true_and, dropN]
          try simp -implicitDefEqProofs only [dropN, stB_boxA, splice_all, List.all_cons, List.all_nil,
    evx, evy, ofValue, ofCell, List.range, List.range.loop, Array.size, Nat.reduceAdd, Nat.reduceSub, Nat.reduceEqDiff, List.replicate, if_true, if_false, ↓reduceIte, reduceCtorEq, elB, evParts, Int.reduceToNat, Int.reduceLE, Int.reduceLT, Int.reduceEq, Nat.reduceMul, Nat.reduceLeDiff, Nat.reduceLT, ty3, ty4, ty9, ty23, ty5, ty35, ty31, ty38, ty43, ty55, ty52, ty99]
          exact le_pk [0, 1, 4, 2, 3] rfl (by simp) (by simp) (by simp [subBlk, subAny, subA, subL, mkSub, idx]) (by simp [wk, subAny, subA, mkSub, idx])
      · try simp -implicitDefEqProofs only [dropN, stB_boxA, splice_all, List.all_cons, List.all_nil,
    evx, evy, ofValue, ofCell, List.range, List.range.loop, Array.size, Nat.reduceAdd, Nat.reduceSub, Nat.reduceEqDiff, List.replicate, if_true, if_false, ↓reduceIte, reduceCtorEq, elB, evParts, Int.reduceToNat, Int.reduceLE, Int.reduceLT, Int.reduceEq, Nat.reduceMul, Nat.reduceLeDiff, Nat.reduceLT, ty3, ty4, ty9, ty23, ty5, ty35, ty31, ty38, ty43, ty55, ty52, ty99]
        try simp only [onN, mvs0, true_and, dropN]
        try simp -implicitDefEqProofs only [dropN, stB_boxA, splice_all, List.all_cons, List.all_nil,
    evx, evy, ofValue, ofCell, List.range, List.range.loop, Array.size, Nat.reduceAdd, Nat.reduceSub, Nat.reduceEqDiff, List.replicate, if_true, if_false, ↓reduceIte, reduceCtorEq, elB, evParts, Int.reduceToNat, Int.reduceLE, Int.reduceLT, Int.reduceEq, Nat.reduceMul, Nat.reduceLeDiff, Nat.reduceLT, ty3, ty4, ty9, ty23, ty5, ty35, ty31, ty38, ty43, ty55, ty52, ty99]
        refine ⟨by omega, ?_⟩
        exact le_pk [0, 1, 3, 2, 4] rfl (by simp) (by simp) (by simp [subBlk, subAny, subA, subL, mkSub, idx]) (by simp [wk, subAny, subA, mkSub, idx])
    · try simp -implicitDefEqProofs only [dropN, stB_boxA, splice_all, List.all_cons, List.all_nil,
    evx, evy, ofValue, ofCell, List.range, List.range.loop, Array.size, Nat.reduceAdd, Nat.reduceSub, Nat.reduceEqDiff, List.replicate, if_true, if_false, ↓reduceIte, reduceCtorEq, elB, evParts, Int.reduceToNat, Int.reduceLE, Int.reduceLT, Int.reduceEq, Nat.reduceMul, Nat.reduceLeDiff, Nat.reduceLT, ty3, ty4, ty9, ty23, ty5, ty35, ty31, ty38, ty43, ty55, ty52, ty99]
      refine ⟨by omega, ?_⟩
      try simp only [onN, mvs0, true_and, dropN]
      try simp -implicitDefEqProofs only [dropN, stB_boxA, splice_all, List.all_cons, List.all_nil,
    evx, evy, ofValue, ofCell, List.range, List.range.loop, Array.size, Nat.reduceAdd, Nat.reduceSub, Nat.reduceEqDiff, List.replicate, if_true, if_false, ↓reduceIte, reduceCtorEq, elB, evParts, Int.reduceToNat, Int.reduceLE, Int.reduceLT, Int.reduceEq, Nat.reduceMul, Nat.reduceLeDiff, Nat.reduceLT, ty3, ty4, ty9, ty23, ty5, ty35, ty31, ty38, ty43, ty55, ty52, ty99]
      try simp only [onN, mvs0, true_and, dropN]
      refine ⟨?_, ?_⟩
      · try simp -implicitDefEqProofs only [dropN, stB_boxA, splice_all, List.all_cons, List.all_nil,
    evx, evy, ofValue, ofCell, List.range, List.range.loop, Array.size, Nat.reduceAdd, Nat.reduceSub, Nat.reduceEqDiff, List.replicate, if_true, if_false, ↓reduceIte, reduceCtorEq, elB, evParts, Int.reduceToNat, Int.reduceLE, Int.reduceLT, Int.reduceEq, Nat.reduceMul, Nat.reduceLeDiff, Nat.reduceLT, ty3, ty4, ty9, ty23, ty5, ty35, ty31, ty38, ty43, ty55, ty52, ty99]
        refine ⟨by omega, ?_⟩
        try simp only [onN, mvs0, true_and, dropN]
        try simp -implicitDefEqProofs only [dropN, stB_boxA, splice_all, List.all_cons, List.all_nil,
    evx, evy, ofValue, ofCell, List.range, List.range.loop, Array.size, Nat.reduceAdd, Nat.reduceSub, Nat.reduceEqDiff, List.replicate, if_true, if_false, ↓reduceIte, reduceCtorEq, elB, evParts, Int.reduceToNat, Int.reduceLE, Int.reduceLT, Int.reduceEq, Nat.reduceMul, Nat.reduceLeDiff, Nat.reduceLT, ty3, ty4, ty9, ty23, ty5, ty35, ty31, ty38, ty43, ty55, ty52, ty99]
        try simp only [onN, mvs0, true_and, dropN]
        refine ⟨?_, ?_⟩
        · try simp -implicitDefEqProofs only [dropN, stB_boxA, splice_all, List.all_cons, List.all_nil,
    evx, evy, ofValue, ofCell, List.range, List.range.loop, Array.size, Nat.reduceAdd, Nat.reduceSub, Nat.reduceEqDiff, List.replicate, if_true, if_false, ↓reduceIte, reduceCtorEq, elB, evParts, Int.reduceToNat, Int.reduceLE, Int.reduceLT, Int.reduceEq, Nat.reduceMul, Nat.reduceLeDiff, Nat.reduceLT, ty3, ty4, ty9, ty23, ty5, ty35, ty31, ty38, ty43, ty55, ty52, ty99]
          try simp only [onN, mvs0, true_and, dropN]
          try simp -implicitDefEqProofs only [dropN, stB_boxA, splice_all, List.all_cons, List.all_nil,
    evx, evy, ofValue, ofCell, List.range, List.range.loop, Array.size, Nat.reduceAdd, Nat.reduceSub, Nat.reduceEqDiff, List.replicate, if_true, if_false, ↓reduceIte, reduceCtorEq, elB, evParts, Int.reduceToNat, Int.reduceLE, Int.reduceLT, Int.reduceEq, Nat.reduceMul, Nat.reduceLeDiff, Nat.reduceLT, ty3, ty4, ty9, ty23, ty5, ty35, ty31, ty38, ty43, ty55, ty52, ty99]
          exact le_pk [0, 1, 4, 3, 2] rfl (by simp) (by simp) (by simp [subBlk, subAny, subA, subL, mkSub, idx]) (by simp [wk, subAny, subA, mkSub, idx])
        · try simp -implicitDefEqProofs only [dropN, stB_boxA, splice_all, List.all_cons, List.all_nil,
    evx, evy, ofValue, ofCell, List.range, List.range.loop, Array.size, Nat.reduceAdd, Nat.reduceSub, Nat.reduceEqDiff, List.replicate, if_true, if_false, ↓reduceIte, reduceCtorEq, elB, evParts, Int.reduceToNat, Int.reduceLE, Int.reduceLT, Int.reduceEq, Nat.reduceMul, Nat.reduceLeDiff, Nat.reduceLT, ty3, ty4, ty9, ty23, ty5, ty35, ty31, ty38, ty43, ty55, ty52, ty99]
          try simp only [onN, mvs0, true_and, dropN]
          try simp -implicitDefEqProofs only [dropN, stB_boxA, splice_all, List.all_cons, List.all_nil,
    evx, evy, ofValue, ofCell, List.range, List.range.loop, Array.size, Nat.reduceAdd, Nat.reduceSub, Nat.reduceEqDiff, List.replicate, if_true, if_false, ↓reduceIte, reduceCtorEq, elB, evParts, Int.reduceToNat, Int.reduceLE, Int.reduceLT, Int.reduceEq, Nat.reduceMul, Nat.reduceLeDiff, Nat.reduceLT, ty3, ty4, ty9, ty23, ty5, ty35, ty31, ty38, ty43, ty55, ty52, ty99]
          exact le_pk [0, 1, 4, 3, 2] rfl (by simp) (by simp) (by simp [subBlk, subAny, subA, subL, mkSub, idx]) (by simp [wk, subAny, subA, mkSub, idx])
      · try simp -implicitDefEqProofs only [dropN, stB_boxA, splice_all, List.all_cons, List.all_nil,
    evx, evy, ofValue, ofCell, List.range, List.range.loop, Array.size, Nat.reduceAdd, Nat.reduceSub, Nat.reduceEqDiff, List.replicate, if_true, if_false, ↓reduceIte, reduceCtorEq, elB, evParts, Int.reduceToNat, Int.reduceLE, Int.reduceLT, Int.reduceEq, Nat.reduceMul, Nat.reduceLeDiff, Nat.reduceLT, ty3, ty4, ty9, ty23, ty5, ty35, ty31, ty38, ty43, ty55, ty52, ty99]
        try simp only [onN, mvs0, true_and, dropN]
        try simp -implicitDefEqProofs only [dropN, stB_boxA, splice_all, List.all_cons, List.all_nil,
    evx, evy, ofValue, ofCell, List.range, List.range.loop, Array.size, Nat.reduceAdd, Nat.reduceSub, Nat.reduceEqDiff, List.replicate, if_true, if_false, ↓reduceIte, reduceCtorEq, elB, evParts, Int.reduceToNat, Int.reduceLE, Int.reduceLT, Int.reduceEq, Nat.reduceMul, Nat.reduceLeDiff, Nat.reduceLT, ty3, ty4, ty9, ty23, ty5, ty35, ty31, ty38, ty43, ty55, ty52, ty99]
        refine ⟨by omega, ?_⟩
        exact le_pk [0, 1, 3, 4, 2] rfl (by simp) (by simp) (by simp [subBlk, subAny, subA, subL, mkSub, idx]) (by simp [wk, subAny, subA, mkSub, idx])
    · try simp -implicitDefEqProofs only [dropN, stB_boxA, splice_all, List.all_cons, List.all_nil,
    evx, evy, ofValue, ofCell, List.range, List.range.loop, Array.size, Nat.reduceAdd, Nat.reduceSub, Nat.reduceEqDiff, List.replicate, if_true, if_false, ↓reduceIte, reduceCtorEq, elB, evParts, Int.reduceToNat, Int.reduceLE, Int.reduceLT, Int.reduceEq, Nat.reduceMul, Nat.reduceLeDiff, Nat.reduceLT, ty3, ty4, ty9, ty23, ty5, ty35, ty31, ty38, ty43, ty55, ty52, ty99]
      try simp only [onN, mvs0, true_and, dropN]
      try simp -implicitDefEqProofs only [dropN, stB_boxA, splice_all, List.all_cons, List.all_nil,
    evx, evy, ofValue, ofCell, List.range, List.range.loop, Array.size, Nat.reduceAdd, Nat.reduceSub, Nat.reduceEqDiff, List.replicate, if_true, if_false, ↓reduceIte, reduceCtorEq, elB, evParts, Int.reduceToNat, Int.reduceLE, Int.reduceLT, Int.reduceEq, Nat.reduceMul, Nat.reduceLeDiff, Nat.reduceLT, ty3, ty4, ty9, ty23, ty5, ty35, ty31, ty38, ty43, ty55, ty52, ty99]
      try simp only [onN, mvs0, true_and, dropN]
      refine ⟨?_, ?_⟩
      · try simp -implicitDefEqProofs only [dropN, stB_boxA, splice_all, List.all_cons, List.all_nil,
    evx, evy, ofValue, ofCell, List.range, List.range.loop, Array.size, Nat.reduceAdd, Nat.reduceSub, Nat.reduceEqDiff, List.replicate, if_true, if_false, ↓reduceIte, reduceCtorEq, elB, evParts, Int.reduceToNat, Int.reduceLE, Int.reduceLT, Int.reduceEq, Nat.reduceMul, Nat.reduceLeDiff, Nat.reduceLT, ty3, ty4, ty9, ty23, ty5, ty35, ty31, ty38, ty43, ty55, ty52, ty99]
        refine ⟨by omega, ?_⟩
        try simp only [onN, mvs0, true_and, dropN]
        try simp -implicitDefEqProofs only [dropN, stB_boxA, splice_all, List.all_cons, List.all_nil,
    evx, evy, ofValue, ofCell, List.range, List.range.loop, Array.size, Nat.reduceAdd, Nat.reduceSub, Nat.reduceEqDiff, List.replicate, if_true, if_false, ↓reduceIte, reduceCtorEq, elB, evParts, Int.reduceToNat, Int.reduceLE, Int.reduceLT, Int.reduceEq, Nat.reduceMul, Nat.reduceLeDiff, Nat.reduceLT, ty3, ty4, ty9, ty23, ty5, ty35, ty31, ty38, ty43, ty55, ty52, ty99]
        refine ⟨by omega, ?_⟩
        exact le_pk [0, 1, 2, 3, 4] rfl (by simp) (by simp) (by simp [subBlk, subAny, subA, subL, mkSub, idx]) (by simp [wk, subAny, subA, mkSub, idx])
      · try simp -implicitDefEqProofs only [dropN, stB_boxA, splice_all, List.all_cons, List.all_nil,
    evx, evy, ofValue, ofCell, List.range, List.range.loop, Array.size, Nat.reduceAdd, Nat.reduceSub, Nat.reduceEqDiff, List.replicate, if_true, if_false, ↓reduceIte, reduceCtorEq, elB, evParts, Int.reduceToNat, Int.reduceLE, Int.reduceLT, Int.reduceEq, Nat.reduceMul, Nat.reduceLeDiff, Nat.reduceLT, ty3, ty4, ty9, ty23, ty5, ty35, ty31, ty38, ty43, ty55, ty52, ty99]
        refine ⟨by omega, ?_⟩
        try simp only [onN, mvs0, true_and, dropN]
        try simp -implicitDefEqProofs only [dropN, stB_boxA, splice_all, List.all_cons, List.all_nil,
    evx, evy, ofValue, ofCell, List.range, List.range.loop, Array.size, Nat.reduceAdd, Nat.reduceSub, Nat.reduceEqDiff, List.replicate, if_true, if_false, ↓reduceIte, reduceCtorEq, elB, evParts, Int.reduceToNat, Int.reduceLE, Int.reduceLT, Int.reduceEq, Nat.reduceMul, Nat.reduceLeDiff, Nat.reduceLT, ty3, ty4, ty9, ty23, ty5, ty35, ty31, ty38, ty43, ty55, ty52, ty99]
        refine ⟨by omega, ?_⟩
        exact le_pk [0, 1, 2, 4, 3] rfl (by simp) (by simp) (by simp [subBlk, subAny, subA, subL, mkSub, idx]) (by simp [wk, subAny, subA, mkSub, idx])
  · have tl : (l.take n).length = n := by rw [List.length_take]; omega
    have m1 : min (l.map tokRow).length n = n := by rw [List.length_map]; omega
    have m2 : min (l.map seenRow).length n = n := by rw [List.length_map]; omega
    have s1 : splice (List.replicate n [FV.int .i64 0, .int .i64 0, .int .i64 0]) 0 ((l.map tokRow).take n) = some ((l.take n).map tokRow) := by
      rw [← List.map_take]
      exact splice_repl n _ _ (by rw [List.length_map]; exact tl)
    have s2 : splice (List.replicate n [FV.int .i64 0]) 0 ((l.map seenRow).take n) = some ((l.take n).map seenRow) := by
      rw [← List.map_take]
      exact splice_repl n _ _ (by rw [List.length_map]; exact tl)
    simp -implicitDefEqProofs only [opK_copy, cp_red ty31 ty31 ty35 (by omega : 0 < 3), cp_red ty23 ty23 ty3 (by omega : 0 < 1), cpB_plain, m1, m2, s1, s2, stB_boxA, splice_all, List.all_cons, List.all_nil, Bool.and_self,
    evx, evy, ofValue, ofCell, List.range, List.range.loop, Array.size, Nat.reduceAdd, Nat.reduceSub, Nat.reduceEqDiff, List.replicate, if_true, if_false, ↓reduceIte, reduceCtorEq, elB, evParts, Int.reduceToNat, Int.reduceLE, Int.reduceLT, Int.reduceEq, Nat.reduceMul, Nat.reduceLeDiff, Nat.reduceLT, ty3, ty4, ty9, ty23, ty5, ty35, ty31, ty38, ty43, ty55, ty52, ty99]
    exact le_to [3, 4] [] rfl (by simp) (by simp) (by simp) (by simp) (by simp [subSt, subAny, subA, subL, mkSub, idx, subBlk])
end Go.Abs
/- The old tokens put behind, moved. -/
namespace Go.Abs
open Go.Proofs
set_option linter.unusedVariables false
set_option linter.unusedSimpArgs false
set_option maxRecDepth 100000
set_option maxHeartbeats 4000000
def finMoved (b x : Int) : Int := if 0 ≤ x then x + b else -1
def movedL (k : List Tok) (i j : Nat) (b : Int) : List Tok := ((k.drop i).take (j - i)).map (movedT b)
theorem movedL_self (k : List Tok) (i : Nat) (b : Int) : movedL k i i b = [] := by simp [movedL]
theorem movedL_step (k : List Tok) (i j : Nat) (b : Int) (hij : i ≤ j) (hj : j < k.length) : movedL k i (j + 1) b = movedL k i j b ++ [movedT b k[j]] := by
  unfold movedL
  have h1 : j + 1 - i = (j - i) + 1 := by omega
  have h2 : j - i < (k.drop i).length := by rw [List.length_drop]; omega
  rw [h1, List.take_succ_eq_append_getElem h2, List.map_append, List.getElem_drop]
  have h3 : i + (j - i) = j := by omega
  simp [h3]
theorem movedL_all (k : List Tok) (i : Nat) (b : Int) (hi : i ≤ k.length) : movedL k i k.length b = (k.drop i).map (movedT b) := by
  unfold movedL
  rw [List.take_of_length_le (by rw [List.length_drop]; exact Nat.le_refl _)]
def jst (p : List Tok) (k : List Tok × Int) (b : Int) (i : Nat) : Option Nat → St
  | none => ⟨[.any, .any, .any, .fv (.int .i64 b), .ptr 2 0 0 0, .ptr 3 0 0 0, .any, .any, .ptr 4 0 0 0, .fv (.int .i64 i), .any, .any, .any, .any, .any, .any, .any, .any, .any, .any, .any, .any, .any, .any, .any, .any, .any, .any, .any, .any, .any, .any, .any, .any, .any, .any, .any, .any, .any, .any, .any, .any, .any, .any, .any, .any, .any, .any, .any, .any, .any, .any, .any, .any, .any, .any],
      [.plain 3 (p.map tokRow), .plain 1 (p.map seenRow), .box [.ref 0 3 0 p.length, .ref 1 1 0 p.length, .fv (.int .i64 (-1))], .box [.fv (.lst 3 (k.1.map tokRow)), .fv (.lst 1 (k.1.map seenRow)), .fv (.int .i64 k.2)], .box [.fv .nils, .fv .nils, .fv (.int .i64 0)]], []⟩
  | some j => ⟨[.any, .any, .any, .fv (.int .i64 b), .ptr 2 0 0 0, .ptr 3 0 0 0, .any, .any, .ptr 4 0 0 0, .fv (.int .i64 j), .any, .any, .any, .any, .any, .any, .any, .any, .any, .any, .any, .any, .any, .any, .any, .any, .any, .any, .any, .any, .any, .any, .any, .any, .any, .any, .any, .any, .any, .any, .any, .any, .any, .any, .any, .any, .any, .any, .any, .any, .any, .any, .any, .any, .any, .any],
      [.dead, .dead, .box [.ref 5 3 0 (p ++ movedL k.1 i j b).length, .ref 6 1 0 (p ++ movedL k.1 i j b).length, .fv (.int .i64 (-1))], .box [.fv (.lst 3 (k.1.map tokRow)), .fv (.lst 1 (k.1.map seenRow)), .fv (.int .i64 k.2)], .box [.fv .nils, .fv .nils, .fv (.int .i64 0)],
        .plain 3 ((p ++ movedL k.1 i j b).map tokRow), .plain 1 ((p ++ movedL k.1 i j b).map seenRow)], []⟩
theorem ok48 (p : List Tok) (k : List Tok × Int) (i : Nat) (b : Int) (hp : p.length ≤ 1000000) (hi : i < k.1.length) (hk : k.1.length ≤ 1000000) (hb : -1000000 ≤ b ∧ b ≤ 1000000)
    (ht : ∀ t ∈ k.1, t.at_ ≤ 1000000 ∧ t.seen ≤ 1000001) (hm : ∀ (j : Nat) (t : Tok), k.1[j]? = some t → i ≤ j → 0 ≤ (t.at_ : Int) + b ∧ 0 ≤ (t.seen : Int) + b) (hf : k.2 ≤ 1000000) :
    Ok Tryz.prog 48 [.agg [.ref 0 3 0 p.length, .ref 1 1 0 p.length, .fv (.int .i64 (-1))], lexedA k, .fv (.int .i64 i), .fv (.int .i64 b)] [.plain 3 (p.map tokRow), .plain 1 (p.map seenRow)]
      (.ret (lexedA (p ++ (k.1.drop i).map (movedT b), finMoved b k.2))) [.dead, .dead] := by
  refine ok_start (k := 52) (n0 := 2) (rs := [.cell 8 55]) mix Tryz.func48 rfl rfl rfl rfl rfl rfl rfl ?_
  simp -implicitDefEqProofs only [awp_draw _ _ Tryzdr48_7, lexedA, stB_boxA, splice_all, List.all_cons, List.all_nil, Bool.and_self,
    evx, evy, ofValue, ofCell, List.range, List.range.loop, Array.size, Nat.reduceAdd, Nat.reduceSub, Nat.reduceEqDiff, List.replicate, if_true, if_false, ↓reduceIte, reduceCtorEq, elB, evParts, Int.reduceToNat, Int.reduceLE, Int.reduceLT, Int.reduceEq, Nat.reduceMul, Nat.reduceLeDiff, Nat.reduceLT, ty3, ty4, ty9, ty23, ty5, ty35, ty31, ty38, ty43, ty55, ty52, ty99]
  refine loop_rule (jst p k b i) (fun x => match x with | none => True | some j => i < j ∧ j ≤ k.1.length) (fun x => match x with | none => k.1.length + 1 | some j => k.1.length - j) none (le_wk (by simp [wk])) trivial (fun x hx st hst => ?_)
  cases x with
  | none =>
    have hr := rows_at tokRow k.1 i hi
    have hs := rows_at seenRow k.1 i hi
    have hti := ht _ (List.getElem_mem hi)
    have hmi := hm i _ (List.getElem?_eq_getElem hi) (Nat.le_refl _)
    have hst2 := movedL_step k.1 i i b (Nat.le_refl _) hi
    rw [movedL_self, List.nil_append] at hst2
    generalize k.1[i] = t at hr hs hti hmi hst2
    have w1 : IntKind.wrap .i64 ((t.at_ : Int) + b) = (((t.at_ : Int) + b).toNat : Int) := by rw [wrap_small (by omega) (by omega)]; omega
    have w2 : IntKind.wrap .i64 ((t.seen : Int) + b) = (((t.seen : Int) + b).toNat : Int) := by rw [wrap_small (by omega) (by omega)]; omega
    have e1 := tok_snoc p (movedT b t)
    have e2 := seen_snoc p (movedT b t)
    simp only [movedT] at e1 e2
    have tk1 : List.take p.length (p.map tokRow) = p.map tokRow := by rw [← List.length_map tokRow, List.take_length]
    have tk2 : List.take p.length (p.map seenRow) = p.map seenRow := by rw [← List.length_map seenRow, List.take_length]
    show awp _ _ _ _ ⟨_, _, _⟩
    simp -implicitDefEqProofs only [awp_draw _ _ Tryzdr48_7, List.length_map, lt_true hi, hr, tokRow, stB_boxA, splice_all, List.all_cons, List.all_nil, Bool.and_self, w1, bsE_tok, le_true (Nat.le_refl p.length), hs, seenRow, w2, wsucc i (by omega),
    evx, evy, ofValue, ofCell, List.range, List.range.loop, Array.size, Nat.reduceAdd, Nat.reduceSub, Nat.reduceEqDiff, List.replicate, if_true, if_false, ↓reduceIte, reduceCtorEq, elB, evParts, Int.reduceToNat, Int.reduceLE, Int.reduceLT, Int.reduceEq, Nat.reduceMul, Nat.reduceLeDiff, Nat.reduceLT, ty3, ty4, ty9, ty23, ty5, ty35, ty31, ty38, ty43, ty55, ty52, ty99]
    refine ⟨by omega, by omega, by kernel_rfl, by kernel_rfl, ?_⟩
    refine back_intro hst (some (i + 1)) ?_ ⟨by omega, by omega⟩ (by simp only; omega)
    show Le 2 ⟨_, _, _⟩ ⟨_, _, _⟩
    refine le_pk [0, 1, 2, 3, 4, 7, 9] rfl (by simp) (by simp) ?_ ?_
    · simp only [hst2]
      simp [subBlk, subAny, subA, mkSub, idx, tk1, tk2, movedT, ← e1, ← e2]
    · simp [wk, subAny, subA, mkSub, idx]
  | some j =>
    obtain ⟨hj1, hj2⟩ := hx
    have hml : (p ++ movedL k.1 i j b).length ≤ p.length + k.1.length := by
      rw [List.length_append]
      unfold movedL
      rw [List.length_map, List.length_take, List.length_drop]
      omega
    by_cases hlt : j < k.1.length
    · have hr := rows_at tokRow k.1 j hlt
      have hs := rows_at seenRow k.1 j hlt
      have hti := ht _ (List.getElem_mem hlt)
      have hmi := hm j _ (List.getElem?_eq_getElem hlt) (by omega)
      have hst2 := movedL_step k.1 i j b (by omega) hlt
      generalize k.1[j] = t at hr hs hti hmi hst2
      have hst3 : p ++ movedL k.1 i (j + 1) b = (p ++ movedL k.1 i j b) ++ [movedT b t] := by rw [hst2, List.append_assoc]
      have w1 : IntKind.wrap .i64 ((t.at_ : Int) + b) = (((t.at_ : Int) + b).toNat : Int) := by rw [wrap_small (by omega) (by omega)]; omega
      have w2 : IntKind.wrap .i64 ((t.seen : Int) + b) = (((t.seen : Int) + b).toNat : Int) := by rw [wrap_small (by omega) (by omega)]; omega
      show awp _ _ _ _ ⟨_, _, _⟩
      generalize hq : p ++ movedL k.1 i j b = q at hst3 hml
      have e1 := tok_snoc q (movedT b t)
      have e2 := seen_snoc q (movedT b t)
      simp only [movedT] at e1 e2
      have tk1 : List.take q.length (q.map tokRow) = q.map tokRow := by rw [← List.length_map tokRow, List.take_length]
      have tk2 : List.take q.length (q.map seenRow) = q.map seenRow := by rw [← List.length_map seenRow, List.take_length]
      simp -implicitDefEqProofs only [awp_draw _ _ Tryzdr48_7, List.length_map, lt_true hlt, hr, tokRow, stB_boxA, splice_all, List.all_cons, List.all_nil, Bool.and_self, w1, bsE_tok, le_true (Nat.le_refl q.length), hs, seenRow, w2, wsucc j (by omega),
    evx, evy, ofValue, ofCell, List.range, List.range.loop, Array.size, Nat.reduceAdd, Nat.reduceSub, Nat.reduceEqDiff, List.replicate, if_true, if_false, ↓reduceIte, reduceCtorEq, elB, evParts, Int.reduceToNat, Int.reduceLE, Int.reduceLT, Int.reduceEq, Nat.reduceMul, Nat.reduceLeDiff, Nat.reduceLT, ty3, ty4, ty9, ty23, ty5, ty35, ty31, ty38, ty43, ty55, ty52, ty99]
      refine ⟨by omega, by omega, by kernel_rfl, by kernel_rfl, ?_⟩
      refine back_intro hst (some (j + 1)) ?_ ⟨by omega, by omega⟩ (by simp only; omega)
      show Le 2 ⟨_, _, _⟩ ⟨_, _, _⟩
      refine le_pk [0, 1, 2, 3, 4, 9, 11] rfl (by simp) (by simp) ?_ ?_
      · simp only [hst3]
        simp [subBlk, subAny, subA, mkSub, idx, tk1, tk2, movedT, ← e1, ← e2]
      · simp [wk, subAny, subA, mkSub, idx]
    · obtain rfl : j = k.1.length := by omega
      show awp _ _ _ _ ⟨_, _, _⟩
      rw [movedL_all k.1 i b (by omega)] at hml ⊢
      generalize p ++ (k.1.drop i).map (movedT b) = q at hml
      have fin : ∀ f : Int, f = finMoved b k.2 → Le 2 ⟨[.agg [.ref 5 3 0 q.length, .ref 6 1 0 q.length, .fv (.int .i64 f)]], [.dead, .dead, .box [.ref 5 3 0 q.length, .ref 6 1 0 q.length, .fv (.int .i64 f)], .box [.fv (.lst 3 (k.1.map tokRow)), .fv (.lst 1 (k.1.map seenRow)), .fv (.int .i64 k.2)], .box [.ref 5 3 0 q.length, .ref 6 1 0 q.length, .fv (.int .i64 f)],
          .plain 3 (q.map tokRow), .plain 1 (q.map seenRow)], []⟩ ⟨[lexedA (q, finMoved b k.2)], [.dead, .dead], []⟩ := fun f hf => by
        subst hf
        refine le_to [0, 1] [5, 6] rfl (by simp) (by simp) (by simp) (fun i hi => by simp at hi; rcases hi with rfl | rfl <;> exact ⟨_, _, rfl⟩) ?_
        simp [subSt, subAny, subA, subL, mkSub, idx, subBlk, lexedA, List.take_of_length_le]
      by_cases hf0 : 0 ≤ k.2
      · have hft : (0 ≤ k.2) = True := eq_true hf0
        have wf : IntKind.wrap .i64 (k.2 + b) = k.2 + b := wrap_small (by omega) (by omega)
        simp -implicitDefEqProofs only [awp_draw _ _ Tryzdr48_7, List.length_map, lt_false hlt, hft, wf, stB_boxA, splice_all, List.all_cons, List.all_nil, Bool.and_self,
    evx, evy, ofValue, ofCell, List.range, List.range.loop, Array.size, Nat.reduceAdd, Nat.reduceSub, Nat.reduceEqDiff, List.replicate, if_true, if_false, ↓reduceIte, reduceCtorEq, elB, evParts, Int.reduceToNat, Int.reduceLE, Int.reduceLT, Int.reduceEq, Nat.reduceMul, Nat.reduceLeDiff, Nat.reduceLT, ty3, ty4, ty9, ty23, ty5, ty35, ty31, ty38, ty43, ty55, ty52, ty99]
        exact fin _ (by unfold finMoved; rw [if_pos hf0])
      · have hft : (0 ≤ k.2) = False := eq_false hf0
        simp -implicitDefEqProofs only [awp_draw _ _ Tryzdr48_7, List.length_map, lt_false hlt, hft, stB_boxA, splice_all, List.all_cons, List.all_nil, Bool.and_self,
    evx, evy, ofValue, ofCell, List.range, List.range.loop, Array.size, Nat.reduceAdd, Nat.reduceSub, Nat.reduceEqDiff, List.replicate, if_true, if_false, ↓reduceIte, reduceCtorEq, elB, evParts, Int.reduceToNat, Int.reduceLE, Int.reduceLT, Int.reduceEq, Nat.reduceMul, Nat.reduceLeDiff, Nat.reduceLT, ty3, ty4, ty9, ty23, ty5, ty35, ty31, ty38, ty43, ty55, ty52, ty99]
        exact fin _ (by unfold finMoved; rw [if_neg hf0])
end Go.Abs
