/- May a text be a name: the program's answer and the document's. -/
import Derived.Test.YtckpaaeilbgiiaaGreatTyTryz
import Derived.Test.YtckpaaeilbgiiaaGreatDrTryz
import Derived.Test.YtckpaaeilbgiiaaGreatAbsTree
import Derived.Test.YtckpaaeilbgiiaaGreatAbsDeep
import Derived.Test.YtckpaaeilbgiiaaGreatCkC
namespace Go.Abs
open Go.Proofs
set_option linter.unusedVariables false
set_option linter.unusedSimpArgs false
set_option maxRecDepth 100000
set_option maxHeartbeats 1000000
theorem eql_str {P : Program} {T : TypeId} {one : Bool} (x y : List UInt8) : binA P .eql T one (.fv (.str x)) (.fv (.str y)) = some (.fv (.bool (x == y))) := rfl
def ixS (l : List Bs) (x : Bs) : Int := if x ∈ l then (l.idxOf x : Int) else -1
theorem ixS_at {l : List Bs} {x : Bs} {i : Nat} (hi : i < l.length) (hno : x ∉ l.take i) (he : l[i] = x) : ixS l x = i := by
  have hm : x ∈ l := he ▸ List.getElem_mem hi
  unfold ixS
  rw [if_pos hm]
  have h1 : l = l.take i ++ l[i] :: l.drop (i + 1) := by rw [← List.drop_eq_getElem_cons hi, List.take_append_drop]
  rw [h1, List.idxOf_append, if_neg hno, he, List.idxOf_cons_self, List.length_take]
  omega
theorem ok62 (l : List Bs) (x : Bs) (hl : l.length ≤ 100000) : Ok Tryz.prog 62 [.fv (.lst 1 (l.map sRow)), .fv (.str x)] [] (.ret (.fv (.int .i64 (ixS l x)))) [] := by
  refine ok_start (k := 17) (n0 := 0) (rs := [.tmp 4]) mix Tryz.func62 rfl rfl rfl rfl rfl rfl rfl ?_
  simp -implicitDefEqProofs only [List.length_map,
    evx, evy, ofValue, ofCell, List.range, List.range.loop, Array.size, Nat.reduceAdd, Nat.reduceSub, Nat.reduceEqDiff, List.replicate, if_true, if_false, ↓reduceIte, reduceCtorEq, elB, evParts, Int.reduceToNat, Int.reduceLE, Int.reduceLT, Int.reduceEq, Nat.reduceMul, Nat.reduceLeDiff, Nat.reduceLT, ty3, ty4, ty9, ty5, ty58, ty105, ty30, ty23]
  refine loop_rule (fun i : Nat => ⟨[.fv (.lst 1 (l.map sRow)), .fv (.str x), .any, .any, .any, .any, .any, .fv (.int .i64 l.length), .fv (.int .i64 i), .any, .any, .any, .any, .any, .any, .any, .any, .any, .any], [], []⟩)
    (fun i => i ≤ l.length ∧ x ∉ l.take i) (fun i => l.length - i) 0 (le_none (by simp [wk]) rfl) (by simp) (fun i hi s hs2 => ?_)
  obtain ⟨hi, hno⟩ := hi
  by_cases hlt : i < l.length
  · have hr := rows_at sRow l i hlt
    have hat := ixS_at hlt hno
    have htk : l.take (i + 1) = l.take i ++ [l[i]] := by rw [List.take_add_one, List.getElem?_eq_getElem hlt]; rfl
    generalize l[i] = y at hr hat htk
    cases hxy : x == y with
    | true =>
      have e : y = x := (eq_of_beq hxy).symm
      simp -implicitDefEqProofs only [List.length_map, lt_true hlt, hr, sRow, eql_str, hxy,
    evx, evy, ofValue, ofCell, List.range, List.range.loop, Array.size, Nat.reduceAdd, Nat.reduceSub, Nat.reduceEqDiff, List.replicate, if_true, if_false, ↓reduceIte, reduceCtorEq, elB, evParts, Int.reduceToNat, Int.reduceLE, Int.reduceLT, Int.reduceEq, Nat.reduceMul, Nat.reduceLeDiff, Nat.reduceLT, ty3, ty4, ty9, ty5, ty58, ty105, ty30, ty23]
      rw [hat e]
      exact le_flat rfl
    | false =>
      simp -implicitDefEqProofs only [List.length_map, lt_true hlt, hr, sRow, eql_str, hxy, wsucc i (by omega),
    evx, evy, ofValue, ofCell, List.range, List.range.loop, Array.size, Nat.reduceAdd, Nat.reduceSub, Nat.reduceEqDiff, List.replicate, if_true, if_false, ↓reduceIte, reduceCtorEq, elB, evParts, Int.reduceToNat, Int.reduceLE, Int.reduceLT, Int.reduceEq, Nat.reduceMul, Nat.reduceLeDiff, Nat.reduceLT, ty3, ty4, ty9, ty5, ty58, ty105, ty30, ty23]
      refine back_intro hs2 (i + 1) (le_none ?_ rfl) ⟨by omega, ?_⟩ (by omega)
      · simp [wk]
      · rw [htk]
        simp only [List.mem_append, List.mem_singleton, not_or]
        exact ⟨hno, by simpa using hxy⟩
  · obtain rfl : i = l.length := by omega
    rw [List.take_length] at hno
    simp -implicitDefEqProofs only [List.length_map, lt_false hlt,
    evx, evy, ofValue, ofCell, List.range, List.range.loop, Array.size, Nat.reduceAdd, Nat.reduceSub, Nat.reduceEqDiff, List.replicate, if_true, if_false, ↓reduceIte, reduceCtorEq, elB, evParts, Int.reduceToNat, Int.reduceLE, Int.reduceLT, Int.reduceEq, Nat.reduceMul, Nat.reduceLeDiff, Nat.reduceLT, ty3, ty4, ty9, ty5, ty58, ty105, ty30, ty23]
    rw [ixS, if_neg hno]
    exact le_flat rfl
theorem ok65 (l : List Bs) (x : Bs) (hl : l.length ≤ 100000) : Ok Tryz.prog 65 [.fv (.lst 1 (l.map sRow)), .fv (.str x)] [] (.ret (.fv (.bool (l.contains x)))) [] := by
  refine ok_start (k := 7) (n0 := 0) (rs := [.tmp 4]) mix Tryz.func65 rfl rfl rfl rfl rfl rfl rfl ?_
  simp -implicitDefEqProofs only [evx, evy, ofValue, ofCell, List.range, List.range.loop, Array.size, Nat.reduceAdd, Nat.reduceSub, Nat.reduceEqDiff, List.replicate, if_true, if_false, ↓reduceIte, reduceCtorEq, elB, evParts, Int.reduceToNat, Int.reduceLE, Int.reduceLT, Int.reduceEq, Nat.reduceMul, Nat.reduceLeDiff, Nat.reduceLT, ty3, ty4, ty9, ty5, ty58, ty105, ty30, ty23]
  refine callK_ret _ _ _ _ (call_pure (ok62 l x hl) (fun _ => rfl) (fun _ => rfl)) (ok_nil _ _) ?_
  by_cases h : x ∈ l
  · have hc : l.contains x = true := by simpa using h
    have h0 : (0 ≤ ixS l x) = True := by unfold ixS; rw [if_pos h]; simp
    simp -implicitDefEqProofs only [h0, hc,
    evx, evy, ofValue, ofCell, List.range, List.range.loop, Array.size, Nat.reduceAdd, Nat.reduceSub, Nat.reduceEqDiff, List.replicate, if_true, if_false, ↓reduceIte, reduceCtorEq, elB, evParts, Int.reduceToNat, Int.reduceLE, Int.reduceLT, Int.reduceEq, Nat.reduceMul, Nat.reduceLeDiff, Nat.reduceLT, ty3, ty4, ty9, ty5, ty58, ty105, ty30, ty23]
    exact le_flat rfl
  · have hc : l.contains x = false := by simpa using h
    have h0 : (0 ≤ ixS l x) = False := by unfold ixS; rw [if_neg h]; simp
    simp -implicitDefEqProofs only [h0, hc,
    evx, evy, ofValue, ofCell, List.range, List.range.loop, Array.size, Nat.reduceAdd, Nat.reduceSub, Nat.reduceEqDiff, List.replicate, if_true, if_false, ↓reduceIte, reduceCtorEq, elB, evParts, Int.reduceToNat, Int.reduceLE, Int.reduceLT, Int.reduceEq, Nat.reduceMul, Nat.reduceLeDiff, Nat.reduceLT, ty3, ty4, ty9, ty5, ty58, ty105, ty30, ty23]
    exact le_flat rfl
theorem ok80 (s : Bs) : Ok Tryz.prog 80 [.fv (.str s)] [] (.ret (.fv (.bool (resB s)))) [] := by
  refine ok_start (k := 24) (n0 := 0) (rs := [.tmp 2]) mix Tryz.func80 rfl rfl rfl rfl rfl rfl rfl ?_
  have hr : resB s = (s == [116, 111, 107, 101, 110] || s == [115, 107, 105, 112] || s == [108, 101, 102, 116] || s == [114, 105, 103, 104, 116] || s == [110, 111, 110, 101] || s == [115, 116, 97, 114, 116]) := by
    simp only [resB, reserved, List.contains_cons, List.contains_nil, Bool.or_false, Bool.or_assoc]
  rw [hr]
  cases h1 : s == [116, 111, 107, 101, 110] with
  | true =>
    simp -implicitDefEqProofs only [eql_str, h1,
    evx, evy, ofValue, ofCell, List.range, List.range.loop, Array.size, Nat.reduceAdd, Nat.reduceSub, Nat.reduceEqDiff, List.replicate, if_true, if_false, ↓reduceIte, reduceCtorEq, elB, evParts, Int.reduceToNat, Int.reduceLE, Int.reduceLT, Int.reduceEq, Nat.reduceMul, Nat.reduceLeDiff, Nat.reduceLT, ty3, ty4, ty9, ty5, ty58, ty105, ty30, ty23]
    exact le_flat rfl
  | false =>
  cases h2 : s == [115, 107, 105, 112] with
  | true =>
    simp -implicitDefEqProofs only [eql_str, h1, h2,
    evx, evy, ofValue, ofCell, List.range, List.range.loop, Array.size, Nat.reduceAdd, Nat.reduceSub, Nat.reduceEqDiff, List.replicate, if_true, if_false, ↓reduceIte, reduceCtorEq, elB, evParts, Int.reduceToNat, Int.reduceLE, Int.reduceLT, Int.reduceEq, Nat.reduceMul, Nat.reduceLeDiff, Nat.reduceLT, ty3, ty4, ty9, ty5, ty58, ty105, ty30, ty23]
    exact le_flat rfl
  | false =>
  cases h3 : s == [108, 101, 102, 116] with
  | true =>
    simp -implicitDefEqProofs only [eql_str, h1, h2, h3,
    evx, evy, ofValue, ofCell, List.range, List.range.loop, Array.size, Nat.reduceAdd, Nat.reduceSub, Nat.reduceEqDiff, List.replicate, if_true, if_false, ↓reduceIte, reduceCtorEq, elB, evParts, Int.reduceToNat, Int.reduceLE, Int.reduceLT, Int.reduceEq, Nat.reduceMul, Nat.reduceLeDiff, Nat.reduceLT, ty3, ty4, ty9, ty5, ty58, ty105, ty30, ty23]
    exact le_flat rfl
  | false =>
  cases h4 : s == [114, 105, 103, 104, 116] with
  | true =>
    simp -implicitDefEqProofs only [eql_str, h1, h2, h3, h4,
    evx, evy, ofValue, ofCell, List.range, List.range.loop, Array.size, Nat.reduceAdd, Nat.reduceSub, Nat.reduceEqDiff, List.replicate, if_true, if_false, ↓reduceIte, reduceCtorEq, elB, evParts, Int.reduceToNat, Int.reduceLE, Int.reduceLT, Int.reduceEq, Nat.reduceMul, Nat.reduceLeDiff, Nat.reduceLT, ty3, ty4, ty9, ty5, ty58, ty105, ty30, ty23]
    exact le_flat rfl
  | false =>
  cases h5 : s == [110, 111, 110, 101] with
  | true =>
    simp -implicitDefEqProofs only [eql_str, h1, h2, h3, h4, h5,
    evx, evy, ofValue, ofCell, List.range, List.range.loop, Array.size, Nat.reduceAdd, Nat.reduceSub, Nat.reduceEqDiff, List.replicate, if_true, if_false, ↓reduceIte, reduceCtorEq, elB, evParts, Int.reduceToNat, Int.reduceLE, Int.reduceLT, Int.reduceEq, Nat.reduceMul, Nat.reduceLeDiff, Nat.reduceLT, ty3, ty4, ty9, ty5, ty58, ty105, ty30, ty23]
    exact le_flat rfl
  | false =>
    simp -implicitDefEqProofs only [eql_str, h1, h2, h3, h4, h5,
    evx, evy, ofValue, ofCell, List.range, List.range.loop, Array.size, Nat.reduceAdd, Nat.reduceSub, Nat.reduceEqDiff, List.replicate, if_true, if_false, ↓reduceIte, reduceCtorEq, elB, evParts, Int.reduceToNat, Int.reduceLE, Int.reduceLT, Int.reduceEq, Nat.reduceMul, Nat.reduceLeDiff, Nat.reduceLT, ty3, ty4, ty9, ty5, ty58, ty105, ty30, ty23]
    exact le_flat rfl
theorem bsE_6 (b : Nat) (dd : TypeDesc) (zz x1 x2 x3 x4 x5 x6 : FV) (h : List Blk) : bsE (some ⟨dd, 1, b, some [zz]⟩) 6 h (some [(0, .fv x1), (1, .fv x2), (2, .fv x3), (3, .fv x4), (4, .fv x5), (5, .fv x6)]) = some (.ref h.length 1 0 6, h ++ [.plain 1 [[x1], [x2], [x3], [x4], [x5], [x6]]], []) :=
  bsE_ones b dd zz 6 h [x1, x2, x3, x4, x5, x6] _ rfl (by omega) rfl
theorem ok64 (s : Bs) (hs : s.length ≤ 4000) : Ok Tryz.prog 64 [.fv (.str s)] [] (.ret (.fv (.bool (namedB s)))) [] := by
  rw [named_iff s hs]
  refine ok_start (k := 36) (n0 := 0) (rs := [.tmp 2]) mix Tryz.func64 rfl rfl rfl rfl rfl rfl rfl ?_
  simp -implicitDefEqProofs only [bsE_6,
    evx, evy, ofValue, ofCell, List.range, List.range.loop, Array.size, Nat.reduceAdd, Nat.reduceSub, Nat.reduceEqDiff, List.replicate, if_true, if_false, ↓reduceIte, reduceCtorEq, elB, evParts, Int.reduceToNat, Int.reduceLE, Int.reduceLT, Int.reduceEq, Nat.reduceMul, Nat.reduceLeDiff, Nat.reduceLT, ty3, ty4, ty9, ty5, ty58, ty105, ty30, ty23]
  refine callK_ret _ _ _ _ (call_deep (ok65 reserved s (by decide)) rfl rfl) (ok_nil _ _) ?_
  have hres : resB s = reserved.contains s := rfl
  rw [← hres]
  cases hr : resB s with
  | true =>
    simp -implicitDefEqProofs only [evx, evy, ofValue, ofCell, List.range, List.range.loop, Array.size, Nat.reduceAdd, Nat.reduceSub, Nat.reduceEqDiff, List.replicate, if_true, if_false, ↓reduceIte, reduceCtorEq, elB, evParts, Int.reduceToNat, Int.reduceLE, Int.reduceLT, Int.reduceEq, Nat.reduceMul, Nat.reduceLeDiff, Nat.reduceLT, ty3, ty4, ty9, ty5, ty58, ty105, ty30, ty23]
    exact le_flat rfl
  | false =>
    have hall := ok31 s hs
    generalize allW s = ww at hall
    obtain ⟨o, a⟩ := ww
    cases o with
    | none =>
      simp only [allOut] at hall
      simp -implicitDefEqProofs only [evx, evy, ofValue, ofCell, List.range, List.range.loop, Array.size, Nat.reduceAdd, Nat.reduceSub, Nat.reduceEqDiff, List.replicate, if_true, if_false, ↓reduceIte, reduceCtorEq, elB, evParts, Int.reduceToNat, Int.reduceLE, Int.reduceLT, Int.reduceEq, Nat.reduceMul, Nat.reduceLeDiff, Nat.reduceLT, ty3, ty4, ty9, ty5, ty58, ty105, ty30, ty23]
      refine callK_ret _ _ _ _ (call_pure (hall) (fun _ => rfl) (fun _ => rfl)) (ok_nil _ _) ?_
      simp -implicitDefEqProofs only [evx, evy, ofValue, ofCell, List.range, List.range.loop, Array.size, Nat.reduceAdd, Nat.reduceSub, Nat.reduceEqDiff, List.replicate, if_true, if_false, ↓reduceIte, reduceCtorEq, elB, evParts, Int.reduceToNat, Int.reduceLE, Int.reduceLT, Int.reduceEq, Nat.reduceMul, Nat.reduceLeDiff, Nat.reduceLT, ty3, ty4, ty9, ty5, ty58, ty105, ty30, ty23]
      exact le_flat rfl
    | some ws =>
      simp only [allOut] at hall
      match ws, hall with
      | [], hall =>
        simp -implicitDefEqProofs only [evx, evy, ofValue, ofCell, List.range, List.range.loop, Array.size, Nat.reduceAdd, Nat.reduceSub, Nat.reduceEqDiff, List.replicate, if_true, if_false, ↓reduceIte, reduceCtorEq, elB, evParts, Int.reduceToNat, Int.reduceLE, Int.reduceLT, Int.reduceEq, Nat.reduceMul, Nat.reduceLeDiff, Nat.reduceLT, ty3, ty4, ty9, ty5, ty58, ty105, ty30, ty23]
        refine callK_ret _ _ _ _ (call_pure (hall) (fun _ => rfl) (fun _ => rfl)) (ok_nil _ _) ?_
        simp -implicitDefEqProofs only [List.map_nil, List.length_nil, Int.natCast_zero, Int.reduceEq,
    evx, evy, ofValue, ofCell, List.range, List.range.loop, Array.size, Nat.reduceAdd, Nat.reduceSub, Nat.reduceEqDiff, List.replicate, if_true, if_false, ↓reduceIte, reduceCtorEq, elB, evParts, Int.reduceToNat, Int.reduceLE, Int.reduceLT, Int.reduceEq, Nat.reduceMul, Nat.reduceLeDiff, Nat.reduceLT, ty3, ty4, ty9, ty5, ty58, ty105, ty30, ty23]
        exact le_flat rfl
      | [w], hall =>
        by_cases hk : w.kind = 1
        · have hkt : (w.kind = 1) = True := by simpa using hk
          have hke : decide (w.kind = 1) = true := by simpa using hk
          cases ht : w.text == s with
          | true =>
            have hte : decide (w.text = s) = true := by simpa using ht
            simp -implicitDefEqProofs only [evx, evy, ofValue, ofCell, List.range, List.range.loop, Array.size, Nat.reduceAdd, Nat.reduceSub, Nat.reduceEqDiff, List.replicate, if_true, if_false, ↓reduceIte, reduceCtorEq, elB, evParts, Int.reduceToNat, Int.reduceLE, Int.reduceLT, Int.reduceEq, Nat.reduceMul, Nat.reduceLeDiff, Nat.reduceLT, ty3, ty4, ty9, ty5, ty58, ty105, ty30, ty23]
            refine callK_ret _ _ _ _ (call_pure (hall) (fun _ => rfl) (fun _ => rfl)) (ok_nil _ _) ?_
            simp -implicitDefEqProofs only [Wd.row, hkt, eql_str, ht,
    evx, evy, ofValue, ofCell, List.range, List.range.loop, Array.size, Nat.reduceAdd, Nat.reduceSub, Nat.reduceEqDiff, List.replicate, if_true, if_false, ↓reduceIte, reduceCtorEq, elB, evParts, Int.reduceToNat, Int.reduceLE, Int.reduceLT, Int.reduceEq, Nat.reduceMul, Nat.reduceLeDiff, Nat.reduceLT, ty3, ty4, ty9, ty5, ty58, ty105, ty30, ty23]
            simp only [hke, hte]
            exact le_flat rfl
          | false =>
            have hte : decide (w.text = s) = false := by simpa using ht
            simp -implicitDefEqProofs only [evx, evy, ofValue, ofCell, List.range, List.range.loop, Array.size, Nat.reduceAdd, Nat.reduceSub, Nat.reduceEqDiff, List.replicate, if_true, if_false, ↓reduceIte, reduceCtorEq, elB, evParts, Int.reduceToNat, Int.reduceLE, Int.reduceLT, Int.reduceEq, Nat.reduceMul, Nat.reduceLeDiff, Nat.reduceLT, ty3, ty4, ty9, ty5, ty58, ty105, ty30, ty23]
            refine callK_ret _ _ _ _ (call_pure (hall) (fun _ => rfl) (fun _ => rfl)) (ok_nil _ _) ?_
            simp -implicitDefEqProofs only [Wd.row, hkt, eql_str, ht,
    evx, evy, ofValue, ofCell, List.range, List.range.loop, Array.size, Nat.reduceAdd, Nat.reduceSub, Nat.reduceEqDiff, List.replicate, if_true, if_false, ↓reduceIte, reduceCtorEq, elB, evParts, Int.reduceToNat, Int.reduceLE, Int.reduceLT, Int.reduceEq, Nat.reduceMul, Nat.reduceLeDiff, Nat.reduceLT, ty3, ty4, ty9, ty5, ty58, ty105, ty30, ty23]
            simp only [hke, hte]
            exact le_flat rfl
        · have hkt : (w.kind = 1) = False := by simpa using hk
          have hke : decide (w.kind = 1) = false := by simpa using hk
          simp -implicitDefEqProofs only [evx, evy, ofValue, ofCell, List.range, List.range.loop, Array.size, Nat.reduceAdd, Nat.reduceSub, Nat.reduceEqDiff, List.replicate, if_true, if_false, ↓reduceIte, reduceCtorEq, elB, evParts, Int.reduceToNat, Int.reduceLE, Int.reduceLT, Int.reduceEq, Nat.reduceMul, Nat.reduceLeDiff, Nat.reduceLT, ty3, ty4, ty9, ty5, ty58, ty105, ty30, ty23]
          refine callK_ret _ _ _ _ (call_pure (hall) (fun _ => rfl) (fun _ => rfl)) (ok_nil _ _) ?_
          simp -implicitDefEqProofs only [Wd.row, hkt,
    evx, evy, ofValue, ofCell, List.range, List.range.loop, Array.size, Nat.reduceAdd, Nat.reduceSub, Nat.reduceEqDiff, List.replicate, if_true, if_false, ↓reduceIte, reduceCtorEq, elB, evParts, Int.reduceToNat, Int.reduceLE, Int.reduceLT, Int.reduceEq, Nat.reduceMul, Nat.reduceLeDiff, Nat.reduceLT, ty3, ty4, ty9, ty5, ty58, ty105, ty30, ty23]
          try simp only [hke]
          exact le_flat rfl
      | w :: w2 :: r, hall =>
        have hl2 : (((List.map Wd.row (w :: w2 :: r)).length : Int) = 1) = False := by simp; omega
        simp -implicitDefEqProofs only [evx, evy, ofValue, ofCell, List.range, List.range.loop, Array.size, Nat.reduceAdd, Nat.reduceSub, Nat.reduceEqDiff, List.replicate, if_true, if_false, ↓reduceIte, reduceCtorEq, elB, evParts, Int.reduceToNat, Int.reduceLE, Int.reduceLT, Int.reduceEq, Nat.reduceMul, Nat.reduceLeDiff, Nat.reduceLT, ty3, ty4, ty9, ty5, ty58, ty105, ty30, ty23]
        refine callK_ret _ _ _ _ (call_pure (hall) (fun _ => rfl) (fun _ => rfl)) (ok_nil _ _) ?_
        simp -implicitDefEqProofs only [hl2,
    evx, evy, ofValue, ofCell, List.range, List.range.loop, Array.size, Nat.reduceAdd, Nat.reduceSub, Nat.reduceEqDiff, List.replicate, if_true, if_false, ↓reduceIte, reduceCtorEq, elB, evParts, Int.reduceToNat, Int.reduceLE, Int.reduceLT, Int.reduceEq, Nat.reduceMul, Nat.reduceLeDiff, Nat.reduceLT, ty3, ty4, ty9, ty5, ty58, ty105, ty30, ty23]
        exact le_flat rfl
theorem named_bad {s : Bs} {i : Nat} (hi : i < s.length) (hl : letterB s[i] = false) (hd : i = 0 ∨ digitB s[i] = false) : namedB s = false := by
  cases s with
  | nil => simp at hi
  | cons c r =>
    have hm : (letterB c && r.all fun c => letterB c || digitB c) = false := by
      cases i with
      | zero => simp at hl; simp [hl]
      | succ i =>
        rcases hd with hd | hd
        · omega
        · have hm : (r.all fun c => letterB c || digitB c) = false := by
            rw [List.all_eq_false]
            refine ⟨r[i]'(by simpa using hi), List.getElem_mem _, ?_⟩
            simp at hl hd
            simp [hl, hd]
          rw [hm, Bool.and_false]
    unfold namedB
    simp only [hm, Bool.and_false]
theorem named_good {s : Bs} (h1 : 1 ≤ s.length) (h2 : s.length ≤ 16) (h3 : resB s = false) (h : ∀ k (hk : k < s.length), letterB s[k] = true ∨ (0 < k ∧ digitB s[k] = true)) : namedB s = true := by
  unfold namedB
  rw [h3]
  simp only [Bool.and_eq_true, decide_eq_true_eq, Bool.not_false]
  refine ⟨⟨⟨h1, h2⟩, trivial⟩, ?_⟩
  cases s with
  | nil => simp at h1
  | cons c r =>
    simp only [Bool.and_eq_true]
    refine ⟨?_, ?_⟩
    · rcases h 0 (by simp) with h | h
      · simpa using h
      · omega
    · rw [List.all_eq_true]
      intro d hd
      obtain ⟨k, hk, rfl⟩ := List.getElem_of_mem hd
      rcases h (k + 1) (by simpa using hk) with h | h
      · simp at h; simp [h]
      · have := h.2; simp at this; simp [this]
theorem ok48 (s : Bs) (hs : s.length ≤ 4000) : Ok Tryz.prog 48 [.fv (.str s)] [] (.ret (.fv (.bool (namedB s)))) [] := by
  refine ok_start (k := 45) (n0 := 0) (rs := [.tmp 2]) mix Tryz.func48 rfl rfl rfl rfl rfl rfl rfl ?_
  have hor : namedB s = true → 1 ≤ s.length ∧ s.length ≤ 16 ∧ resB s = false := fun h => by
    unfold namedB at h
    simp only [Bool.and_eq_true, decide_eq_true_eq, Bool.not_eq_true'] at h
    exact ⟨h.1.1.1, h.1.1.2, h.1.2⟩
  have hno : ¬ (1 ≤ s.length ∧ s.length ≤ 16 ∧ resB s = false) → namedB s = false := fun h => by
    cases hx : namedB s with
    | true => exact absurd (hor hx) h
    | false => rfl
  by_cases h1 : (s.length : Int) < 1
  · have h1t : ((s.length : Int) < 1) = True := by simpa using h1
    simp -implicitDefEqProofs only [h1t,
    evx, evy, ofValue, ofCell, List.range, List.range.loop, Array.size, Nat.reduceAdd, Nat.reduceSub, Nat.reduceEqDiff, List.replicate, if_true, if_false, ↓reduceIte, reduceCtorEq, elB, evParts, Int.reduceToNat, Int.reduceLE, Int.reduceLT, Int.reduceEq, Nat.reduceMul, Nat.reduceLeDiff, Nat.reduceLT, ty3, ty4, ty9, ty5, ty58, ty105, ty30, ty23]
    rw [hno (by omega)]
    exact le_flat rfl
  have h1t : ((s.length : Int) < 1) = False := by simpa using h1
  by_cases h2 : (16 : Int) < (s.length : Int)
  · simp -implicitDefEqProofs only [h1t, lit_true h2,
    evx, evy, ofValue, ofCell, List.range, List.range.loop, Array.size, Nat.reduceAdd, Nat.reduceSub, Nat.reduceEqDiff, List.replicate, if_true, if_false, ↓reduceIte, reduceCtorEq, elB, evParts, Int.reduceToNat, Int.reduceLE, Int.reduceLT, Int.reduceEq, Nat.reduceMul, Nat.reduceLeDiff, Nat.reduceLT, ty3, ty4, ty9, ty5, ty58, ty105, ty30, ty23]
    rw [hno (by omega)]
    exact le_flat rfl
  have hres := ok80 s
  cases h3 : resB s with
  | true =>
    rw [h3] at hres
    simp -implicitDefEqProofs only [h1t, lit_false h2,
    evx, evy, ofValue, ofCell, List.range, List.range.loop, Array.size, Nat.reduceAdd, Nat.reduceSub, Nat.reduceEqDiff, List.replicate, if_true, if_false, ↓reduceIte, reduceCtorEq, elB, evParts, Int.reduceToNat, Int.reduceLE, Int.reduceLT, Int.reduceEq, Nat.reduceMul, Nat.reduceLeDiff, Nat.reduceLT, ty3, ty4, ty9, ty5, ty58, ty105, ty30, ty23]
    refine callK_ret _ _ _ _ (call_pure (hres) (fun _ => rfl) (fun _ => rfl)) (ok_nil _ _) ?_
    simp -implicitDefEqProofs only [evx, evy, ofValue, ofCell, List.range, List.range.loop, Array.size, Nat.reduceAdd, Nat.reduceSub, Nat.reduceEqDiff, List.replicate, if_true, if_false, ↓reduceIte, reduceCtorEq, elB, evParts, Int.reduceToNat, Int.reduceLE, Int.reduceLT, Int.reduceEq, Nat.reduceMul, Nat.reduceLeDiff, Nat.reduceLT, ty3, ty4, ty9, ty5, ty58, ty105, ty30, ty23]
    rw [hno (by simp [h3])]
    exact le_flat rfl
  | false =>
    rw [h3] at hres
    simp -implicitDefEqProofs only [h1t, lit_false h2,
    evx, evy, ofValue, ofCell, List.range, List.range.loop, Array.size, Nat.reduceAdd, Nat.reduceSub, Nat.reduceEqDiff, List.replicate, if_true, if_false, ↓reduceIte, reduceCtorEq, elB, evParts, Int.reduceToNat, Int.reduceLE, Int.reduceLT, Int.reduceEq, Nat.reduceMul, Nat.reduceLeDiff, Nat.reduceLT, ty3, ty4, ty9, ty5, ty58, ty105, ty30, ty23]
    refine callK_ret _ _ _ _ (call_pure (hres) (fun _ => rfl) (fun _ => rfl)) (ok_nil _ _) ?_
    simp -implicitDefEqProofs only [evx, evy, ofValue, ofCell, List.range, List.range.loop, Array.size, Nat.reduceAdd, Nat.reduceSub, Nat.reduceEqDiff, List.replicate, if_true, if_false, ↓reduceIte, reduceCtorEq, elB, evParts, Int.reduceToNat, Int.reduceLE, Int.reduceLT, Int.reduceEq, Nat.reduceMul, Nat.reduceLeDiff, Nat.reduceLT, ty3, ty4, ty9, ty5, ty58, ty105, ty30, ty23]
    refine loop_rule (fun n : Nat => ⟨[.fv (.str s), .any, .any, .fv (.int .i64 n), .any, .any, .any, .any, .any, .any, .any, .any, .any, .any, .any, .any, .any, .any, .any, .any, .any, .any, .any, .any, .any, .any, .any, .any, .any, .any, .any, .any, .any, .any, .any, .any, .any, .any, .any, .any, .any, .any, .any, .any, .any, .any], [], []⟩)
      (fun n => n ≤ s.length ∧ ∀ k (hk : k < s.length), k < n → letterB s[k] = true ∨ (0 < k ∧ digitB s[k] = true)) (fun n => s.length - n) 0 (le_wk (by simp [wk])) ⟨by omega, fun k _ h => by omega⟩ (fun n hn st hst => ?_)
    obtain ⟨hn, hb⟩ := hn
    by_cases hlt : n < s.length
    · have hix := idx_str hlt
      have hbad := @named_bad s n hlt
      have hnext : (letterB s[n] = true ∨ (0 < n ∧ digitB s[n] = true)) → ∀ k (hk : k < s.length), k < n + 1 → letterB s[k] = true ∨ (0 < k ∧ digitB s[k] = true) := fun h k hk hlt2 => by
        by_cases e : k = n
        · subst e; exact h
        · exact hb k hk (by omega)
      have hlet := ok81 s[n]
      generalize s[n] = c at hix hbad hnext hlet
      have hdig : digitB c = (decide (48 ≤ c.toNat) && decide (c.toNat ≤ 57)) := rfl
      by_cases g1 : 48 ≤ c.toNat
      · have g1t : ((48 : Int) ≤ (c.toNat : Int)) = True := by simpa using (by omega : (48 : Int) ≤ (c.toNat : Int))
        by_cases g2 : c.toNat ≤ 57
        · have g2t : ((c.toNat : Int) ≤ 57) = True := by simpa using (by omega : (c.toNat : Int) ≤ 57)
          simp -implicitDefEqProofs only [lt_true hlt, hix, g1t, g2t,
    evx, evy, ofValue, ofCell, List.range, List.range.loop, Array.size, Nat.reduceAdd, Nat.reduceSub, Nat.reduceEqDiff, List.replicate, if_true, if_false, ↓reduceIte, reduceCtorEq, elB, evParts, Int.reduceToNat, Int.reduceLE, Int.reduceLT, Int.reduceEq, Nat.reduceMul, Nat.reduceLeDiff, Nat.reduceLT, ty3, ty4, ty9, ty5, ty58, ty105, ty30, ty23]
          refine callK_ret _ _ _ _ (call_pure (hlet) (fun _ => rfl) (fun _ => rfl)) (ok_nil _ _) ?_
          cases hl : letterB c with
          | true =>
            simp -implicitDefEqProofs only [wsucc n (by omega),
    evx, evy, ofValue, ofCell, List.range, List.range.loop, Array.size, Nat.reduceAdd, Nat.reduceSub, Nat.reduceEqDiff, List.replicate, if_true, if_false, ↓reduceIte, reduceCtorEq, elB, evParts, Int.reduceToNat, Int.reduceLE, Int.reduceLT, Int.reduceEq, Nat.reduceMul, Nat.reduceLeDiff, Nat.reduceLT, ty3, ty4, ty9, ty5, ty58, ty105, ty30, ty23]
            exact back_intro hst (n + 1) (le_wk (by simp [wk])) ⟨by omega, hnext (.inl hl)⟩ (by omega)
          | false =>
            by_cases h0 : n = 0
            · have h0t : ((n : Int) = 0) = True := by simpa using h0
              simp -implicitDefEqProofs only [h0t,
    evx, evy, ofValue, ofCell, List.range, List.range.loop, Array.size, Nat.reduceAdd, Nat.reduceSub, Nat.reduceEqDiff, List.replicate, if_true, if_false, ↓reduceIte, reduceCtorEq, elB, evParts, Int.reduceToNat, Int.reduceLE, Int.reduceLT, Int.reduceEq, Nat.reduceMul, Nat.reduceLeDiff, Nat.reduceLT, ty3, ty4, ty9, ty5, ty58, ty105, ty30, ty23]
              rw [hbad hl (.inl h0)]
              exact le_flat rfl
            · have h0t : ((n : Int) = 0) = False := by simpa using h0
              simp -implicitDefEqProofs only [h0t, wsucc n (by omega),
    evx, evy, ofValue, ofCell, List.range, List.range.loop, Array.size, Nat.reduceAdd, Nat.reduceSub, Nat.reduceEqDiff, List.replicate, if_true, if_false, ↓reduceIte, reduceCtorEq, elB, evParts, Int.reduceToNat, Int.reduceLE, Int.reduceLT, Int.reduceEq, Nat.reduceMul, Nat.reduceLeDiff, Nat.reduceLT, ty3, ty4, ty9, ty5, ty58, ty105, ty30, ty23]
              exact back_intro hst (n + 1) (le_wk (by simp [wk])) ⟨by omega, hnext (.inr ⟨by omega, by rw [hdig]; simp [g1, g2]⟩)⟩ (by omega)
        · have g2t : ((c.toNat : Int) ≤ 57) = False := by simpa using (by omega : ¬ (c.toNat : Int) ≤ 57)
          simp -implicitDefEqProofs only [lt_true hlt, hix, g1t, g2t,
    evx, evy, ofValue, ofCell, List.range, List.range.loop, Array.size, Nat.reduceAdd, Nat.reduceSub, Nat.reduceEqDiff, List.replicate, if_true, if_false, ↓reduceIte, reduceCtorEq, elB, evParts, Int.reduceToNat, Int.reduceLE, Int.reduceLT, Int.reduceEq, Nat.reduceMul, Nat.reduceLeDiff, Nat.reduceLT, ty3, ty4, ty9, ty5, ty58, ty105, ty30, ty23]
          refine callK_ret _ _ _ _ (call_pure (hlet) (fun _ => rfl) (fun _ => rfl)) (ok_nil _ _) ?_
          cases hl : letterB c with
          | true =>
            simp -implicitDefEqProofs only [wsucc n (by omega),
    evx, evy, ofValue, ofCell, List.range, List.range.loop, Array.size, Nat.reduceAdd, Nat.reduceSub, Nat.reduceEqDiff, List.replicate, if_true, if_false, ↓reduceIte, reduceCtorEq, elB, evParts, Int.reduceToNat, Int.reduceLE, Int.reduceLT, Int.reduceEq, Nat.reduceMul, Nat.reduceLeDiff, Nat.reduceLT, ty3, ty4, ty9, ty5, ty58, ty105, ty30, ty23]
            exact back_intro hst (n + 1) (le_wk (by simp [wk])) ⟨by omega, hnext (.inl hl)⟩ (by omega)
          | false =>
            have hbd := hbad hl (.inr (by rw [hdig]; simp [g2]))
            by_cases h0 : n = 0
            · have h0t : ((n : Int) = 0) = True := by simpa using h0
              simp -implicitDefEqProofs only [h0t,
    evx, evy, ofValue, ofCell, List.range, List.range.loop, Array.size, Nat.reduceAdd, Nat.reduceSub, Nat.reduceEqDiff, List.replicate, if_true, if_false, ↓reduceIte, reduceCtorEq, elB, evParts, Int.reduceToNat, Int.reduceLE, Int.reduceLT, Int.reduceEq, Nat.reduceMul, Nat.reduceLeDiff, Nat.reduceLT, ty3, ty4, ty9, ty5, ty58, ty105, ty30, ty23]
              rw [hbd]
              exact le_flat rfl
            · have h0t : ((n : Int) = 0) = False := by simpa using h0
              simp -implicitDefEqProofs only [h0t,
    evx, evy, ofValue, ofCell, List.range, List.range.loop, Array.size, Nat.reduceAdd, Nat.reduceSub, Nat.reduceEqDiff, List.replicate, if_true, if_false, ↓reduceIte, reduceCtorEq, elB, evParts, Int.reduceToNat, Int.reduceLE, Int.reduceLT, Int.reduceEq, Nat.reduceMul, Nat.reduceLeDiff, Nat.reduceLT, ty3, ty4, ty9, ty5, ty58, ty105, ty30, ty23]
              rw [hbd]
              exact le_flat rfl
      · have g1t : ((48 : Int) ≤ (c.toNat : Int)) = False := by simpa using (by omega : ¬ (48 : Int) ≤ (c.toNat : Int))
        simp -implicitDefEqProofs only [lt_true hlt, hix, g1t,
    evx, evy, ofValue, ofCell, List.range, List.range.loop, Array.size, Nat.reduceAdd, Nat.reduceSub, Nat.reduceEqDiff, List.replicate, if_true, if_false, ↓reduceIte, reduceCtorEq, elB, evParts, Int.reduceToNat, Int.reduceLE, Int.reduceLT, Int.reduceEq, Nat.reduceMul, Nat.reduceLeDiff, Nat.reduceLT, ty3, ty4, ty9, ty5, ty58, ty105, ty30, ty23]
        refine callK_ret _ _ _ _ (call_pure (hlet) (fun _ => rfl) (fun _ => rfl)) (ok_nil _ _) ?_
        cases hl : letterB c with
        | true =>
          simp -implicitDefEqProofs only [wsucc n (by omega),
    evx, evy, ofValue, ofCell, List.range, List.range.loop, Array.size, Nat.reduceAdd, Nat.reduceSub, Nat.reduceEqDiff, List.replicate, if_true, if_false, ↓reduceIte, reduceCtorEq, elB, evParts, Int.reduceToNat, Int.reduceLE, Int.reduceLT, Int.reduceEq, Nat.reduceMul, Nat.reduceLeDiff, Nat.reduceLT, ty3, ty4, ty9, ty5, ty58, ty105, ty30, ty23]
          exact back_intro hst (n + 1) (le_wk (by simp [wk])) ⟨by omega, hnext (.inl hl)⟩ (by omega)
        | false =>
          have hbd := hbad hl (.inr (by rw [hdig]; simp [g1]))
          by_cases h0 : n = 0
          · have h0t : ((n : Int) = 0) = True := by simpa using h0
            simp -implicitDefEqProofs only [h0t,
    evx, evy, ofValue, ofCell, List.range, List.range.loop, Array.size, Nat.reduceAdd, Nat.reduceSub, Nat.reduceEqDiff, List.replicate, if_true, if_false, ↓reduceIte, reduceCtorEq, elB, evParts, Int.reduceToNat, Int.reduceLE, Int.reduceLT, Int.reduceEq, Nat.reduceMul, Nat.reduceLeDiff, Nat.reduceLT, ty3, ty4, ty9, ty5, ty58, ty105, ty30, ty23]
            rw [hbd]
            exact le_flat rfl
          · have h0t : ((n : Int) = 0) = False := by simpa using h0
            simp -implicitDefEqProofs only [h0t,
    evx, evy, ofValue, ofCell, List.range, List.range.loop, Array.size, Nat.reduceAdd, Nat.reduceSub, Nat.reduceEqDiff, List.replicate, if_true, if_false, ↓reduceIte, reduceCtorEq, elB, evParts, Int.reduceToNat, Int.reduceLE, Int.reduceLT, Int.reduceEq, Nat.reduceMul, Nat.reduceLeDiff, Nat.reduceLT, ty3, ty4, ty9, ty5, ty58, ty105, ty30, ty23]
            rw [hbd]
            exact le_flat rfl
    · obtain rfl : n = s.length := by omega
      simp -implicitDefEqProofs only [lt_false hlt,
    evx, evy, ofValue, ofCell, List.range, List.range.loop, Array.size, Nat.reduceAdd, Nat.reduceSub, Nat.reduceEqDiff, List.replicate, if_true, if_false, ↓reduceIte, reduceCtorEq, elB, evParts, Int.reduceToNat, Int.reduceLE, Int.reduceLT, Int.reduceEq, Nat.reduceMul, Nat.reduceLeDiff, Nat.reduceLT, ty3, ty4, ty9, ty5, ty58, ty105, ty30, ty23]
      rw [named_good (by omega) (by omega) h3 fun k hk => hb k hk hk]
      exact le_flat rfl
end Go.Abs
