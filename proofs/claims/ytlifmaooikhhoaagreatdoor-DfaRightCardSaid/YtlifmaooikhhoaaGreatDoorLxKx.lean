/- The law DfaRight as a contract. -/
import Derived.Test.YtlifmaooikhhoaaGreatDoorTyTryzx
import Derived.Test.YtlifmaooikhhoaaGreatDoorDrTryzx
import Derived.Test.YtlifmaooikhhoaaGreatDoorLxHx
import Derived.Test.YtlifmaooikhhoaaGreatDoorLxPx
import Derived.Test.YtlifmaooikhhoaaGreatDoorLxT08fx
namespace Go.Abs
open Go.Proofs
set_option linter.unusedVariables false
set_option linter.unusedSimpArgs false
set_option maxRecDepth 100000
set_option maxHeartbeats 4000000
theorem acc08 (s : Bs) (k : Int) (hs : s.length ≤ 1000) (h : (if d08.rightB then (if d08.go 0 s < 0 then -1 else d08.accI (d08.go 0 s)) else -1) = k) : Ok Tryz.prog 17 [d08.av, .fv (.str s)] [] (.ret (.fv (.int .i64 k))) [] := by
  have := ok17 d08 (by decide) s (by omega)
  rwa [h] at this
theorem acc08a : Ok Tryz.prog 17 [d08.av, .fv (.str [97])] [] (.ret (.fv (.int .i64 1))) [] := acc08 _ _ (by decide) (by decide +kernel)
theorem acc08ab : Ok Tryz.prog 17 [d08.av, .fv (.str [97, 98])] [] (.ret (.fv (.int .i64 0))) [] := acc08 _ _ (by decide) (by decide +kernel)
theorem acc08b : Ok Tryz.prog 17 [d08.av, .fv (.str [98])] [] (.ret (.fv (.int .i64 (-1)))) [] := acc08 _ _ (by decide) (by decide +kernel)
theorem len08 : (d08.next.map nRow).length = 3 := rfl
theorem okWakes08 : Ok Tryz.prog 13 [] [] (.ret (.fv (.bool true))) [] := by
  have h1 := acc08a
  have h2 := acc08ab
  have h3 := acc08b
  have h4 := len08
  have hb := build08
  simp only [Aut.av, rulesF, rules08, List.map_cons, List.map_nil] at h1 h2 h3 hb
  generalize d08.next.map nRow = X at h1 h2 h3 h4 hb
  generalize d08.acc.map iRow = Y at h1 h2 h3 hb
  refine ok_start (k := 49) (n0 := 0) (rs := [.tmp 0]) mix Tryz.func13 rfl rfl rfl rfl rfl rfl rfl ?_
  simp -implicitDefEqProofs only [evx, evy, ofValue, ofCell, List.range, List.range.loop, Array.size, Nat.reduceAdd, Nat.reduceSub, Nat.reduceEqDiff, List.replicate, if_true, if_false, ↓reduceIte, reduceCtorEq, elB, evParts, Int.reduceToNat, Int.reduceLE, Int.reduceLT, Int.reduceEq, Nat.reduceMul, Nat.reduceLeDiff, Nat.reduceLT, ty3, ty4, ty9, ty23, ty22, ty25, ty5, ty82, ty77, ty43]
  refine callK_ret _ _ _ _ (call_pure (parseAB) (fun _ => rfl) (fun _ => rfl)) (ok_nil _ _) ?_
  simp -implicitDefEqProofs only [evx, evy, ofValue, ofCell, List.range, List.range.loop, Array.size, Nat.reduceAdd, Nat.reduceSub, Nat.reduceEqDiff, List.replicate, if_true, if_false, ↓reduceIte, reduceCtorEq, elB, evParts, Int.reduceToNat, Int.reduceLE, Int.reduceLT, Int.reduceEq, Nat.reduceMul, Nat.reduceLeDiff, Nat.reduceLT, ty3, ty4, ty9, ty23, ty22, ty25, ty5, ty82, ty77, ty43]
  refine callK_ret _ _ _ _ (call_pure (parseA) (fun _ => rfl) (fun _ => rfl)) (ok_nil _ _) ?_
  simp -implicitDefEqProofs only [evx, evy, ofValue, ofCell, List.range, List.range.loop, Array.size, Nat.reduceAdd, Nat.reduceSub, Nat.reduceEqDiff, List.replicate, if_true, if_false, ↓reduceIte, reduceCtorEq, elB, evParts, Int.reduceToNat, Int.reduceLE, Int.reduceLT, Int.reduceEq, Nat.reduceMul, Nat.reduceLeDiff, Nat.reduceLT, ty3, ty4, ty9, ty23, ty22, ty25, ty5, ty82, ty77, ty43]
  refine callK_ret _ _ _ _ (call_frz [0] (fun i hi => by simp at hi; subst hi; exact ⟨_, _, rfl⟩) rfl rfl (call_pure hb (fun _ => rfl) (fun _ => rfl))) (by kernel_rfl) ?_
  simp -implicitDefEqProofs only [freezeSt, frzSub, killAll, List.contains_cons, List.contains_nil, Nat.reduceBEq, Bool.or_false, subAny, subA, subL, backSub, back, putBack, subBlk, Option.getD_some, List.map_cons, List.map_nil, Nat.not_lt_zero, Nat.sub_zero, Nat.add_zero, List.length_map, h4, stB_boxA, splice_all, List.all_cons, List.all_nil,
    evx, evy, ofValue, ofCell, List.range, List.range.loop, Array.size, Nat.reduceAdd, Nat.reduceSub, Nat.reduceEqDiff, List.replicate, if_true, if_false, ↓reduceIte, reduceCtorEq, elB, evParts, Int.reduceToNat, Int.reduceLE, Int.reduceLT, Int.reduceEq, Nat.reduceMul, Nat.reduceLeDiff, Nat.reduceLT, ty3, ty4, ty9, ty23, ty22, ty25, ty5, ty82, ty77, ty43]
  refine callK_ret _ _ _ _ (call_pure (h1) (fun _ => rfl) (fun _ => rfl)) (ok_nil _ _) ?_
  simp -implicitDefEqProofs only [evx, evy, ofValue, ofCell, List.range, List.range.loop, Array.size, Nat.reduceAdd, Nat.reduceSub, Nat.reduceEqDiff, List.replicate, if_true, if_false, ↓reduceIte, reduceCtorEq, elB, evParts, Int.reduceToNat, Int.reduceLE, Int.reduceLT, Int.reduceEq, Nat.reduceMul, Nat.reduceLeDiff, Nat.reduceLT, ty3, ty4, ty9, ty23, ty22, ty25, ty5, ty82, ty77, ty43]
  refine callK_ret _ _ _ _ (call_pure (h2) (fun _ => rfl) (fun _ => rfl)) (ok_nil _ _) ?_
  simp -implicitDefEqProofs only [evx, evy, ofValue, ofCell, List.range, List.range.loop, Array.size, Nat.reduceAdd, Nat.reduceSub, Nat.reduceEqDiff, List.replicate, if_true, if_false, ↓reduceIte, reduceCtorEq, elB, evParts, Int.reduceToNat, Int.reduceLE, Int.reduceLT, Int.reduceEq, Nat.reduceMul, Nat.reduceLeDiff, Nat.reduceLT, ty3, ty4, ty9, ty23, ty22, ty25, ty5, ty82, ty77, ty43]
  refine callK_ret _ _ _ _ (call_pure (h3) (fun _ => rfl) (fun _ => rfl)) (ok_nil _ _) ?_
  simp -implicitDefEqProofs only [evx, evy, ofValue, ofCell, List.range, List.range.loop, Array.size, Nat.reduceAdd, Nat.reduceSub, Nat.reduceEqDiff, List.replicate, if_true, if_false, ↓reduceIte, reduceCtorEq, elB, evParts, Int.reduceToNat, Int.reduceLE, Int.reduceLT, Int.reduceEq, Nat.reduceMul, Nat.reduceLeDiff, Nat.reduceLT, ty3, ty4, ty9, ty23, ty22, ty25, ty5, ty82, ty77, ty43]
  exact le_flat rfl
theorem lawDfaRight (d : Aut) (s : Bs) : Ok Tryz.prog 3 [d.av, .fv (.str s)] [] (.ret (.fv (.bool true))) [] := by
  refine ok_start (k := 69) (n0 := 0) (rs := [.tmp 4]) mix Tryz.func3 rfl rfl rfl rfl rfl rfl rfl ?_
  simp -implicitDefEqProofs only [awp_draw _ _ Tryzdr3_10, Aut.av,
    evx, evy, ofValue, ofCell, List.range, List.range.loop, Array.size, Nat.reduceAdd, Nat.reduceSub, Nat.reduceEqDiff, List.replicate, if_true, if_false, ↓reduceIte, reduceCtorEq, elB, evParts, Int.reduceToNat, Int.reduceLE, Int.reduceLT, Int.reduceEq, Nat.reduceMul, Nat.reduceLeDiff, Nat.reduceLT, ty3, ty4, ty9, ty23, ty22, ty25, ty5, ty82, ty77, ty43]
  refine callK_ret _ _ _ _ (call_pure (okWakes08) (fun _ => rfl) (fun _ => rfl)) (ok_nil _ _) ?_
  by_cases c1 : (300 : Int) < (d.next.length : Int)
  · simp -implicitDefEqProofs only [awp_draw _ _ Tryzdr3_10, List.length_map, lit_true c1,
    evx, evy, ofValue, ofCell, List.range, List.range.loop, Array.size, Nat.reduceAdd, Nat.reduceSub, Nat.reduceEqDiff, List.replicate, if_true, if_false, ↓reduceIte, reduceCtorEq, elB, evParts, Int.reduceToNat, Int.reduceLE, Int.reduceLT, Int.reduceEq, Nat.reduceMul, Nat.reduceLeDiff, Nat.reduceLT, ty3, ty4, ty9, ty23, ty22, ty25, ty5, ty82, ty77, ty43]
    exact le_flat rfl
  by_cases c2 : (1000 : Int) < (s.length : Int)
  · simp -implicitDefEqProofs only [awp_draw _ _ Tryzdr3_10, List.length_map, lit_false c1, lit_true c2,
    evx, evy, ofValue, ofCell, List.range, List.range.loop, Array.size, Nat.reduceAdd, Nat.reduceSub, Nat.reduceEqDiff, List.replicate, if_true, if_false, ↓reduceIte, reduceCtorEq, elB, evParts, Int.reduceToNat, Int.reduceLE, Int.reduceLT, Int.reduceEq, Nat.reduceMul, Nat.reduceLeDiff, Nat.reduceLT, ty3, ty4, ty9, ty23, ty22, ty25, ty5, ty82, ty77, ty43]
    exact le_flat rfl
  have hr := ok14 d (by omega)
  have hp := ok15 d (by omega)
  have hg := ok16 d (by omega) s (by omega)
  have ha := ok17 d (by omega) s (by omega)
  simp -implicitDefEqProofs only [awp_draw _ _ Tryzdr3_10, List.length_map, lit_false c1, lit_false c2,
    evx, evy, ofValue, ofCell, List.range, List.range.loop, Array.size, Nat.reduceAdd, Nat.reduceSub, Nat.reduceEqDiff, List.replicate, if_true, if_false, ↓reduceIte, reduceCtorEq, elB, evParts, Int.reduceToNat, Int.reduceLE, Int.reduceLT, Int.reduceEq, Nat.reduceMul, Nat.reduceLeDiff, Nat.reduceLT, ty3, ty4, ty9, ty23, ty22, ty25, ty5, ty82, ty77, ty43]
  cases hb : d.rightB with
  | false =>
    rw [hb] at hr hp hg ha
    simp only [Bool.false_eq_true, if_false] at hg ha
    refine callK_ret _ _ _ _ (call_pure (hr) (fun _ => rfl) (fun _ => rfl)) (ok_nil _ _) ?_
    simp -implicitDefEqProofs only [awp_draw _ _ Tryzdr3_10,
    evx, evy, ofValue, ofCell, List.range, List.range.loop, Array.size, Nat.reduceAdd, Nat.reduceSub, Nat.reduceEqDiff, List.replicate, if_true, if_false, ↓reduceIte, reduceCtorEq, elB, evParts, Int.reduceToNat, Int.reduceLE, Int.reduceLT, Int.reduceEq, Nat.reduceMul, Nat.reduceLeDiff, Nat.reduceLT, ty3, ty4, ty9, ty23, ty22, ty25, ty5, ty82, ty77, ty43]
    refine callK_ret _ _ _ _ (call_pure (hp) (fun _ => rfl) (fun _ => rfl)) (ok_nil _ _) ?_
    simp -implicitDefEqProofs only [awp_draw _ _ Tryzdr3_10,
    evx, evy, ofValue, ofCell, List.range, List.range.loop, Array.size, Nat.reduceAdd, Nat.reduceSub, Nat.reduceEqDiff, List.replicate, if_true, if_false, ↓reduceIte, reduceCtorEq, elB, evParts, Int.reduceToNat, Int.reduceLE, Int.reduceLT, Int.reduceEq, Nat.reduceMul, Nat.reduceLeDiff, Nat.reduceLT, ty3, ty4, ty9, ty23, ty22, ty25, ty5, ty82, ty77, ty43]
    refine callK_ret _ _ _ _ (call_pure (hg) (fun _ => rfl) (fun _ => rfl)) (ok_nil _ _) ?_
    simp -implicitDefEqProofs only [awp_draw _ _ Tryzdr3_10,
    evx, evy, ofValue, ofCell, List.range, List.range.loop, Array.size, Nat.reduceAdd, Nat.reduceSub, Nat.reduceEqDiff, List.replicate, if_true, if_false, ↓reduceIte, reduceCtorEq, elB, evParts, Int.reduceToNat, Int.reduceLE, Int.reduceLT, Int.reduceEq, Nat.reduceMul, Nat.reduceLeDiff, Nat.reduceLT, ty3, ty4, ty9, ty23, ty22, ty25, ty5, ty82, ty77, ty43]
    refine callK_ret _ _ _ _ (call_pure (ha) (fun _ => rfl) (fun _ => rfl)) (ok_nil _ _) ?_
    simp -implicitDefEqProofs only [awp_draw _ _ Tryzdr3_10,
    evx, evy, ofValue, ofCell, List.range, List.range.loop, Array.size, Nat.reduceAdd, Nat.reduceSub, Nat.reduceEqDiff, List.replicate, if_true, if_false, ↓reduceIte, reduceCtorEq, elB, evParts, Int.reduceToNat, Int.reduceLE, Int.reduceLT, Int.reduceEq, Nat.reduceMul, Nat.reduceLeDiff, Nat.reduceLT, ty3, ty4, ty9, ty23, ty22, ty25, ty5, ty82, ty77, ty43]
    exact le_flat rfl
  | true =>
    have hR := Aut.right_iff.1 hb
    rw [hb] at hr hp hg ha
    simp only [if_true] at hg ha
    have hq := ok18 d hR 0 (by omega) (by have := hR.pos; omega) s (by omega)
    have hrange := hR.go s (a := 0) (by omega) (by have := hR.pos; omega)
    have hacc := hR.same
    have hai : 0 ≤ d.go 0 s → (d.acc.map iRow)[(d.go 0 s).toNat]? = some [.int .i64 (d.accI (d.go 0 s))] := fun h0 => by
      have hlt : (d.go 0 s).toNat < d.acc.length := by omega
      rw [rows_at iRow d.acc _ hlt]
      unfold Aut.accI
      rw [getD_at hlt]
      rfl
    generalize d.go 0 s = a at hq hg ha hrange hai
    refine callK_ret _ _ _ _ (call_pure (hr) (fun _ => rfl) (fun _ => rfl)) (ok_nil _ _) ?_
    simp -implicitDefEqProofs only [awp_draw _ _ Tryzdr3_10,
    evx, evy, ofValue, ofCell, List.range, List.range.loop, Array.size, Nat.reduceAdd, Nat.reduceSub, Nat.reduceEqDiff, List.replicate, if_true, if_false, ↓reduceIte, reduceCtorEq, elB, evParts, Int.reduceToNat, Int.reduceLE, Int.reduceLT, Int.reduceEq, Nat.reduceMul, Nat.reduceLeDiff, Nat.reduceLT, ty3, ty4, ty9, ty23, ty22, ty25, ty5, ty82, ty77, ty43]
    refine callK_ret _ _ _ _ (call_pure (hq) (fun _ => rfl) (fun _ => rfl)) (ok_nil _ _) ?_
    simp -implicitDefEqProofs only [awp_draw _ _ Tryzdr3_10,
    evx, evy, ofValue, ofCell, List.range, List.range.loop, Array.size, Nat.reduceAdd, Nat.reduceSub, Nat.reduceEqDiff, List.replicate, if_true, if_false, ↓reduceIte, reduceCtorEq, elB, evParts, Int.reduceToNat, Int.reduceLE, Int.reduceLT, Int.reduceEq, Nat.reduceMul, Nat.reduceLeDiff, Nat.reduceLT, ty3, ty4, ty9, ty23, ty22, ty25, ty5, ty82, ty77, ty43]
    refine callK_ret _ _ _ _ (call_pure (hp) (fun _ => rfl) (fun _ => rfl)) (ok_nil _ _) ?_
    simp -implicitDefEqProofs only [awp_draw _ _ Tryzdr3_10,
    evx, evy, ofValue, ofCell, List.range, List.range.loop, Array.size, Nat.reduceAdd, Nat.reduceSub, Nat.reduceEqDiff, List.replicate, if_true, if_false, ↓reduceIte, reduceCtorEq, elB, evParts, Int.reduceToNat, Int.reduceLE, Int.reduceLT, Int.reduceEq, Nat.reduceMul, Nat.reduceLeDiff, Nat.reduceLT, ty3, ty4, ty9, ty23, ty22, ty25, ty5, ty82, ty77, ty43]
    refine callK_ret _ _ _ _ (call_pure (hg) (fun _ => rfl) (fun _ => rfl)) (ok_nil _ _) ?_
    have haa : (a = a) = True := eq_self a
    by_cases h0 : a < 0
    · have h0t : (a < 0) = True := eq_true h0
      rw [if_pos h0] at ha
      simp -implicitDefEqProofs only [awp_draw _ _ Tryzdr3_10, h0t,
    evx, evy, ofValue, ofCell, List.range, List.range.loop, Array.size, Nat.reduceAdd, Nat.reduceSub, Nat.reduceEqDiff, List.replicate, if_true, if_false, ↓reduceIte, reduceCtorEq, elB, evParts, Int.reduceToNat, Int.reduceLE, Int.reduceLT, Int.reduceEq, Nat.reduceMul, Nat.reduceLeDiff, Nat.reduceLT, ty3, ty4, ty9, ty23, ty22, ty25, ty5, ty82, ty77, ty43]
      refine callK_ret _ _ _ _ (call_pure (ha) (fun _ => rfl) (fun _ => rfl)) (ok_nil _ _) ?_
      have h0f : (0 ≤ a) = False := eq_false (by omega)
      simp -implicitDefEqProofs only [awp_draw _ _ Tryzdr3_10, h0f,
    evx, evy, ofValue, ofCell, List.range, List.range.loop, Array.size, Nat.reduceAdd, Nat.reduceSub, Nat.reduceEqDiff, List.replicate, if_true, if_false, ↓reduceIte, reduceCtorEq, elB, evParts, Int.reduceToNat, Int.reduceLE, Int.reduceLT, Int.reduceEq, Nat.reduceMul, Nat.reduceLeDiff, Nat.reduceLT, ty3, ty4, ty9, ty23, ty22, ty25, ty5, ty82, ty77, ty43]
      exact le_flat rfl
    · have h0t : (a < 0) = False := eq_false h0
      have h0f : (0 ≤ a) = True := eq_true (by omega)
      rw [if_neg h0] at ha
      have hx := hai (by omega)
      generalize d.accI a = v at ha hx
      have hvv : (v = v) = True := eq_self v
      simp -implicitDefEqProofs only [awp_draw _ _ Tryzdr3_10, h0t, h0f, hx, iRow,
    evx, evy, ofValue, ofCell, List.range, List.range.loop, Array.size, Nat.reduceAdd, Nat.reduceSub, Nat.reduceEqDiff, List.replicate, if_true, if_false, ↓reduceIte, reduceCtorEq, elB, evParts, Int.reduceToNat, Int.reduceLE, Int.reduceLT, Int.reduceEq, Nat.reduceMul, Nat.reduceLeDiff, Nat.reduceLT, ty3, ty4, ty9, ty23, ty22, ty25, ty5, ty82, ty77, ty43]
      refine callK_ret _ _ _ _ (call_pure ha (fun _ => rfl) (fun _ => rfl)) (by kernel_rfl) ?_
      simp -implicitDefEqProofs only [awp_draw _ _ Tryzdr3_10, hvv,
    evx, evy, ofValue, ofCell, List.range, List.range.loop, Array.size, Nat.reduceAdd, Nat.reduceSub, Nat.reduceEqDiff, List.replicate, if_true, if_false, ↓reduceIte, reduceCtorEq, elB, evParts, Int.reduceToNat, Int.reduceLE, Int.reduceLT, Int.reduceEq, Nat.reduceMul, Nat.reduceLeDiff, Nat.reduceLT, ty3, ty4, ty9, ty23, ty22, ty25, ty5, ty82, ty77, ty43]
      exact le_flat rfl
end Go.Abs
