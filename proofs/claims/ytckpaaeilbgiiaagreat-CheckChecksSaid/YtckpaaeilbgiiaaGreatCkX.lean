/- The law CheckChecks as a contract. -/
import Derived.Test.YtckpaaeilbgiiaaGreatTyTryz
import Derived.Test.YtckpaaeilbgiiaaGreatDrTryz
import Derived.Test.YtckpaaeilbgiiaaGreatCkV
import Derived.Test.YtckpaaeilbgiiaaGreatCkW
namespace Go.Abs
open Go.Proofs
set_option linter.unusedVariables false
set_option linter.unusedSimpArgs false
set_option maxRecDepth 100000
set_option maxHeartbeats 4000000
theorem lawChecks (g : Gra) : Ok Tryz.prog 3 [g.av] [] (.ret (.fv (.bool true))) [] := by
  have h7 := ok7 g
  refine ok_start (k := 28) (n0 := 0) (rs := [.tmp 2]) mix Tryz.func3 rfl rfl rfl rfl rfl rfl rfl ?_
  simp -implicitDefEqProofs only [Gra.av,
    evx, evy, ofValue, ofCell, List.range, List.range.loop, Array.size, Nat.reduceAdd, Nat.reduceSub, Nat.reduceEqDiff, List.replicate, if_true, if_false, ↓reduceIte, reduceCtorEq, elB, evParts, Int.reduceToNat, Int.reduceLE, Int.reduceLT, Int.reduceEq, Nat.reduceMul, Nat.reduceLeDiff, Nat.reduceLT, ty3, ty4, ty9, ty22, ty23, ty24, ty25, ty27, ty35, ty40, ty44, ty46, ty55, ty30]
  refine callK_ret _ _ _ _ (call_pure (okWakes) (fun _ => rfl) (fun _ => rfl)) (ok_nil _ _) ?_
  cases hl : g.longB 100 with
  | true =>
    rw [hl] at h7
    simp -implicitDefEqProofs only [evx, evy, ofValue, ofCell, List.range, List.range.loop, Array.size, Nat.reduceAdd, Nat.reduceSub, Nat.reduceEqDiff, List.replicate, if_true, if_false, ↓reduceIte, reduceCtorEq, elB, evParts, Int.reduceToNat, Int.reduceLE, Int.reduceLT, Int.reduceEq, Nat.reduceMul, Nat.reduceLeDiff, Nat.reduceLT, ty3, ty4, ty9, ty22, ty23, ty24, ty25, ty27, ty35, ty40, ty44, ty46, ty55, ty30]
    refine callK_ret _ _ _ _ (call_pure (h7) (fun _ => rfl) (fun _ => rfl)) (ok_nil _ _) ?_
    simp -implicitDefEqProofs only [evx, evy, ofValue, ofCell, List.range, List.range.loop, Array.size, Nat.reduceAdd, Nat.reduceSub, Nat.reduceEqDiff, List.replicate, if_true, if_false, ↓reduceIte, reduceCtorEq, elB, evParts, Int.reduceToNat, Int.reduceLE, Int.reduceLT, Int.reduceEq, Nat.reduceMul, Nat.reduceLeDiff, Nat.reduceLT, ty3, ty4, ty9, ty22, ty23, ty24, ty25, ty27, ty35, ty40, ty44, ty46, ty55, ty30]
    exact le_flat rfl
  | false =>
    rw [hl] at h7
    have hg := small_of hl
    have h8 := ok8 g hg
    have h9 := ok9 g hg
    generalize chkG noEmpty g (g.those (Reach g)) (g.those (Ended g)) = x at h8 h9
    obtain ⟨n, e⟩ := x
    simp only [chkOut] at h8 h9
    have en : (n = n) = True := eq_self n
    have ee : (e = e) = True := eq_self e
    simp -implicitDefEqProofs only [evx, evy, ofValue, ofCell, List.range, List.range.loop, Array.size, Nat.reduceAdd, Nat.reduceSub, Nat.reduceEqDiff, List.replicate, if_true, if_false, ↓reduceIte, reduceCtorEq, elB, evParts, Int.reduceToNat, Int.reduceLE, Int.reduceLT, Int.reduceEq, Nat.reduceMul, Nat.reduceLeDiff, Nat.reduceLT, ty3, ty4, ty9, ty22, ty23, ty24, ty25, ty27, ty35, ty40, ty44, ty46, ty55, ty30]
    refine callK_ret _ _ _ _ (call_pure (h7) (fun _ => rfl) (fun _ => rfl)) (ok_nil _ _) ?_
    simp -implicitDefEqProofs only [evx, evy, ofValue, ofCell, List.range, List.range.loop, Array.size, Nat.reduceAdd, Nat.reduceSub, Nat.reduceEqDiff, List.replicate, if_true, if_false, ↓reduceIte, reduceCtorEq, elB, evParts, Int.reduceToNat, Int.reduceLE, Int.reduceLT, Int.reduceEq, Nat.reduceMul, Nat.reduceLeDiff, Nat.reduceLT, ty3, ty4, ty9, ty22, ty23, ty24, ty25, ty27, ty35, ty40, ty44, ty46, ty55, ty30]
    refine callK_ret _ _ _ _ (call_pure (h8) (fun _ => rfl) (fun _ => rfl)) (ok_nil _ _) ?_
    simp -implicitDefEqProofs only [evx, evy, ofValue, ofCell, List.range, List.range.loop, Array.size, Nat.reduceAdd, Nat.reduceSub, Nat.reduceEqDiff, List.replicate, if_true, if_false, ↓reduceIte, reduceCtorEq, elB, evParts, Int.reduceToNat, Int.reduceLE, Int.reduceLT, Int.reduceEq, Nat.reduceMul, Nat.reduceLeDiff, Nat.reduceLT, ty3, ty4, ty9, ty22, ty23, ty24, ty25, ty27, ty35, ty40, ty44, ty46, ty55, ty30]
    refine callK_ret _ _ _ _ (call_pure (h9) (fun _ => rfl) (fun _ => rfl)) (ok_nil _ _) ?_
    simp -implicitDefEqProofs only [en, ee,
    evx, evy, ofValue, ofCell, List.range, List.range.loop, Array.size, Nat.reduceAdd, Nat.reduceSub, Nat.reduceEqDiff, List.replicate, if_true, if_false, ↓reduceIte, reduceCtorEq, elB, evParts, Int.reduceToNat, Int.reduceLE, Int.reduceLT, Int.reduceEq, Nat.reduceMul, Nat.reduceLeDiff, Nat.reduceLT, ty3, ty4, ty9, ty22, ty23, ty24, ty25, ty27, ty35, ty40, ty44, ty46, ty55, ty30]
    exact le_flat rfl
end Go.Abs
