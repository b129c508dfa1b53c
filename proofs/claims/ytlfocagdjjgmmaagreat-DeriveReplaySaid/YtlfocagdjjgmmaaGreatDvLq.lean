/- The law DeriveReplay as a contract. -/
import Derived.Test.YtlfocagdjjgmmaaGreatTyTryzq
import Derived.Test.YtlfocagdjjgmmaaGreatDrTryzq
import Derived.Test.YtlfocagdjjgmmaaGreatDvCq
import Derived.Test.YtlfocagdjjgmmaaGreatDvWq
namespace Go.Abs
open Go.Proofs
set_option linter.unusedVariables false
set_option linter.unusedSimpArgs false
set_option maxRecDepth 100000
set_option maxHeartbeats 8000000
theorem cmpL_self3 : ∀ l : List Int, cmpL l l = 0
  | [] => rfl
  | x :: l => by
    have h : cmpI x x = 0 := by simp [cmpI]
    rw [cmpL, if_pos h, cmpL_self3 l]
theorem replG_len {g : Gra} : ∀ (l t : List Int), t.length ≤ 400 → (replG g l t).1.length ≤ 400
  | [], t, h => by rw [replG]; exact h
  | p :: l, t, h => by
    cases hl : lastNt g.terms t t.length with
    | none => rw [replG_none hl]; simp
    | some a =>
      by_cases h2 : t.getD a 0 = (g.pr p).left
      · by_cases h3 : 400 < (madeT t (g.pr p).right a).length
        · rw [replG_full hl h2 h3]; simp
        · rw [replG_go hl h2 h3]
          exact replG_len l _ (by omega)
      · rw [replG_bad hl h2]; simp
theorem replA_len (g : Gra) (us : Bool) (l : List Int) : (replA g us l).1.length ≤ 400 := by
  unfold replA
  split
  · exact replG_len _ _ (by simp)
  · simp
theorem lawReplay (g : Gra) (list : List Int) : Ok Tryz.prog 3 [g.av, .fv (.lst 1 (ints list))] [] (.ret (.fv (.bool true))) [] := by
  have h7 := ok11 g
  have hil := ints_length list
  refine ok_start (k := 38) (n0 := 0) (rs := [.tmp 4]) mix Tryz.func3 rfl rfl rfl rfl rfl rfl rfl ?_
  simp -implicitDefEqProofs only [awp_draw _ _ Tryzdr3_5, Gra.av,
    evx, evy, ofValue, ofCell, List.range, List.range.loop, Array.size, Nat.reduceAdd, Nat.reduceSub, Nat.reduceEqDiff, List.replicate, if_true, if_false, ↓reduceIte, reduceCtorEq, elB, evParts, Int.reduceToNat, Int.reduceLE, Int.reduceLT, Int.reduceEq, Nat.reduceMul, Nat.reduceLeDiff, Nat.reduceLT, ty3, ty4, ty9, ty28, ty22, ty23, ty24, ty25, ty27, ty55, ty31]
  refine callK_ret _ _ _ _ (call_pure (okWakes21) (fun _ => rfl) (fun _ => rfl)) (ok_nil _ _) ?_
  cases hl : g.heavyB with
  | true =>
    rw [hl] at h7
    simp -implicitDefEqProofs only [awp_draw _ _ Tryzdr3_5,
    evx, evy, ofValue, ofCell, List.range, List.range.loop, Array.size, Nat.reduceAdd, Nat.reduceSub, Nat.reduceEqDiff, List.replicate, if_true, if_false, ↓reduceIte, reduceCtorEq, elB, evParts, Int.reduceToNat, Int.reduceLE, Int.reduceLT, Int.reduceEq, Nat.reduceMul, Nat.reduceLeDiff, Nat.reduceLT, ty3, ty4, ty9, ty28, ty22, ty23, ty24, ty25, ty27, ty55, ty31]
    refine callK_ret _ _ _ _ (call_pure (h7) (fun _ => rfl) (fun _ => rfl)) (ok_nil _ _) ?_
    simp -implicitDefEqProofs only [awp_draw _ _ Tryzdr3_5,
    evx, evy, ofValue, ofCell, List.range, List.range.loop, Array.size, Nat.reduceAdd, Nat.reduceSub, Nat.reduceEqDiff, List.replicate, if_true, if_false, ↓reduceIte, reduceCtorEq, elB, evParts, Int.reduceToNat, Int.reduceLE, Int.reduceLT, Int.reduceEq, Nat.reduceMul, Nat.reduceLeDiff, Nat.reduceLT, ty3, ty4, ty9, ty28, ty22, ty23, ty24, ty25, ty27, ty55, ty31]
    exact le_flat rfl
  | false =>
    rw [hl] at h7
    obtain ⟨hg, hpr⟩ := small_heavy hl
    by_cases ht : (200 : Int) < (list.length : Int)
    · simp -implicitDefEqProofs only [awp_draw _ _ Tryzdr3_5,
    evx, evy, ofValue, ofCell, List.range, List.range.loop, Array.size, Nat.reduceAdd, Nat.reduceSub, Nat.reduceEqDiff, List.replicate, if_true, if_false, ↓reduceIte, reduceCtorEq, elB, evParts, Int.reduceToNat, Int.reduceLE, Int.reduceLT, Int.reduceEq, Nat.reduceMul, Nat.reduceLeDiff, Nat.reduceLT, ty3, ty4, ty9, ty28, ty22, ty23, ty24, ty25, ty27, ty55, ty31]
      refine callK_ret _ _ _ _ (call_pure (h7) (fun _ => rfl) (fun _ => rfl)) (ok_nil _ _) ?_
      simp -implicitDefEqProofs only [awp_draw _ _ Tryzdr3_5, hil, lit_true ht,
    evx, evy, ofValue, ofCell, List.range, List.range.loop, Array.size, Nat.reduceAdd, Nat.reduceSub, Nat.reduceEqDiff, List.replicate, if_true, if_false, ↓reduceIte, reduceCtorEq, elB, evParts, Int.reduceToNat, Int.reduceLE, Int.reduceLT, Int.reduceEq, Nat.reduceMul, Nat.reduceLeDiff, Nat.reduceLT, ty3, ty4, ty9, ty28, ty22, ty23, ty24, ty25, ty27, ty55, ty31]
      exact le_flat rfl
    have hv := ok12 g hg hpr list (by omega)
    have hr := ok13 g hg hpr list (by omega)
    have hlen := replA_len g g.usB list
    generalize replA g g.usB list = r at hv hr hlen
    obtain ⟨u, e⟩ := r
    simp only at hv hr hlen
    have s1 := ok14 u u (by omega) (by omega)
    rw [cmpL_self3] at s1
    have e5 : (e = e) = True := eq_self e
    simp -implicitDefEqProofs only [awp_draw _ _ Tryzdr3_5,
    evx, evy, ofValue, ofCell, List.range, List.range.loop, Array.size, Nat.reduceAdd, Nat.reduceSub, Nat.reduceEqDiff, List.replicate, if_true, if_false, ↓reduceIte, reduceCtorEq, elB, evParts, Int.reduceToNat, Int.reduceLE, Int.reduceLT, Int.reduceEq, Nat.reduceMul, Nat.reduceLeDiff, Nat.reduceLT, ty3, ty4, ty9, ty28, ty22, ty23, ty24, ty25, ty27, ty55, ty31]
    refine callK_ret _ _ _ _ (call_pure (h7) (fun _ => rfl) (fun _ => rfl)) (ok_nil _ _) ?_
    simp -implicitDefEqProofs only [awp_draw _ _ Tryzdr3_5, hil, lit_false ht,
    evx, evy, ofValue, ofCell, List.range, List.range.loop, Array.size, Nat.reduceAdd, Nat.reduceSub, Nat.reduceEqDiff, List.replicate, if_true, if_false, ↓reduceIte, reduceCtorEq, elB, evParts, Int.reduceToNat, Int.reduceLE, Int.reduceLT, Int.reduceEq, Nat.reduceMul, Nat.reduceLeDiff, Nat.reduceLT, ty3, ty4, ty9, ty28, ty22, ty23, ty24, ty25, ty27, ty55, ty31]
    refine ⟨by omega, by kernel_rfl, ?_⟩
    refine callK_ret _ _ _ _ (call_freeze (args' := [g.av, .fv (.lst 1 (ints list))]) [2] (fun i hi => by simp at hi; subst hi; exact ⟨_, _, rfl⟩) (by simp [subAny, subA, subL, frzSub, Gra.av, ← hil]) rfl
        (call_pure hv (fun _ => rfl) (fun _ => rfl)) [2] (by simp) (by simp) (fun i hi hl => by
          match i, hi, hl with
          | 0, _, _ => simp [freezeSt, killAll, subBlk, subAny, subA]
          | 1, _, _ => simp [freezeSt, killAll, subBlk, subAny, subA]
          | 2, hi, _ => exact absurd (by simp) hi
          | i + 3, _, hl => simp at hl; omega)) (by kernel_rfl) ?_
    simp -implicitDefEqProofs only [awp_draw _ _ Tryzdr3_5, subAny, subA, subL, backSub, back, putBack, subBlk, Option.getD_some, List.map_cons, List.map_nil, Nat.not_lt_zero, Nat.sub_zero, Nat.add_zero, List.length_map, freezeSt, frzSub, killAll, List.contains_cons, List.contains_nil, Nat.reduceBEq, Bool.or_false,
    evx, evy, ofValue, ofCell, List.range, List.range.loop, Array.size, Nat.reduceAdd, Nat.reduceSub, Nat.reduceEqDiff, List.replicate, if_true, if_false, ↓reduceIte, reduceCtorEq, elB, evParts, Int.reduceToNat, Int.reduceLE, Int.reduceLT, Int.reduceEq, Nat.reduceMul, Nat.reduceLeDiff, Nat.reduceLT, ty3, ty4, ty9, ty28, ty22, ty23, ty24, ty25, ty27, ty55, ty31]
    refine callK_ret _ _ _ _ (call_pure (hr) (fun _ => rfl) (fun _ => rfl)) (ok_nil _ _) ?_
    simp -implicitDefEqProofs only [awp_draw _ _ Tryzdr3_5,
    evx, evy, ofValue, ofCell, List.range, List.range.loop, Array.size, Nat.reduceAdd, Nat.reduceSub, Nat.reduceEqDiff, List.replicate, if_true, if_false, ↓reduceIte, reduceCtorEq, elB, evParts, Int.reduceToNat, Int.reduceLE, Int.reduceLT, Int.reduceEq, Nat.reduceMul, Nat.reduceLeDiff, Nat.reduceLT, ty3, ty4, ty9, ty28, ty22, ty23, ty24, ty25, ty27, ty55, ty31]
    refine callK_ret _ _ _ _ (call_pure (s1) (fun _ => rfl) (fun _ => rfl)) (ok_nil _ _) ?_
    simp -implicitDefEqProofs only [awp_draw _ _ Tryzdr3_5, e5,
    evx, evy, ofValue, ofCell, List.range, List.range.loop, Array.size, Nat.reduceAdd, Nat.reduceSub, Nat.reduceEqDiff, List.replicate, if_true, if_false, ↓reduceIte, reduceCtorEq, elB, evParts, Int.reduceToNat, Int.reduceLE, Int.reduceLT, Int.reduceEq, Nat.reduceMul, Nat.reduceLeDiff, Nat.reduceLT, ty3, ty4, ty9, ty28, ty22, ty23, ty24, ty25, ty27, ty55, ty31]
    exact le_flat rfl
end Go.Abs
