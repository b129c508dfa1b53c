/- The laws of the first symbols as contracts. -/
import Derived.Test.YtlfocagdjjgmmaaGreatTyTryzq
import Derived.Test.YtlfocagdjjgmmaaGreatDrTryzq
import Derived.Test.YtlfocagdjjgmmaaGreatFiIq
import Derived.Test.YtlfocagdjjgmmaaGreatFiWq
import Derived.Test.YtlfocagdjjgmmaaGreatCkEq
namespace Go.Abs
open Go.Proofs
set_option linter.unusedVariables false
set_option linter.unusedSimpArgs false
set_option maxRecDepth 100000
set_option maxHeartbeats 8000000
theorem cmpL_self : ∀ l : List Int, cmpL l l = 0
  | [] => rfl
  | x :: l => by
    have h : cmpI x x = 0 := by simp [cmpI]
    rw [cmpL, if_pos h, cmpL_self l]
theorem eqlB2 (x y one : Bool) : binA Tryz.prog .eql 4 one (.fv (.bool x)) (.fv (.bool y)) = some (.fv (.bool (x == y))) := eql_bool ty4 x y
theorem neqB2 (x y one : Bool) : binA Tryz.prog .neq 4 one (.fv (.bool x)) (.fv (.bool y)) = some (.fv (.bool (x != y))) := neq_bool ty4 x y
theorem lawVanish (g : Gra) : Ok Tryz.prog 5 [g.av] [] (.ret (.fv (.bool true))) [] := by
  have h7 := ok24 g
  refine ok_start (k := 19) (n0 := 0) (rs := [.tmp 2]) mix Tryz.func5 rfl rfl rfl rfl rfl rfl rfl ?_
  simp -implicitDefEqProofs only [Gra.av,
    evx, evy, ofValue, ofCell, List.range, List.range.loop, Array.size, Nat.reduceAdd, Nat.reduceSub, Nat.reduceEqDiff, List.replicate, if_true, if_false, ↓reduceIte, reduceCtorEq, elB, evParts, Int.reduceToNat, Int.reduceLE, Int.reduceLT, Int.reduceEq, Nat.reduceMul, Nat.reduceLeDiff, Nat.reduceLT, ty3, ty4, ty9, ty28, ty48, ty22, ty23, ty24, ty25, ty27, ty55]
  refine callK_ret _ _ _ _ (call_pure (okWakes15) (fun _ => rfl) (fun _ => rfl)) (ok_nil _ _) ?_
  cases hl : g.longB 60 with
  | true =>
    rw [hl] at h7
    simp -implicitDefEqProofs only [evx, evy, ofValue, ofCell, List.range, List.range.loop, Array.size, Nat.reduceAdd, Nat.reduceSub, Nat.reduceEqDiff, List.replicate, if_true, if_false, ↓reduceIte, reduceCtorEq, elB, evParts, Int.reduceToNat, Int.reduceLE, Int.reduceLT, Int.reduceEq, Nat.reduceMul, Nat.reduceLeDiff, Nat.reduceLT, ty3, ty4, ty9, ty28, ty48, ty22, ty23, ty24, ty25, ty27, ty55]
    refine callK_ret _ _ _ _ (call_pure (h7) (fun _ => rfl) (fun _ => rfl)) (ok_nil _ _) ?_
    simp -implicitDefEqProofs only [evx, evy, ofValue, ofCell, List.range, List.range.loop, Array.size, Nat.reduceAdd, Nat.reduceSub, Nat.reduceEqDiff, List.replicate, if_true, if_false, ↓reduceIte, reduceCtorEq, elB, evParts, Int.reduceToNat, Int.reduceLE, Int.reduceLT, Int.reduceEq, Nat.reduceMul, Nat.reduceLeDiff, Nat.reduceLT, ty3, ty4, ty9, ty28, ty48, ty22, ty23, ty24, ty25, ty27, ty55]
    exact le_flat rfl
  | false =>
    rw [hl] at h7
    have hg := (small_of hl).up (m := 100) (by omega)
    have hs := ok26 g hg
    cases hsd : g.sound with
    | false =>
      rw [hsd] at hs
      have hv := ok25_bad g hg hsd
      have e4 : ((0 : Int) = 0) = True := by simp
      simp -implicitDefEqProofs only [evx, evy, ofValue, ofCell, List.range, List.range.loop, Array.size, Nat.reduceAdd, Nat.reduceSub, Nat.reduceEqDiff, List.replicate, if_true, if_false, ↓reduceIte, reduceCtorEq, elB, evParts, Int.reduceToNat, Int.reduceLE, Int.reduceLT, Int.reduceEq, Nat.reduceMul, Nat.reduceLeDiff, Nat.reduceLT, ty3, ty4, ty9, ty28, ty48, ty22, ty23, ty24, ty25, ty27, ty55]
      refine callK_ret _ _ _ _ (call_pure (h7) (fun _ => rfl) (fun _ => rfl)) (ok_nil _ _) ?_
      simp -implicitDefEqProofs only [evx, evy, ofValue, ofCell, List.range, List.range.loop, Array.size, Nat.reduceAdd, Nat.reduceSub, Nat.reduceEqDiff, List.replicate, if_true, if_false, ↓reduceIte, reduceCtorEq, elB, evParts, Int.reduceToNat, Int.reduceLE, Int.reduceLT, Int.reduceEq, Nat.reduceMul, Nat.reduceLeDiff, Nat.reduceLT, ty3, ty4, ty9, ty28, ty48, ty22, ty23, ty24, ty25, ty27, ty55]
      refine callK_ret _ _ _ _ (call_pure (hv) (fun _ => rfl) (fun _ => rfl)) (ok_nil _ _) ?_
      simp -implicitDefEqProofs only [evx, evy, ofValue, ofCell, List.range, List.range.loop, Array.size, Nat.reduceAdd, Nat.reduceSub, Nat.reduceEqDiff, List.replicate, if_true, if_false, ↓reduceIte, reduceCtorEq, elB, evParts, Int.reduceToNat, Int.reduceLE, Int.reduceLT, Int.reduceEq, Nat.reduceMul, Nat.reduceLeDiff, Nat.reduceLT, ty3, ty4, ty9, ty28, ty48, ty22, ty23, ty24, ty25, ty27, ty55]
      refine callK_ret _ _ _ _ (call_pure (hs) (fun _ => rfl) (fun _ => rfl)) (ok_nil _ _) ?_
      simp -implicitDefEqProofs only [e4,
    evx, evy, ofValue, ofCell, List.range, List.range.loop, Array.size, Nat.reduceAdd, Nat.reduceSub, Nat.reduceEqDiff, List.replicate, if_true, if_false, ↓reduceIte, reduceCtorEq, elB, evParts, Int.reduceToNat, Int.reduceLE, Int.reduceLT, Int.reduceEq, Nat.reduceMul, Nat.reduceLeDiff, Nat.reduceLT, ty3, ty4, ty9, ty28, ty48, ty22, ty23, ty24, ty25, ty27, ty55]
      exact le_flat rfl
    | true =>
      rw [hsd] at hs
      have hv := ok25 g hg hsd
      have hr := ok27 g hg hsd
      have hnn := hg.nnonts
      have hnl := g.those_length (Nul g)
      generalize g.those (Nul g) = l at hv hr hnl
      have s1 := ok14 l l (by omega) (by omega)
      rw [cmpL_self] at s1
      simp -implicitDefEqProofs only [evx, evy, ofValue, ofCell, List.range, List.range.loop, Array.size, Nat.reduceAdd, Nat.reduceSub, Nat.reduceEqDiff, List.replicate, if_true, if_false, ↓reduceIte, reduceCtorEq, elB, evParts, Int.reduceToNat, Int.reduceLE, Int.reduceLT, Int.reduceEq, Nat.reduceMul, Nat.reduceLeDiff, Nat.reduceLT, ty3, ty4, ty9, ty28, ty48, ty22, ty23, ty24, ty25, ty27, ty55]
      refine callK_ret _ _ _ _ (call_pure (h7) (fun _ => rfl) (fun _ => rfl)) (ok_nil _ _) ?_
      simp -implicitDefEqProofs only [evx, evy, ofValue, ofCell, List.range, List.range.loop, Array.size, Nat.reduceAdd, Nat.reduceSub, Nat.reduceEqDiff, List.replicate, if_true, if_false, ↓reduceIte, reduceCtorEq, elB, evParts, Int.reduceToNat, Int.reduceLE, Int.reduceLT, Int.reduceEq, Nat.reduceMul, Nat.reduceLeDiff, Nat.reduceLT, ty3, ty4, ty9, ty28, ty48, ty22, ty23, ty24, ty25, ty27, ty55]
      refine callK_ret _ _ _ _ (call_pure (hv) (fun _ => rfl) (fun _ => rfl)) (ok_nil _ _) ?_
      simp -implicitDefEqProofs only [evx, evy, ofValue, ofCell, List.range, List.range.loop, Array.size, Nat.reduceAdd, Nat.reduceSub, Nat.reduceEqDiff, List.replicate, if_true, if_false, ↓reduceIte, reduceCtorEq, elB, evParts, Int.reduceToNat, Int.reduceLE, Int.reduceLT, Int.reduceEq, Nat.reduceMul, Nat.reduceLeDiff, Nat.reduceLT, ty3, ty4, ty9, ty28, ty48, ty22, ty23, ty24, ty25, ty27, ty55]
      refine callK_ret _ _ _ _ (call_pure (hs) (fun _ => rfl) (fun _ => rfl)) (ok_nil _ _) ?_
      simp -implicitDefEqProofs only [evx, evy, ofValue, ofCell, List.range, List.range.loop, Array.size, Nat.reduceAdd, Nat.reduceSub, Nat.reduceEqDiff, List.replicate, if_true, if_false, ↓reduceIte, reduceCtorEq, elB, evParts, Int.reduceToNat, Int.reduceLE, Int.reduceLT, Int.reduceEq, Nat.reduceMul, Nat.reduceLeDiff, Nat.reduceLT, ty3, ty4, ty9, ty28, ty48, ty22, ty23, ty24, ty25, ty27, ty55]
      refine callK_ret _ _ _ _ (call_pure (hr) (fun _ => rfl) (fun _ => rfl)) (ok_nil _ _) ?_
      simp -implicitDefEqProofs only [evx, evy, ofValue, ofCell, List.range, List.range.loop, Array.size, Nat.reduceAdd, Nat.reduceSub, Nat.reduceEqDiff, List.replicate, if_true, if_false, ↓reduceIte, reduceCtorEq, elB, evParts, Int.reduceToNat, Int.reduceLE, Int.reduceLT, Int.reduceEq, Nat.reduceMul, Nat.reduceLeDiff, Nat.reduceLT, ty3, ty4, ty9, ty28, ty48, ty22, ty23, ty24, ty25, ty27, ty55]
      refine callK_ret _ _ _ _ (call_pure (s1) (fun _ => rfl) (fun _ => rfl)) (ok_nil _ _) ?_
      simp -implicitDefEqProofs only [evx, evy, ofValue, ofCell, List.range, List.range.loop, Array.size, Nat.reduceAdd, Nat.reduceSub, Nat.reduceEqDiff, List.replicate, if_true, if_false, ↓reduceIte, reduceCtorEq, elB, evParts, Int.reduceToNat, Int.reduceLE, Int.reduceLT, Int.reduceEq, Nat.reduceMul, Nat.reduceLeDiff, Nat.reduceLT, ty3, ty4, ty9, ty28, ty48, ty22, ty23, ty24, ty25, ty27, ty55]
      exact le_flat rfl
open Classical in
theorem lawOf (g : Gra) (text : List Int) : Ok Tryz.prog 6 [g.av, .fv (.lst 1 (ints text))] [] (.ret (.fv (.bool true))) [] := by
  have h7 := ok24 g
  have hil := ints_length text
  refine ok_start (k := 54) (n0 := 0) (rs := [.tmp 4]) mix Tryz.func6 rfl rfl rfl rfl rfl rfl rfl ?_
  simp -implicitDefEqProofs only [awp_draw _ _ Tryzdr6_5, Gra.av,
    evx, evy, ofValue, ofCell, List.range, List.range.loop, Array.size, Nat.reduceAdd, Nat.reduceSub, Nat.reduceEqDiff, List.replicate, if_true, if_false, ↓reduceIte, reduceCtorEq, elB, evParts, Int.reduceToNat, Int.reduceLE, Int.reduceLT, Int.reduceEq, Nat.reduceMul, Nat.reduceLeDiff, Nat.reduceLT, ty3, ty4, ty9, ty28, ty48, ty22, ty23, ty24, ty25, ty27, ty55]
  refine callK_ret _ _ _ _ (call_pure (okWakes15) (fun _ => rfl) (fun _ => rfl)) (ok_nil _ _) ?_
  cases hl : g.longB 60 with
  | true =>
    rw [hl] at h7
    simp -implicitDefEqProofs only [awp_draw _ _ Tryzdr6_5,
    evx, evy, ofValue, ofCell, List.range, List.range.loop, Array.size, Nat.reduceAdd, Nat.reduceSub, Nat.reduceEqDiff, List.replicate, if_true, if_false, ↓reduceIte, reduceCtorEq, elB, evParts, Int.reduceToNat, Int.reduceLE, Int.reduceLT, Int.reduceEq, Nat.reduceMul, Nat.reduceLeDiff, Nat.reduceLT, ty3, ty4, ty9, ty28, ty48, ty22, ty23, ty24, ty25, ty27, ty55]
    refine callK_ret _ _ _ _ (call_pure (h7) (fun _ => rfl) (fun _ => rfl)) (ok_nil _ _) ?_
    simp -implicitDefEqProofs only [awp_draw _ _ Tryzdr6_5,
    evx, evy, ofValue, ofCell, List.range, List.range.loop, Array.size, Nat.reduceAdd, Nat.reduceSub, Nat.reduceEqDiff, List.replicate, if_true, if_false, ↓reduceIte, reduceCtorEq, elB, evParts, Int.reduceToNat, Int.reduceLE, Int.reduceLT, Int.reduceEq, Nat.reduceMul, Nat.reduceLeDiff, Nat.reduceLT, ty3, ty4, ty9, ty28, ty48, ty22, ty23, ty24, ty25, ty27, ty55]
    exact le_flat rfl
  | false =>
    rw [hl] at h7
    have hg := (small_of hl).up (m := 100) (by omega)
    have hs := ok26 g hg
    by_cases ht : (40 : Int) < (text.length : Int)
    · simp -implicitDefEqProofs only [awp_draw _ _ Tryzdr6_5,
    evx, evy, ofValue, ofCell, List.range, List.range.loop, Array.size, Nat.reduceAdd, Nat.reduceSub, Nat.reduceEqDiff, List.replicate, if_true, if_false, ↓reduceIte, reduceCtorEq, elB, evParts, Int.reduceToNat, Int.reduceLE, Int.reduceLT, Int.reduceEq, Nat.reduceMul, Nat.reduceLeDiff, Nat.reduceLT, ty3, ty4, ty9, ty28, ty48, ty22, ty23, ty24, ty25, ty27, ty55]
      refine callK_ret _ _ _ _ (call_pure (h7) (fun _ => rfl) (fun _ => rfl)) (ok_nil _ _) ?_
      simp -implicitDefEqProofs only [awp_draw _ _ Tryzdr6_5, hil, lit_true ht,
    evx, evy, ofValue, ofCell, List.range, List.range.loop, Array.size, Nat.reduceAdd, Nat.reduceSub, Nat.reduceEqDiff, List.replicate, if_true, if_false, ↓reduceIte, reduceCtorEq, elB, evParts, Int.reduceToNat, Int.reduceLE, Int.reduceLT, Int.reduceEq, Nat.reduceMul, Nat.reduceLeDiff, Nat.reduceLT, ty3, ty4, ty9, ty28, ty48, ty22, ty23, ty24, ty25, ty27, ty55]
      exact le_flat rfl
    have hsm := ok29 g hg text (by omega)
    cases hsd : g.sound with
    | false =>
      rw [hsd] at hs
      have hv := ok28_bad g hg hsd text
      have e4 : ((0 : Int) = 0) = True := by simp
      simp -implicitDefEqProofs only [awp_draw _ _ Tryzdr6_5,
    evx, evy, ofValue, ofCell, List.range, List.range.loop, Array.size, Nat.reduceAdd, Nat.reduceSub, Nat.reduceEqDiff, List.replicate, if_true, if_false, ↓reduceIte, reduceCtorEq, elB, evParts, Int.reduceToNat, Int.reduceLE, Int.reduceLT, Int.reduceEq, Nat.reduceMul, Nat.reduceLeDiff, Nat.reduceLT, ty3, ty4, ty9, ty28, ty48, ty22, ty23, ty24, ty25, ty27, ty55]
      refine callK_ret _ _ _ _ (call_pure (h7) (fun _ => rfl) (fun _ => rfl)) (ok_nil _ _) ?_
      simp -implicitDefEqProofs only [awp_draw _ _ Tryzdr6_5, hil, lit_false ht,
    evx, evy, ofValue, ofCell, List.range, List.range.loop, Array.size, Nat.reduceAdd, Nat.reduceSub, Nat.reduceEqDiff, List.replicate, if_true, if_false, ↓reduceIte, reduceCtorEq, elB, evParts, Int.reduceToNat, Int.reduceLE, Int.reduceLT, Int.reduceEq, Nat.reduceMul, Nat.reduceLeDiff, Nat.reduceLT, ty3, ty4, ty9, ty28, ty48, ty22, ty23, ty24, ty25, ty27, ty55]
      refine ⟨by omega, by kernel_rfl, ?_⟩
      refine callK_ret _ _ _ _ (call_freeze (args' := [g.av, .fv (.lst 1 (ints text))]) [2] (fun i hi => by simp at hi; subst hi; exact ⟨_, _, rfl⟩) (by simp [subAny, subA, subL, frzSub, Gra.av, ← hil]) rfl
        (call_pure hv (fun _ => rfl) (fun _ => rfl)) [2] (by simp) (by simp) (fun i hi hl => by
          match i, hi, hl with
          | 0, _, _ => simp [freezeSt, killAll, subBlk, subAny, subA]
          | 1, _, _ => simp [freezeSt, killAll, subBlk, subAny, subA]
          | 2, hi, _ => exact absurd (by simp) hi
          | i + 3, _, hl => simp at hl; omega)) (by kernel_rfl) ?_
      simp -implicitDefEqProofs only [awp_draw _ _ Tryzdr6_5, subAny, subA, subL, backSub, back, putBack, subBlk, Option.getD_some, List.map_cons, List.map_nil, Nat.not_lt_zero, Nat.sub_zero, Nat.add_zero, List.length_map, freezeSt, frzSub, killAll, List.contains_cons, List.contains_nil, Nat.reduceBEq, Bool.or_false,
    evx, evy, ofValue, ofCell, List.range, List.range.loop, Array.size, Nat.reduceAdd, Nat.reduceSub, Nat.reduceEqDiff, List.replicate, if_true, if_false, ↓reduceIte, reduceCtorEq, elB, evParts, Int.reduceToNat, Int.reduceLE, Int.reduceLT, Int.reduceEq, Nat.reduceMul, Nat.reduceLeDiff, Nat.reduceLT, ty3, ty4, ty9, ty28, ty48, ty22, ty23, ty24, ty25, ty27, ty55]
      refine callK_ret _ _ _ _ (call_pure (hs) (fun _ => rfl) (fun _ => rfl)) (ok_nil _ _) ?_
      simp -implicitDefEqProofs only [awp_draw _ _ Tryzdr6_5, e4,
    evx, evy, ofValue, ofCell, List.range, List.range.loop, Array.size, Nat.reduceAdd, Nat.reduceSub, Nat.reduceEqDiff, List.replicate, if_true, if_false, ↓reduceIte, reduceCtorEq, elB, evParts, Int.reduceToNat, Int.reduceLE, Int.reduceLT, Int.reduceEq, Nat.reduceMul, Nat.reduceLeDiff, Nat.reduceLT, ty3, ty4, ty9, ty28, ty48, ty22, ty23, ty24, ty25, ty27, ty55]
      exact le_flat rfl
    | true =>
      rw [hsd] at hs
      cases hsy : g.symsB text with
      | false =>
        rw [hsy] at hsm
        have hv := ok28_out g hg hsd text (by omega) hsy
        have e4 : ((0 : Int) = 0) = True := by simp
        simp -implicitDefEqProofs only [awp_draw _ _ Tryzdr6_5,
    evx, evy, ofValue, ofCell, List.range, List.range.loop, Array.size, Nat.reduceAdd, Nat.reduceSub, Nat.reduceEqDiff, List.replicate, if_true, if_false, ↓reduceIte, reduceCtorEq, elB, evParts, Int.reduceToNat, Int.reduceLE, Int.reduceLT, Int.reduceEq, Nat.reduceMul, Nat.reduceLeDiff, Nat.reduceLT, ty3, ty4, ty9, ty28, ty48, ty22, ty23, ty24, ty25, ty27, ty55]
        refine callK_ret _ _ _ _ (call_pure (h7) (fun _ => rfl) (fun _ => rfl)) (ok_nil _ _) ?_
        simp -implicitDefEqProofs only [awp_draw _ _ Tryzdr6_5, hil, lit_false ht,
    evx, evy, ofValue, ofCell, List.range, List.range.loop, Array.size, Nat.reduceAdd, Nat.reduceSub, Nat.reduceEqDiff, List.replicate, if_true, if_false, ↓reduceIte, reduceCtorEq, elB, evParts, Int.reduceToNat, Int.reduceLE, Int.reduceLT, Int.reduceEq, Nat.reduceMul, Nat.reduceLeDiff, Nat.reduceLT, ty3, ty4, ty9, ty28, ty48, ty22, ty23, ty24, ty25, ty27, ty55]
        refine ⟨by omega, by kernel_rfl, ?_⟩
        refine callK_ret _ _ _ _ (call_freeze (args' := [g.av, .fv (.lst 1 (ints text))]) [2] (fun i hi => by simp at hi; subst hi; exact ⟨_, _, rfl⟩) (by simp [subAny, subA, subL, frzSub, Gra.av, ← hil]) rfl
          (call_pure hv (fun _ => rfl) (fun _ => rfl)) [2] (by simp) (by simp) (fun i hi hl => by
            match i, hi, hl with
            | 0, _, _ => simp [freezeSt, killAll, subBlk, subAny, subA]
            | 1, _, _ => simp [freezeSt, killAll, subBlk, subAny, subA]
            | 2, hi, _ => exact absurd (by simp) hi
            | i + 3, _, hl => simp at hl; omega)) (by kernel_rfl) ?_
        simp -implicitDefEqProofs only [awp_draw _ _ Tryzdr6_5, subAny, subA, subL, backSub, back, putBack, subBlk, Option.getD_some, List.map_cons, List.map_nil, Nat.not_lt_zero, Nat.sub_zero, Nat.add_zero, List.length_map, freezeSt, frzSub, killAll, List.contains_cons, List.contains_nil, Nat.reduceBEq, Bool.or_false,
    evx, evy, ofValue, ofCell, List.range, List.range.loop, Array.size, Nat.reduceAdd, Nat.reduceSub, Nat.reduceEqDiff, List.replicate, if_true, if_false, ↓reduceIte, reduceCtorEq, elB, evParts, Int.reduceToNat, Int.reduceLE, Int.reduceLT, Int.reduceEq, Nat.reduceMul, Nat.reduceLeDiff, Nat.reduceLT, ty3, ty4, ty9, ty28, ty48, ty22, ty23, ty24, ty25, ty27, ty55]
        refine callK_ret _ _ _ _ (call_pure (hs) (fun _ => rfl) (fun _ => rfl)) (ok_nil _ _) ?_
        simp -implicitDefEqProofs only [awp_draw _ _ Tryzdr6_5,
    evx, evy, ofValue, ofCell, List.range, List.range.loop, Array.size, Nat.reduceAdd, Nat.reduceSub, Nat.reduceEqDiff, List.replicate, if_true, if_false, ↓reduceIte, reduceCtorEq, elB, evParts, Int.reduceToNat, Int.reduceLE, Int.reduceLT, Int.reduceEq, Nat.reduceMul, Nat.reduceLeDiff, Nat.reduceLT, ty3, ty4, ty9, ty28, ty48, ty22, ty23, ty24, ty25, ty27, ty55]
        refine callK_ret _ _ _ _ (call_pure (hsm) (fun _ => rfl) (fun _ => rfl)) (ok_nil _ _) ?_
        simp -implicitDefEqProofs only [awp_draw _ _ Tryzdr6_5, e4,
    evx, evy, ofValue, ofCell, List.range, List.range.loop, Array.size, Nat.reduceAdd, Nat.reduceSub, Nat.reduceEqDiff, List.replicate, if_true, if_false, ↓reduceIte, reduceCtorEq, elB, evParts, Int.reduceToNat, Int.reduceLE, Int.reduceLT, Int.reduceEq, Nat.reduceMul, Nat.reduceLeDiff, Nat.reduceLT, ty3, ty4, ty9, ty28, ty48, ty22, ty23, ty24, ty25, ty27, ty55]
        exact le_flat rfl
      | true =>
        rw [hsy] at hsm
        have hso := g.sound_iff hsd
        have htl := hso.terms_le
        have hv := ok28 g hg hsd text (by omega) hsy
        have hr := ok30 g hg hsd text (by omega) hsy
        have hfl := g.firsts_length text
        generalize decide (∀ k ∈ text, Nul g k) = nu at hv hr
        generalize g.firsts text = l at hv hr hfl
        have s1 := ok14 l l (by omega) (by omega)
        rw [cmpL_self] at s1
        have e5 : (nu == nu) = true := by simp
        simp -implicitDefEqProofs only [awp_draw _ _ Tryzdr6_5,
    evx, evy, ofValue, ofCell, List.range, List.range.loop, Array.size, Nat.reduceAdd, Nat.reduceSub, Nat.reduceEqDiff, List.replicate, if_true, if_false, ↓reduceIte, reduceCtorEq, elB, evParts, Int.reduceToNat, Int.reduceLE, Int.reduceLT, Int.reduceEq, Nat.reduceMul, Nat.reduceLeDiff, Nat.reduceLT, ty3, ty4, ty9, ty28, ty48, ty22, ty23, ty24, ty25, ty27, ty55]
        refine callK_ret _ _ _ _ (call_pure (h7) (fun _ => rfl) (fun _ => rfl)) (ok_nil _ _) ?_
        simp -implicitDefEqProofs only [awp_draw _ _ Tryzdr6_5, hil, lit_false ht,
    evx, evy, ofValue, ofCell, List.range, List.range.loop, Array.size, Nat.reduceAdd, Nat.reduceSub, Nat.reduceEqDiff, List.replicate, if_true, if_false, ↓reduceIte, reduceCtorEq, elB, evParts, Int.reduceToNat, Int.reduceLE, Int.reduceLT, Int.reduceEq, Nat.reduceMul, Nat.reduceLeDiff, Nat.reduceLT, ty3, ty4, ty9, ty28, ty48, ty22, ty23, ty24, ty25, ty27, ty55]
        refine ⟨by omega, by kernel_rfl, ?_⟩
        refine callK_ret _ _ _ _ (call_freeze (args' := [g.av, .fv (.lst 1 (ints text))]) [2] (fun i hi => by simp at hi; subst hi; exact ⟨_, _, rfl⟩) (by simp [subAny, subA, subL, frzSub, Gra.av, ← hil]) rfl
          (call_pure hv (fun _ => rfl) (fun _ => rfl)) [2] (by simp) (by simp) (fun i hi hl => by
            match i, hi, hl with
            | 0, _, _ => simp [freezeSt, killAll, subBlk, subAny, subA]
            | 1, _, _ => simp [freezeSt, killAll, subBlk, subAny, subA]
            | 2, hi, _ => exact absurd (by simp) hi
            | i + 3, _, hl => simp at hl; omega)) (by kernel_rfl) ?_
        simp -implicitDefEqProofs only [awp_draw _ _ Tryzdr6_5, subAny, subA, subL, backSub, back, putBack, subBlk, Option.getD_some, List.map_cons, List.map_nil, Nat.not_lt_zero, Nat.sub_zero, Nat.add_zero, List.length_map, freezeSt, frzSub, killAll, List.contains_cons, List.contains_nil, Nat.reduceBEq, Bool.or_false,
    evx, evy, ofValue, ofCell, List.range, List.range.loop, Array.size, Nat.reduceAdd, Nat.reduceSub, Nat.reduceEqDiff, List.replicate, if_true, if_false, ↓reduceIte, reduceCtorEq, elB, evParts, Int.reduceToNat, Int.reduceLE, Int.reduceLT, Int.reduceEq, Nat.reduceMul, Nat.reduceLeDiff, Nat.reduceLT, ty3, ty4, ty9, ty28, ty48, ty22, ty23, ty24, ty25, ty27, ty55]
        refine callK_ret _ _ _ _ (call_pure (hs) (fun _ => rfl) (fun _ => rfl)) (ok_nil _ _) ?_
        simp -implicitDefEqProofs only [awp_draw _ _ Tryzdr6_5,
    evx, evy, ofValue, ofCell, List.range, List.range.loop, Array.size, Nat.reduceAdd, Nat.reduceSub, Nat.reduceEqDiff, List.replicate, if_true, if_false, ↓reduceIte, reduceCtorEq, elB, evParts, Int.reduceToNat, Int.reduceLE, Int.reduceLT, Int.reduceEq, Nat.reduceMul, Nat.reduceLeDiff, Nat.reduceLT, ty3, ty4, ty9, ty28, ty48, ty22, ty23, ty24, ty25, ty27, ty55]
        refine callK_ret _ _ _ _ (call_pure (hsm) (fun _ => rfl) (fun _ => rfl)) (ok_nil _ _) ?_
        simp -implicitDefEqProofs only [awp_draw _ _ Tryzdr6_5,
    evx, evy, ofValue, ofCell, List.range, List.range.loop, Array.size, Nat.reduceAdd, Nat.reduceSub, Nat.reduceEqDiff, List.replicate, if_true, if_false, ↓reduceIte, reduceCtorEq, elB, evParts, Int.reduceToNat, Int.reduceLE, Int.reduceLT, Int.reduceEq, Nat.reduceMul, Nat.reduceLeDiff, Nat.reduceLT, ty3, ty4, ty9, ty28, ty48, ty22, ty23, ty24, ty25, ty27, ty55]
        refine callK_ret _ _ _ _ (call_pure (hr) (fun _ => rfl) (fun _ => rfl)) (ok_nil _ _) ?_
        simp -implicitDefEqProofs only [awp_draw _ _ Tryzdr6_5,
    evx, evy, ofValue, ofCell, List.range, List.range.loop, Array.size, Nat.reduceAdd, Nat.reduceSub, Nat.reduceEqDiff, List.replicate, if_true, if_false, ↓reduceIte, reduceCtorEq, elB, evParts, Int.reduceToNat, Int.reduceLE, Int.reduceLT, Int.reduceEq, Nat.reduceMul, Nat.reduceLeDiff, Nat.reduceLT, ty3, ty4, ty9, ty28, ty48, ty22, ty23, ty24, ty25, ty27, ty55]
        refine callK_ret _ _ _ _ (call_pure (s1) (fun _ => rfl) (fun _ => rfl)) (ok_nil _ _) ?_
        simp -implicitDefEqProofs only [awp_draw _ _ Tryzdr6_5, eqlB2, e5,
    evx, evy, ofValue, ofCell, List.range, List.range.loop, Array.size, Nat.reduceAdd, Nat.reduceSub, Nat.reduceEqDiff, List.replicate, if_true, if_false, ↓reduceIte, reduceCtorEq, elB, evParts, Int.reduceToNat, Int.reduceLE, Int.reduceLT, Int.reduceEq, Nat.reduceMul, Nat.reduceLeDiff, Nat.reduceLT, ty3, ty4, ty9, ty28, ty48, ty22, ty23, ty24, ty25, ty27, ty55]
        exact le_flat rfl
end Go.Abs
