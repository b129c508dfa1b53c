/- Is a grammar fine: the document's answer. -/
import Derived.Test.YtckpaaeilbgiiaaGreatTyTryz
import Derived.Test.YtckpaaeilbgiiaaGreatDrTryz
import Derived.Test.YtckpaaeilbgiiaaGreatCkS
import Derived.Test.YtckpaaeilbgiiaaGreatCkU
import Derived.Test.YtckpaaeilbgiiaaGreatCkI
namespace Go.Abs
open Go.Proofs
set_option linter.unusedVariables false
set_option linter.unusedSimpArgs false
set_option maxRecDepth 100000
set_option maxHeartbeats 4000000
theorem ok9 (g : Gra) (hg : Small g 100) : Ok Tryz.prog 9 [g.av] [] (chkOut (chkG noEmpty g (g.those (Reach g)) (g.those (Ended g)))) [] := by
  have hs := ok12 g hg
  have hterms := ok16 g hg.nrules
  refine ok_start (k := 69) (n0 := 0) (rs := [.tmp 2, .tmp 3]) mix Tryz.func9 rfl rfl rfl rfl rfl rfl rfl ?_
  cases hsd : g.sound with
  | false =>
    rw [hsd] at hs
    have e : chkG noEmpty g (g.those (Reach g)) (g.those (Ended g)) = (0, 10) := by unfold chkG; rw [if_neg (by simp [hsd])]
    rw [e]
    simp -implicitDefEqProofs only [Gra.av,
    evx, evy, ofValue, ofCell, List.range, List.range.loop, Array.size, Nat.reduceAdd, Nat.reduceSub, Nat.reduceEqDiff, List.replicate, if_true, if_false, ↓reduceIte, reduceCtorEq, elB, evParts, Int.reduceToNat, Int.reduceLE, Int.reduceLT, Int.reduceEq, Nat.reduceMul, Nat.reduceLeDiff, Nat.reduceLT, ty3, ty4, ty9, ty22, ty23, ty24, ty25, ty27, ty35, ty40, ty44, ty46, ty55]
    refine callK_ret _ _ _ _ (call_pure (hs) (fun _ => rfl) (fun _ => rfl)) (ok_nil _ _) ?_
    simp -implicitDefEqProofs only [chkOut,
    evx, evy, ofValue, ofCell, List.range, List.range.loop, Array.size, Nat.reduceAdd, Nat.reduceSub, Nat.reduceEqDiff, List.replicate, if_true, if_false, ↓reduceIte, reduceCtorEq, elB, evParts, Int.reduceToNat, Int.reduceLE, Int.reduceLT, Int.reduceEq, Nat.reduceMul, Nat.reduceLeDiff, Nat.reduceLT, ty3, ty4, ty9, ty22, ty23, ty24, ty25, ty27, ty35, ty40, ty44, ty46, ty55]
    exact le_flat rfl
  | true =>
    rw [hsd] at hs
    have hso := g.sound_iff hsd
    have hnn := hso.nnonts
    have hnr := hso.nrules
    have htl := hso.terms_le
    have h14 := ok14 g hg hsd
    have h15 := ok15 g hg hsd
    have hrl := g.those_length (Reach g)
    have hel := g.those_length (Ended g)
    generalize g.those (Reach g) = R at h14 hrl
    generalize g.those (Ended g) = E at h15 hel
    have hri := ints_length R
    have hei := ints_length E
    have hck : chkG noEmpty g R E = chkR noEmpty g R E := by unfold chkG; rw [if_pos hsd]
    rw [hck]
    simp -implicitDefEqProofs only [Gra.av,
    evx, evy, ofValue, ofCell, List.range, List.range.loop, Array.size, Nat.reduceAdd, Nat.reduceSub, Nat.reduceEqDiff, List.replicate, if_true, if_false, ↓reduceIte, reduceCtorEq, elB, evParts, Int.reduceToNat, Int.reduceLE, Int.reduceLT, Int.reduceEq, Nat.reduceMul, Nat.reduceLeDiff, Nat.reduceLT, ty3, ty4, ty9, ty22, ty23, ty24, ty25, ty27, ty35, ty40, ty44, ty46, ty55]
    refine callK_ret _ _ _ _ (call_pure (hs) (fun _ => rfl) (fun _ => rfl)) (ok_nil _ _) ?_
    simp -implicitDefEqProofs only [Gra.cells, List.length_map,
    evx, evy, ofValue, ofCell, List.range, List.range.loop, Array.size, Nat.reduceAdd, Nat.reduceSub, Nat.reduceEqDiff, List.replicate, if_true, if_false, ↓reduceIte, reduceCtorEq, elB, evParts, Int.reduceToNat, Int.reduceLE, Int.reduceLT, Int.reduceEq, Nat.reduceMul, Nat.reduceLeDiff, Nat.reduceLT, ty3, ty4, ty9, ty22, ty23, ty24, ty25, ty27, ty35, ty40, ty44, ty46, ty55]
    refine loop_rule (fun i : Nat => ⟨[.any, .ptr 0 0 0 0, .any, .any, .fv (.int .i64 i), .any, .any, .any, .any, .any, .any, .any, .any, .any, .any, .any, .any, .any, .any, .any, .any, .any, .any, .any, .any, .any, .any, .any, .any, .any, .any, .any, .any, .any, .any, .any, .any, .any, .any, .any, .any, .any, .any, .any, .any, .any, .any, .any, .any, .any, .any, .any, .any, .any, .any, .any, .any, .any, .any, .any, .any, .any, .any, .any, .any, .any, .any, .any, .any, .any], [.box g.cells], []⟩)
      (fun i => i ≤ g.rules.length ∧ (g.rules.take i).all (fun r => !noEmpty r) = true) (fun i => g.rules.length - i) 0 (le_wk (by simp [wk, Gra.cells])) (by simp) (fun i hi s hs1 => ?_)
    obtain ⟨hi, hall⟩ := hi
    by_cases hlt : i < g.rules.length
    · have hr := rows_at Rul.row g.rules i hlt
      have hat := nullIx_at (p := noEmpty) 0 hlt hall hlt
      have hgood := all_succ (fun r => !noEmpty r) hlt hall
      have hnull := ok23 g.rules[i].re
      generalize g.rules[i] = r at hr hat hgood hnull
      have hne : noEmpty r = nullB r.re := rfl
      rw [← hne] at hnull
      cases hb : noEmpty r with
      | true =>
        rw [hb] at hnull
        have hat2 := hat hb
        rw [Nat.zero_add] at hat2
        rw [chkR_some hat2]
        simp -implicitDefEqProofs only [Gra.cells, List.length_map, lt_true hlt, hr, Rul.row,
    evx, evy, ofValue, ofCell, List.range, List.range.loop, Array.size, Nat.reduceAdd, Nat.reduceSub, Nat.reduceEqDiff, List.replicate, if_true, if_false, ↓reduceIte, reduceCtorEq, elB, evParts, Int.reduceToNat, Int.reduceLE, Int.reduceLT, Int.reduceEq, Nat.reduceMul, Nat.reduceLeDiff, Nat.reduceLT, ty3, ty4, ty9, ty22, ty23, ty24, ty25, ty27, ty35, ty40, ty44, ty46, ty55]
        refine callK_ret _ _ _ _ (call_pure (hnull) (fun _ => rfl) (fun _ => rfl)) (ok_nil _ _) ?_
        simp -implicitDefEqProofs only [chkOut,
    evx, evy, ofValue, ofCell, List.range, List.range.loop, Array.size, Nat.reduceAdd, Nat.reduceSub, Nat.reduceEqDiff, List.replicate, if_true, if_false, ↓reduceIte, reduceCtorEq, elB, evParts, Int.reduceToNat, Int.reduceLE, Int.reduceLT, Int.reduceEq, Nat.reduceMul, Nat.reduceLeDiff, Nat.reduceLT, ty3, ty4, ty9, ty22, ty23, ty24, ty25, ty27, ty35, ty40, ty44, ty46, ty55]
        exact le_flat rfl
      | false =>
        rw [hb] at hnull
        simp -implicitDefEqProofs only [Gra.cells, List.length_map, lt_true hlt, hr, Rul.row,
    evx, evy, ofValue, ofCell, List.range, List.range.loop, Array.size, Nat.reduceAdd, Nat.reduceSub, Nat.reduceEqDiff, List.replicate, if_true, if_false, ↓reduceIte, reduceCtorEq, elB, evParts, Int.reduceToNat, Int.reduceLE, Int.reduceLT, Int.reduceEq, Nat.reduceMul, Nat.reduceLeDiff, Nat.reduceLT, ty3, ty4, ty9, ty22, ty23, ty24, ty25, ty27, ty35, ty40, ty44, ty46, ty55]
        refine callK_ret _ _ _ _ (call_pure (hnull) (fun _ => rfl) (fun _ => rfl)) (ok_nil _ _) ?_
        simp -implicitDefEqProofs only [wsucc i (by omega),
    evx, evy, ofValue, ofCell, List.range, List.range.loop, Array.size, Nat.reduceAdd, Nat.reduceSub, Nat.reduceEqDiff, List.replicate, if_true, if_false, ↓reduceIte, reduceCtorEq, elB, evParts, Int.reduceToNat, Int.reduceLE, Int.reduceLT, Int.reduceEq, Nat.reduceMul, Nat.reduceLeDiff, Nat.reduceLT, ty3, ty4, ty9, ty22, ty23, ty24, ty25, ty27, ty35, ty40, ty44, ty46, ty55]
        exact back_intro hs1 (i + 1) (le_wk (by simp [wk, Gra.cells])) ⟨by omega, hgood (by rw [hb]; rfl)⟩ (by omega)
    · obtain rfl : i = g.rules.length := by omega
      rw [List.take_length] at hall
      rw [chkR_none (nullIx_none 0 hall)]
      by_cases n0 : g.nonts.length = 0
      · have n0t : ((g.nonts.length : Int) = 0) = True := by simpa using n0
        rw [if_pos n0]
        simp -implicitDefEqProofs only [Gra.cells, List.length_map, lt_false hlt, n0t, chkOut,
    evx, evy, ofValue, ofCell, List.range, List.range.loop, Array.size, Nat.reduceAdd, Nat.reduceSub, Nat.reduceEqDiff, List.replicate, if_true, if_false, ↓reduceIte, reduceCtorEq, elB, evParts, Int.reduceToNat, Int.reduceLE, Int.reduceLT, Int.reduceEq, Nat.reduceMul, Nat.reduceLeDiff, Nat.reduceLT, ty3, ty4, ty9, ty22, ty23, ty24, ty25, ty27, ty35, ty40, ty44, ty46, ty55]
        exact le_flat rfl
      · have n0t : ((g.nonts.length : Int) = 0) = False := by simpa using n0
        rw [if_neg n0]
        have hhR := fun x => ok17 R x (by omega)
        have hhE := fun x => ok17 E x (by omega)
        simp -implicitDefEqProofs only [Gra.cells, List.length_map, lt_false hlt, n0t,
    evx, evy, ofValue, ofCell, List.range, List.range.loop, Array.size, Nat.reduceAdd, Nat.reduceSub, Nat.reduceEqDiff, List.replicate, if_true, if_false, ↓reduceIte, reduceCtorEq, elB, evParts, Int.reduceToNat, Int.reduceLE, Int.reduceLT, Int.reduceEq, Nat.reduceMul, Nat.reduceLeDiff, Nat.reduceLT, ty3, ty4, ty9, ty22, ty23, ty24, ty25, ty27, ty35, ty40, ty44, ty46, ty55]
        refine callK_ret _ _ _ _ (call_pure (hterms) (fun _ => rfl) (fun _ => rfl)) (ok_nil _ _) ?_
        simp -implicitDefEqProofs only [evx, evy, ofValue, ofCell, List.range, List.range.loop, Array.size, Nat.reduceAdd, Nat.reduceSub, Nat.reduceEqDiff, List.replicate, if_true, if_false, ↓reduceIte, reduceCtorEq, elB, evParts, Int.reduceToNat, Int.reduceLE, Int.reduceLT, Int.reduceEq, Nat.reduceMul, Nat.reduceLeDiff, Nat.reduceLT, ty3, ty4, ty9, ty22, ty23, ty24, ty25, ty27, ty35, ty40, ty44, ty46, ty55]
        refine callK_ret _ _ _ _ (call_pure (h14) (fun _ => rfl) (fun _ => rfl)) (ok_nil _ _) ?_
        simp -implicitDefEqProofs only [evx, evy, ofValue, ofCell, List.range, List.range.loop, Array.size, Nat.reduceAdd, Nat.reduceSub, Nat.reduceEqDiff, List.replicate, if_true, if_false, ↓reduceIte, reduceCtorEq, elB, evParts, Int.reduceToNat, Int.reduceLE, Int.reduceLT, Int.reduceEq, Nat.reduceMul, Nat.reduceLeDiff, Nat.reduceLT, ty3, ty4, ty9, ty22, ty23, ty24, ty25, ty27, ty35, ty40, ty44, ty46, ty55]
        refine callK_ret _ _ _ _ (call_pure (h15) (fun _ => rfl) (fun _ => rfl)) (ok_nil _ _) ?_
        simp -implicitDefEqProofs only [wsucc g.terms (by omega),
    evx, evy, ofValue, ofCell, List.range, List.range.loop, Array.size, Nat.reduceAdd, Nat.reduceSub, Nat.reduceEqDiff, List.replicate, if_true, if_false, ↓reduceIte, reduceCtorEq, elB, evParts, Int.reduceToNat, Int.reduceLE, Int.reduceLT, Int.reduceEq, Nat.reduceMul, Nat.reduceLeDiff, Nat.reduceLT, ty3, ty4, ty9, ty22, ty23, ty24, ty25, ty27, ty35, ty40, ty44, ty46, ty55]
        refine loop_rule (fun k : Nat => ⟨[.any, .ptr 0 0 0 0, .any, .any, .any, .fv (.int .i64 g.terms), .fv (.lst 1 (ints R)), .fv (.lst 1 (ints E)), .fv (.int .i64 ((g.terms + 1 + k : Nat) : Int)), .any, .any, .any, .any, .any, .any, .any, .any, .any, .any, .any, .any, .any, .any, .any, .any, .any, .any, .any, .any, .any, .any, .any, .any, .any, .any, .any, .any, .any, .any, .any, .any, .any, .any, .any, .any, .any, .any, .any, .any, .any, .any, .any, .any, .any, .any, .any, .any, .any, .any, .any, .any, .any, .any, .any, .any, .any, .any, .any, .any, .any], [.box g.cells], []⟩)
          (fun k => k ≤ g.nonts.length ∧ outN g.terms R g.nonts.length 0 = outN g.terms R (g.nonts.length - k) k) (fun k => g.nonts.length - k) 0 (le_wk (by simp [wk, Gra.cells])) ⟨by omega, rfl⟩ (fun k hk s3 hs3 => ?_)
        obtain ⟨hk, hix⟩ := hk
        by_cases hkl : k < g.nonts.length
        · have hle : (((g.terms + 1 + k : Nat) : Int) ≤ ((g.terms + g.nonts.length : Nat) : Int)) = True := by simp only [eq_iff_iff, iff_true]; omega
          rw [show g.nonts.length - k = (g.nonts.length - (k + 1)) + 1 from by omega, outN] at hix
          have hcast : ((g.terms + 1 + k : Nat) : Int) = (g.terms : Int) + 1 + k := by omega
          have hcon2 := hhR ((g.terms + 1 + k : Nat) : Int)
          by_cases hm : (g.terms : Int) + 1 + k ∈ R
          · rw [if_pos hm] at hix
            rw [hcast, decide_eq_true hm, ← hcast] at hcon2
            simp -implicitDefEqProofs only [Gra.cells, List.length_map, wsum g.terms g.nonts.length (by omega), hle,
    evx, evy, ofValue, ofCell, List.range, List.range.loop, Array.size, Nat.reduceAdd, Nat.reduceSub, Nat.reduceEqDiff, List.replicate, if_true, if_false, ↓reduceIte, reduceCtorEq, elB, evParts, Int.reduceToNat, Int.reduceLE, Int.reduceLT, Int.reduceEq, Nat.reduceMul, Nat.reduceLeDiff, Nat.reduceLT, ty3, ty4, ty9, ty22, ty23, ty24, ty25, ty27, ty35, ty40, ty44, ty46, ty55]
            refine callK_ret _ _ _ _ (call_pure (hcon2) (fun _ => rfl) (fun _ => rfl)) (ok_nil _ _) ?_
            simp -implicitDefEqProofs only [wsucc (g.terms + 1 + k) (by omega),
    evx, evy, ofValue, ofCell, List.range, List.range.loop, Array.size, Nat.reduceAdd, Nat.reduceSub, Nat.reduceEqDiff, List.replicate, if_true, if_false, ↓reduceIte, reduceCtorEq, elB, evParts, Int.reduceToNat, Int.reduceLE, Int.reduceLT, Int.reduceEq, Nat.reduceMul, Nat.reduceLeDiff, Nat.reduceLT, ty3, ty4, ty9, ty22, ty23, ty24, ty25, ty27, ty35, ty40, ty44, ty46, ty55]
            exact back_intro hs3 (k + 1) (le_wk (by simp [wk, Gra.cells]; omega)) ⟨by omega, hix⟩ (by omega)
          · rw [if_neg hm] at hix
            rw [hcast, decide_eq_false hm, ← hcast] at hcon2
            have hix2 := hix
            simp -implicitDefEqProofs only [Gra.cells, List.length_map, wsum g.terms g.nonts.length (by omega), hle,
    evx, evy, ofValue, ofCell, List.range, List.range.loop, Array.size, Nat.reduceAdd, Nat.reduceSub, Nat.reduceEqDiff, List.replicate, if_true, if_false, ↓reduceIte, reduceCtorEq, elB, evParts, Int.reduceToNat, Int.reduceLE, Int.reduceLT, Int.reduceEq, Nat.reduceMul, Nat.reduceLeDiff, Nat.reduceLT, ty3, ty4, ty9, ty22, ty23, ty24, ty25, ty27, ty35, ty40, ty44, ty46, ty55]
            refine callK_ret _ _ _ _ (call_pure (hcon2) (fun _ => rfl) (fun _ => rfl)) (ok_nil _ _) ?_
            rw [show chkB g R E = ((g.terms : Int) + 1 + k, 8) from by unfold chkB; rw [hix2]]
            simp -implicitDefEqProofs only [chkOut,
    evx, evy, ofValue, ofCell, List.range, List.range.loop, Array.size, Nat.reduceAdd, Nat.reduceSub, Nat.reduceEqDiff, List.replicate, if_true, if_false, ↓reduceIte, reduceCtorEq, elB, evParts, Int.reduceToNat, Int.reduceLE, Int.reduceLT, Int.reduceEq, Nat.reduceMul, Nat.reduceLeDiff, Nat.reduceLT, ty3, ty4, ty9, ty22, ty23, ty24, ty25, ty27, ty35, ty40, ty44, ty46, ty55]
            rw [← hcast]
            exact le_flat rfl
        · obtain rfl : k = g.nonts.length := by omega
          have hle : (((g.terms + 1 + g.nonts.length : Nat) : Int) ≤ ((g.terms + g.nonts.length : Nat) : Int)) = False := by simp only [eq_iff_iff, iff_false]; omega
          rw [Nat.sub_self, outN] at hix
          have hj := hix
          simp -implicitDefEqProofs only [Gra.cells, List.length_map, wsum g.terms g.nonts.length (by omega), hle, wsucc g.terms (by omega),
    evx, evy, ofValue, ofCell, List.range, List.range.loop, Array.size, Nat.reduceAdd, Nat.reduceSub, Nat.reduceEqDiff, List.replicate, if_true, if_false, ↓reduceIte, reduceCtorEq, elB, evParts, Int.reduceToNat, Int.reduceLE, Int.reduceLT, Int.reduceEq, Nat.reduceMul, Nat.reduceLeDiff, Nat.reduceLT, ty3, ty4, ty9, ty22, ty23, ty24, ty25, ty27, ty35, ty40, ty44, ty46, ty55]
          refine loop_rule (fun k : Nat => ⟨[.any, .ptr 0 0 0 0, .any, .any, .any, .fv (.int .i64 g.terms), .any, .fv (.lst 1 (ints E)), .any, .fv (.int .i64 ((g.terms + 1 + k : Nat) : Int)), .any, .any, .any, .any, .any, .any, .any, .any, .any, .any, .any, .any, .any, .any, .any, .any, .any, .any, .any, .any, .any, .any, .any, .any, .any, .any, .any, .any, .any, .any, .any, .any, .any, .any, .any, .any, .any, .any, .any, .any, .any, .any, .any, .any, .any, .any, .any, .any, .any, .any, .any, .any, .any, .any, .any, .any, .any, .any, .any, .any], [.box g.cells], []⟩)
            (fun k => k ≤ g.nonts.length ∧ outN g.terms E g.nonts.length 0 = outN g.terms E (g.nonts.length - k) k) (fun k => g.nonts.length - k) 0 (le_wk (by simp [wk, Gra.cells])) ⟨by omega, rfl⟩ (fun k hk s4 hs4 => ?_)
          obtain ⟨hk, hix⟩ := hk
          by_cases hkl : k < g.nonts.length
          · have hle : (((g.terms + 1 + k : Nat) : Int) ≤ ((g.terms + g.nonts.length : Nat) : Int)) = True := by simp only [eq_iff_iff, iff_true]; omega
            rw [show g.nonts.length - k = (g.nonts.length - (k + 1)) + 1 from by omega, outN] at hix
            have hcast : ((g.terms + 1 + k : Nat) : Int) = (g.terms : Int) + 1 + k := by omega
            have hcon2 := hhE ((g.terms + 1 + k : Nat) : Int)
            by_cases hm : (g.terms : Int) + 1 + k ∈ E
            · rw [if_pos hm] at hix
              rw [hcast, decide_eq_true hm, ← hcast] at hcon2
              simp -implicitDefEqProofs only [Gra.cells, List.length_map, wsum g.terms g.nonts.length (by omega), hle,
    evx, evy, ofValue, ofCell, List.range, List.range.loop, Array.size, Nat.reduceAdd, Nat.reduceSub, Nat.reduceEqDiff, List.replicate, if_true, if_false, ↓reduceIte, reduceCtorEq, elB, evParts, Int.reduceToNat, Int.reduceLE, Int.reduceLT, Int.reduceEq, Nat.reduceMul, Nat.reduceLeDiff, Nat.reduceLT, ty3, ty4, ty9, ty22, ty23, ty24, ty25, ty27, ty35, ty40, ty44, ty46, ty55]
              refine callK_ret _ _ _ _ (call_pure (hcon2) (fun _ => rfl) (fun _ => rfl)) (ok_nil _ _) ?_
              simp -implicitDefEqProofs only [wsucc (g.terms + 1 + k) (by omega),
    evx, evy, ofValue, ofCell, List.range, List.range.loop, Array.size, Nat.reduceAdd, Nat.reduceSub, Nat.reduceEqDiff, List.replicate, if_true, if_false, ↓reduceIte, reduceCtorEq, elB, evParts, Int.reduceToNat, Int.reduceLE, Int.reduceLT, Int.reduceEq, Nat.reduceMul, Nat.reduceLeDiff, Nat.reduceLT, ty3, ty4, ty9, ty22, ty23, ty24, ty25, ty27, ty35, ty40, ty44, ty46, ty55]
              exact back_intro hs4 (k + 1) (le_wk (by simp [wk, Gra.cells]; omega)) ⟨by omega, hix⟩ (by omega)
            · rw [if_neg hm] at hix
              rw [hcast, decide_eq_false hm, ← hcast] at hcon2
              have hix2 := hix
              simp -implicitDefEqProofs only [Gra.cells, List.length_map, wsum g.terms g.nonts.length (by omega), hle,
    evx, evy, ofValue, ofCell, List.range, List.range.loop, Array.size, Nat.reduceAdd, Nat.reduceSub, Nat.reduceEqDiff, List.replicate, if_true, if_false, ↓reduceIte, reduceCtorEq, elB, evParts, Int.reduceToNat, Int.reduceLE, Int.reduceLT, Int.reduceEq, Nat.reduceMul, Nat.reduceLeDiff, Nat.reduceLT, ty3, ty4, ty9, ty22, ty23, ty24, ty25, ty27, ty35, ty40, ty44, ty46, ty55]
              refine callK_ret _ _ _ _ (call_pure (hcon2) (fun _ => rfl) (fun _ => rfl)) (ok_nil _ _) ?_
              rw [show chkB g R E = ((g.terms : Int) + 1 + k, 9) from by unfold chkB; rw [hj, hix2]]
              simp -implicitDefEqProofs only [chkOut,
    evx, evy, ofValue, ofCell, List.range, List.range.loop, Array.size, Nat.reduceAdd, Nat.reduceSub, Nat.reduceEqDiff, List.replicate, if_true, if_false, ↓reduceIte, reduceCtorEq, elB, evParts, Int.reduceToNat, Int.reduceLE, Int.reduceLT, Int.reduceEq, Nat.reduceMul, Nat.reduceLeDiff, Nat.reduceLT, ty3, ty4, ty9, ty22, ty23, ty24, ty25, ty27, ty35, ty40, ty44, ty46, ty55]
              rw [← hcast]
              exact le_flat rfl
          · obtain rfl : k = g.nonts.length := by omega
            have hle : (((g.terms + 1 + g.nonts.length : Nat) : Int) ≤ ((g.terms + g.nonts.length : Nat) : Int)) = False := by simp only [eq_iff_iff, iff_false]; omega
            rw [Nat.sub_self, outN] at hix
            simp -implicitDefEqProofs only [Gra.cells, List.length_map, wsum g.terms g.nonts.length (by omega), hle,
    evx, evy, ofValue, ofCell, List.range, List.range.loop, Array.size, Nat.reduceAdd, Nat.reduceSub, Nat.reduceEqDiff, List.replicate, if_true, if_false, ↓reduceIte, reduceCtorEq, elB, evParts, Int.reduceToNat, Int.reduceLE, Int.reduceLT, Int.reduceEq, Nat.reduceMul, Nat.reduceLeDiff, Nat.reduceLT, ty3, ty4, ty9, ty22, ty23, ty24, ty25, ty27, ty35, ty40, ty44, ty46, ty55]
            rw [show chkB g R E = (0, 0) from by unfold chkB; rw [hj, hix]]
            simp -implicitDefEqProofs only [chkOut,
    evx, evy, ofValue, ofCell, List.range, List.range.loop, Array.size, Nat.reduceAdd, Nat.reduceSub, Nat.reduceEqDiff, List.replicate, if_true, if_false, ↓reduceIte, reduceCtorEq, elB, evParts, Int.reduceToNat, Int.reduceLE, Int.reduceLT, Int.reduceEq, Nat.reduceMul, Nat.reduceLeDiff, Nat.reduceLT, ty3, ty4, ty9, ty22, ty23, ty24, ty25, ty27, ty35, ty40, ty44, ty46, ty55]
            exact le_flat rfl
end Go.Abs
