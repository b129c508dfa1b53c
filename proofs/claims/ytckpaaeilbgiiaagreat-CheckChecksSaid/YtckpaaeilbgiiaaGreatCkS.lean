/- Is a grammar fine: the program's answer. -/
import Derived.Test.YtckpaaeilbgiiaaGreatTyTryz
import Derived.Test.YtckpaaeilbgiiaaGreatDrTryz
import Derived.Test.YtckpaaeilbgiiaaGreatAbsTree
import Derived.Test.YtckpaaeilbgiiaaGreatCkO
import Derived.Test.YtckpaaeilbgiiaaGreatCkR
import Derived.Test.YtckpaaeilbgiiaaGreatTopF
namespace Go.Abs
open Go.Proofs
set_option linter.unusedVariables false
set_option linter.unusedSimpArgs false
set_option maxRecDepth 100000
set_option maxHeartbeats 4000000
def noEmpty (r : Rul) : Bool := nullB r.re
def chkOut (x : Int × Int) : AOut := .ret (.tuple [.fv (.int .i64 x.1), .fv (.int .i64 x.2)])
theorem bsE_22 (b : Nat) (dd : TypeDesc) (z1 z2 x1 x2 y1 y2 : FV) (h : List Blk) : bsE (some ⟨dd, 2, b, some [z1, z2]⟩) 2 h (some [(0, .agg [.fv x1, .fv x2]), (1, .agg [.fv y1, .fv y2])]) = some (.ref h.length 2 0 2, h ++ [.plain 2 [[x1, x2], [y1, y2]]], []) :=
  bsE_rows b dd 2 [z1, z2] 2 h [[x1, x2], [y1, y2]] _ rfl (by omega) rfl (by omega) (by simp) rfl
theorem c02 : ((0 : Int) < ((2 : Nat) : Int)) = True := by simp
theorem c12 : ((1 : Int) < ((2 : Nat) : Int)) = True := by simp
theorem x0 {α : Type} (a b : α) : [a, b][0]? = some a := rfl
theorem x1 {α : Type} (a b : α) : [a, b][1]? = some b := rfl
theorem ok8 (g : Gra) (hg : Small g 100) : Ok Tryz.prog 8 [g.av] [] (chkOut (chkG noEmpty g (g.those (Reach g)) (g.those (Ended g)))) [] := by
  have hs := ok19 g hg
  have hterms := ok21 g hg.nrules
  have h10 := ok10 g hg
  have h11 := ok11_all g hg
  refine ok_start (k := 63) (n0 := 0) (rs := [.tmp 2, .tmp 3]) mix Tryz.func8 rfl rfl rfl rfl rfl rfl rfl ?_
  cases hsd : g.sound with
  | false =>
    rw [hsd] at hs
    have e : chkG noEmpty g (g.those (Reach g)) (g.those (Ended g)) = (0, 10) := by unfold chkG; rw [if_neg (by simp [hsd])]
    rw [e]
    simp -implicitDefEqProofs only [awp_draw _ _ Tryzdr8_19, Gra.av,
    evx, evy, ofValue, ofCell, List.range, List.range.loop, Array.size, Nat.reduceAdd, Nat.reduceSub, Nat.reduceEqDiff, List.replicate, if_true, if_false, ↓reduceIte, reduceCtorEq, elB, evParts, Int.reduceToNat, Int.reduceLE, Int.reduceLT, Int.reduceEq, Nat.reduceMul, Nat.reduceLeDiff, Nat.reduceLT, ty3, ty4, ty9, ty22, ty23, ty24, ty25, ty27, ty35, ty40, ty44, ty46, ty55, ty30, ty48, ty49]
    refine callK_ret _ _ _ _ (call_pure (hs) (fun _ => rfl) (fun _ => rfl)) (ok_nil _ _) ?_
    simp -implicitDefEqProofs only [awp_draw _ _ Tryzdr8_19, chkOut,
    evx, evy, ofValue, ofCell, List.range, List.range.loop, Array.size, Nat.reduceAdd, Nat.reduceSub, Nat.reduceEqDiff, List.replicate, if_true, if_false, ↓reduceIte, reduceCtorEq, elB, evParts, Int.reduceToNat, Int.reduceLE, Int.reduceLT, Int.reduceEq, Nat.reduceMul, Nat.reduceLeDiff, Nat.reduceLT, ty3, ty4, ty9, ty22, ty23, ty24, ty25, ty27, ty35, ty40, ty44, ty46, ty55, ty30, ty48, ty49]
    exact le_flat rfl
  | true =>
    rw [hsd] at hs
    have hso := g.sound_iff hsd
    have hnn := hso.nnonts
    have hnr := hso.nrules
    have htl := hso.terms_le
    have e1 : reachL g = g.those (Reach g) := by unfold reachL; rw [if_pos hsd]
    have e2 : endL g = g.those (Ended g) := by unfold endL; rw [if_pos hsd]
    rw [e1] at h10
    rw [e2] at h11
    have hrl := g.those_length (Reach g)
    have hel := g.those_length (Ended g)
    generalize g.those (Reach g) = R at h10 hrl
    generalize g.those (Ended g) = E at h11 hel
    have hri := ints_length R
    have hei := ints_length E
    have hck : chkG noEmpty g R E = chkR noEmpty g R E := by unfold chkG; rw [if_pos hsd]
    rw [hck]
    simp -implicitDefEqProofs only [awp_draw _ _ Tryzdr8_19, Gra.av,
    evx, evy, ofValue, ofCell, List.range, List.range.loop, Array.size, Nat.reduceAdd, Nat.reduceSub, Nat.reduceEqDiff, List.replicate, if_true, if_false, ↓reduceIte, reduceCtorEq, elB, evParts, Int.reduceToNat, Int.reduceLE, Int.reduceLT, Int.reduceEq, Nat.reduceMul, Nat.reduceLeDiff, Nat.reduceLT, ty3, ty4, ty9, ty22, ty23, ty24, ty25, ty27, ty35, ty40, ty44, ty46, ty55, ty30, ty48, ty49]
    refine callK_ret _ _ _ _ (call_pure (hs) (fun _ => rfl) (fun _ => rfl)) (ok_nil _ _) ?_
    simp -implicitDefEqProofs only [awp_draw _ _ Tryzdr8_19, Gra.cells, List.length_map,
    evx, evy, ofValue, ofCell, List.range, List.range.loop, Array.size, Nat.reduceAdd, Nat.reduceSub, Nat.reduceEqDiff, List.replicate, if_true, if_false, ↓reduceIte, reduceCtorEq, elB, evParts, Int.reduceToNat, Int.reduceLE, Int.reduceLT, Int.reduceEq, Nat.reduceMul, Nat.reduceLeDiff, Nat.reduceLT, ty3, ty4, ty9, ty22, ty23, ty24, ty25, ty27, ty35, ty40, ty44, ty46, ty55, ty30, ty48, ty49]
    refine loop_rule (fun i : Nat => ⟨[.any, .ptr 0 0 0 0, .any, .any, .any, .any, .any, .any, .any, .any, .any, .any, .any, .any, .fv (.lst 3 (g.rules.map Rul.row)), .fv (.int .i64 g.rules.length), .fv (.int .i64 i), .any, .any, .any, .any, .any, .any, .any, .any, .any, .any, .any, .any, .any, .any, .any, .any, .any, .any, .any, .any, .any, .any, .any, .any, .any, .any, .any, .any, .any, .any, .any, .any, .any, .any, .any, .any, .any, .any, .any, .any, .any, .any, .any, .any, .any, .any, .any], [.box g.cells], []⟩)
      (fun i => i ≤ g.rules.length ∧ (g.rules.take i).all (fun r => !noEmpty r) = true) (fun i => g.rules.length - i) 0 (le_wk (by simp [wk, Gra.cells])) (by simp) (fun i hi s hs1 => ?_)
    obtain ⟨hi, hall⟩ := hi
    by_cases hlt : i < g.rules.length
    · have hr := rows_at Rul.row g.rules i hlt
      have hat := nullIx_at (p := noEmpty) 0 hlt hall hlt
      have hgood := all_succ (fun r => !noEmpty r) hlt hall
      have hnull := ok20 g.rules[i].re
      generalize g.rules[i] = r at hr hat hgood hnull
      have hne : noEmpty r = nullB r.re := rfl
      rw [← hne] at hnull
      cases hb : noEmpty r with
      | true =>
        rw [hb] at hnull
        have hat2 := hat hb
        rw [Nat.zero_add] at hat2
        rw [chkR_some hat2]
        simp -implicitDefEqProofs only [awp_draw _ _ Tryzdr8_19, Gra.cells, List.length_map, stB_boxA, splice_all, List.all_cons, List.all_nil, lt_true hlt, hr, Rul.row,
    evx, evy, ofValue, ofCell, List.range, List.range.loop, Array.size, Nat.reduceAdd, Nat.reduceSub, Nat.reduceEqDiff, List.replicate, if_true, if_false, ↓reduceIte, reduceCtorEq, elB, evParts, Int.reduceToNat, Int.reduceLE, Int.reduceLT, Int.reduceEq, Nat.reduceMul, Nat.reduceLeDiff, Nat.reduceLT, ty3, ty4, ty9, ty22, ty23, ty24, ty25, ty27, ty35, ty40, ty44, ty46, ty55, ty30, ty48, ty49]
        refine callK_ret _ _ _ _ (call_pure (hnull) (fun _ => rfl) (fun _ => rfl)) (ok_nil _ _) ?_
        simp -implicitDefEqProofs only [awp_draw _ _ Tryzdr8_19, chkOut,
    evx, evy, ofValue, ofCell, List.range, List.range.loop, Array.size, Nat.reduceAdd, Nat.reduceSub, Nat.reduceEqDiff, List.replicate, if_true, if_false, ↓reduceIte, reduceCtorEq, elB, evParts, Int.reduceToNat, Int.reduceLE, Int.reduceLT, Int.reduceEq, Nat.reduceMul, Nat.reduceLeDiff, Nat.reduceLT, ty3, ty4, ty9, ty22, ty23, ty24, ty25, ty27, ty35, ty40, ty44, ty46, ty55, ty30, ty48, ty49]
        exact le_flat rfl
      | false =>
        rw [hb] at hnull
        simp -implicitDefEqProofs only [awp_draw _ _ Tryzdr8_19, Gra.cells, List.length_map, stB_boxA, splice_all, List.all_cons, List.all_nil, lt_true hlt, hr, Rul.row,
    evx, evy, ofValue, ofCell, List.range, List.range.loop, Array.size, Nat.reduceAdd, Nat.reduceSub, Nat.reduceEqDiff, List.replicate, if_true, if_false, ↓reduceIte, reduceCtorEq, elB, evParts, Int.reduceToNat, Int.reduceLE, Int.reduceLT, Int.reduceEq, Nat.reduceMul, Nat.reduceLeDiff, Nat.reduceLT, ty3, ty4, ty9, ty22, ty23, ty24, ty25, ty27, ty35, ty40, ty44, ty46, ty55, ty30, ty48, ty49]
        refine callK_ret _ _ _ _ (call_pure (hnull) (fun _ => rfl) (fun _ => rfl)) (ok_nil _ _) ?_
        simp -implicitDefEqProofs only [awp_draw _ _ Tryzdr8_19, wsucc i (by omega),
    evx, evy, ofValue, ofCell, List.range, List.range.loop, Array.size, Nat.reduceAdd, Nat.reduceSub, Nat.reduceEqDiff, List.replicate, if_true, if_false, ↓reduceIte, reduceCtorEq, elB, evParts, Int.reduceToNat, Int.reduceLE, Int.reduceLT, Int.reduceEq, Nat.reduceMul, Nat.reduceLeDiff, Nat.reduceLT, ty3, ty4, ty9, ty22, ty23, ty24, ty25, ty27, ty35, ty40, ty44, ty46, ty55, ty30, ty48, ty49]
        refine back_intro hs1 (i + 1) (le_pk [0] rfl (by simp) (by simp) ?_ ?_) ⟨by omega, hgood (by rw [hb]; rfl)⟩ (by omega)
        · simp [subBlk, subAny, subA, Gra.cells]
        · simp [wk, subAny, subA, mkSub, idx]
    · obtain rfl : i = g.rules.length := by omega
      rw [List.take_length] at hall
      rw [chkR_none (nullIx_none 0 hall)]
      by_cases n0 : g.nonts.length = 0
      · have n0t : ((g.nonts.length : Int) = 0) = True := by simpa using n0
        rw [if_pos n0]
        simp -implicitDefEqProofs only [awp_draw _ _ Tryzdr8_19, Gra.cells, List.length_map, lt_false hlt, n0t, chkOut,
    evx, evy, ofValue, ofCell, List.range, List.range.loop, Array.size, Nat.reduceAdd, Nat.reduceSub, Nat.reduceEqDiff, List.replicate, if_true, if_false, ↓reduceIte, reduceCtorEq, elB, evParts, Int.reduceToNat, Int.reduceLE, Int.reduceLT, Int.reduceEq, Nat.reduceMul, Nat.reduceLeDiff, Nat.reduceLT, ty3, ty4, ty9, ty22, ty23, ty24, ty25, ty27, ty35, ty40, ty44, ty46, ty55, ty30, ty48, ty49]
        exact le_flat rfl
      · have n0t : ((g.nonts.length : Int) = 0) = False := by simpa using n0
        rw [if_neg n0]
        simp -implicitDefEqProofs only [awp_draw _ _ Tryzdr8_19, Gra.cells, List.length_map, lt_false hlt, n0t,
    evx, evy, ofValue, ofCell, List.range, List.range.loop, Array.size, Nat.reduceAdd, Nat.reduceSub, Nat.reduceEqDiff, List.replicate, if_true, if_false, ↓reduceIte, reduceCtorEq, elB, evParts, Int.reduceToNat, Int.reduceLE, Int.reduceLT, Int.reduceEq, Nat.reduceMul, Nat.reduceLeDiff, Nat.reduceLT, ty3, ty4, ty9, ty22, ty23, ty24, ty25, ty27, ty35, ty40, ty44, ty46, ty55, ty30, ty48, ty49]
        refine callK_ret _ _ _ _ (call_pure (hterms) (fun _ => rfl) (fun _ => rfl)) (ok_nil _ _) ?_
        simp -implicitDefEqProofs only [awp_draw _ _ Tryzdr8_19,
    evx, evy, ofValue, ofCell, List.range, List.range.loop, Array.size, Nat.reduceAdd, Nat.reduceSub, Nat.reduceEqDiff, List.replicate, if_true, if_false, ↓reduceIte, reduceCtorEq, elB, evParts, Int.reduceToNat, Int.reduceLE, Int.reduceLT, Int.reduceEq, Nat.reduceMul, Nat.reduceLeDiff, Nat.reduceLT, ty3, ty4, ty9, ty22, ty23, ty24, ty25, ty27, ty35, ty40, ty44, ty46, ty55, ty30, ty48, ty49]
        refine awp_forks (t := .fork [(0, true), (3, true), (8, true), (1, false)] 2 (.lin [(4, false), (5, false), (6, false), (7, true)]) 4 (.fork [] 2 (.lin [(5, false), (6, false), (7, true)]) 5 (.lin [(2, false), (6, false), (7, true)]))) (by kernel_rfl) (by kernel_rfl) (by kernel_rfl)
          ⟨[.any, .ptr 0 0 0 0, .any, .any, .any, .any, .fv (.int .i64 g.terms), .any, .any, .any, .any, .any, .any, .any, .any, .any, .any, .any, .any, .any, .any, .any, .any, .any, .any, .any, .any, .any, .any, .any, .any, .any, .any, .any, .any, .any, .any, .any, .ref 1 2 0 2, .fv (.int .i64 2), .fv (.int .i64 0), .any, .any, .any, .any, .any, .any, .any, .any, .any, .any, .any, .any, .any, .any, .any, .any, .any, .any, .any, .any, .any, .any, .any], [.box g.cells, .plain 2 [[.lst 1 (ints R), .int .i64 8], [.lst 1 (ints E), .int .i64 9]]], []⟩ ?_ ?_
        · simp only [ordG]
          simp -implicitDefEqProofs only [awp_draw _ _ Tryzdr8_19, Gra.cells,
    evx, evy, ofValue, ofCell, List.range, List.range.loop, Array.size, Nat.reduceAdd, Nat.reduceSub, Nat.reduceEqDiff, List.replicate, if_true, if_false, ↓reduceIte, reduceCtorEq, elB, evParts, Int.reduceToNat, Int.reduceLE, Int.reduceLT, Int.reduceEq, Nat.reduceMul, Nat.reduceLeDiff, Nat.reduceLT, ty3, ty4, ty9, ty22, ty23, ty24, ty25, ty27, ty35, ty40, ty44, ty46, ty55, ty30, ty48, ty49]
          refine callK_ret _ _ _ _ (call_pure (h10) (fun _ => rfl) (fun _ => rfl)) (ok_nil _ _) ?_
          simp -implicitDefEqProofs only [awp_draw _ _ Tryzdr8_19,
    evx, evy, ofValue, ofCell, List.range, List.range.loop, Array.size, Nat.reduceAdd, Nat.reduceSub, Nat.reduceEqDiff, List.replicate, if_true, if_false, ↓reduceIte, reduceCtorEq, elB, evParts, Int.reduceToNat, Int.reduceLE, Int.reduceLT, Int.reduceEq, Nat.reduceMul, Nat.reduceLeDiff, Nat.reduceLT, ty3, ty4, ty9, ty22, ty23, ty24, ty25, ty27, ty35, ty40, ty44, ty46, ty55, ty30, ty48, ty49]
          simp only [onN]
          refine ⟨fun q1 => ?_, fun q1 => ?_⟩
          · simp -implicitDefEqProofs only [awp_draw _ _ Tryzdr8_19,
    evx, evy, ofValue, ofCell, List.range, List.range.loop, Array.size, Nat.reduceAdd, Nat.reduceSub, Nat.reduceEqDiff, List.replicate, if_true, if_false, ↓reduceIte, reduceCtorEq, elB, evParts, Int.reduceToNat, Int.reduceLE, Int.reduceLT, Int.reduceEq, Nat.reduceMul, Nat.reduceLeDiff, Nat.reduceLT, ty3, ty4, ty9, ty22, ty23, ty24, ty25, ty27, ty35, ty40, ty44, ty46, ty55, ty30, ty48, ty49]
            simp only [onN]
            intro q2
            simp -implicitDefEqProofs only [awp_draw _ _ Tryzdr8_19,
    evx, evy, ofValue, ofCell, List.range, List.range.loop, Array.size, Nat.reduceAdd, Nat.reduceSub, Nat.reduceEqDiff, List.replicate, if_true, if_false, ↓reduceIte, reduceCtorEq, elB, evParts, Int.reduceToNat, Int.reduceLE, Int.reduceLT, Int.reduceEq, Nat.reduceMul, Nat.reduceLeDiff, Nat.reduceLT, ty3, ty4, ty9, ty22, ty23, ty24, ty25, ty27, ty35, ty40, ty44, ty46, ty55, ty30, ty48, ty49]
            refine callK_ret _ _ _ _ (call_pure (h11) (fun _ => rfl) (fun _ => rfl)) (ok_nil _ _) ?_
            simp -implicitDefEqProofs only [awp_draw _ _ Tryzdr8_19, bsE_22,
    evx, evy, ofValue, ofCell, List.range, List.range.loop, Array.size, Nat.reduceAdd, Nat.reduceSub, Nat.reduceEqDiff, List.replicate, if_true, if_false, ↓reduceIte, reduceCtorEq, elB, evParts, Int.reduceToNat, Int.reduceLE, Int.reduceLT, Int.reduceEq, Nat.reduceMul, Nat.reduceLeDiff, Nat.reduceLT, ty3, ty4, ty9, ty22, ty23, ty24, ty25, ty27, ty35, ty40, ty44, ty46, ty55, ty30, ty48, ty49]
            exact le_wk (by simp [wk, Gra.cells])
          · simp -implicitDefEqProofs only [awp_draw _ _ Tryzdr8_19,
    evx, evy, ofValue, ofCell, List.range, List.range.loop, Array.size, Nat.reduceAdd, Nat.reduceSub, Nat.reduceEqDiff, List.replicate, if_true, if_false, ↓reduceIte, reduceCtorEq, elB, evParts, Int.reduceToNat, Int.reduceLE, Int.reduceLT, Int.reduceEq, Nat.reduceMul, Nat.reduceLeDiff, Nat.reduceLT, ty3, ty4, ty9, ty22, ty23, ty24, ty25, ty27, ty35, ty40, ty44, ty46, ty55, ty30, ty48, ty49]
            refine callK_ret _ _ _ _ (call_pure (h11) (fun _ => rfl) (fun _ => rfl)) (ok_nil _ _) ?_
            simp -implicitDefEqProofs only [awp_draw _ _ Tryzdr8_19,
    evx, evy, ofValue, ofCell, List.range, List.range.loop, Array.size, Nat.reduceAdd, Nat.reduceSub, Nat.reduceEqDiff, List.replicate, if_true, if_false, ↓reduceIte, reduceCtorEq, elB, evParts, Int.reduceToNat, Int.reduceLE, Int.reduceLT, Int.reduceEq, Nat.reduceMul, Nat.reduceLeDiff, Nat.reduceLT, ty3, ty4, ty9, ty22, ty23, ty24, ty25, ty27, ty35, ty40, ty44, ty46, ty55, ty30, ty48, ty49]
            simp only [onN]
            intro q2
            simp -implicitDefEqProofs only [awp_draw _ _ Tryzdr8_19,
    evx, evy, ofValue, ofCell, List.range, List.range.loop, Array.size, Nat.reduceAdd, Nat.reduceSub, Nat.reduceEqDiff, List.replicate, if_true, if_false, ↓reduceIte, reduceCtorEq, elB, evParts, Int.reduceToNat, Int.reduceLE, Int.reduceLT, Int.reduceEq, Nat.reduceMul, Nat.reduceLeDiff, Nat.reduceLT, ty3, ty4, ty9, ty22, ty23, ty24, ty25, ty27, ty35, ty40, ty44, ty46, ty55, ty30, ty48, ty49]
            simp only [onN]
            refine ⟨fun q3 => ?_, fun q3 => ?_⟩
            · simp -implicitDefEqProofs only [awp_draw _ _ Tryzdr8_19,
    evx, evy, ofValue, ofCell, List.range, List.range.loop, Array.size, Nat.reduceAdd, Nat.reduceSub, Nat.reduceEqDiff, List.replicate, if_true, if_false, ↓reduceIte, reduceCtorEq, elB, evParts, Int.reduceToNat, Int.reduceLE, Int.reduceLT, Int.reduceEq, Nat.reduceMul, Nat.reduceLeDiff, Nat.reduceLT, ty3, ty4, ty9, ty22, ty23, ty24, ty25, ty27, ty35, ty40, ty44, ty46, ty55, ty30, ty48, ty49]
              try simp only [onN]
              intro q4
              simp -implicitDefEqProofs only [awp_draw _ _ Tryzdr8_19, bsE_22,
    evx, evy, ofValue, ofCell, List.range, List.range.loop, Array.size, Nat.reduceAdd, Nat.reduceSub, Nat.reduceEqDiff, List.replicate, if_true, if_false, ↓reduceIte, reduceCtorEq, elB, evParts, Int.reduceToNat, Int.reduceLE, Int.reduceLT, Int.reduceEq, Nat.reduceMul, Nat.reduceLeDiff, Nat.reduceLT, ty3, ty4, ty9, ty22, ty23, ty24, ty25, ty27, ty35, ty40, ty44, ty46, ty55, ty30, ty48, ty49]
              exact le_wk (by simp [wk, Gra.cells])
            · simp -implicitDefEqProofs only [awp_draw _ _ Tryzdr8_19,
    evx, evy, ofValue, ofCell, List.range, List.range.loop, Array.size, Nat.reduceAdd, Nat.reduceSub, Nat.reduceEqDiff, List.replicate, if_true, if_false, ↓reduceIte, reduceCtorEq, elB, evParts, Int.reduceToNat, Int.reduceLE, Int.reduceLT, Int.reduceEq, Nat.reduceMul, Nat.reduceLeDiff, Nat.reduceLT, ty3, ty4, ty9, ty22, ty23, ty24, ty25, ty27, ty35, ty40, ty44, ty46, ty55, ty30, ty48, ty49]
              try simp only [onN]
              intro q4
              simp -implicitDefEqProofs only [awp_draw _ _ Tryzdr8_19, bsE_22,
    evx, evy, ofValue, ofCell, List.range, List.range.loop, Array.size, Nat.reduceAdd, Nat.reduceSub, Nat.reduceEqDiff, List.replicate, if_true, if_false, ↓reduceIte, reduceCtorEq, elB, evParts, Int.reduceToNat, Int.reduceLE, Int.reduceLT, Int.reduceEq, Nat.reduceMul, Nat.reduceLeDiff, Nat.reduceLT, ty3, ty4, ty9, ty22, ty23, ty24, ty25, ty27, ty35, ty40, ty44, ty46, ty55, ty30, ty48, ty49]
              exact le_wk (by simp [wk, Gra.cells])
        · simp -implicitDefEqProofs only [awp_draw _ _ Tryzdr8_19,
    evx, evy, ofValue, ofCell, List.range, List.range.loop, Array.size, Nat.reduceAdd, Nat.reduceSub, Nat.reduceEqDiff, List.replicate, if_true, if_false, ↓reduceIte, reduceCtorEq, elB, evParts, Int.reduceToNat, Int.reduceLE, Int.reduceLT, Int.reduceEq, Nat.reduceMul, Nat.reduceLeDiff, Nat.reduceLT, ty3, ty4, ty9, ty22, ty23, ty24, ty25, ty27, ty35, ty40, ty44, ty46, ty55, ty30, ty48, ty49]
          refine loop_rule (fun j : Int => ⟨[.any, .ptr 0 0 0 0, .any, .any, .any, .any, .fv (.int .i64 g.terms), .any, .any, .any, .any, .any, .any, .any, .any, .any, .any, .any, .any, .any, .any, .any, .any, .any, .any, .any, .any, .any, .any, .any, .any, .any, .any, .any, .any, .any, .any, .any, .ref 1 2 0 2, .fv (.int .i64 2), .fv (.int .i64 j), .any, .any, .any, .any, .any, .any, .any, .any, .any, .any, .any, .any, .any, .any, .any, .any, .any, .any, .any, .any, .any, .any, .any], [.box g.cells, .plain 2 [[.lst 1 (ints R), .int .i64 8], [.lst 1 (ints E), .int .i64 9]]], []⟩)
            (fun j => j = 0 ∨ (j = 1 ∧ outN g.terms R g.nonts.length 0 = none) ∨ (j = 2 ∧ outN g.terms R g.nonts.length 0 = none ∧ outN g.terms E g.nonts.length 0 = none)) (fun j => (2 - j).toNat) 0 (Le.refl _ _) (.inl rfl) (fun j hj s2 hs2 => ?_)
          rcases hj with rfl | ⟨rfl, hj⟩ | ⟨rfl, hj, hj2⟩
          · have hcon := fun x => ok22 R x (by omega)
            simp -implicitDefEqProofs only [awp_draw _ _ Tryzdr8_19, Gra.cells, List.length_map, stB_boxA, splice_all, List.all_cons, List.all_nil, c02, c12, x0, x1, Nat.zero_add, wsucc g.terms (by omega),
    evx, evy, ofValue, ofCell, List.range, List.range.loop, Array.size, Nat.reduceAdd, Nat.reduceSub, Nat.reduceEqDiff, List.replicate, if_true, if_false, ↓reduceIte, reduceCtorEq, elB, evParts, Int.reduceToNat, Int.reduceLE, Int.reduceLT, Int.reduceEq, Nat.reduceMul, Nat.reduceLeDiff, Nat.reduceLT, ty3, ty4, ty9, ty22, ty23, ty24, ty25, ty27, ty35, ty40, ty44, ty46, ty55, ty30, ty48, ty49]
            refine loop_rule (fun k : Nat => ⟨[.any, .ptr 0 0 0 0, .any, .any, .any, .any, .fv (.int .i64 g.terms), .any, .ptr 2 0 0 0, .fv (.int .i64 ((g.terms + 1 + k : Nat) : Int)), .any, .any, .any, .any, .any, .any, .any, .any, .any, .any, .any, .any, .any, .any, .any, .any, .any, .any, .any, .any, .any, .any, .any, .any, .any, .any, .any, .any, .ref 1 2 0 2, .fv (.int .i64 2), .fv (.int .i64 0), .any, .any, .any, .any, .any, .any, .any, .any, .any, .any, .any, .any, .any, .any, .any, .any, .any, .any, .any, .any, .any, .any, .any], [.box g.cells, .plain 2 [[.lst 1 (ints R), .int .i64 8], [.lst 1 (ints E), .int .i64 9]], .box [.fv (.lst 1 (ints R)), .fv (.int .i64 8)]], []⟩)
              (fun k => k ≤ g.nonts.length ∧ outN g.terms R g.nonts.length 0 = outN g.terms R (g.nonts.length - k) k) (fun k => g.nonts.length - k) 0 (le_wk (by simp [wk, Gra.cells])) ⟨by omega, rfl⟩ (fun k hk s3 hs3 => ?_)
            obtain ⟨hk, hix⟩ := hk
            by_cases hkl : k < g.nonts.length
            · have hle : (((g.terms + 1 + k : Nat) : Int) ≤ ((g.terms + g.nonts.length : Nat) : Int)) = True := by simp only [eq_iff_iff, iff_true]; omega
              rw [show g.nonts.length - k = (g.nonts.length - (k + 1)) + 1 from by omega, outN] at hix
              have hcast : ((g.terms + 1 + k : Nat) : Int) = (g.terms : Int) + 1 + k := by omega
              have hcon2 := hcon ((g.terms + 1 + k : Nat) : Int)
              by_cases hm : (g.terms : Int) + 1 + k ∈ R
              · rw [if_pos hm] at hix
                rw [hcast, decide_eq_true hm, ← hcast] at hcon2
                simp -implicitDefEqProofs only [awp_draw _ _ Tryzdr8_19, Gra.cells, List.length_map, wsum g.terms g.nonts.length (by omega), hle,
    evx, evy, ofValue, ofCell, List.range, List.range.loop, Array.size, Nat.reduceAdd, Nat.reduceSub, Nat.reduceEqDiff, List.replicate, if_true, if_false, ↓reduceIte, reduceCtorEq, elB, evParts, Int.reduceToNat, Int.reduceLE, Int.reduceLT, Int.reduceEq, Nat.reduceMul, Nat.reduceLeDiff, Nat.reduceLT, ty3, ty4, ty9, ty22, ty23, ty24, ty25, ty27, ty35, ty40, ty44, ty46, ty55, ty30, ty48, ty49]
                refine callK_ret _ _ _ _ (call_pure (hcon2) (fun _ => rfl) (fun _ => rfl)) (ok_nil _ _) ?_
                simp -implicitDefEqProofs only [awp_draw _ _ Tryzdr8_19, wsucc (g.terms + 1 + k) (by omega),
    evx, evy, ofValue, ofCell, List.range, List.range.loop, Array.size, Nat.reduceAdd, Nat.reduceSub, Nat.reduceEqDiff, List.replicate, if_true, if_false, ↓reduceIte, reduceCtorEq, elB, evParts, Int.reduceToNat, Int.reduceLE, Int.reduceLT, Int.reduceEq, Nat.reduceMul, Nat.reduceLeDiff, Nat.reduceLT, ty3, ty4, ty9, ty22, ty23, ty24, ty25, ty27, ty35, ty40, ty44, ty46, ty55, ty30, ty48, ty49]
                exact back_intro hs3 (k + 1) (le_wk (by simp [wk, Gra.cells]; omega)) ⟨by omega, hix⟩ (by omega)
              · rw [if_neg hm] at hix
                rw [hcast, decide_eq_false hm, ← hcast] at hcon2
                have hix2 := hix
                simp -implicitDefEqProofs only [awp_draw _ _ Tryzdr8_19, Gra.cells, List.length_map, wsum g.terms g.nonts.length (by omega), hle,
    evx, evy, ofValue, ofCell, List.range, List.range.loop, Array.size, Nat.reduceAdd, Nat.reduceSub, Nat.reduceEqDiff, List.replicate, if_true, if_false, ↓reduceIte, reduceCtorEq, elB, evParts, Int.reduceToNat, Int.reduceLE, Int.reduceLT, Int.reduceEq, Nat.reduceMul, Nat.reduceLeDiff, Nat.reduceLT, ty3, ty4, ty9, ty22, ty23, ty24, ty25, ty27, ty35, ty40, ty44, ty46, ty55, ty30, ty48, ty49]
                refine callK_ret _ _ _ _ (call_pure (hcon2) (fun _ => rfl) (fun _ => rfl)) (ok_nil _ _) ?_
                rw [show chkB g R E = ((g.terms : Int) + 1 + k, 8) from by unfold chkB; rw [hix2]]
                simp -implicitDefEqProofs only [awp_draw _ _ Tryzdr8_19, chkOut,
    evx, evy, ofValue, ofCell, List.range, List.range.loop, Array.size, Nat.reduceAdd, Nat.reduceSub, Nat.reduceEqDiff, List.replicate, if_true, if_false, ↓reduceIte, reduceCtorEq, elB, evParts, Int.reduceToNat, Int.reduceLE, Int.reduceLT, Int.reduceEq, Nat.reduceMul, Nat.reduceLeDiff, Nat.reduceLT, ty3, ty4, ty9, ty22, ty23, ty24, ty25, ty27, ty35, ty40, ty44, ty46, ty55, ty30, ty48, ty49]
                rw [← hcast]
                exact le_flat rfl
            · obtain rfl : k = g.nonts.length := by omega
              have hle : (((g.terms + 1 + g.nonts.length : Nat) : Int) ≤ ((g.terms + g.nonts.length : Nat) : Int)) = False := by simp only [eq_iff_iff, iff_false]; omega
              rw [Nat.sub_self, outN] at hix
              simp -implicitDefEqProofs only [awp_draw _ _ Tryzdr8_19, Gra.cells, List.length_map, wsum g.terms g.nonts.length (by omega), hle, w01, w12,
    evx, evy, ofValue, ofCell, List.range, List.range.loop, Array.size, Nat.reduceAdd, Nat.reduceSub, Nat.reduceEqDiff, List.replicate, if_true, if_false, ↓reduceIte, reduceCtorEq, elB, evParts, Int.reduceToNat, Int.reduceLE, Int.reduceLT, Int.reduceEq, Nat.reduceMul, Nat.reduceLeDiff, Nat.reduceLT, ty3, ty4, ty9, ty22, ty23, ty24, ty25, ty27, ty35, ty40, ty44, ty46, ty55, ty30, ty48, ty49]
              refine back_intro hs2 1 (le_pk [0, 1] rfl (by simp) (by simp) ?_ ?_) (.inr (.inl ⟨rfl, hix⟩)) (by decide)
              · simp [subBlk, subAny, subA, Gra.cells]
              · simp [wk, subAny, subA, mkSub, idx]
          · have hcon := fun x => ok22 E x (by omega)
            simp -implicitDefEqProofs only [awp_draw _ _ Tryzdr8_19, Gra.cells, List.length_map, stB_boxA, splice_all, List.all_cons, List.all_nil, c02, c12, x0, x1, Nat.zero_add, wsucc g.terms (by omega),
    evx, evy, ofValue, ofCell, List.range, List.range.loop, Array.size, Nat.reduceAdd, Nat.reduceSub, Nat.reduceEqDiff, List.replicate, if_true, if_false, ↓reduceIte, reduceCtorEq, elB, evParts, Int.reduceToNat, Int.reduceLE, Int.reduceLT, Int.reduceEq, Nat.reduceMul, Nat.reduceLeDiff, Nat.reduceLT, ty3, ty4, ty9, ty22, ty23, ty24, ty25, ty27, ty35, ty40, ty44, ty46, ty55, ty30, ty48, ty49]
            refine loop_rule (fun k : Nat => ⟨[.any, .ptr 0 0 0 0, .any, .any, .any, .any, .fv (.int .i64 g.terms), .any, .ptr 2 0 0 0, .fv (.int .i64 ((g.terms + 1 + k : Nat) : Int)), .any, .any, .any, .any, .any, .any, .any, .any, .any, .any, .any, .any, .any, .any, .any, .any, .any, .any, .any, .any, .any, .any, .any, .any, .any, .any, .any, .any, .ref 1 2 0 2, .fv (.int .i64 2), .fv (.int .i64 1), .any, .any, .any, .any, .any, .any, .any, .any, .any, .any, .any, .any, .any, .any, .any, .any, .any, .any, .any, .any, .any, .any, .any], [.box g.cells, .plain 2 [[.lst 1 (ints R), .int .i64 8], [.lst 1 (ints E), .int .i64 9]], .box [.fv (.lst 1 (ints E)), .fv (.int .i64 9)]], []⟩)
              (fun k => k ≤ g.nonts.length ∧ outN g.terms E g.nonts.length 0 = outN g.terms E (g.nonts.length - k) k) (fun k => g.nonts.length - k) 0 (le_wk (by simp [wk, Gra.cells])) ⟨by omega, rfl⟩ (fun k hk s3 hs3 => ?_)
            obtain ⟨hk, hix⟩ := hk
            by_cases hkl : k < g.nonts.length
            · have hle : (((g.terms + 1 + k : Nat) : Int) ≤ ((g.terms + g.nonts.length : Nat) : Int)) = True := by simp only [eq_iff_iff, iff_true]; omega
              rw [show g.nonts.length - k = (g.nonts.length - (k + 1)) + 1 from by omega, outN] at hix
              have hcast : ((g.terms + 1 + k : Nat) : Int) = (g.terms : Int) + 1 + k := by omega
              have hcon2 := hcon ((g.terms + 1 + k : Nat) : Int)
              by_cases hm : (g.terms : Int) + 1 + k ∈ E
              · rw [if_pos hm] at hix
                rw [hcast, decide_eq_true hm, ← hcast] at hcon2
                simp -implicitDefEqProofs only [awp_draw _ _ Tryzdr8_19, Gra.cells, List.length_map, wsum g.terms g.nonts.length (by omega), hle,
    evx, evy, ofValue, ofCell, List.range, List.range.loop, Array.size, Nat.reduceAdd, Nat.reduceSub, Nat.reduceEqDiff, List.replicate, if_true, if_false, ↓reduceIte, reduceCtorEq, elB, evParts, Int.reduceToNat, Int.reduceLE, Int.reduceLT, Int.reduceEq, Nat.reduceMul, Nat.reduceLeDiff, Nat.reduceLT, ty3, ty4, ty9, ty22, ty23, ty24, ty25, ty27, ty35, ty40, ty44, ty46, ty55, ty30, ty48, ty49]
                refine callK_ret _ _ _ _ (call_pure (hcon2) (fun _ => rfl) (fun _ => rfl)) (ok_nil _ _) ?_
                simp -implicitDefEqProofs only [awp_draw _ _ Tryzdr8_19, wsucc (g.terms + 1 + k) (by omega),
    evx, evy, ofValue, ofCell, List.range, List.range.loop, Array.size, Nat.reduceAdd, Nat.reduceSub, Nat.reduceEqDiff, List.replicate, if_true, if_false, ↓reduceIte, reduceCtorEq, elB, evParts, Int.reduceToNat, Int.reduceLE, Int.reduceLT, Int.reduceEq, Nat.reduceMul, Nat.reduceLeDiff, Nat.reduceLT, ty3, ty4, ty9, ty22, ty23, ty24, ty25, ty27, ty35, ty40, ty44, ty46, ty55, ty30, ty48, ty49]
                exact back_intro hs3 (k + 1) (le_wk (by simp [wk, Gra.cells]; omega)) ⟨by omega, hix⟩ (by omega)
              · rw [if_neg hm] at hix
                rw [hcast, decide_eq_false hm, ← hcast] at hcon2
                have hix2 := hix
                simp -implicitDefEqProofs only [awp_draw _ _ Tryzdr8_19, Gra.cells, List.length_map, wsum g.terms g.nonts.length (by omega), hle,
    evx, evy, ofValue, ofCell, List.range, List.range.loop, Array.size, Nat.reduceAdd, Nat.reduceSub, Nat.reduceEqDiff, List.replicate, if_true, if_false, ↓reduceIte, reduceCtorEq, elB, evParts, Int.reduceToNat, Int.reduceLE, Int.reduceLT, Int.reduceEq, Nat.reduceMul, Nat.reduceLeDiff, Nat.reduceLT, ty3, ty4, ty9, ty22, ty23, ty24, ty25, ty27, ty35, ty40, ty44, ty46, ty55, ty30, ty48, ty49]
                refine callK_ret _ _ _ _ (call_pure (hcon2) (fun _ => rfl) (fun _ => rfl)) (ok_nil _ _) ?_
                rw [show chkB g R E = ((g.terms : Int) + 1 + k, 9) from by unfold chkB; rw [hj, hix2]]
                simp -implicitDefEqProofs only [awp_draw _ _ Tryzdr8_19, chkOut,
    evx, evy, ofValue, ofCell, List.range, List.range.loop, Array.size, Nat.reduceAdd, Nat.reduceSub, Nat.reduceEqDiff, List.replicate, if_true, if_false, ↓reduceIte, reduceCtorEq, elB, evParts, Int.reduceToNat, Int.reduceLE, Int.reduceLT, Int.reduceEq, Nat.reduceMul, Nat.reduceLeDiff, Nat.reduceLT, ty3, ty4, ty9, ty22, ty23, ty24, ty25, ty27, ty35, ty40, ty44, ty46, ty55, ty30, ty48, ty49]
                rw [← hcast]
                exact le_flat rfl
            · obtain rfl : k = g.nonts.length := by omega
              have hle : (((g.terms + 1 + g.nonts.length : Nat) : Int) ≤ ((g.terms + g.nonts.length : Nat) : Int)) = False := by simp only [eq_iff_iff, iff_false]; omega
              rw [Nat.sub_self, outN] at hix
              simp -implicitDefEqProofs only [awp_draw _ _ Tryzdr8_19, Gra.cells, List.length_map, wsum g.terms g.nonts.length (by omega), hle, w01, w12,
    evx, evy, ofValue, ofCell, List.range, List.range.loop, Array.size, Nat.reduceAdd, Nat.reduceSub, Nat.reduceEqDiff, List.replicate, if_true, if_false, ↓reduceIte, reduceCtorEq, elB, evParts, Int.reduceToNat, Int.reduceLE, Int.reduceLT, Int.reduceEq, Nat.reduceMul, Nat.reduceLeDiff, Nat.reduceLT, ty3, ty4, ty9, ty22, ty23, ty24, ty25, ty27, ty35, ty40, ty44, ty46, ty55, ty30, ty48, ty49]
              refine back_intro hs2 2 (le_pk [0, 1] rfl (by simp) (by simp) ?_ ?_) (.inr (.inr ⟨rfl, hj, hix⟩)) (by decide)
              · simp [subBlk, subAny, subA, Gra.cells]
              · simp [wk, subAny, subA, mkSub, idx]
          · rw [show chkB g R E = (0, 0) from by unfold chkB; rw [hj, hj2]]
            simp -implicitDefEqProofs only [awp_draw _ _ Tryzdr8_19, chkOut,
    evx, evy, ofValue, ofCell, List.range, List.range.loop, Array.size, Nat.reduceAdd, Nat.reduceSub, Nat.reduceEqDiff, List.replicate, if_true, if_false, ↓reduceIte, reduceCtorEq, elB, evParts, Int.reduceToNat, Int.reduceLE, Int.reduceLT, Int.reduceEq, Nat.reduceMul, Nat.reduceLeDiff, Nat.reduceLT, ty3, ty4, ty9, ty22, ty23, ty24, ty25, ty27, ty35, ty40, ty44, ty46, ty55, ty30, ty48, ty49]
            exact le_flat rfl
end Go.Abs
