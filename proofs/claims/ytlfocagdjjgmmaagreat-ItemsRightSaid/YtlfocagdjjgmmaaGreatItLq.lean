/- The law ItemsRight as a contract. -/
import Derived.Test.YtlfocagdjjgmmaaGreatTyTryzq
import Derived.Test.YtlfocagdjjgmmaaGreatDrTryzq
import Derived.Test.YtlfocagdjjgmmaaGreatItDq
import Derived.Test.YtlfocagdjjgmmaaGreatItWq
import Derived.Test.YtlfocagdjjgmmaaGreatAbsTree
namespace Go.Abs
open Go.Proofs
set_option linter.unusedVariables false
set_option linter.unusedSimpArgs false
set_option maxRecDepth 100000
set_option maxHeartbeats 8000000
theorem neqB3 (x y one : Bool) : binA Tryz.prog .neq 4 one (.fv (.bool x)) (.fv (.bool y)) = some (.fv (.bool (x != y))) := neq_bool ty4 x y
theorem cmpL_self2 : ∀ l : List Int, cmpL l l = 0
  | [] => rfl
  | x :: l => by
    have h : cmpI x x = 0 := by simp [cmpI]
    rw [cmpL, if_pos h, cmpL_self2 l]
theorem itm_of (row : List FV) (h : RowC [.int .i64, .int .i64] row) : ∃ x : Itm, row = x.row ∧ (I64 x.prod ∧ I64 x.dot) := by
  obtain ⟨l, rfl, h1, h2⟩ := lev_of row h
  exact ⟨⟨l.power, l.side⟩, rfl, h1, h2⟩
theorem right_one {g : Gra} {x : Itm} : g.rightI [x] = (g.usB && g.isItm x) := by simp [Gra.rightI]
theorem right_zero {g : Gra} {p : Int} : g.rightI [⟨p, 0⟩] = (g.usB && g.isProd p) := by
  rw [right_one]
  congr 1
  simp [Gra.isItm]
theorem lawRight (g : Gra) (x : Itm) : Ok Tryz.prog 4 [g.av, x.av] [] (.ret (.fv (.bool true))) [] := by
  have h7 := ok16 g
  refine ok_start (k := 58) (n0 := 0) (rs := [.tmp 4]) mix Tryz.func4 rfl rfl rfl rfl rfl rfl rfl ?_
  simp -implicitDefEqProofs only [awp_draw _ _ Tryzdr4_5, Gra.av, Itm.av,
    evx, evy, ofValue, ofCell, List.range, List.range.loop, Array.size, Nat.reduceAdd, Nat.reduceSub, Nat.reduceEqDiff, List.replicate, if_true, if_false, ↓reduceIte, reduceCtorEq, elB, evParts, Int.reduceToNat, Int.reduceLE, Int.reduceLT, Int.reduceEq, Nat.reduceMul, Nat.reduceLeDiff, Nat.reduceLT, ty3, ty4, ty9, ty28, ty22, ty23, ty24, ty25, ty27, ty55, ty39, ty43]
  refine callK_ret _ _ _ _ (call_pure (okWakes16) (fun _ => rfl) (fun _ => rfl)) (ok_nil _ _) ?_
  cases hl : g.longB 60 with
  | true =>
    rw [hl] at h7
    simp -implicitDefEqProofs only [awp_draw _ _ Tryzdr4_5, evx, evy, ofValue, ofCell, List.range, List.range.loop, Array.size, Nat.reduceAdd, Nat.reduceSub, Nat.reduceEqDiff, List.replicate, if_true, if_false, ↓reduceIte, reduceCtorEq, elB, evParts, Int.reduceToNat, Int.reduceLE, Int.reduceLT, Int.reduceEq, Nat.reduceMul, Nat.reduceLeDiff, Nat.reduceLT, ty3, ty4, ty9, ty28, ty22, ty23, ty24, ty25, ty27, ty55, ty39, ty43]
    refine callK_ret _ _ _ _ (call_pure (h7) (fun _ => rfl) (fun _ => rfl)) (ok_nil _ _) ?_
    simp -implicitDefEqProofs only [awp_draw _ _ Tryzdr4_5, evx, evy, ofValue, ofCell, List.range, List.range.loop, Array.size, Nat.reduceAdd, Nat.reduceSub, Nat.reduceEqDiff, List.replicate, if_true, if_false, ↓reduceIte, reduceCtorEq, elB, evParts, Int.reduceToNat, Int.reduceLE, Int.reduceLT, Int.reduceEq, Nat.reduceMul, Nat.reduceLeDiff, Nat.reduceLT, ty3, ty4, ty9, ty28, ty22, ty23, ty24, ty25, ty27, ty55, ty39, ty43]
    exact le_flat rfl
  | false =>
    rw [hl] at h7
    have hsm := small_of hl
    have hg := hsm.up (m := 100) (by omega)
    have hlr : ∀ q ∈ g.prods, q.right.length ≤ 1000 := fun q hq => by have := hsm.prods q hq; omega
    have hri := ok19 g hg [x] (by simp)
    have hrr := ok20 g hg hlr [x] (by simp)
    have hrz := ok20 g hg hlr [⟨x.prod, 0⟩] (by simp)
    have hn := ok18 g hg x
    rw [right_zero] at hrz
    rw [right_one] at hri hrr hn
    have e4 : ((0 : Int) = 0) = True := by simp
    cases hup : (g.usB && g.isProd x.prod) with
    | false =>
      have hui : (g.usB && g.isItm x) = false := by
        cases hu : g.usB
        · rfl
        · rw [hu, Bool.true_and] at hup
          simp [Gra.isItm, hup]
      rw [hui] at hri hrr hn
      rw [if_neg (by simp)] at hn
      rw [hup] at hrz
      have hsd := ok17_bad g hg x.prod hup
      have e5 : ((false != false) : Bool) = false := rfl
      simp -implicitDefEqProofs only [awp_draw _ _ Tryzdr4_5, evx, evy, ofValue, ofCell, List.range, List.range.loop, Array.size, Nat.reduceAdd, Nat.reduceSub, Nat.reduceEqDiff, List.replicate, if_true, if_false, ↓reduceIte, reduceCtorEq, elB, evParts, Int.reduceToNat, Int.reduceLE, Int.reduceLT, Int.reduceEq, Nat.reduceMul, Nat.reduceLeDiff, Nat.reduceLT, ty3, ty4, ty9, ty28, ty22, ty23, ty24, ty25, ty27, ty55, ty39, ty43]
      refine callK_ret _ _ _ _ (call_pure (h7) (fun _ => rfl) (fun _ => rfl)) (ok_nil _ _) ?_
      simp -implicitDefEqProofs only [awp_draw _ _ Tryzdr4_5, evx, evy, ofValue, ofCell, List.range, List.range.loop, Array.size, Nat.reduceAdd, Nat.reduceSub, Nat.reduceEqDiff, List.replicate, if_true, if_false, ↓reduceIte, reduceCtorEq, elB, evParts, Int.reduceToNat, Int.reduceLE, Int.reduceLT, Int.reduceEq, Nat.reduceMul, Nat.reduceLeDiff, Nat.reduceLT, ty3, ty4, ty9, ty28, ty22, ty23, ty24, ty25, ty27, ty55, ty39, ty43]
      refine callK_ret _ _ _ _ (call_pure (hsd) (fun _ => rfl) (fun _ => rfl)) (ok_nil _ _) ?_
      simp -implicitDefEqProofs only [awp_draw _ _ Tryzdr4_5, evx, evy, ofValue, ofCell, List.range, List.range.loop, Array.size, Nat.reduceAdd, Nat.reduceSub, Nat.reduceEqDiff, List.replicate, if_true, if_false, ↓reduceIte, reduceCtorEq, elB, evParts, Int.reduceToNat, Int.reduceLE, Int.reduceLT, Int.reduceEq, Nat.reduceMul, Nat.reduceLeDiff, Nat.reduceLT, ty3, ty4, ty9, ty28, ty22, ty23, ty24, ty25, ty27, ty55, ty39, ty43]
      refine callK_ret _ _ _ _ (call_pure (hn) (fun _ => rfl) (fun _ => rfl)) (ok_nil _ _) ?_
      simp -implicitDefEqProofs only [awp_draw _ _ Tryzdr4_5, evx, evy, ofValue, ofCell, List.range, List.range.loop, Array.size, Nat.reduceAdd, Nat.reduceSub, Nat.reduceEqDiff, List.replicate, if_true, if_false, ↓reduceIte, reduceCtorEq, elB, evParts, Int.reduceToNat, Int.reduceLE, Int.reduceLT, Int.reduceEq, Nat.reduceMul, Nat.reduceLeDiff, Nat.reduceLT, ty3, ty4, ty9, ty28, ty22, ty23, ty24, ty25, ty27, ty55, ty39, ty43]
      refine awp_forks (t := .fork [(0, true), (1, true), (4, true), (5, true)] 2 (.fork [] 3 (.lin [(6, false), (7, false), (8, true)]) 6 (.lin [(3, false), (7, false), (8, true)])) 6 (.lin [(2, false), (3, false), (7, false), (8, true)])) (by kernel_rfl) (by kernel_rfl) (by kernel_rfl)
        ⟨[.any, .any, .ptr 0 0 0 0, .ptr 1 0 0 0, .any, .fv .nils, .fv (.int .i64 0), .any, .any, .any, .any, .any, .any, .any, .any, .any, .any, .any, .any, .any, .any, .any, .any, .any, .any, .any, .fv (.bool false), .any, .any, .any, .any, .any, .any, .any, .any, .any, .any, .any, .any, .any, .any, .any, .any, .any, .any, .any, .any, .any, .any, .any, .any, .any, .any, .any, .any, .any, .any, .any, .any, .any], [.box g.cells, .box [.fv (.int .i64 x.prod), .fv (.int .i64 x.dot)]], []⟩ ?_ ?_
      · simp only [ordG]
        simp -implicitDefEqProofs only [awp_draw _ _ Tryzdr4_5, Gra.cells, bsE_21,
    evx, evy, ofValue, ofCell, List.range, List.range.loop, Array.size, Nat.reduceAdd, Nat.reduceSub, Nat.reduceEqDiff, List.replicate, if_true, if_false, ↓reduceIte, reduceCtorEq, elB, evParts, Int.reduceToNat, Int.reduceLE, Int.reduceLT, Int.reduceEq, Nat.reduceMul, Nat.reduceLeDiff, Nat.reduceLT, ty3, ty4, ty9, ty28, ty22, ty23, ty24, ty25, ty27, ty55, ty39, ty43]
        try simp only [onN]
        refine ⟨fun q1 => ?_, fun q1 => ?_⟩
        · simp -implicitDefEqProofs only [awp_draw _ _ Tryzdr4_5, bsE_21,
    evx, evy, ofValue, ofCell, List.range, List.range.loop, Array.size, Nat.reduceAdd, Nat.reduceSub, Nat.reduceEqDiff, List.replicate, if_true, if_false, ↓reduceIte, reduceCtorEq, elB, evParts, Int.reduceToNat, Int.reduceLE, Int.reduceLT, Int.reduceEq, Nat.reduceMul, Nat.reduceLeDiff, Nat.reduceLT, ty3, ty4, ty9, ty28, ty22, ty23, ty24, ty25, ty27, ty55, ty39, ty43]
          try simp only [onN]
          intro q2
          simp -implicitDefEqProofs only [awp_draw _ _ Tryzdr4_5, evx, evy, ofValue, ofCell, List.range, List.range.loop, Array.size, Nat.reduceAdd, Nat.reduceSub, Nat.reduceEqDiff, List.replicate, if_true, if_false, ↓reduceIte, reduceCtorEq, elB, evParts, Int.reduceToNat, Int.reduceLE, Int.reduceLT, Int.reduceEq, Nat.reduceMul, Nat.reduceLeDiff, Nat.reduceLT, ty3, ty4, ty9, ty28, ty22, ty23, ty24, ty25, ty27, ty55, ty39, ty43]
          try simp only [onN]
          refine ⟨fun q3 => ?_, fun q3 => ?_⟩
          · try simp -implicitDefEqProofs only [awp_draw _ _ Tryzdr4_5, evx, evy, ofValue, ofCell, List.range, List.range.loop, Array.size, Nat.reduceAdd, Nat.reduceSub, Nat.reduceEqDiff, List.replicate, if_true, if_false, ↓reduceIte, reduceCtorEq, elB, evParts, Int.reduceToNat, Int.reduceLE, Int.reduceLT, Int.reduceEq, Nat.reduceMul, Nat.reduceLeDiff, Nat.reduceLT, ty3, ty4, ty9, ty28, ty22, ty23, ty24, ty25, ty27, ty55, ty39, ty43]
            refine callK_ret _ _ _ _ (call_look [2] hri (by simp [subAny, subA, subL, mkSub, idx, Gra.av, Itm.row]) (fun i hi => by simp at hi; subst hi; exact ⟨_, _, rfl⟩) rfl) (ok_nil _ _) ?_
            simp -implicitDefEqProofs only [awp_draw _ _ Tryzdr4_5, evx, evy, ofValue, ofCell, List.range, List.range.loop, Array.size, Nat.reduceAdd, Nat.reduceSub, Nat.reduceEqDiff, List.replicate, if_true, if_false, ↓reduceIte, reduceCtorEq, elB, evParts, Int.reduceToNat, Int.reduceLE, Int.reduceLT, Int.reduceEq, Nat.reduceMul, Nat.reduceLeDiff, Nat.reduceLT, ty3, ty4, ty9, ty28, ty22, ty23, ty24, ty25, ty27, ty55, ty39, ty43]
            try simp only [onN]
            intro q4
            simp -implicitDefEqProofs only [awp_draw _ _ Tryzdr4_5, bsE_21,
    evx, evy, ofValue, ofCell, List.range, List.range.loop, Array.size, Nat.reduceAdd, Nat.reduceSub, Nat.reduceEqDiff, List.replicate, if_true, if_false, ↓reduceIte, reduceCtorEq, elB, evParts, Int.reduceToNat, Int.reduceLE, Int.reduceLT, Int.reduceEq, Nat.reduceMul, Nat.reduceLeDiff, Nat.reduceLT, ty3, ty4, ty9, ty28, ty22, ty23, ty24, ty25, ty27, ty55, ty39, ty43]
            refine callK_ret _ _ _ _ (call_look [3] hrr (by simp [subAny, subA, subL, mkSub, idx, Gra.av, Itm.row]) (fun i hi => by simp at hi; subst hi; exact ⟨_, _, rfl⟩) rfl) (ok_nil _ _) ?_
            simp -implicitDefEqProofs only [awp_draw _ _ Tryzdr4_5, neqB3, e5,
    evx, evy, ofValue, ofCell, List.range, List.range.loop, Array.size, Nat.reduceAdd, Nat.reduceSub, Nat.reduceEqDiff, List.replicate, if_true, if_false, ↓reduceIte, reduceCtorEq, elB, evParts, Int.reduceToNat, Int.reduceLE, Int.reduceLT, Int.reduceEq, Nat.reduceMul, Nat.reduceLeDiff, Nat.reduceLT, ty3, ty4, ty9, ty28, ty22, ty23, ty24, ty25, ty27, ty55, ty39, ty43]
            exact le_pk [0, 1] rfl (by simp) (by simp) (by simp [subBlk, subAny, subA, mkSub, idx, Gra.cells]) (by simp [wk, subAny, subA, mkSub, idx])
          · simp -implicitDefEqProofs only [awp_draw _ _ Tryzdr4_5, bsE_21,
    evx, evy, ofValue, ofCell, List.range, List.range.loop, Array.size, Nat.reduceAdd, Nat.reduceSub, Nat.reduceEqDiff, List.replicate, if_true, if_false, ↓reduceIte, reduceCtorEq, elB, evParts, Int.reduceToNat, Int.reduceLE, Int.reduceLT, Int.reduceEq, Nat.reduceMul, Nat.reduceLeDiff, Nat.reduceLT, ty3, ty4, ty9, ty28, ty22, ty23, ty24, ty25, ty27, ty55, ty39, ty43]
            try simp only [onN]
            intro q4
            simp -implicitDefEqProofs only [awp_draw _ _ Tryzdr4_5, evx, evy, ofValue, ofCell, List.range, List.range.loop, Array.size, Nat.reduceAdd, Nat.reduceSub, Nat.reduceEqDiff, List.replicate, if_true, if_false, ↓reduceIte, reduceCtorEq, elB, evParts, Int.reduceToNat, Int.reduceLE, Int.reduceLT, Int.reduceEq, Nat.reduceMul, Nat.reduceLeDiff, Nat.reduceLT, ty3, ty4, ty9, ty28, ty22, ty23, ty24, ty25, ty27, ty55, ty39, ty43]
            refine callK_ret _ _ _ _ (call_look [2] hri (by simp [subAny, subA, subL, mkSub, idx, Gra.av, Itm.row]) (fun i hi => by simp at hi; subst hi; exact ⟨_, _, rfl⟩) rfl) (ok_nil _ _) ?_
            simp -implicitDefEqProofs only [awp_draw _ _ Tryzdr4_5, evx, evy, ofValue, ofCell, List.range, List.range.loop, Array.size, Nat.reduceAdd, Nat.reduceSub, Nat.reduceEqDiff, List.replicate, if_true, if_false, ↓reduceIte, reduceCtorEq, elB, evParts, Int.reduceToNat, Int.reduceLE, Int.reduceLT, Int.reduceEq, Nat.reduceMul, Nat.reduceLeDiff, Nat.reduceLT, ty3, ty4, ty9, ty28, ty22, ty23, ty24, ty25, ty27, ty55, ty39, ty43]
            refine callK_ret _ _ _ _ (call_look [3] hrr (by simp [subAny, subA, subL, mkSub, idx, Gra.av, Itm.row]) (fun i hi => by simp at hi; subst hi; exact ⟨_, _, rfl⟩) rfl) (ok_nil _ _) ?_
            simp -implicitDefEqProofs only [awp_draw _ _ Tryzdr4_5, neqB3, e5,
    evx, evy, ofValue, ofCell, List.range, List.range.loop, Array.size, Nat.reduceAdd, Nat.reduceSub, Nat.reduceEqDiff, List.replicate, if_true, if_false, ↓reduceIte, reduceCtorEq, elB, evParts, Int.reduceToNat, Int.reduceLE, Int.reduceLT, Int.reduceEq, Nat.reduceMul, Nat.reduceLeDiff, Nat.reduceLT, ty3, ty4, ty9, ty28, ty22, ty23, ty24, ty25, ty27, ty55, ty39, ty43]
            exact le_pk [0, 1] rfl (by simp) (by simp) (by simp [subBlk, subAny, subA, mkSub, idx, Gra.cells]) (by simp [wk, subAny, subA, mkSub, idx])
        · simp -implicitDefEqProofs only [awp_draw _ _ Tryzdr4_5, bsE_21,
    evx, evy, ofValue, ofCell, List.range, List.range.loop, Array.size, Nat.reduceAdd, Nat.reduceSub, Nat.reduceEqDiff, List.replicate, if_true, if_false, ↓reduceIte, reduceCtorEq, elB, evParts, Int.reduceToNat, Int.reduceLE, Int.reduceLT, Int.reduceEq, Nat.reduceMul, Nat.reduceLeDiff, Nat.reduceLT, ty3, ty4, ty9, ty28, ty22, ty23, ty24, ty25, ty27, ty55, ty39, ty43]
          try simp only [onN]
          intro q2
          simp -implicitDefEqProofs only [awp_draw _ _ Tryzdr4_5, bsE_21,
    evx, evy, ofValue, ofCell, List.range, List.range.loop, Array.size, Nat.reduceAdd, Nat.reduceSub, Nat.reduceEqDiff, List.replicate, if_true, if_false, ↓reduceIte, reduceCtorEq, elB, evParts, Int.reduceToNat, Int.reduceLE, Int.reduceLT, Int.reduceEq, Nat.reduceMul, Nat.reduceLeDiff, Nat.reduceLT, ty3, ty4, ty9, ty28, ty22, ty23, ty24, ty25, ty27, ty55, ty39, ty43]
          refine callK_ret _ _ _ _ (call_look [3] hri (by simp [subAny, subA, subL, mkSub, idx, Gra.av, Itm.row]) (fun i hi => by simp at hi; subst hi; exact ⟨_, _, rfl⟩) rfl) (ok_nil _ _) ?_
          simp -implicitDefEqProofs only [awp_draw _ _ Tryzdr4_5, evx, evy, ofValue, ofCell, List.range, List.range.loop, Array.size, Nat.reduceAdd, Nat.reduceSub, Nat.reduceEqDiff, List.replicate, if_true, if_false, ↓reduceIte, reduceCtorEq, elB, evParts, Int.reduceToNat, Int.reduceLE, Int.reduceLT, Int.reduceEq, Nat.reduceMul, Nat.reduceLeDiff, Nat.reduceLT, ty3, ty4, ty9, ty28, ty22, ty23, ty24, ty25, ty27, ty55, ty39, ty43]
          refine callK_ret _ _ _ _ (call_look [2] hrr (by simp [subAny, subA, subL, mkSub, idx, Gra.av, Itm.row]) (fun i hi => by simp at hi; subst hi; exact ⟨_, _, rfl⟩) rfl) (ok_nil _ _) ?_
          simp -implicitDefEqProofs only [awp_draw _ _ Tryzdr4_5, neqB3, e5,
    evx, evy, ofValue, ofCell, List.range, List.range.loop, Array.size, Nat.reduceAdd, Nat.reduceSub, Nat.reduceEqDiff, List.replicate, if_true, if_false, ↓reduceIte, reduceCtorEq, elB, evParts, Int.reduceToNat, Int.reduceLE, Int.reduceLT, Int.reduceEq, Nat.reduceMul, Nat.reduceLeDiff, Nat.reduceLT, ty3, ty4, ty9, ty28, ty22, ty23, ty24, ty25, ty27, ty55, ty39, ty43]
          exact le_pk [0, 1] rfl (by simp) (by simp) (by simp [subBlk, subAny, subA, mkSub, idx, Gra.cells]) (by simp [wk, subAny, subA, mkSub, idx])
      · simp -implicitDefEqProofs only [awp_draw _ _ Tryzdr4_5, bsE_21, Gra.cells,
    evx, evy, ofValue, ofCell, List.range, List.range.loop, Array.size, Nat.reduceAdd, Nat.reduceSub, Nat.reduceEqDiff, List.replicate, if_true, if_false, ↓reduceIte, reduceCtorEq, elB, evParts, Int.reduceToNat, Int.reduceLE, Int.reduceLT, Int.reduceEq, Nat.reduceMul, Nat.reduceLeDiff, Nat.reduceLT, ty3, ty4, ty9, ty28, ty22, ty23, ty24, ty25, ty27, ty55, ty39, ty43]
        refine callK_ret _ _ _ _ (call_look [2] hrz (by simp [subAny, subA, subL, mkSub, idx, Gra.av, Itm.row]) (fun i hi => by simp at hi; subst hi; exact ⟨_, _, rfl⟩) rfl) (ok_nil _ _) ?_
        simp -implicitDefEqProofs only [awp_draw _ _ Tryzdr4_5, e4,
    evx, evy, ofValue, ofCell, List.range, List.range.loop, Array.size, Nat.reduceAdd, Nat.reduceSub, Nat.reduceEqDiff, List.replicate, if_true, if_false, ↓reduceIte, reduceCtorEq, elB, evParts, Int.reduceToNat, Int.reduceLE, Int.reduceLT, Int.reduceEq, Nat.reduceMul, Nat.reduceLeDiff, Nat.reduceLT, ty3, ty4, ty9, ty28, ty22, ty23, ty24, ty25, ty27, ty55, ty39, ty43]
        exact le_flat rfl
    | true =>
      obtain ⟨hu, hp⟩ := Bool.and_eq_true_iff.1 hup
      rw [hu, Bool.true_and] at hri hrr hn
      rw [hup] at hrz
      have hsd := ok17 g hg x.prod hu hp hlr
      have hsr := ok21 g x.prod hp hlr
      obtain ⟨hp1, hp2⟩ := isProd_iff.1 hp
      have hsl : (sideL g x.prod).length ≤ 1000 := by
        by_cases h0 : x.prod < 0
        · unfold sideL; rw [if_pos h0]; simp
        · obtain ⟨q, hq, e, _⟩ := side_at (g := g) (p := x.prod) (by omega) hp2
          rw [e]
          exact hlr q (List.mem_of_getElem? hq)
      have hnx := ok22 g hlr x
      have s1 := ok14 (sideL g x.prod) (sideL g x.prod) (by omega) (by omega)
      rw [cmpL_self2] at s1
      have e5 : ((g.isItm x != g.isItm x) : Bool) = false := by simp
      generalize hit : g.isItm x = it at hri hrr hn e5 hnx
      generalize sideL g x.prod = sl at hsd hsr s1
      generalize hnv : (if it = true then nextI g x else 0) = nv at hn
      simp -implicitDefEqProofs only [awp_draw _ _ Tryzdr4_5, evx, evy, ofValue, ofCell, List.range, List.range.loop, Array.size, Nat.reduceAdd, Nat.reduceSub, Nat.reduceEqDiff, List.replicate, if_true, if_false, ↓reduceIte, reduceCtorEq, elB, evParts, Int.reduceToNat, Int.reduceLE, Int.reduceLT, Int.reduceEq, Nat.reduceMul, Nat.reduceLeDiff, Nat.reduceLT, ty3, ty4, ty9, ty28, ty22, ty23, ty24, ty25, ty27, ty55, ty39, ty43]
      refine callK_ret _ _ _ _ (call_pure (h7) (fun _ => rfl) (fun _ => rfl)) (ok_nil _ _) ?_
      simp -implicitDefEqProofs only [awp_draw _ _ Tryzdr4_5, evx, evy, ofValue, ofCell, List.range, List.range.loop, Array.size, Nat.reduceAdd, Nat.reduceSub, Nat.reduceEqDiff, List.replicate, if_true, if_false, ↓reduceIte, reduceCtorEq, elB, evParts, Int.reduceToNat, Int.reduceLE, Int.reduceLT, Int.reduceEq, Nat.reduceMul, Nat.reduceLeDiff, Nat.reduceLT, ty3, ty4, ty9, ty28, ty22, ty23, ty24, ty25, ty27, ty55, ty39, ty43]
      refine callK_ret _ _ _ _ (call_pure (hsd) (fun _ => rfl) (fun _ => rfl)) (ok_nil _ _) ?_
      simp -implicitDefEqProofs only [awp_draw _ _ Tryzdr4_5, evx, evy, ofValue, ofCell, List.range, List.range.loop, Array.size, Nat.reduceAdd, Nat.reduceSub, Nat.reduceEqDiff, List.replicate, if_true, if_false, ↓reduceIte, reduceCtorEq, elB, evParts, Int.reduceToNat, Int.reduceLE, Int.reduceLT, Int.reduceEq, Nat.reduceMul, Nat.reduceLeDiff, Nat.reduceLT, ty3, ty4, ty9, ty28, ty22, ty23, ty24, ty25, ty27, ty55, ty39, ty43]
      refine callK_ret _ _ _ _ (call_pure (hn) (fun _ => rfl) (fun _ => rfl)) (ok_nil _ _) ?_
      simp -implicitDefEqProofs only [awp_draw _ _ Tryzdr4_5, evx, evy, ofValue, ofCell, List.range, List.range.loop, Array.size, Nat.reduceAdd, Nat.reduceSub, Nat.reduceEqDiff, List.replicate, if_true, if_false, ↓reduceIte, reduceCtorEq, elB, evParts, Int.reduceToNat, Int.reduceLE, Int.reduceLT, Int.reduceEq, Nat.reduceMul, Nat.reduceLeDiff, Nat.reduceLT, ty3, ty4, ty9, ty28, ty22, ty23, ty24, ty25, ty27, ty55, ty39, ty43]
      refine awp_forks (t := .fork [(0, true), (1, true), (4, true), (5, true)] 2 (.fork [] 3 (.lin [(6, false), (7, false), (8, true)]) 6 (.lin [(3, false), (7, false), (8, true)])) 6 (.lin [(2, false), (3, false), (7, false), (8, true)])) (by kernel_rfl) (by kernel_rfl) (by kernel_rfl)
        ⟨[.any, .any, .ptr 0 0 0 0, .ptr 1 0 0 0, .any, .fv (.lst 1 (ints sl)), .fv (.int .i64 nv), .any, .any, .any, .any, .any, .any, .any, .any, .any, .any, .any, .any, .any, .any, .any, .any, .any, .any, .any, .fv (.bool false), .any, .any, .any, .any, .any, .any, .any, .any, .any, .any, .any, .any, .any, .any, .any, .any, .any, .any, .any, .any, .any, .any, .any, .any, .any, .any, .any, .any, .any, .any, .any, .any, .any], [.box g.cells, .box [.fv (.int .i64 x.prod), .fv (.int .i64 x.dot)]], []⟩ ?_ ?_
      · simp only [ordG]
        simp -implicitDefEqProofs only [awp_draw _ _ Tryzdr4_5, Gra.cells, bsE_21,
    evx, evy, ofValue, ofCell, List.range, List.range.loop, Array.size, Nat.reduceAdd, Nat.reduceSub, Nat.reduceEqDiff, List.replicate, if_true, if_false, ↓reduceIte, reduceCtorEq, elB, evParts, Int.reduceToNat, Int.reduceLE, Int.reduceLT, Int.reduceEq, Nat.reduceMul, Nat.reduceLeDiff, Nat.reduceLT, ty3, ty4, ty9, ty28, ty22, ty23, ty24, ty25, ty27, ty55, ty39, ty43]
        try simp only [onN]
        refine ⟨fun q1 => ?_, fun q1 => ?_⟩
        · simp -implicitDefEqProofs only [awp_draw _ _ Tryzdr4_5, bsE_21,
    evx, evy, ofValue, ofCell, List.range, List.range.loop, Array.size, Nat.reduceAdd, Nat.reduceSub, Nat.reduceEqDiff, List.replicate, if_true, if_false, ↓reduceIte, reduceCtorEq, elB, evParts, Int.reduceToNat, Int.reduceLE, Int.reduceLT, Int.reduceEq, Nat.reduceMul, Nat.reduceLeDiff, Nat.reduceLT, ty3, ty4, ty9, ty28, ty22, ty23, ty24, ty25, ty27, ty55, ty39, ty43]
          try simp only [onN]
          intro q2
          simp -implicitDefEqProofs only [awp_draw _ _ Tryzdr4_5, evx, evy, ofValue, ofCell, List.range, List.range.loop, Array.size, Nat.reduceAdd, Nat.reduceSub, Nat.reduceEqDiff, List.replicate, if_true, if_false, ↓reduceIte, reduceCtorEq, elB, evParts, Int.reduceToNat, Int.reduceLE, Int.reduceLT, Int.reduceEq, Nat.reduceMul, Nat.reduceLeDiff, Nat.reduceLT, ty3, ty4, ty9, ty28, ty22, ty23, ty24, ty25, ty27, ty55, ty39, ty43]
          try simp only [onN]
          refine ⟨fun q3 => ?_, fun q3 => ?_⟩
          · try simp -implicitDefEqProofs only [awp_draw _ _ Tryzdr4_5, evx, evy, ofValue, ofCell, List.range, List.range.loop, Array.size, Nat.reduceAdd, Nat.reduceSub, Nat.reduceEqDiff, List.replicate, if_true, if_false, ↓reduceIte, reduceCtorEq, elB, evParts, Int.reduceToNat, Int.reduceLE, Int.reduceLT, Int.reduceEq, Nat.reduceMul, Nat.reduceLeDiff, Nat.reduceLT, ty3, ty4, ty9, ty28, ty22, ty23, ty24, ty25, ty27, ty55, ty39, ty43]
            refine callK_ret _ _ _ _ (call_look [2] hri (by simp [subAny, subA, subL, mkSub, idx, Gra.av, Itm.row]) (fun i hi => by simp at hi; subst hi; exact ⟨_, _, rfl⟩) rfl) (ok_nil _ _) ?_
            simp -implicitDefEqProofs only [awp_draw _ _ Tryzdr4_5, evx, evy, ofValue, ofCell, List.range, List.range.loop, Array.size, Nat.reduceAdd, Nat.reduceSub, Nat.reduceEqDiff, List.replicate, if_true, if_false, ↓reduceIte, reduceCtorEq, elB, evParts, Int.reduceToNat, Int.reduceLE, Int.reduceLT, Int.reduceEq, Nat.reduceMul, Nat.reduceLeDiff, Nat.reduceLT, ty3, ty4, ty9, ty28, ty22, ty23, ty24, ty25, ty27, ty55, ty39, ty43]
            try simp only [onN]
            intro q4
            simp -implicitDefEqProofs only [awp_draw _ _ Tryzdr4_5, bsE_21,
    evx, evy, ofValue, ofCell, List.range, List.range.loop, Array.size, Nat.reduceAdd, Nat.reduceSub, Nat.reduceEqDiff, List.replicate, if_true, if_false, ↓reduceIte, reduceCtorEq, elB, evParts, Int.reduceToNat, Int.reduceLE, Int.reduceLT, Int.reduceEq, Nat.reduceMul, Nat.reduceLeDiff, Nat.reduceLT, ty3, ty4, ty9, ty28, ty22, ty23, ty24, ty25, ty27, ty55, ty39, ty43]
            refine callK_ret _ _ _ _ (call_look [3] hrr (by simp [subAny, subA, subL, mkSub, idx, Gra.av, Itm.row]) (fun i hi => by simp at hi; subst hi; exact ⟨_, _, rfl⟩) rfl) (ok_nil _ _) ?_
            simp -implicitDefEqProofs only [awp_draw _ _ Tryzdr4_5, neqB3, e5,
    evx, evy, ofValue, ofCell, List.range, List.range.loop, Array.size, Nat.reduceAdd, Nat.reduceSub, Nat.reduceEqDiff, List.replicate, if_true, if_false, ↓reduceIte, reduceCtorEq, elB, evParts, Int.reduceToNat, Int.reduceLE, Int.reduceLT, Int.reduceEq, Nat.reduceMul, Nat.reduceLeDiff, Nat.reduceLT, ty3, ty4, ty9, ty28, ty22, ty23, ty24, ty25, ty27, ty55, ty39, ty43]
            exact le_pk [0, 1] rfl (by simp) (by simp) (by simp [subBlk, subAny, subA, mkSub, idx, Gra.cells]) (by simp [wk, subAny, subA, mkSub, idx])
          · simp -implicitDefEqProofs only [awp_draw _ _ Tryzdr4_5, bsE_21,
    evx, evy, ofValue, ofCell, List.range, List.range.loop, Array.size, Nat.reduceAdd, Nat.reduceSub, Nat.reduceEqDiff, List.replicate, if_true, if_false, ↓reduceIte, reduceCtorEq, elB, evParts, Int.reduceToNat, Int.reduceLE, Int.reduceLT, Int.reduceEq, Nat.reduceMul, Nat.reduceLeDiff, Nat.reduceLT, ty3, ty4, ty9, ty28, ty22, ty23, ty24, ty25, ty27, ty55, ty39, ty43]
            try simp only [onN]
            intro q4
            simp -implicitDefEqProofs only [awp_draw _ _ Tryzdr4_5, evx, evy, ofValue, ofCell, List.range, List.range.loop, Array.size, Nat.reduceAdd, Nat.reduceSub, Nat.reduceEqDiff, List.replicate, if_true, if_false, ↓reduceIte, reduceCtorEq, elB, evParts, Int.reduceToNat, Int.reduceLE, Int.reduceLT, Int.reduceEq, Nat.reduceMul, Nat.reduceLeDiff, Nat.reduceLT, ty3, ty4, ty9, ty28, ty22, ty23, ty24, ty25, ty27, ty55, ty39, ty43]
            refine callK_ret _ _ _ _ (call_look [2] hri (by simp [subAny, subA, subL, mkSub, idx, Gra.av, Itm.row]) (fun i hi => by simp at hi; subst hi; exact ⟨_, _, rfl⟩) rfl) (ok_nil _ _) ?_
            simp -implicitDefEqProofs only [awp_draw _ _ Tryzdr4_5, evx, evy, ofValue, ofCell, List.range, List.range.loop, Array.size, Nat.reduceAdd, Nat.reduceSub, Nat.reduceEqDiff, List.replicate, if_true, if_false, ↓reduceIte, reduceCtorEq, elB, evParts, Int.reduceToNat, Int.reduceLE, Int.reduceLT, Int.reduceEq, Nat.reduceMul, Nat.reduceLeDiff, Nat.reduceLT, ty3, ty4, ty9, ty28, ty22, ty23, ty24, ty25, ty27, ty55, ty39, ty43]
            refine callK_ret _ _ _ _ (call_look [3] hrr (by simp [subAny, subA, subL, mkSub, idx, Gra.av, Itm.row]) (fun i hi => by simp at hi; subst hi; exact ⟨_, _, rfl⟩) rfl) (ok_nil _ _) ?_
            simp -implicitDefEqProofs only [awp_draw _ _ Tryzdr4_5, neqB3, e5,
    evx, evy, ofValue, ofCell, List.range, List.range.loop, Array.size, Nat.reduceAdd, Nat.reduceSub, Nat.reduceEqDiff, List.replicate, if_true, if_false, ↓reduceIte, reduceCtorEq, elB, evParts, Int.reduceToNat, Int.reduceLE, Int.reduceLT, Int.reduceEq, Nat.reduceMul, Nat.reduceLeDiff, Nat.reduceLT, ty3, ty4, ty9, ty28, ty22, ty23, ty24, ty25, ty27, ty55, ty39, ty43]
            exact le_pk [0, 1] rfl (by simp) (by simp) (by simp [subBlk, subAny, subA, mkSub, idx, Gra.cells]) (by simp [wk, subAny, subA, mkSub, idx])
        · simp -implicitDefEqProofs only [awp_draw _ _ Tryzdr4_5, bsE_21,
    evx, evy, ofValue, ofCell, List.range, List.range.loop, Array.size, Nat.reduceAdd, Nat.reduceSub, Nat.reduceEqDiff, List.replicate, if_true, if_false, ↓reduceIte, reduceCtorEq, elB, evParts, Int.reduceToNat, Int.reduceLE, Int.reduceLT, Int.reduceEq, Nat.reduceMul, Nat.reduceLeDiff, Nat.reduceLT, ty3, ty4, ty9, ty28, ty22, ty23, ty24, ty25, ty27, ty55, ty39, ty43]
          try simp only [onN]
          intro q2
          simp -implicitDefEqProofs only [awp_draw _ _ Tryzdr4_5, bsE_21,
    evx, evy, ofValue, ofCell, List.range, List.range.loop, Array.size, Nat.reduceAdd, Nat.reduceSub, Nat.reduceEqDiff, List.replicate, if_true, if_false, ↓reduceIte, reduceCtorEq, elB, evParts, Int.reduceToNat, Int.reduceLE, Int.reduceLT, Int.reduceEq, Nat.reduceMul, Nat.reduceLeDiff, Nat.reduceLT, ty3, ty4, ty9, ty28, ty22, ty23, ty24, ty25, ty27, ty55, ty39, ty43]
          refine callK_ret _ _ _ _ (call_look [3] hri (by simp [subAny, subA, subL, mkSub, idx, Gra.av, Itm.row]) (fun i hi => by simp at hi; subst hi; exact ⟨_, _, rfl⟩) rfl) (ok_nil _ _) ?_
          simp -implicitDefEqProofs only [awp_draw _ _ Tryzdr4_5, evx, evy, ofValue, ofCell, List.range, List.range.loop, Array.size, Nat.reduceAdd, Nat.reduceSub, Nat.reduceEqDiff, List.replicate, if_true, if_false, ↓reduceIte, reduceCtorEq, elB, evParts, Int.reduceToNat, Int.reduceLE, Int.reduceLT, Int.reduceEq, Nat.reduceMul, Nat.reduceLeDiff, Nat.reduceLT, ty3, ty4, ty9, ty28, ty22, ty23, ty24, ty25, ty27, ty55, ty39, ty43]
          refine callK_ret _ _ _ _ (call_look [2] hrr (by simp [subAny, subA, subL, mkSub, idx, Gra.av, Itm.row]) (fun i hi => by simp at hi; subst hi; exact ⟨_, _, rfl⟩) rfl) (ok_nil _ _) ?_
          simp -implicitDefEqProofs only [awp_draw _ _ Tryzdr4_5, neqB3, e5,
    evx, evy, ofValue, ofCell, List.range, List.range.loop, Array.size, Nat.reduceAdd, Nat.reduceSub, Nat.reduceEqDiff, List.replicate, if_true, if_false, ↓reduceIte, reduceCtorEq, elB, evParts, Int.reduceToNat, Int.reduceLE, Int.reduceLT, Int.reduceEq, Nat.reduceMul, Nat.reduceLeDiff, Nat.reduceLT, ty3, ty4, ty9, ty28, ty22, ty23, ty24, ty25, ty27, ty55, ty39, ty43]
          exact le_pk [0, 1] rfl (by simp) (by simp) (by simp [subBlk, subAny, subA, mkSub, idx, Gra.cells]) (by simp [wk, subAny, subA, mkSub, idx])
      · simp -implicitDefEqProofs only [awp_draw _ _ Tryzdr4_5, bsE_21, Gra.cells,
    evx, evy, ofValue, ofCell, List.range, List.range.loop, Array.size, Nat.reduceAdd, Nat.reduceSub, Nat.reduceEqDiff, List.replicate, if_true, if_false, ↓reduceIte, reduceCtorEq, elB, evParts, Int.reduceToNat, Int.reduceLE, Int.reduceLT, Int.reduceEq, Nat.reduceMul, Nat.reduceLeDiff, Nat.reduceLT, ty3, ty4, ty9, ty28, ty22, ty23, ty24, ty25, ty27, ty55, ty39, ty43]
        refine callK_ret _ _ _ _ (call_look [2] hrz (by simp [subAny, subA, subL, mkSub, idx, Gra.av, Itm.row]) (fun i hi => by simp at hi; subst hi; exact ⟨_, _, rfl⟩) rfl) (ok_nil _ _) ?_
        simp -implicitDefEqProofs only [awp_draw _ _ Tryzdr4_5, evx, evy, ofValue, ofCell, List.range, List.range.loop, Array.size, Nat.reduceAdd, Nat.reduceSub, Nat.reduceEqDiff, List.replicate, if_true, if_false, ↓reduceIte, reduceCtorEq, elB, evParts, Int.reduceToNat, Int.reduceLE, Int.reduceLT, Int.reduceEq, Nat.reduceMul, Nat.reduceLeDiff, Nat.reduceLT, ty3, ty4, ty9, ty28, ty22, ty23, ty24, ty25, ty27, ty55, ty39, ty43]
        refine callK_ret _ _ _ _ (call_pure (hsr) (fun _ => rfl) (fun _ => rfl)) (ok_nil _ _) ?_
        simp -implicitDefEqProofs only [awp_draw _ _ Tryzdr4_5, evx, evy, ofValue, ofCell, List.range, List.range.loop, Array.size, Nat.reduceAdd, Nat.reduceSub, Nat.reduceEqDiff, List.replicate, if_true, if_false, ↓reduceIte, reduceCtorEq, elB, evParts, Int.reduceToNat, Int.reduceLE, Int.reduceLT, Int.reduceEq, Nat.reduceMul, Nat.reduceLeDiff, Nat.reduceLT, ty3, ty4, ty9, ty28, ty22, ty23, ty24, ty25, ty27, ty55, ty39, ty43]
        refine callK_ret _ _ _ _ (call_pure (s1) (fun _ => rfl) (fun _ => rfl)) (ok_nil _ _) ?_
        simp -implicitDefEqProofs only [awp_draw _ _ Tryzdr4_5, bsE_21, Gra.cells,
    evx, evy, ofValue, ofCell, List.range, List.range.loop, Array.size, Nat.reduceAdd, Nat.reduceSub, Nat.reduceEqDiff, List.replicate, if_true, if_false, ↓reduceIte, reduceCtorEq, elB, evParts, Int.reduceToNat, Int.reduceLE, Int.reduceLT, Int.reduceEq, Nat.reduceMul, Nat.reduceLeDiff, Nat.reduceLT, ty3, ty4, ty9, ty28, ty22, ty23, ty24, ty25, ty27, ty55, ty39, ty43]
        refine callK_ret _ _ _ _ (call_look [3] hrr (by simp [subAny, subA, subL, mkSub, idx, Gra.av, Itm.row]) (fun i hi => by simp at hi; subst hi; exact ⟨_, _, rfl⟩) rfl) (ok_nil _ _) ?_
        cases it with
        | false =>
          rw [if_neg (by simp)] at hnv
          subst hnv
          simp -implicitDefEqProofs only [awp_draw _ _ Tryzdr4_5, e4,
    evx, evy, ofValue, ofCell, List.range, List.range.loop, Array.size, Nat.reduceAdd, Nat.reduceSub, Nat.reduceEqDiff, List.replicate, if_true, if_false, ↓reduceIte, reduceCtorEq, elB, evParts, Int.reduceToNat, Int.reduceLE, Int.reduceLT, Int.reduceEq, Nat.reduceMul, Nat.reduceLeDiff, Nat.reduceLT, ty3, ty4, ty9, ty28, ty22, ty23, ty24, ty25, ty27, ty55, ty39, ty43]
          exact le_flat rfl
        | true =>
          rw [if_pos rfl] at hnv
          subst hnv
          have hnx := hnx rfl
          have e6 : (nextI g x = nextI g x) = True := eq_self _
          simp -implicitDefEqProofs only [awp_draw _ _ Tryzdr4_5, evx, evy, ofValue, ofCell, List.range, List.range.loop, Array.size, Nat.reduceAdd, Nat.reduceSub, Nat.reduceEqDiff, List.replicate, if_true, if_false, ↓reduceIte, reduceCtorEq, elB, evParts, Int.reduceToNat, Int.reduceLE, Int.reduceLT, Int.reduceEq, Nat.reduceMul, Nat.reduceLeDiff, Nat.reduceLT, ty3, ty4, ty9, ty28, ty22, ty23, ty24, ty25, ty27, ty55, ty39, ty43]
          refine callK_ret _ _ _ _ (call_pure (hnx) (fun _ => rfl) (fun _ => rfl)) (ok_nil _ _) ?_
          simp -implicitDefEqProofs only [awp_draw _ _ Tryzdr4_5, e6,
    evx, evy, ofValue, ofCell, List.range, List.range.loop, Array.size, Nat.reduceAdd, Nat.reduceSub, Nat.reduceEqDiff, List.replicate, if_true, if_false, ↓reduceIte, reduceCtorEq, elB, evParts, Int.reduceToNat, Int.reduceLE, Int.reduceLT, Int.reduceEq, Nat.reduceMul, Nat.reduceLeDiff, Nat.reduceLT, ty3, ty4, ty9, ty28, ty22, ty23, ty24, ty25, ty27, ty55, ty39, ty43]
          exact le_flat rfl
end Go.Abs
