/- Productions, one behind the other: the document's answer. -/
import Derived.Test.YtlfocagdjjgmmaaGreatTyTryzq
import Derived.Test.YtlfocagdjjgmmaaGreatDrTryzq
import Derived.Test.YtlfocagdjjgmmaaGreatDvBq
namespace Go.Abs
open Go.Proofs
set_option linter.unusedVariables false
set_option linter.unusedSimpArgs false
set_option maxRecDepth 100000
set_option maxHeartbeats 8000000
def atOf : Option Nat → Int
  | none => -1
  | some a => a
theorem ok13 (g : Gra) (hg : Small g 100) (hl : ∀ q ∈ g.prods, q.right.length ≤ 8) (list : List Int) (hll : list.length ≤ 1000) :
    Ok Tryz.prog 13 [g.av, .fv (.lst 1 (ints list))] [] (.ret (.tuple [.fv (.lst 1 (ints (replA g g.usB list).1)), .fv (.int .i64 (replA g g.usB list).2)])) [] := by
  have hus := ok42 g hg
  have hterms := ok35 g hg.nrules
  have hil := ints_length list
  refine ok_start (k := 106) (n0 := 0) (rs := [.tmp 4, .tmp 5]) mix Tryz.func13 rfl rfl rfl rfl rfl rfl rfl ?_
  cases hu : g.usB with
  | false =>
    rw [hu] at hus
    have e : replA g false list = ([], 10) := by unfold replA; rw [if_neg (by simp)]
    rw [e]
    simp -implicitDefEqProofs only [awp_draw _ _ Tryzdr13_6, awp_draw _ _ Tryzdr13_20, awp_draw _ _ Tryzdr13_24, Gra.av,
    evx, evy, ofValue, ofCell, List.range, List.range.loop, Array.size, Nat.reduceAdd, Nat.reduceSub, Nat.reduceEqDiff, List.replicate, if_true, if_false, ↓reduceIte, reduceCtorEq, elB, evParts, Int.reduceToNat, Int.reduceLE, Int.reduceLT, Int.reduceEq, Nat.reduceMul, Nat.reduceLeDiff, Nat.reduceLT, ty3, ty4, ty9, ty28, ty48, ty22, ty23, ty24, ty25, ty27, ty55, ty60, ty62, ty78, ty39, ty43, ty31]
    refine callK_ret _ _ _ _ (call_pure (hus) (fun _ => rfl) (fun _ => rfl)) (ok_nil _ _) ?_
    simp -implicitDefEqProofs only [awp_draw _ _ Tryzdr13_6, awp_draw _ _ Tryzdr13_20, awp_draw _ _ Tryzdr13_24,
    evx, evy, ofValue, ofCell, List.range, List.range.loop, Array.size, Nat.reduceAdd, Nat.reduceSub, Nat.reduceEqDiff, List.replicate, if_true, if_false, ↓reduceIte, reduceCtorEq, elB, evParts, Int.reduceToNat, Int.reduceLE, Int.reduceLT, Int.reduceEq, Nat.reduceMul, Nat.reduceLeDiff, Nat.reduceLT, ty3, ty4, ty9, ty28, ty48, ty22, ty23, ty24, ty25, ty27, ty55, ty60, ty62, ty78, ty39, ty43, ty31]
    exact Le.trans (le_tn 1 _ _) (le_to [] [] rfl (by simp) (by simp) (by simp) (by simp) rfl)
  | true =>
    rw [hu] at hus
    simp -implicitDefEqProofs only [awp_draw _ _ Tryzdr13_6, awp_draw _ _ Tryzdr13_20, awp_draw _ _ Tryzdr13_24, Gra.av,
    evx, evy, ofValue, ofCell, List.range, List.range.loop, Array.size, Nat.reduceAdd, Nat.reduceSub, Nat.reduceEqDiff, List.replicate, if_true, if_false, ↓reduceIte, reduceCtorEq, elB, evParts, Int.reduceToNat, Int.reduceLE, Int.reduceLT, Int.reduceEq, Nat.reduceMul, Nat.reduceLeDiff, Nat.reduceLT, ty3, ty4, ty9, ty28, ty48, ty22, ty23, ty24, ty25, ty27, ty55, ty60, ty62, ty78, ty39, ty43, ty31]
    refine callK_ret _ _ _ _ (call_pure (hus) (fun _ => rfl) (fun _ => rfl)) (ok_nil _ _) ?_
    simp -implicitDefEqProofs only [awp_draw _ _ Tryzdr13_6, awp_draw _ _ Tryzdr13_20, awp_draw _ _ Tryzdr13_24,
    evx, evy, ofValue, ofCell, List.range, List.range.loop, Array.size, Nat.reduceAdd, Nat.reduceSub, Nat.reduceEqDiff, List.replicate, if_true, if_false, ↓reduceIte, reduceCtorEq, elB, evParts, Int.reduceToNat, Int.reduceLE, Int.reduceLT, Int.reduceEq, Nat.reduceMul, Nat.reduceLeDiff, Nat.reduceLT, ty3, ty4, ty9, ty28, ty48, ty22, ty23, ty24, ty25, ty27, ty55, ty60, ty62, ty78, ty39, ty43, ty31]
    refine loop_rule (fun i : Nat => ⟨[.any, .fv (.lst 1 (ints list)), .ptr 0 0 0 0, .any, .any, .any, .fv (.int .i64 i), .any, .any, .any, .any, .any, .any, .any, .any, .any, .any, .any, .any, .any, .any, .any, .any, .any, .any, .any, .any, .any, .any, .any, .any, .any, .any, .any, .any, .any, .any, .any, .any, .any, .any, .any, .any, .any, .any, .any, .any, .any, .any, .any, .any, .any, .any, .any, .any, .any, .any, .any, .any, .any, .any, .any, .any, .any, .any, .any, .any, .any, .any, .any, .any, .any, .any, .any, .any, .any, .any, .any, .any, .any, .any, .any, .any, .any, .any, .any, .any, .any, .any, .any, .any, .any, .any, .any, .any, .any, .any, .any, .any, .any, .any, .any, .any, .any, .any, .any, .any, .any], [.box g.cells], []⟩)
      (fun i => i ≤ list.length ∧ g.prodsB (list.take i) = true) (fun i => list.length - i) 0 (le_wk (by simp [wk, Gra.cells])) (by simp [Gra.prodsB]) (fun i hi s hs => ?_)
    obtain ⟨hi, hpb⟩ := hi
    by_cases hlt : i < list.length
    · have hr := ints_get list i hlt
      have hst : g.prodsB (list.take (i + 1)) = (g.prodsB (list.take i) && (decide (0 ≤ list[i]) && decide (list[i] < (g.prods.length : Int)))) := by
        unfold Gra.prodsB
        rw [List.take_add_one, List.getElem?_eq_getElem hlt, List.all_append]
        simp
      have hm := List.getElem_mem hlt
      generalize list[i] = p at hr hst hm
      rw [hpb, Bool.true_and] at hst
      have hno : ¬ (0 ≤ p ∧ p < (g.prods.length : Int)) → replA g true list = ([], 10) := fun h => by
        unfold replA
        rw [if_neg]
        rintro ⟨_, h2⟩
        exact h (prodsB_iff.1 h2 p hm)
      by_cases c1 : p < 0
      · have c1t : (p < 0) = True := by simpa using c1
        rw [hno (by omega)]
        simp -implicitDefEqProofs only [awp_draw _ _ Tryzdr13_6, awp_draw _ _ Tryzdr13_20, awp_draw _ _ Tryzdr13_24, hil, lt_true hlt, hr, c1t,
    evx, evy, ofValue, ofCell, List.range, List.range.loop, Array.size, Nat.reduceAdd, Nat.reduceSub, Nat.reduceEqDiff, List.replicate, if_true, if_false, ↓reduceIte, reduceCtorEq, elB, evParts, Int.reduceToNat, Int.reduceLE, Int.reduceLT, Int.reduceEq, Nat.reduceMul, Nat.reduceLeDiff, Nat.reduceLT, ty3, ty4, ty9, ty28, ty48, ty22, ty23, ty24, ty25, ty27, ty55, ty60, ty62, ty78, ty39, ty43, ty31]
        exact Le.trans (le_tn 1 _ _) (le_to [] [] rfl (by simp) (by simp) (by simp) (by simp) rfl)
      · have c1t : (p < 0) = False := by simpa using c1
        by_cases c2 : (g.prods.length : Int) ≤ p
        · have c2t : ((g.prods.length : Int) ≤ p) = True := by simpa using c2
          rw [hno (by omega)]
          simp -implicitDefEqProofs only [awp_draw _ _ Tryzdr13_6, awp_draw _ _ Tryzdr13_20, awp_draw _ _ Tryzdr13_24, hil, lt_true hlt, hr, c1t, Gra.cells, List.length_map, c2t,
    evx, evy, ofValue, ofCell, List.range, List.range.loop, Array.size, Nat.reduceAdd, Nat.reduceSub, Nat.reduceEqDiff, List.replicate, if_true, if_false, ↓reduceIte, reduceCtorEq, elB, evParts, Int.reduceToNat, Int.reduceLE, Int.reduceLT, Int.reduceEq, Nat.reduceMul, Nat.reduceLeDiff, Nat.reduceLT, ty3, ty4, ty9, ty28, ty48, ty22, ty23, ty24, ty25, ty27, ty55, ty60, ty62, ty78, ty39, ty43, ty31]
          exact Le.trans (le_tn 1 _ _) (le_to [] [] rfl (by simp) (by simp) (by simp) (by simp) rfl)
        · have c2t : ((g.prods.length : Int) ≤ p) = False := by simpa using c2
          simp -implicitDefEqProofs only [awp_draw _ _ Tryzdr13_6, awp_draw _ _ Tryzdr13_20, awp_draw _ _ Tryzdr13_24, hil, lt_true hlt, hr, c1t, Gra.cells, List.length_map, c2t, wsucc i (by omega),
    evx, evy, ofValue, ofCell, List.range, List.range.loop, Array.size, Nat.reduceAdd, Nat.reduceSub, Nat.reduceEqDiff, List.replicate, if_true, if_false, ↓reduceIte, reduceCtorEq, elB, evParts, Int.reduceToNat, Int.reduceLE, Int.reduceLT, Int.reduceEq, Nat.reduceMul, Nat.reduceLeDiff, Nat.reduceLT, ty3, ty4, ty9, ty28, ty48, ty22, ty23, ty24, ty25, ty27, ty55, ty60, ty62, ty78, ty39, ty43, ty31]
          exact back_intro hs (i + 1) (le_wk (by simp [wk, Gra.cells])) ⟨by omega, by rw [hst]; simp; omega⟩ (by omega)
    · obtain rfl : i = list.length := by omega
      rw [List.take_length] at hpb
      have hpp := prodsB_iff.1 hpb
      have e : replA g true list = replG g list [g.start] := by unfold replA; rw [if_pos ⟨rfl, hpb⟩]
      rw [e]
      simp -implicitDefEqProofs only [awp_draw _ _ Tryzdr13_6, awp_draw _ _ Tryzdr13_20, awp_draw _ _ Tryzdr13_24, hil, lt_false hlt, Gra.cells,
    evx, evy, ofValue, ofCell, List.range, List.range.loop, Array.size, Nat.reduceAdd, Nat.reduceSub, Nat.reduceEqDiff, List.replicate, if_true, if_false, ↓reduceIte, reduceCtorEq, elB, evParts, Int.reduceToNat, Int.reduceLE, Int.reduceLT, Int.reduceEq, Nat.reduceMul, Nat.reduceLeDiff, Nat.reduceLT, ty3, ty4, ty9, ty28, ty48, ty22, ty23, ty24, ty25, ty27, ty55, ty60, ty62, ty78, ty39, ty43, ty31]
      refine callK_ret _ _ _ _ (call_pure (hterms) (fun _ => rfl) (fun _ => rfl)) (ok_nil _ _) ?_
      simp -implicitDefEqProofs only [awp_draw _ _ Tryzdr13_6, awp_draw _ _ Tryzdr13_20, awp_draw _ _ Tryzdr13_24, Gra.cells,
    evx, evy, ofValue, ofCell, List.range, List.range.loop, Array.size, Nat.reduceAdd, Nat.reduceSub, Nat.reduceEqDiff, List.replicate, if_true, if_false, ↓reduceIte, reduceCtorEq, elB, evParts, Int.reduceToNat, Int.reduceLE, Int.reduceLT, Int.reduceEq, Nat.reduceMul, Nat.reduceLeDiff, Nat.reduceLT, ty3, ty4, ty9, ty28, ty48, ty22, ty23, ty24, ty25, ty27, ty55, ty60, ty62, ty78, ty39, ty43, ty31]
      refine loop_rule (fun x : Nat × List Int => ⟨[.any, .fv (.lst 1 (ints list)), .ptr 0 0 0 0, .any, .any, .any, .any, .fv (.int .i64 g.terms), .ref 1 1 0 x.2.length, .fv (.int .i64 x.1), .any, .any, .any, .any, .any, .any, .any, .any, .any, .any, .any, .any, .any, .any, .any, .any, .any, .any, .any, .any, .any, .any, .any, .any, .any, .any, .any, .any, .any, .any, .any, .any, .any, .any, .any, .any, .any, .any, .any, .any, .any, .any, .any, .any, .any, .any, .any, .any, .any, .any, .any, .any, .any, .any, .any, .any, .any, .any, .any, .any, .any, .any, .any, .any, .any, .any, .any, .any, .any, .any, .any, .any, .any, .any, .any, .any, .any, .any, .any, .any, .any, .any, .any, .any, .any, .any, .any, .any, .any, .any, .any, .any, .any, .any, .any, .any, .any, .any], [.box g.cells, .plain 1 (ints x.2)], []⟩)
        (fun x => x.1 ≤ list.length ∧ x.2.length ≤ 400 ∧ replG g list [g.start] = replG g (list.drop x.1) x.2) (fun x => list.length - x.1) (0, [g.start])
        (le_pk [0, 2] rfl (by simp) (by simp) (by simp [subBlk, subAny, subA, mkSub, idx, Gra.cells, ints]) (by simp [wk, subAny, subA, mkSub, idx])) ⟨by omega, by simp, rfl⟩ (fun x hx s1 hs1 => ?_)
      obtain ⟨i, t⟩ := x
      obtain ⟨hi, ht, hre⟩ := hx
      simp only at hi ht hre hs1 ⊢
      have htl := ints_length t
      by_cases hlt : i < list.length
      · have hr := ints_get list i hlt
        have hpi := hpp _ (List.getElem_mem hlt)
        rw [List.drop_eq_getElem_cons hlt] at hre
        generalize list[i] = p at hr hpi hre
        obtain ⟨hprow, hpm⟩ := pr_at (g := g) hpi.1 hpi.2
        have hpl := hl _ hpm
        have hp0t : (0 ≤ p) = True := by simpa using hpi.1
        simp -implicitDefEqProofs only [awp_draw _ _ Tryzdr13_6, awp_draw _ _ Tryzdr13_20, awp_draw _ _ Tryzdr13_24, hil, lt_true hlt,
    evx, evy, ofValue, ofCell, List.range, List.range.loop, Array.size, Nat.reduceAdd, Nat.reduceSub, Nat.reduceEqDiff, List.replicate, if_true, if_false, ↓reduceIte, reduceCtorEq, elB, evParts, Int.reduceToNat, Int.reduceLE, Int.reduceLT, Int.reduceEq, Nat.reduceMul, Nat.reduceLeDiff, Nat.reduceLT, ty3, ty4, ty9, ty28, ty48, ty22, ty23, ty24, ty25, ty27, ty55, ty60, ty62, ty78, ty39, ty43, ty31]
        refine loop_rule (fun k : Nat => ⟨[.any, .fv (.lst 1 (ints list)), .ptr 0 0 0 0, .any, .any, .any, .any, .fv (.int .i64 g.terms), .ref 1 1 0 t.length, .fv (.int .i64 i), .fv (.int .i64 (atOf (lastNt g.terms t k))), .fv (.int .i64 k), .any, .any, .any, .any, .any, .any, .any, .any, .any, .any, .any, .any, .any, .any, .any, .any, .any, .any, .any, .any, .any, .any, .any, .any, .any, .any, .any, .any, .any, .any, .any, .any, .any, .any, .any, .any, .any, .any, .any, .any, .any, .any, .any, .any, .any, .any, .any, .any, .any, .any, .any, .any, .any, .any, .any, .any, .any, .any, .any, .any, .any, .any, .any, .any, .any, .any, .any, .any, .any, .any, .any, .any, .any, .any, .any, .any, .any, .any, .any, .any, .any, .any, .any, .any, .any, .any, .any, .any, .any, .any, .any, .any, .any, .any, .any, .any], [.box g.cells, .plain 1 (ints t)], []⟩)
          (fun k => k ≤ t.length) (fun k => t.length - k) 0 (le_wk (by simp [wk, lastNt, atOf])) (by omega) (fun k hk s2 hs2 => ?_)
        by_cases hkl : k < t.length
        · have hrk := ints_get t k hkl
          have hgd : t.getD k 0 = t[k] := by rw [List.getD_eq_getElem?_getD, List.getElem?_eq_getElem hkl]; rfl
          have hla : lastNt g.terms t (k + 1) = if (g.terms : Int) < t[k] then some k else lastNt g.terms t k := by rw [lastNt, hgd]
          generalize t[k] = n at hrk hla
          by_cases hc : (g.terms : Int) < n
          · have hct : ((g.terms : Int) < n) = True := by simpa using hc
            rw [if_pos hc] at hla
            simp -implicitDefEqProofs only [awp_draw _ _ Tryzdr13_6, awp_draw _ _ Tryzdr13_20, awp_draw _ _ Tryzdr13_24, lt_true hkl, hrk, hct, wsucc k (by omega),
    evx, evy, ofValue, ofCell, List.range, List.range.loop, Array.size, Nat.reduceAdd, Nat.reduceSub, Nat.reduceEqDiff, List.replicate, if_true, if_false, ↓reduceIte, reduceCtorEq, elB, evParts, Int.reduceToNat, Int.reduceLE, Int.reduceLT, Int.reduceEq, Nat.reduceMul, Nat.reduceLeDiff, Nat.reduceLT, ty3, ty4, ty9, ty28, ty48, ty22, ty23, ty24, ty25, ty27, ty55, ty60, ty62, ty78, ty39, ty43, ty31]
            exact back_intro hs2 (k + 1) (le_wk (by simp [wk, hla, atOf])) (by omega) (by omega)
          · have hct : ((g.terms : Int) < n) = False := by simpa using hc
            rw [if_neg hc] at hla
            simp -implicitDefEqProofs only [awp_draw _ _ Tryzdr13_6, awp_draw _ _ Tryzdr13_20, awp_draw _ _ Tryzdr13_24, lt_true hkl, hrk, hct, wsucc k (by omega),
    evx, evy, ofValue, ofCell, List.range, List.range.loop, Array.size, Nat.reduceAdd, Nat.reduceSub, Nat.reduceEqDiff, List.replicate, if_true, if_false, ↓reduceIte, reduceCtorEq, elB, evParts, Int.reduceToNat, Int.reduceLE, Int.reduceLT, Int.reduceEq, Nat.reduceMul, Nat.reduceLeDiff, Nat.reduceLT, ty3, ty4, ty9, ty28, ty48, ty22, ty23, ty24, ty25, ty27, ty55, ty60, ty62, ty78, ty39, ty43, ty31]
            exact back_intro hs2 (k + 1) (le_wk (by simp [wk, hla])) (by omega) (by omega)
        · obtain rfl : k = t.length := by omega
          cases hla : lastNt g.terms t t.length with
          | none =>
            rw [hre, replG_none hla]
            simp only [atOf]
            simp -implicitDefEqProofs only [awp_draw _ _ Tryzdr13_6, awp_draw _ _ Tryzdr13_20, awp_draw _ _ Tryzdr13_24, lt_false hkl,
    evx, evy, ofValue, ofCell, List.range, List.range.loop, Array.size, Nat.reduceAdd, Nat.reduceSub, Nat.reduceEqDiff, List.replicate, if_true, if_false, ↓reduceIte, reduceCtorEq, elB, evParts, Int.reduceToNat, Int.reduceLE, Int.reduceLT, Int.reduceEq, Nat.reduceMul, Nat.reduceLeDiff, Nat.reduceLT, ty3, ty4, ty9, ty28, ty48, ty22, ty23, ty24, ty25, ty27, ty55, ty60, ty62, ty78, ty39, ty43, ty31]
            exact Le.trans (le_tn 1 _ _) (le_to [] [] rfl (by simp) (by simp) (by simp) (by simp) rfl)
          | some a =>
            have hat := lastNt_lt hla
            have hra := ints_get t a hat
            have hgd : t.getD a 0 = t[a] := by rw [List.getD_eq_getElem?_getD, List.getElem?_eq_getElem hat]; rfl
            have han : ((a : Int) < 0) = False := by simp
            have hat2 : ((a : Int) < (t.length : Int)) = True := lt_true hat
            have hws : IntKind.wrap .i64 ((a : Int) + 1) = ((a + 1 : Nat) : Int) := wsucc a (by omega)
            simp only [atOf]
            generalize t[a] = n at hra hgd
            by_cases he : n = (g.pr p).left
            · have hnt : (n ≠ (g.pr p).left) = False := by simpa using he
              have hnt2 : (n = (g.pr p).left) = True := by simpa using he
              have f1 : List.take a (ints t) = ints (t.take a) := by simp [ints, List.map_take]
              have f2 : List.take (t.length - (a + 1)) (List.drop (a + 1) (ints t)) = ints (t.drop (a + 1)) := by
                rw [List.take_of_length_le (by rw [List.length_drop, htl]; exact Nat.le_refl _)]
                simp [ints, List.map_drop]
              have f3 : List.map iRow (g.pr p).right = ints (g.pr p).right := rfl
              have hA : (t.take a).length = a := by rw [List.length_take]; omega
              have hD : (t.drop (a + 1)).length = t.length - (a + 1) := List.length_drop
              have hmt : madeT t (g.pr p).right a = t.take a ++ (g.pr p).right ++ t.drop (a + 1) := rfl
              have hfull := @replG_full g p (list.drop (i + 1)) t a hla (by rw [hgd]; exact he)
              have hgo := @replG_go g p (list.drop (i + 1)) t a hla (by rw [hgd]; exact he)
              generalize madeT t (g.pr p).right a = t2 at hmt hfull hgo
              generalize t.take a = A at f1 hA hmt
              generalize t.drop (a + 1) = D at f2 hD hmt
              have iA := ints_length A
              have iR := ints_length (g.pr p).right
              have iD := ints_length D
              have f5 : List.take A.length (ints A) = ints A := by rw [← iA, List.take_length]
              have f6 : List.take (A.length + (g.pr p).right.length) (ints A ++ ints (g.pr p).right) = ints A ++ ints (g.pr p).right := List.take_of_length_le (by rw [List.length_append]; omega)
              have f7 : ints A ++ ints (g.pr p).right ++ ints D = ints t2 := by rw [hmt, ints_append, ints_append]
              have f8 : A.length + (g.pr p).right.length + D.length = t2.length := by rw [hmt, List.length_append, List.length_append]
              simp -implicitDefEqProofs only [awp_draw _ _ Tryzdr13_6, awp_draw _ _ Tryzdr13_20, awp_draw _ _ Tryzdr13_24, lt_false hkl, hra, han, hat2, hr, hp0t, hprow, Prd.row, hnt, hnt2, Gra.cells, hws, Nat.sub_zero, f1, f2, f3, iA, iR, iD, f5, f6, f7, f8, wsucc i (by omega),
    evx, evy, ofValue, ofCell, List.range, List.range.loop, Array.size, Nat.reduceAdd, Nat.reduceSub, Nat.reduceEqDiff, List.replicate, if_true, if_false, ↓reduceIte, reduceCtorEq, elB, evParts, Int.reduceToNat, Int.reduceLE, Int.reduceLT, Int.reduceEq, Nat.reduceMul, Nat.reduceLeDiff, Nat.reduceLT, ty3, ty4, ty9, ty28, ty48, ty22, ty23, ty24, ty25, ty27, ty55, ty60, ty62, ty78, ty39, ty43, ty31]
              refine ⟨⟨by omega, by omega⟩, ⟨by omega, by omega⟩, ⟨by omega, by omega⟩, by kernel_rfl, ⟨by omega, by omega⟩, ⟨by omega, by omega, by omega⟩, ?_⟩
              by_cases h4 : (400 : Int) < (t2.length : Int)
              · rw [if_pos h4, hre, hfull (by omega)]
                exact Le.trans (le_tn 1 _ _) (le_to [] [] rfl (by simp) (by simp) (by simp) (by simp) rfl)
              · rw [if_neg h4]
                rw [hgo (by omega)] at hre
                exact back_intro hs1 (i + 1, t2) (le_pk [0, 4] rfl (by simp) (by simp) (by simp [subBlk, subAny, subA, mkSub, idx, Gra.cells]) (by simp [wk, subAny, subA, mkSub, idx])) ⟨by simp only; omega, by simp only; omega, hre⟩ (by simp only; omega)
            · have hnt : (n ≠ (g.pr p).left) = True := by simpa using he
              have hnt2 : (n = (g.pr p).left) = False := by simpa using he
              rw [hre, replG_bad hla (by rw [hgd]; exact he)]
              simp -implicitDefEqProofs only [awp_draw _ _ Tryzdr13_6, awp_draw _ _ Tryzdr13_20, awp_draw _ _ Tryzdr13_24, lt_false hkl, hra, han, hat2, hr, hp0t, hprow, Prd.row, hnt, hnt2, Gra.cells,
    evx, evy, ofValue, ofCell, List.range, List.range.loop, Array.size, Nat.reduceAdd, Nat.reduceSub, Nat.reduceEqDiff, List.replicate, if_true, if_false, ↓reduceIte, reduceCtorEq, elB, evParts, Int.reduceToNat, Int.reduceLE, Int.reduceLT, Int.reduceEq, Nat.reduceMul, Nat.reduceLeDiff, Nat.reduceLT, ty3, ty4, ty9, ty28, ty48, ty22, ty23, ty24, ty25, ty27, ty55, ty60, ty62, ty78, ty39, ty43, ty31]
              exact Le.trans (le_tn 1 _ _) (le_to [] [] rfl (by simp) (by simp) (by simp) (by simp) rfl)
      · obtain rfl : i = list.length := by omega
        rw [List.drop_length] at hre
        rw [hre, replG]
        simp -implicitDefEqProofs only [awp_draw _ _ Tryzdr13_6, awp_draw _ _ Tryzdr13_20, awp_draw _ _ Tryzdr13_24, hil, lt_false hlt,
    evx, evy, ofValue, ofCell, List.range, List.range.loop, Array.size, Nat.reduceAdd, Nat.reduceSub, Nat.reduceEqDiff, List.replicate, if_true, if_false, ↓reduceIte, reduceCtorEq, elB, evParts, Int.reduceToNat, Int.reduceLE, Int.reduceLT, Int.reduceEq, Nat.reduceMul, Nat.reduceLeDiff, Nat.reduceLT, ty3, ty4, ty9, ty28, ty48, ty22, ty23, ty24, ty25, ty27, ty55, ty60, ty62, ty78, ty39, ty43, ty31]
        refine le_pkf2 [] [1] rfl (by simp) (by simp) (by simp) (fun i hi => by simp at hi; subst hi; exact ⟨_, _, rfl⟩) rfl ?_
        simp [wk, subAny, subA, subL, mkSub, idx, htl, List.take_of_length_le]
end Go.Abs
