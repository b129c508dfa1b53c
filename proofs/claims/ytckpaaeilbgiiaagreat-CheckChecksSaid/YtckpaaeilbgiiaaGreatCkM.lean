/- What ends: the document's answer. -/
import Derived.Test.YtckpaaeilbgiiaaGreatTyTryz
import Derived.Test.YtckpaaeilbgiiaaGreatDrTryz
import Derived.Test.YtckpaaeilbgiiaaGreatAbsTree
import Derived.Test.YtckpaaeilbgiiaaGreatCkL
namespace Go.Abs
open Go.Proofs
set_option linter.unusedVariables false
set_option linter.unusedSimpArgs false
set_option maxRecDepth 100000
set_option maxHeartbeats 4000000
def shutB (T : Nat) (o : List Int) (n : Int) : Bool := decide (n ≤ (T : Int)) || decide (n ∈ o)
theorem endsC_eq (T : Nat) (o : List Int) (p : Prd) : adds (endsC T) o p = if p.right.all (shutB T o) = true ∧ p.left ∉ o then o ++ [p.left] else o := by
  have e : (p.right.all (shutB T o) = true) ↔ (∀ n ∈ p.right, n ≤ (T : Int) ∨ n ∈ o) := by simp [shutB]
  unfold adds endsC
  by_cases h : (∀ n ∈ p.right, n ≤ (T : Int) ∨ n ∈ o) ∧ p.left ∉ o
  · rw [if_pos h, if_pos ⟨e.2 h.1, h.2⟩]
  · rw [if_neg h, if_neg fun h2 => h ⟨e.1 h2.1, h2.2⟩]
theorem all_take_succ {α : Type} (p : α → Bool) (l : List α) {i : Nat} (h : i < l.length) : (l.take (i + 1)).all p = ((l.take i).all p && p l[i]) := by
  rw [List.take_add_one, List.getElem?_eq_getElem h, List.all_append]
  simp
theorem ok15 (g : Gra) (hg : Small g 100) (hsd : g.sound = true) : Ok Tryz.prog 15 [g.av] [] (.ret (.fv (.lst 1 (ints (g.those (Ended g)))))) [] := by
  have hso := g.sound_iff hsd
  rw [← Gra.ends_those hso (refEnds_mem hso)]
  have hnn := hso.nnonts
  have hnp := hso.nprods
  have htl := hso.terms_le
  have hterms := ok16 g hg.nrules
  refine ok_start (k := 79) (n0 := 0) (rs := [.tmp 2]) mix Tryz.func15 rfl rfl rfl rfl rfl rfl rfl ?_
  simp -implicitDefEqProofs only [Gra.av,
    evx, evy, ofValue, ofCell, List.range, List.range.loop, Array.size, Nat.reduceAdd, Nat.reduceSub, Nat.reduceEqDiff, List.replicate, if_true, if_false, ↓reduceIte, reduceCtorEq, elB, evParts, Int.reduceToNat, Int.reduceLE, Int.reduceLT, Int.reduceEq, Nat.reduceMul, Nat.reduceLeDiff, Nat.reduceLT, ty3, ty4, ty9, ty22, ty23, ty24, ty25, ty27, ty35, ty40, ty44, ty46, ty55]
  refine callK_ret _ _ _ _ (call_pure (hterms) (fun _ => rfl) (fun _ => rfl)) (ok_nil _ _) ?_
  simp -implicitDefEqProofs only [Gra.cells,
    evx, evy, ofValue, ofCell, List.range, List.range.loop, Array.size, Nat.reduceAdd, Nat.reduceSub, Nat.reduceEqDiff, List.replicate, if_true, if_false, ↓reduceIte, reduceCtorEq, elB, evParts, Int.reduceToNat, Int.reduceLE, Int.reduceLT, Int.reduceEq, Nat.reduceMul, Nat.reduceLeDiff, Nat.reduceLT, ty3, ty4, ty9, ty22, ty23, ty24, ty25, ty27, ty35, ty40, ty44, ty46, ty55]
  refine loop_rule (fun x : Nat × List Int => ⟨[.any, .ptr 0 0 0 0, .any, .fv (.int .i64 g.terms), .ref 1 1 0 x.2.length, .fv (.int .i64 x.1), .any, .any, .any, .any, .any, .any, .any, .any, .any, .any, .any, .any, .any, .any, .any, .any, .any, .any, .any, .any, .any, .any, .any, .any, .any, .any, .any, .any, .any, .any, .any, .any, .any, .any, .any, .any, .any, .any, .any, .any, .any, .any, .any, .any, .any, .any, .any, .any, .any, .any, .any, .any, .any, .any, .any, .any, .any, .any, .any, .any, .any, .any, .any, .any, .any, .any, .any, .any, .any, .any, .any, .any, .any, .any], [.box g.cells, .plain 1 (ints x.2)], []⟩)
    (fun x => x.1 ≤ g.nonts.length + 1 ∧ x.2 = iter (endsP g) x.1 [] ∧ x.2.length ≤ x.1 * 50) (fun x => g.nonts.length + 1 - x.1) (0, []) (Le.trans (le_virt 4 1 rfl) (le_wk (by simp [wk, Gra.cells, ints]))) ⟨by omega, rfl, by simp⟩ (fun x hx s hs => ?_)
  obtain ⟨r, o⟩ := x
  obtain ⟨hr1, hro, hrl⟩ := hx
  simp only at hr1 hro hrl hs ⊢
  by_cases hrlt : (r : Int) ≤ (g.nonts.length : Int)
  · have hrt : ((r : Int) ≤ (g.nonts.length : Int)) = True := by simpa using hrlt
    simp -implicitDefEqProofs only [Gra.cells, List.length_map, hrt,
    evx, evy, ofValue, ofCell, List.range, List.range.loop, Array.size, Nat.reduceAdd, Nat.reduceSub, Nat.reduceEqDiff, List.replicate, if_true, if_false, ↓reduceIte, reduceCtorEq, elB, evParts, Int.reduceToNat, Int.reduceLE, Int.reduceLT, Int.reduceEq, Nat.reduceMul, Nat.reduceLeDiff, Nat.reduceLT, ty3, ty4, ty9, ty22, ty23, ty24, ty25, ty27, ty35, ty40, ty44, ty46, ty55]
    refine loop_rule (fun x : Nat × List Int => ⟨[.any, .ptr 0 0 0 0, .any, .fv (.int .i64 g.terms), .ref 1 1 0 x.2.length, .fv (.int .i64 r), .fv (.int .i64 x.1), .any, .any, .any, .any, .any, .any, .any, .any, .any, .any, .any, .any, .any, .any, .any, .any, .any, .any, .any, .any, .any, .any, .any, .any, .any, .any, .any, .any, .any, .any, .any, .any, .any, .any, .any, .any, .any, .any, .any, .any, .any, .any, .any, .any, .any, .any, .any, .any, .any, .any, .any, .any, .any, .any, .any, .any, .any, .any, .any, .any, .any, .any, .any, .any, .any, .any, .any, .any, .any, .any, .any, .any, .any], [.box g.cells, .plain 1 (ints x.2)], []⟩)
      (fun x => x.1 ≤ g.prods.length ∧ x.2 = (g.prods.take x.1).foldl (adds (endsC g.terms)) o ∧ x.2.length ≤ r * 50 + x.1) (fun x => g.prods.length - x.1) (0, o) (le_wk (by simp [wk, Gra.cells])) ⟨by omega, rfl, by simp only; omega⟩ (fun x hx s2 hs2 => ?_)
    obtain ⟨i, o1⟩ := x
    obtain ⟨hi1, hio, hil⟩ := hx
    simp only at hi1 hio hil hs2 ⊢
    by_cases hilt : i < g.prods.length
    · have hrow := rows_at Prd.row g.prods i hilt
      have hpr8 := (hso.prods _ (List.getElem_mem hilt)).2.2.1
      have hstep := foldl_take_succ (adds (endsC g.terms)) g.prods o hilt
      rw [← hio] at hstep
      generalize g.prods[i] = p at hrow hpr8 hstep
      rw [endsC_eq] at hstep
      have hol := ints_length o1
      have hh1 := ok17 o1 p.left (by omega)
      simp -implicitDefEqProofs only [Gra.cells, List.length_map, lt_true hilt,
    evx, evy, ofValue, ofCell, List.range, List.range.loop, Array.size, Nat.reduceAdd, Nat.reduceSub, Nat.reduceEqDiff, List.replicate, if_true, if_false, ↓reduceIte, reduceCtorEq, elB, evParts, Int.reduceToNat, Int.reduceLE, Int.reduceLT, Int.reduceEq, Nat.reduceMul, Nat.reduceLeDiff, Nat.reduceLT, ty3, ty4, ty9, ty22, ty23, ty24, ty25, ty27, ty35, ty40, ty44, ty46, ty55]
      refine loop_rule (fun k : Nat => ⟨[.any, .ptr 0 0 0 0, .any, .fv (.int .i64 g.terms), .ref 1 1 0 o1.length, .fv (.int .i64 r), .fv (.int .i64 i), .fv (.bool ((p.right.take k).all (shutB g.terms o1))), .fv (.int .i64 k), .any, .any, .any, .any, .any, .any, .any, .any, .any, .any, .any, .any, .any, .any, .any, .any, .any, .any, .any, .any, .any, .any, .any, .any, .any, .any, .any, .any, .any, .any, .any, .any, .any, .any, .any, .any, .any, .any, .any, .any, .any, .any, .any, .any, .any, .any, .any, .any, .any, .any, .any, .any, .any, .any, .any, .any, .any, .any, .any, .any, .any, .any, .any, .any, .any, .any, .any, .any, .any, .any, .any], [.box g.cells, .plain 1 (ints o1)], []⟩)
        (fun k => k ≤ p.right.length) (fun k => p.right.length - k) 0 (le_wk (by simp [wk, Gra.cells])) (by simp) (fun k hk1 s3 hs3 => ?_)
      by_cases hklt : k < p.right.length
      · have hrow2 := rows_at iRow p.right k hklt
        have hall := all_take_succ (shutB g.terms o1) p.right hklt
        generalize p.right[k] = n at hrow2 hall
        have hh2 := ok17 o1 n (by omega)
        cases hb : (p.right.take k).all (shutB g.terms o1) with
        | false =>
          rw [hb, Bool.false_and] at hall
          simp -implicitDefEqProofs only [Gra.cells, List.length_map, hrow, Prd.row, lt_true hilt, lt_true hklt, hrow2, iRow, wsucc k (by omega),
    evx, evy, ofValue, ofCell, List.range, List.range.loop, Array.size, Nat.reduceAdd, Nat.reduceSub, Nat.reduceEqDiff, List.replicate, if_true, if_false, ↓reduceIte, reduceCtorEq, elB, evParts, Int.reduceToNat, Int.reduceLE, Int.reduceLT, Int.reduceEq, Nat.reduceMul, Nat.reduceLeDiff, Nat.reduceLT, ty3, ty4, ty9, ty22, ty23, ty24, ty25, ty27, ty35, ty40, ty44, ty46, ty55]
          exact back_intro hs3 (k + 1) (le_wk (by simp [wk, Gra.cells, hall])) (by omega) (by omega)
        | true =>
          rw [hb, Bool.true_and] at hall
          by_cases c1 : n ≤ (g.terms : Int)
          · have c1t : (n ≤ (g.terms : Int)) = True := by simpa using c1
            have hsb : shutB g.terms o1 n = true := by unfold shutB; rw [decide_eq_true c1]; rfl
            rw [hsb] at hall
            simp -implicitDefEqProofs only [Gra.cells, List.length_map, hrow, Prd.row, lt_true hilt, lt_true hklt, hrow2, iRow, c1t, wsucc k (by omega),
    evx, evy, ofValue, ofCell, List.range, List.range.loop, Array.size, Nat.reduceAdd, Nat.reduceSub, Nat.reduceEqDiff, List.replicate, if_true, if_false, ↓reduceIte, reduceCtorEq, elB, evParts, Int.reduceToNat, Int.reduceLE, Int.reduceLT, Int.reduceEq, Nat.reduceMul, Nat.reduceLeDiff, Nat.reduceLT, ty3, ty4, ty9, ty22, ty23, ty24, ty25, ty27, ty35, ty40, ty44, ty46, ty55]
            exact back_intro hs3 (k + 1) (le_wk (by simp [wk, Gra.cells, hall])) (by omega) (by omega)
          · have c1t : (n ≤ (g.terms : Int)) = False := by simpa using c1
            have hsb : shutB g.terms o1 n = decide (n ∈ o1) := by unfold shutB; rw [decide_eq_false c1]; rfl
            rw [hsb] at hall
            simp -implicitDefEqProofs only [Gra.cells, List.length_map, hrow, Prd.row, lt_true hilt, lt_true hklt, hrow2, iRow, c1t,
    evx, evy, ofValue, ofCell, List.range, List.range.loop, Array.size, Nat.reduceAdd, Nat.reduceSub, Nat.reduceEqDiff, List.replicate, if_true, if_false, ↓reduceIte, reduceCtorEq, elB, evParts, Int.reduceToNat, Int.reduceLE, Int.reduceLT, Int.reduceEq, Nat.reduceMul, Nat.reduceLeDiff, Nat.reduceLT, ty3, ty4, ty9, ty22, ty23, ty24, ty25, ty27, ty35, ty40, ty44, ty46, ty55]
            refine callK_ret _ _ _ _ (call_look [1] hh2 look_ints2 look_fl rfl) (ok_nil _ _) ?_
            simp -implicitDefEqProofs only [wsucc k (by omega),
    evx, evy, ofValue, ofCell, List.range, List.range.loop, Array.size, Nat.reduceAdd, Nat.reduceSub, Nat.reduceEqDiff, List.replicate, if_true, if_false, ↓reduceIte, reduceCtorEq, elB, evParts, Int.reduceToNat, Int.reduceLE, Int.reduceLT, Int.reduceEq, Nat.reduceMul, Nat.reduceLeDiff, Nat.reduceLT, ty3, ty4, ty9, ty22, ty23, ty24, ty25, ty27, ty35, ty40, ty44, ty46, ty55]
            exact back_intro hs3 (k + 1) (le_wk (by simp [wk, Gra.cells, hall])) (by omega) (by omega)
      · obtain rfl : k = p.right.length := by omega
        rw [List.take_length]
        cases hb : p.right.all (shutB g.terms o1) with
        | false =>
          rw [hb, if_neg (by simp)] at hstep
          simp -implicitDefEqProofs only [Gra.cells, List.length_map, hrow, Prd.row, lt_true hilt, lt_false hklt, wsucc i (by omega),
    evx, evy, ofValue, ofCell, List.range, List.range.loop, Array.size, Nat.reduceAdd, Nat.reduceSub, Nat.reduceEqDiff, List.replicate, if_true, if_false, ↓reduceIte, reduceCtorEq, elB, evParts, Int.reduceToNat, Int.reduceLE, Int.reduceLT, Int.reduceEq, Nat.reduceMul, Nat.reduceLeDiff, Nat.reduceLT, ty3, ty4, ty9, ty22, ty23, ty24, ty25, ty27, ty35, ty40, ty44, ty46, ty55]
          exact back_intro hs2 (i + 1, o1) (le_wk (by simp [wk, Gra.cells])) ⟨by simp only; omega, hstep.symm, by simp only; omega⟩ (by simp only; omega)
        | true =>
          by_cases c2 : p.left ∈ o1
          · rw [decide_eq_true c2] at hh1
            rw [if_neg (fun h => h.2 c2)] at hstep
            simp -implicitDefEqProofs only [Gra.cells, List.length_map, hrow, Prd.row, lt_true hilt, lt_false hklt,
    evx, evy, ofValue, ofCell, List.range, List.range.loop, Array.size, Nat.reduceAdd, Nat.reduceSub, Nat.reduceEqDiff, List.replicate, if_true, if_false, ↓reduceIte, reduceCtorEq, elB, evParts, Int.reduceToNat, Int.reduceLE, Int.reduceLT, Int.reduceEq, Nat.reduceMul, Nat.reduceLeDiff, Nat.reduceLT, ty3, ty4, ty9, ty22, ty23, ty24, ty25, ty27, ty35, ty40, ty44, ty46, ty55]
            refine callK_ret _ _ _ _ (call_look [1] hh1 look_ints2 look_fl rfl) (ok_nil _ _) ?_
            simp -implicitDefEqProofs only [wsucc i (by omega),
    evx, evy, ofValue, ofCell, List.range, List.range.loop, Array.size, Nat.reduceAdd, Nat.reduceSub, Nat.reduceEqDiff, List.replicate, if_true, if_false, ↓reduceIte, reduceCtorEq, elB, evParts, Int.reduceToNat, Int.reduceLE, Int.reduceLT, Int.reduceEq, Nat.reduceMul, Nat.reduceLeDiff, Nat.reduceLT, ty3, ty4, ty9, ty22, ty23, ty24, ty25, ty27, ty35, ty40, ty44, ty46, ty55]
            exact back_intro hs2 (i + 1, o1) (le_wk (by simp [wk, Gra.cells])) ⟨by simp only; omega, hstep.symm, by simp only; omega⟩ (by simp only; omega)
          · rw [decide_eq_false c2] at hh1
            rw [if_pos ⟨hb, c2⟩] at hstep
            simp -implicitDefEqProofs only [Gra.cells, List.length_map, hrow, Prd.row, lt_true hilt, lt_false hklt,
    evx, evy, ofValue, ofCell, List.range, List.range.loop, Array.size, Nat.reduceAdd, Nat.reduceSub, Nat.reduceEqDiff, List.replicate, if_true, if_false, ↓reduceIte, reduceCtorEq, elB, evParts, Int.reduceToNat, Int.reduceLE, Int.reduceLT, Int.reduceEq, Nat.reduceMul, Nat.reduceLeDiff, Nat.reduceLT, ty3, ty4, ty9, ty22, ty23, ty24, ty25, ty27, ty35, ty40, ty44, ty46, ty55]
            refine callK_ret _ _ _ _ (call_look [1] hh1 look_ints2 look_fl rfl) (ok_nil _ _) ?_
            simp -implicitDefEqProofs only [Gra.cells, List.length_map, hrow, Prd.row, lt_true hilt, wsucc i (by omega),
    evx, evy, ofValue, ofCell, List.range, List.range.loop, Array.size, Nat.reduceAdd, Nat.reduceSub, Nat.reduceEqDiff, List.replicate, if_true, if_false, ↓reduceIte, reduceCtorEq, elB, evParts, Int.reduceToNat, Int.reduceLE, Int.reduceLT, Int.reduceEq, Nat.reduceMul, Nat.reduceLeDiff, Nat.reduceLT, ty3, ty4, ty9, ty22, ty23, ty24, ty25, ty27, ty35, ty40, ty44, ty46, ty55]
            refine ⟨⟨by omega, by omega⟩, back_intro hs2 (i + 1, o1 ++ [p.left]) (le_pk [0, 3] rfl (by simp) (by simp) ?_ ?_) ⟨by simp only; omega, hstep.symm, by simp only [List.length_append, List.length_cons, List.length_nil]; omega⟩ (by simp only; omega)⟩
            · have e : List.take o1.length (ints o1) ++ [[FV.int IntKind.i64 p.left]] = ints (o1 ++ [p.left]) := by
                rw [← hol, List.take_length, ints_append]; rfl
              rw [e]
              simp [subBlk, subAny, subA, Gra.cells]
            · simp [wk, subAny, subA, mkSub, idx]
    · obtain rfl : i = g.prods.length := by omega
      rw [List.take_length] at hio
      simp -implicitDefEqProofs only [Gra.cells, List.length_map, lt_false hilt, wsucc r (by omega),
    evx, evy, ofValue, ofCell, List.range, List.range.loop, Array.size, Nat.reduceAdd, Nat.reduceSub, Nat.reduceEqDiff, List.replicate, if_true, if_false, ↓reduceIte, reduceCtorEq, elB, evParts, Int.reduceToNat, Int.reduceLE, Int.reduceLT, Int.reduceEq, Nat.reduceMul, Nat.reduceLeDiff, Nat.reduceLT, ty3, ty4, ty9, ty22, ty23, ty24, ty25, ty27, ty35, ty40, ty44, ty46, ty55]
      exact back_intro hs (r + 1, o1) (le_wk (by simp [wk, Gra.cells])) ⟨by simp only; omega, by simp only; rw [iter_succ, ← hro]; exact hio, by simp only; omega⟩ (by simp only; omega)
  · obtain rfl : r = g.nonts.length + 1 := by omega
    have hrt : (((g.nonts.length + 1 : Nat) : Int) ≤ (g.nonts.length : Int)) = False := by simpa using hrlt
    have ho : o = refEnds g := hro
    have hol := ints_length o
    have hof := ok30 o (by omega)
    rw [← ho]
    simp -implicitDefEqProofs only [Gra.cells, List.length_map, hrt,
    evx, evy, ofValue, ofCell, List.range, List.range.loop, Array.size, Nat.reduceAdd, Nat.reduceSub, Nat.reduceEqDiff, List.replicate, if_true, if_false, ↓reduceIte, reduceCtorEq, elB, evParts, Int.reduceToNat, Int.reduceLE, Int.reduceLT, Int.reduceEq, Nat.reduceMul, Nat.reduceLeDiff, Nat.reduceLT, ty3, ty4, ty9, ty22, ty23, ty24, ty25, ty27, ty35, ty40, ty44, ty46, ty55]
    refine callK_ret _ _ _ _ (call_freeze (args' := [.fv (.lst 1 (ints o))]) [1] (by simp) (by simp [subAny, subA, frzSub, ← hol]) rfl
      (call_pure hof (fun _ => rfl) (fun _ => rfl)) [1] (by simp) (by simp) (fun i hi hl => by
        have : i = 0 := by simp at hi hl; omega
        subst this; simp [freezeSt, killAll, subBlk, subAny, subA, Gra.cells])) (ok_none _ _) ?_
    simp -implicitDefEqProofs only [subAny, subA, subL, backSub, back, putBack, subBlk, Option.getD_some, List.map_cons, List.map_nil, Nat.not_lt_zero, Nat.sub_zero, Nat.add_zero, List.length_map, freezeSt,
    evx, evy, ofValue, ofCell, List.range, List.range.loop, Array.size, Nat.reduceAdd, Nat.reduceSub, Nat.reduceEqDiff, List.replicate, if_true, if_false, ↓reduceIte, reduceCtorEq, elB, evParts, Int.reduceToNat, Int.reduceLE, Int.reduceLT, Int.reduceEq, Nat.reduceMul, Nat.reduceLeDiff, Nat.reduceLT, ty3, ty4, ty9, ty22, ty23, ty24, ty25, ty27, ty35, ty40, ty44, ty46, ty55]
    exact le_to [] [] rfl (by simp) (by simp) (by simp) (by simp) rfl
end Go.Abs
