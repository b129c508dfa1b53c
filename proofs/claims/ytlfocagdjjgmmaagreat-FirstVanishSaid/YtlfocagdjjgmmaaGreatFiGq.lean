/- What vanishes, what begins a text: the document's answers. -/
import Derived.Test.YtlfocagdjjgmmaaGreatTyTryzq
import Derived.Test.YtlfocagdjjgmmaaGreatDrTryzq
import Derived.Test.YtlfocagdjjgmmaaGreatFiA
import Derived.Test.YtlfocagdjjgmmaaGreatFiKq
import Derived.Test.YtlfocagdjjgmmaaGreatCkLq
import Derived.Test.YtlfocagdjjgmmaaGreatCkIq
namespace Go.Abs
open Go.Proofs
set_option linter.unusedVariables false
set_option linter.unusedSimpArgs false
set_option maxRecDepth 100000
set_option maxHeartbeats 8000000
def goneB (o : List Int) (text : List Int) : Bool := text.all fun n => decide (n ∈ o)
theorem goneB_iff {o text : List Int} : goneB o text = true ↔ ∀ n ∈ text, n ∈ o := by simp [goneB]
theorem all_take_succ2 {α : Type} (p : α → Bool) (l : List α) {i : Nat} (h : i < l.length) : (l.take (i + 1)).all p = ((l.take i).all p && p l[i]) := by
  rw [List.take_add_one, List.getElem?_eq_getElem h, List.all_append]
  simp
theorem ok57 (o text : List Int) (ho : o.length < 1048576) (ht : text.length < 1048576) : Ok Tryz.prog 57 [.fv (.lst 1 (ints o)), .fv (.lst 1 (ints text))] [] (.ret (.fv (.bool (goneB o text)))) [] := by
  have hil := ints_length text
  refine ok_start (k := 17) (n0 := 0) (rs := [.tmp 4]) mix Tryz.func57 rfl rfl rfl rfl rfl rfl rfl ?_
  simp -implicitDefEqProofs only [evx, evy, ofValue, ofCell, List.range, List.range.loop, Array.size, Nat.reduceAdd, Nat.reduceSub, Nat.reduceEqDiff, List.replicate, if_true, if_false, ↓reduceIte, reduceCtorEq, elB, evParts, Int.reduceToNat, Int.reduceLE, Int.reduceLT, Int.reduceEq, Nat.reduceMul, Nat.reduceLeDiff, Nat.reduceLT, ty3, ty4, ty9, ty28, ty48, ty22, ty23, ty24, ty25, ty27, ty55]
  refine loop_rule (fun i : Nat => ⟨[.fv (.lst 1 (ints o)), .fv (.lst 1 (ints text)), .any, .any, .any, .fv (.int .i64 i), .any, .any, .any, .any, .any, .any, .any, .any, .any, .any, .any, .any, .any], [], []⟩)
    (fun i => i ≤ text.length ∧ (text.take i).all (fun n => decide (n ∈ o)) = true) (fun i => text.length - i) 0 (le_wk (by simp [wk])) (by simp) (fun i hi s hs => ?_)
  obtain ⟨hi, hall⟩ := hi
  by_cases hlt : i < text.length
  · have hr := ints_get text i hlt
    have hst := all_take_succ2 (fun n => decide (n ∈ o)) text hlt
    have hm := List.getElem_mem hlt
    generalize text[i] = n at hr hst hm
    have hh := ok58 o n (by omega)
    rw [hall, Bool.true_and] at hst
    cases hb : decide (n ∈ o) with
    | true =>
      rw [hb] at hh hst
      simp -implicitDefEqProofs only [hil, lt_true hlt, hr,
    evx, evy, ofValue, ofCell, List.range, List.range.loop, Array.size, Nat.reduceAdd, Nat.reduceSub, Nat.reduceEqDiff, List.replicate, if_true, if_false, ↓reduceIte, reduceCtorEq, elB, evParts, Int.reduceToNat, Int.reduceLE, Int.reduceLT, Int.reduceEq, Nat.reduceMul, Nat.reduceLeDiff, Nat.reduceLT, ty3, ty4, ty9, ty28, ty48, ty22, ty23, ty24, ty25, ty27, ty55]
      refine callK_ret _ _ _ _ (call_pure (hh) (fun _ => rfl) (fun _ => rfl)) (ok_nil _ _) ?_
      simp -implicitDefEqProofs only [wsucc i (by omega),
    evx, evy, ofValue, ofCell, List.range, List.range.loop, Array.size, Nat.reduceAdd, Nat.reduceSub, Nat.reduceEqDiff, List.replicate, if_true, if_false, ↓reduceIte, reduceCtorEq, elB, evParts, Int.reduceToNat, Int.reduceLE, Int.reduceLT, Int.reduceEq, Nat.reduceMul, Nat.reduceLeDiff, Nat.reduceLT, ty3, ty4, ty9, ty28, ty48, ty22, ty23, ty24, ty25, ty27, ty55]
      exact back_intro hs (i + 1) (le_wk (by simp [wk])) ⟨by omega, hst⟩ (by omega)
    | false =>
      rw [hb] at hh
      have e : goneB o text = false := by
        unfold goneB
        rw [List.all_eq_false]
        exact ⟨n, hm, by simp at hb; simpa using hb⟩
      rw [e]
      simp -implicitDefEqProofs only [hil, lt_true hlt, hr,
    evx, evy, ofValue, ofCell, List.range, List.range.loop, Array.size, Nat.reduceAdd, Nat.reduceSub, Nat.reduceEqDiff, List.replicate, if_true, if_false, ↓reduceIte, reduceCtorEq, elB, evParts, Int.reduceToNat, Int.reduceLE, Int.reduceLT, Int.reduceEq, Nat.reduceMul, Nat.reduceLeDiff, Nat.reduceLT, ty3, ty4, ty9, ty28, ty48, ty22, ty23, ty24, ty25, ty27, ty55]
      refine callK_ret _ _ _ _ (call_pure (hh) (fun _ => rfl) (fun _ => rfl)) (ok_nil _ _) ?_
      simp -implicitDefEqProofs only [evx, evy, ofValue, ofCell, List.range, List.range.loop, Array.size, Nat.reduceAdd, Nat.reduceSub, Nat.reduceEqDiff, List.replicate, if_true, if_false, ↓reduceIte, reduceCtorEq, elB, evParts, Int.reduceToNat, Int.reduceLE, Int.reduceLT, Int.reduceEq, Nat.reduceMul, Nat.reduceLeDiff, Nat.reduceLT, ty3, ty4, ty9, ty28, ty48, ty22, ty23, ty24, ty25, ty27, ty55]
      exact le_flat rfl
  · obtain rfl : i = text.length := by omega
    rw [List.take_length] at hall
    have e : goneB o text = true := hall
    rw [e]
    simp -implicitDefEqProofs only [hil, lt_false hlt,
    evx, evy, ofValue, ofCell, List.range, List.range.loop, Array.size, Nat.reduceAdd, Nat.reduceSub, Nat.reduceEqDiff, List.replicate, if_true, if_false, ↓reduceIte, reduceCtorEq, elB, evParts, Int.reduceToNat, Int.reduceLE, Int.reduceLT, Int.reduceEq, Nat.reduceMul, Nat.reduceLeDiff, Nat.reduceLT, ty3, ty4, ty9, ty28, ty48, ty22, ty23, ty24, ty25, ty27, ty55]
    exact le_flat rfl
theorem look_ints3 {o : List Int} {x : FV} {b : Blk} : [AV.ref 1 1 0 o.length, .fv x].map (subAny (mkSub [] [1] [b, .plain 1 (ints o)])) = [.fv (.lst 1 (ints o)), .fv x] := by
  have h := ints_length o
  simp [subAny, subA, mkSub, idx, ← h]
theorem vanC_eq (o : List Int) (p : Prd) : adds vanC o p = if goneB o p.right = true ∧ p.left ∉ o then o ++ [p.left] else o := by
  unfold adds vanC
  by_cases h : (∀ n ∈ p.right, n ∈ o) ∧ p.left ∉ o
  · rw [if_pos h, if_pos ⟨goneB_iff.2 h.1, h.2⟩]
  · rw [if_neg h, if_neg fun h2 => h ⟨goneB_iff.1 h2.1, h2.2⟩]
theorem ok27 (g : Gra) (hg : Small g 100) (hsd : g.sound = true) : Ok Tryz.prog 27 [g.av] [] (.ret (.fv (.lst 1 (ints (g.those (Nul g)))))) [] := by
  have hso := g.sound_iff hsd
  rw [← Gra.van_those hso (refVan_mem hso)]
  have hnn := hso.nnonts
  have hnp := hso.nprods
  have htl := hso.terms_le
  refine ok_start (k := 49) (n0 := 0) (rs := [.tmp 2]) mix Tryz.func27 rfl rfl rfl rfl rfl rfl rfl ?_
  simp -implicitDefEqProofs only [Gra.av, Gra.cells,
    evx, evy, ofValue, ofCell, List.range, List.range.loop, Array.size, Nat.reduceAdd, Nat.reduceSub, Nat.reduceEqDiff, List.replicate, if_true, if_false, ↓reduceIte, reduceCtorEq, elB, evParts, Int.reduceToNat, Int.reduceLE, Int.reduceLT, Int.reduceEq, Nat.reduceMul, Nat.reduceLeDiff, Nat.reduceLT, ty3, ty4, ty9, ty28, ty48, ty22, ty23, ty24, ty25, ty27, ty55]
  refine loop_rule (fun x : Nat × List Int => ⟨[.any, .ptr 0 0 0 0, .any, .ref 1 1 0 x.2.length, .fv (.int .i64 x.1), .any, .any, .any, .any, .any, .any, .any, .any, .any, .any, .any, .any, .any, .any, .any, .any, .any, .any, .any, .any, .any, .any, .any, .any, .any, .any, .any, .any, .any, .any, .any, .any, .any, .any, .any, .any, .any, .any, .any, .any, .any, .any, .any, .any, .any], [.box g.cells, .plain 1 (ints x.2)], []⟩)
    (fun x => x.1 ≤ g.nonts.length + 1 ∧ x.2 = iter (vanP g) x.1 [] ∧ x.2.length ≤ x.1 * 50) (fun x => g.nonts.length + 1 - x.1) (0, []) (Le.trans (le_virt 3 1 rfl) (le_wk (by simp [wk, Gra.cells, ints]))) ⟨by omega, rfl, by simp⟩ (fun x hx s hs => ?_)
  obtain ⟨r, o⟩ := x
  obtain ⟨hr1, hro, hrl⟩ := hx
  simp only at hr1 hro hrl hs ⊢
  by_cases hrlt : (r : Int) ≤ (g.nonts.length : Int)
  · have hrt : ((r : Int) ≤ (g.nonts.length : Int)) = True := by simpa using hrlt
    simp -implicitDefEqProofs only [Gra.cells, List.length_map, hrt,
    evx, evy, ofValue, ofCell, List.range, List.range.loop, Array.size, Nat.reduceAdd, Nat.reduceSub, Nat.reduceEqDiff, List.replicate, if_true, if_false, ↓reduceIte, reduceCtorEq, elB, evParts, Int.reduceToNat, Int.reduceLE, Int.reduceLT, Int.reduceEq, Nat.reduceMul, Nat.reduceLeDiff, Nat.reduceLT, ty3, ty4, ty9, ty28, ty48, ty22, ty23, ty24, ty25, ty27, ty55]
    refine loop_rule (fun x : Nat × List Int => ⟨[.any, .ptr 0 0 0 0, .any, .ref 1 1 0 x.2.length, .fv (.int .i64 r), .fv (.int .i64 x.1), .any, .any, .any, .any, .any, .any, .any, .any, .any, .any, .any, .any, .any, .any, .any, .any, .any, .any, .any, .any, .any, .any, .any, .any, .any, .any, .any, .any, .any, .any, .any, .any, .any, .any, .any, .any, .any, .any, .any, .any, .any, .any, .any, .any], [.box g.cells, .plain 1 (ints x.2)], []⟩)
      (fun x => x.1 ≤ g.prods.length ∧ x.2 = (g.prods.take x.1).foldl (adds vanC) o ∧ x.2.length ≤ r * 50 + x.1) (fun x => g.prods.length - x.1) (0, o) (le_wk (by simp [wk, Gra.cells])) ⟨by omega, rfl, by simp only; omega⟩ (fun x hx s2 hs2 => ?_)
    obtain ⟨i, o1⟩ := x
    obtain ⟨hi1, hio, hil⟩ := hx
    simp only at hi1 hio hil hs2 ⊢
    by_cases hilt : i < g.prods.length
    · have hrow := rows_at Prd.row g.prods i hilt
      have hpr8 := (hso.prods _ (List.getElem_mem hilt)).2.2.1
      have hstep := foldl_take_succ (adds vanC) g.prods o hilt
      rw [← hio] at hstep
      generalize g.prods[i] = p at hrow hpr8 hstep
      rw [vanC_eq] at hstep
      have hol := ints_length o1
      have hh1 := ok58 o1 p.left (by omega)
      have hgn := ok57 o1 p.right (by omega) (by omega)
      cases hb : goneB o1 p.right with
      | false =>
        rw [hb] at hgn
        rw [hb, if_neg (by simp)] at hstep
        simp -implicitDefEqProofs only [Gra.cells, List.length_map, lt_true hilt, hrow, Prd.row,
    evx, evy, ofValue, ofCell, List.range, List.range.loop, Array.size, Nat.reduceAdd, Nat.reduceSub, Nat.reduceEqDiff, List.replicate, if_true, if_false, ↓reduceIte, reduceCtorEq, elB, evParts, Int.reduceToNat, Int.reduceLE, Int.reduceLT, Int.reduceEq, Nat.reduceMul, Nat.reduceLeDiff, Nat.reduceLT, ty3, ty4, ty9, ty28, ty48, ty22, ty23, ty24, ty25, ty27, ty55]
        refine callK_ret _ _ _ _ (call_look [1] hgn look_ints3 look_fl rfl) (ok_nil _ _) ?_
        simp -implicitDefEqProofs only [wsucc i (by omega),
    evx, evy, ofValue, ofCell, List.range, List.range.loop, Array.size, Nat.reduceAdd, Nat.reduceSub, Nat.reduceEqDiff, List.replicate, if_true, if_false, ↓reduceIte, reduceCtorEq, elB, evParts, Int.reduceToNat, Int.reduceLE, Int.reduceLT, Int.reduceEq, Nat.reduceMul, Nat.reduceLeDiff, Nat.reduceLT, ty3, ty4, ty9, ty28, ty48, ty22, ty23, ty24, ty25, ty27, ty55]
        exact back_intro hs2 (i + 1, o1) (le_wk (by simp [wk, Gra.cells])) ⟨by simp only; omega, hstep.symm, by simp only; omega⟩ (by simp only; omega)
      | true =>
        rw [hb] at hgn
        by_cases c2 : p.left ∈ o1
        · rw [decide_eq_true c2] at hh1
          rw [if_neg (fun h => h.2 c2)] at hstep
          simp -implicitDefEqProofs only [Gra.cells, List.length_map, lt_true hilt, hrow, Prd.row,
    evx, evy, ofValue, ofCell, List.range, List.range.loop, Array.size, Nat.reduceAdd, Nat.reduceSub, Nat.reduceEqDiff, List.replicate, if_true, if_false, ↓reduceIte, reduceCtorEq, elB, evParts, Int.reduceToNat, Int.reduceLE, Int.reduceLT, Int.reduceEq, Nat.reduceMul, Nat.reduceLeDiff, Nat.reduceLT, ty3, ty4, ty9, ty28, ty48, ty22, ty23, ty24, ty25, ty27, ty55]
          refine callK_ret _ _ _ _ (call_look [1] hgn look_ints3 look_fl rfl) (ok_nil _ _) ?_
          simp -implicitDefEqProofs only [hrow, Prd.row,
    evx, evy, ofValue, ofCell, List.range, List.range.loop, Array.size, Nat.reduceAdd, Nat.reduceSub, Nat.reduceEqDiff, List.replicate, if_true, if_false, ↓reduceIte, reduceCtorEq, elB, evParts, Int.reduceToNat, Int.reduceLE, Int.reduceLT, Int.reduceEq, Nat.reduceMul, Nat.reduceLeDiff, Nat.reduceLT, ty3, ty4, ty9, ty28, ty48, ty22, ty23, ty24, ty25, ty27, ty55]
          refine callK_ret _ _ _ _ (call_look [1] hh1 look_ints2 look_fl rfl) (ok_nil _ _) ?_
          simp -implicitDefEqProofs only [wsucc i (by omega),
    evx, evy, ofValue, ofCell, List.range, List.range.loop, Array.size, Nat.reduceAdd, Nat.reduceSub, Nat.reduceEqDiff, List.replicate, if_true, if_false, ↓reduceIte, reduceCtorEq, elB, evParts, Int.reduceToNat, Int.reduceLE, Int.reduceLT, Int.reduceEq, Nat.reduceMul, Nat.reduceLeDiff, Nat.reduceLT, ty3, ty4, ty9, ty28, ty48, ty22, ty23, ty24, ty25, ty27, ty55]
          exact back_intro hs2 (i + 1, o1) (le_wk (by simp [wk, Gra.cells])) ⟨by simp only; omega, hstep.symm, by simp only; omega⟩ (by simp only; omega)
        · rw [decide_eq_false c2] at hh1
          rw [hb, if_pos ⟨rfl, c2⟩] at hstep
          simp -implicitDefEqProofs only [Gra.cells, List.length_map, lt_true hilt, hrow, Prd.row,
    evx, evy, ofValue, ofCell, List.range, List.range.loop, Array.size, Nat.reduceAdd, Nat.reduceSub, Nat.reduceEqDiff, List.replicate, if_true, if_false, ↓reduceIte, reduceCtorEq, elB, evParts, Int.reduceToNat, Int.reduceLE, Int.reduceLT, Int.reduceEq, Nat.reduceMul, Nat.reduceLeDiff, Nat.reduceLT, ty3, ty4, ty9, ty28, ty48, ty22, ty23, ty24, ty25, ty27, ty55]
          refine callK_ret _ _ _ _ (call_look [1] hgn look_ints3 look_fl rfl) (ok_nil _ _) ?_
          simp -implicitDefEqProofs only [hrow, Prd.row,
    evx, evy, ofValue, ofCell, List.range, List.range.loop, Array.size, Nat.reduceAdd, Nat.reduceSub, Nat.reduceEqDiff, List.replicate, if_true, if_false, ↓reduceIte, reduceCtorEq, elB, evParts, Int.reduceToNat, Int.reduceLE, Int.reduceLT, Int.reduceEq, Nat.reduceMul, Nat.reduceLeDiff, Nat.reduceLT, ty3, ty4, ty9, ty28, ty48, ty22, ty23, ty24, ty25, ty27, ty55]
          refine callK_ret _ _ _ _ (call_look [1] hh1 look_ints2 look_fl rfl) (ok_nil _ _) ?_
          simp -implicitDefEqProofs only [Gra.cells, List.length_map, hrow, Prd.row, lt_true hilt, wsucc i (by omega),
    evx, evy, ofValue, ofCell, List.range, List.range.loop, Array.size, Nat.reduceAdd, Nat.reduceSub, Nat.reduceEqDiff, List.replicate, if_true, if_false, ↓reduceIte, reduceCtorEq, elB, evParts, Int.reduceToNat, Int.reduceLE, Int.reduceLT, Int.reduceEq, Nat.reduceMul, Nat.reduceLeDiff, Nat.reduceLT, ty3, ty4, ty9, ty28, ty48, ty22, ty23, ty24, ty25, ty27, ty55]
          refine ⟨⟨by omega, by omega⟩, back_intro hs2 (i + 1, o1 ++ [p.left]) (le_pk [0, 3] rfl (by simp) (by simp) ?_ ?_) ⟨by simp only; omega, hstep.symm, by simp only [List.length_append, List.length_cons, List.length_nil]; omega⟩ (by simp only; omega)⟩
          · have e : List.take o1.length (ints o1) ++ [[FV.int IntKind.i64 p.left]] = ints (o1 ++ [p.left]) := by
              rw [← hol, List.take_length, ints_append]; rfl
            rw [e]
            simp [subBlk, subAny, subA, Gra.cells]
          · simp [wk, subAny, subA, mkSub, idx]
    · obtain rfl : i = g.prods.length := by omega
      rw [List.take_length] at hio
      simp -implicitDefEqProofs only [Gra.cells, List.length_map, lt_false hilt, wsucc r (by omega),
    evx, evy, ofValue, ofCell, List.range, List.range.loop, Array.size, Nat.reduceAdd, Nat.reduceSub, Nat.reduceEqDiff, List.replicate, if_true, if_false, ↓reduceIte, reduceCtorEq, elB, evParts, Int.reduceToNat, Int.reduceLE, Int.reduceLT, Int.reduceEq, Nat.reduceMul, Nat.reduceLeDiff, Nat.reduceLT, ty3, ty4, ty9, ty28, ty48, ty22, ty23, ty24, ty25, ty27, ty55]
      exact back_intro hs (r + 1, o1) (le_wk (by simp [wk, Gra.cells])) ⟨by simp only; omega, by simp only; rw [iter_succ, ← hro]; exact hio, by simp only; omega⟩ (by simp only; omega)
  · obtain rfl : r = g.nonts.length + 1 := by omega
    have hrt : (((g.nonts.length + 1 : Nat) : Int) ≤ (g.nonts.length : Int)) = False := by simpa using hrlt
    have ho : o = refVan g := hro
    have hol := ints_length o
    have hof := ok59 o (by omega)
    rw [← ho]
    simp -implicitDefEqProofs only [Gra.cells, List.length_map, hrt,
    evx, evy, ofValue, ofCell, List.range, List.range.loop, Array.size, Nat.reduceAdd, Nat.reduceSub, Nat.reduceEqDiff, List.replicate, if_true, if_false, ↓reduceIte, reduceCtorEq, elB, evParts, Int.reduceToNat, Int.reduceLE, Int.reduceLT, Int.reduceEq, Nat.reduceMul, Nat.reduceLeDiff, Nat.reduceLT, ty3, ty4, ty9, ty28, ty48, ty22, ty23, ty24, ty25, ty27, ty55]
    refine callK_ret _ _ _ _ (call_freeze (args' := [.fv (.lst 1 (ints o))]) [1] (by simp) (by simp [subAny, subA, frzSub, ← hol]) rfl
      (call_pure hof (fun _ => rfl) (fun _ => rfl)) [1] (by simp) (by simp) (fun i hi hl => by
        have : i = 0 := by simp at hi hl; omega
        subst this; simp [freezeSt, killAll, subBlk, subAny, subA, Gra.cells])) (ok_none _ _) ?_
    simp -implicitDefEqProofs only [subAny, subA, subL, backSub, back, putBack, subBlk, Option.getD_some, List.map_cons, List.map_nil, Nat.not_lt_zero, Nat.sub_zero, Nat.add_zero, List.length_map, freezeSt,
    evx, evy, ofValue, ofCell, List.range, List.range.loop, Array.size, Nat.reduceAdd, Nat.reduceSub, Nat.reduceEqDiff, List.replicate, if_true, if_false, ↓reduceIte, reduceCtorEq, elB, evParts, Int.reduceToNat, Int.reduceLE, Int.reduceLT, Int.reduceEq, Nat.reduceMul, Nat.reduceLeDiff, Nat.reduceLT, ty3, ty4, ty9, ty28, ty48, ty22, ty23, ty24, ty25, ty27, ty55]
    exact le_to [] [] rfl (by simp) (by simp) (by simp) (by simp) rfl
end Go.Abs
