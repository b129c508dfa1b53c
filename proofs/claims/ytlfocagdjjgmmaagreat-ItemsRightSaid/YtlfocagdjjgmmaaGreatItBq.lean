/- Items: whether they are a grammar's, their sides, the symbol behind the dot. -/
import Derived.Test.YtlfocagdjjgmmaaGreatTyTryzq
import Derived.Test.YtlfocagdjjgmmaaGreatDrTryzq
import Derived.Test.YtlfocagdjjgmmaaGreatItAq
import Derived.Test.YtlfocagdjjgmmaaGreatAbsW
namespace Go.Abs
open Go.Proofs
set_option linter.unusedVariables false
set_option linter.unusedSimpArgs false
set_option maxRecDepth 100000
set_option maxHeartbeats 8000000
theorem isProd_iff {g : Gra} {p : Int} : g.isProd p = true ↔ -1 ≤ p ∧ p < (g.prods.length : Int) := by simp [Gra.isProd]
theorem ok53 (g : Gra) (x : Itm) : Ok Tryz.prog 53 [g.av, x.av] [] (.ret (.fv (.bool (g.isItm x)))) [] := by
  refine ok_start (k := 29) (n0 := 0) (rs := [.tmp 4]) mix Tryz.func53 rfl rfl rfl rfl rfl rfl rfl ?_
  by_cases c1 : -1 ≤ x.prod
  · have c1t : (-1 ≤ x.prod) = True := by simpa using c1
    by_cases c2 : x.prod < (g.prods.length : Int)
    · have c2t : (x.prod < (g.prods.length : Int)) = True := by simpa using c2
      have hp : g.isProd x.prod = true := isProd_iff.2 ⟨c1, c2⟩
      have hsd := ok49 g x.prod hp
      have hil := ints_length (sideL g x.prod)
      by_cases c3 : 0 ≤ x.dot
      · have c3t : (0 ≤ x.dot) = True := by simpa using c3
        by_cases c4 : x.dot ≤ ((sideL g x.prod).length : Int)
        · have c4t : (x.dot ≤ ((sideL g x.prod).length : Int)) = True := by simpa using c4
          have e : g.isItm x = true := by simp [Gra.isItm, hp, c3, c4]
          rw [e]
          simp -implicitDefEqProofs only [awp_draw _ _ Tryzdr53_1, Gra.av, Itm.av, Gra.cells, List.length_map, c1t, c2t, c3t,
    evx, evy, ofValue, ofCell, List.range, List.range.loop, Array.size, Nat.reduceAdd, Nat.reduceSub, Nat.reduceEqDiff, List.replicate, if_true, if_false, ↓reduceIte, reduceCtorEq, elB, evParts, Int.reduceToNat, Int.reduceLE, Int.reduceLT, Int.reduceEq, Nat.reduceMul, Nat.reduceLeDiff, Nat.reduceLT, ty3, ty4, ty9, ty28, ty22, ty23, ty24, ty25, ty27, ty55, ty39, ty43]
          refine callK_ret _ _ _ _ (call_pure (hsd) (fun _ => rfl) (fun _ => rfl)) (ok_nil _ _) ?_
          simp -implicitDefEqProofs only [awp_draw _ _ Tryzdr53_1, hil, c4t,
    evx, evy, ofValue, ofCell, List.range, List.range.loop, Array.size, Nat.reduceAdd, Nat.reduceSub, Nat.reduceEqDiff, List.replicate, if_true, if_false, ↓reduceIte, reduceCtorEq, elB, evParts, Int.reduceToNat, Int.reduceLE, Int.reduceLT, Int.reduceEq, Nat.reduceMul, Nat.reduceLeDiff, Nat.reduceLT, ty3, ty4, ty9, ty28, ty22, ty23, ty24, ty25, ty27, ty55, ty39, ty43]
          exact le_flat rfl
        · have c4t : (x.dot ≤ ((sideL g x.prod).length : Int)) = False := by simpa using c4
          have e : g.isItm x = false := by simp [Gra.isItm, hp, c3]; omega
          rw [e]
          simp -implicitDefEqProofs only [awp_draw _ _ Tryzdr53_1, Gra.av, Itm.av, Gra.cells, List.length_map, c1t, c2t, c3t,
    evx, evy, ofValue, ofCell, List.range, List.range.loop, Array.size, Nat.reduceAdd, Nat.reduceSub, Nat.reduceEqDiff, List.replicate, if_true, if_false, ↓reduceIte, reduceCtorEq, elB, evParts, Int.reduceToNat, Int.reduceLE, Int.reduceLT, Int.reduceEq, Nat.reduceMul, Nat.reduceLeDiff, Nat.reduceLT, ty3, ty4, ty9, ty28, ty22, ty23, ty24, ty25, ty27, ty55, ty39, ty43]
          refine callK_ret _ _ _ _ (call_pure (hsd) (fun _ => rfl) (fun _ => rfl)) (ok_nil _ _) ?_
          simp -implicitDefEqProofs only [awp_draw _ _ Tryzdr53_1, hil, c4t,
    evx, evy, ofValue, ofCell, List.range, List.range.loop, Array.size, Nat.reduceAdd, Nat.reduceSub, Nat.reduceEqDiff, List.replicate, if_true, if_false, ↓reduceIte, reduceCtorEq, elB, evParts, Int.reduceToNat, Int.reduceLE, Int.reduceLT, Int.reduceEq, Nat.reduceMul, Nat.reduceLeDiff, Nat.reduceLT, ty3, ty4, ty9, ty28, ty22, ty23, ty24, ty25, ty27, ty55, ty39, ty43]
          exact le_flat rfl
      · have c3t : (0 ≤ x.dot) = False := by simpa using c3
        have e : g.isItm x = false := by simp [Gra.isItm, hp]; omega
        rw [e]
        simp -implicitDefEqProofs only [awp_draw _ _ Tryzdr53_1, Gra.av, Itm.av, Gra.cells, List.length_map, c1t, c2t, c3t,
    evx, evy, ofValue, ofCell, List.range, List.range.loop, Array.size, Nat.reduceAdd, Nat.reduceSub, Nat.reduceEqDiff, List.replicate, if_true, if_false, ↓reduceIte, reduceCtorEq, elB, evParts, Int.reduceToNat, Int.reduceLE, Int.reduceLT, Int.reduceEq, Nat.reduceMul, Nat.reduceLeDiff, Nat.reduceLT, ty3, ty4, ty9, ty28, ty22, ty23, ty24, ty25, ty27, ty55, ty39, ty43]
        exact le_flat rfl
    · have c2t : (x.prod < (g.prods.length : Int)) = False := by simpa using c2
      have e : g.isItm x = false := by simp [Gra.isItm, Gra.isProd]; omega
      rw [e]
      simp -implicitDefEqProofs only [awp_draw _ _ Tryzdr53_1, Gra.av, Itm.av, Gra.cells, List.length_map, c1t, c2t,
    evx, evy, ofValue, ofCell, List.range, List.range.loop, Array.size, Nat.reduceAdd, Nat.reduceSub, Nat.reduceEqDiff, List.replicate, if_true, if_false, ↓reduceIte, reduceCtorEq, elB, evParts, Int.reduceToNat, Int.reduceLE, Int.reduceLT, Int.reduceEq, Nat.reduceMul, Nat.reduceLeDiff, Nat.reduceLT, ty3, ty4, ty9, ty28, ty22, ty23, ty24, ty25, ty27, ty55, ty39, ty43]
      exact le_flat rfl
  · have c1t : (-1 ≤ x.prod) = False := by simpa using c1
    have e : g.isItm x = false := by simp [Gra.isItm, Gra.isProd]; omega
    rw [e]
    simp -implicitDefEqProofs only [awp_draw _ _ Tryzdr53_1, Gra.av, Itm.av, Gra.cells, List.length_map, c1t,
    evx, evy, ofValue, ofCell, List.range, List.range.loop, Array.size, Nat.reduceAdd, Nat.reduceSub, Nat.reduceEqDiff, List.replicate, if_true, if_false, ↓reduceIte, reduceCtorEq, elB, evParts, Int.reduceToNat, Int.reduceLE, Int.reduceLT, Int.reduceEq, Nat.reduceMul, Nat.reduceLeDiff, Nat.reduceLT, ty3, ty4, ty9, ty28, ty22, ty23, ty24, ty25, ty27, ty55, ty39, ty43]
    exact le_flat rfl
theorem ok52 (g : Gra) (x : Itm) : Ok Tryz.prog 52 [x.av, .fptr g.row] [] (.ret (.fv (.bool (!g.isItm x)))) [] := by
  have hi := ok53 g x
  refine ok_start (k := 6) (n0 := 0) (rs := [.tmp 3]) mix Tryz.func52 rfl rfl rfl rfl rfl rfl rfl ?_
  simp -implicitDefEqProofs only [Itm.av, Gra.row,
    evx, evy, ofValue, ofCell, List.range, List.range.loop, Array.size, Nat.reduceAdd, Nat.reduceSub, Nat.reduceEqDiff, List.replicate, if_true, if_false, ↓reduceIte, reduceCtorEq, elB, evParts, Int.reduceToNat, Int.reduceLE, Int.reduceLT, Int.reduceEq, Nat.reduceMul, Nat.reduceLeDiff, Nat.reduceLT, ty3, ty4, ty9, ty28, ty22, ty23, ty24, ty25, ty27, ty55, ty39, ty43]
  refine callK_ret _ _ _ _ (call_pure (hi) (fun _ => rfl) (fun _ => rfl)) (ok_nil _ _) ?_
  simp -implicitDefEqProofs only [evx, evy, ofValue, ofCell, List.range, List.range.loop, Array.size, Nat.reduceAdd, Nat.reduceSub, Nat.reduceEqDiff, List.replicate, if_true, if_false, ↓reduceIte, reduceCtorEq, elB, evParts, Int.reduceToNat, Int.reduceLE, Int.reduceLT, Int.reduceEq, Nat.reduceMul, Nat.reduceLeDiff, Nat.reduceLT, ty3, ty4, ty9, ty28, ty22, ty23, ty24, ty25, ty27, ty55, ty39, ty43]
  exact le_flat rfl
def ixI (p : Itm → Bool) : List Itm → Nat → Int
  | [], _ => -1
  | x :: l, i => if p x then i else ixI p l (i + 1)
theorem ixI_any (p : Itm → Bool) : ∀ (l : List Itm) (i : Nat), (0 ≤ ixI p l i) = (l.any p = true)
  | [], i => by simp [ixI]
  | x :: l, i => by
    unfold ixI
    cases h : p x with
    | true => simp [h]
    | false => simp only [Bool.false_eq_true, if_false, ixI_any p l, List.any_cons, h, Bool.false_or]
theorem ok79 {f : FuncId} {caps : List AV} {p : Itm → Bool} (l : List Itm) (hl : l.length ≤ 100000) (hc : ∀ σ, caps.map (subAny σ) = caps)
    (hf : ∀ x ∈ l, Ok Tryz.prog f (x.av :: caps) [] (.ret (.fv (.bool (p x)))) []) : Ok Tryz.prog 79 [.fv (.lst 2 (l.map Itm.row)), .func f caps] [] (.ret (.fv (.int .i64 (ixI p l 0)))) [] := by
  refine ok_start (k := 17) (n0 := 0) (rs := [.tmp 4]) mix Tryz.func79 rfl rfl rfl rfl rfl rfl rfl ?_
  simp -implicitDefEqProofs only [List.length_map,
    evx, evy, ofValue, ofCell, List.range, List.range.loop, Array.size, Nat.reduceAdd, Nat.reduceSub, Nat.reduceEqDiff, List.replicate, if_true, if_false, ↓reduceIte, reduceCtorEq, elB, evParts, Int.reduceToNat, Int.reduceLE, Int.reduceLT, Int.reduceEq, Nat.reduceMul, Nat.reduceLeDiff, Nat.reduceLT, ty3, ty4, ty9, ty28, ty22, ty23, ty24, ty25, ty27, ty55, ty39, ty43]
  refine loop_rule (fun i : Nat => ⟨[.fv (.lst 2 (l.map Itm.row)), .func f caps, .any, .any, .any, .any, .any, .fv (.int .i64 l.length), .fv (.int .i64 i), .any, .any, .any, .any, .any, .any, .any, .any, .any, .any], [], []⟩)
    (fun i => i ≤ l.length ∧ ixI p l 0 = ixI p (l.drop i) i) (fun i => l.length - i) 0 (le_wk (by simp [wk])) (by simp) (fun i hi s hs2 => ?_)
  obtain ⟨hi, hx⟩ := hi
  by_cases hlt : i < l.length
  · have hr := rows_at Itm.row l i hlt
    have hfi := hf l[i] (List.getElem_mem hlt)
    rw [List.drop_eq_getElem_cons hlt] at hx
    generalize l[i] = x at hr hfi hx
    simp -implicitDefEqProofs only [List.length_map, lt_true hlt, hr, Itm.row,
    evx, evy, ofValue, ofCell, List.range, List.range.loop, Array.size, Nat.reduceAdd, Nat.reduceSub, Nat.reduceEqDiff, List.replicate, if_true, if_false, ↓reduceIte, reduceCtorEq, elB, evParts, Int.reduceToNat, Int.reduceLE, Int.reduceLT, Int.reduceEq, Nat.reduceMul, Nat.reduceLeDiff, Nat.reduceLT, ty3, ty4, ty9, ty28, ty22, ty23, ty24, ty25, ty27, ty55, ty39, ty43]
    refine callK_ret _ _ _ _ (call_pure hfi (fun σ => by rw [List.map_cons, hc]; rfl) (fun _ => rfl)) (ok_nil _ _) ?_
    cases hp : p x with
    | true =>
      simp -implicitDefEqProofs only [evx, evy, ofValue, ofCell, List.range, List.range.loop, Array.size, Nat.reduceAdd, Nat.reduceSub, Nat.reduceEqDiff, List.replicate, if_true, if_false, ↓reduceIte, reduceCtorEq, elB, evParts, Int.reduceToNat, Int.reduceLE, Int.reduceLT, Int.reduceEq, Nat.reduceMul, Nat.reduceLeDiff, Nat.reduceLT, ty3, ty4, ty9, ty28, ty22, ty23, ty24, ty25, ty27, ty55, ty39, ty43]
      rw [hx, ixI, hp, if_pos rfl]
      exact le_flat rfl
    | false =>
      simp -implicitDefEqProofs only [wsucc i (by omega),
    evx, evy, ofValue, ofCell, List.range, List.range.loop, Array.size, Nat.reduceAdd, Nat.reduceSub, Nat.reduceEqDiff, List.replicate, if_true, if_false, ↓reduceIte, reduceCtorEq, elB, evParts, Int.reduceToNat, Int.reduceLE, Int.reduceLT, Int.reduceEq, Nat.reduceMul, Nat.reduceLeDiff, Nat.reduceLT, ty3, ty4, ty9, ty28, ty22, ty23, ty24, ty25, ty27, ty55, ty39, ty43]
      refine back_intro hs2 (i + 1) (le_wk (by simp [wk])) ⟨by omega, ?_⟩ (by omega)
      rw [hx, ixI, hp, if_neg (by simp)]
  · obtain rfl : i = l.length := by omega
    simp -implicitDefEqProofs only [lt_false hlt,
    evx, evy, ofValue, ofCell, List.range, List.range.loop, Array.size, Nat.reduceAdd, Nat.reduceSub, Nat.reduceEqDiff, List.replicate, if_true, if_false, ↓reduceIte, reduceCtorEq, elB, evParts, Int.reduceToNat, Int.reduceLE, Int.reduceLT, Int.reduceEq, Nat.reduceMul, Nat.reduceLeDiff, Nat.reduceLT, ty3, ty4, ty9, ty28, ty22, ty23, ty24, ty25, ty27, ty55, ty39, ty43]
    rw [hx, List.drop_length, ixI]
    exact le_flat rfl
theorem ok51 {f : FuncId} {caps : List AV} {p : Itm → Bool} (l : List Itm) (hl : l.length ≤ 100000) (hc : ∀ σ, caps.map (subAny σ) = caps) (hc2 : ∀ σ, subAny σ (.func f caps) = .func f caps)
    (hf : ∀ x ∈ l, Ok Tryz.prog f (x.av :: caps) [] (.ret (.fv (.bool (p x)))) []) : Ok Tryz.prog 51 [.fv (.lst 2 (l.map Itm.row)), .func f caps] [] (.ret (.fv (.bool (l.any p)))) [] := by
  refine ok_start (k := 7) (n0 := 0) (rs := [.tmp 4]) mix Tryz.func51 rfl rfl rfl rfl rfl rfl rfl ?_
  simp -implicitDefEqProofs only [evx, evy, ofValue, ofCell, List.range, List.range.loop, Array.size, Nat.reduceAdd, Nat.reduceSub, Nat.reduceEqDiff, List.replicate, if_true, if_false, ↓reduceIte, reduceCtorEq, elB, evParts, Int.reduceToNat, Int.reduceLE, Int.reduceLT, Int.reduceEq, Nat.reduceMul, Nat.reduceLeDiff, Nat.reduceLT, ty3, ty4, ty9, ty28, ty22, ty23, ty24, ty25, ty27, ty55, ty39, ty43]
  refine callK_ret _ _ _ _ (call_pure (ok79 l hl hc hf) (fun σ => by rw [List.map_cons, List.map_cons, List.map_nil, hc2]; rfl) (fun _ => rfl)) (ok_nil _ _) ?_
  have hx := ixI_any p l 0
  cases ha : l.any p with
  | true =>
    rw [ha] at hx
    have h0 : (0 ≤ ixI p l 0) = True := by rw [hx]; simp
    simp -implicitDefEqProofs only [h0,
    evx, evy, ofValue, ofCell, List.range, List.range.loop, Array.size, Nat.reduceAdd, Nat.reduceSub, Nat.reduceEqDiff, List.replicate, if_true, if_false, ↓reduceIte, reduceCtorEq, elB, evParts, Int.reduceToNat, Int.reduceLE, Int.reduceLT, Int.reduceEq, Nat.reduceMul, Nat.reduceLeDiff, Nat.reduceLT, ty3, ty4, ty9, ty28, ty22, ty23, ty24, ty25, ty27, ty55, ty39, ty43]
    exact le_flat rfl
  | false =>
    rw [ha] at hx
    have h0 : (0 ≤ ixI p l 0) = False := by rw [hx]; simp
    simp -implicitDefEqProofs only [h0,
    evx, evy, ofValue, ofCell, List.range, List.range.loop, Array.size, Nat.reduceAdd, Nat.reduceSub, Nat.reduceEqDiff, List.replicate, if_true, if_false, ↓reduceIte, reduceCtorEq, elB, evParts, Int.reduceToNat, Int.reduceLE, Int.reduceLT, Int.reduceEq, Nat.reduceMul, Nat.reduceLeDiff, Nat.reduceLT, ty3, ty4, ty9, ty28, ty22, ty23, ty24, ty25, ty27, ty55, ty39, ty43]
    exact le_flat rfl
def Gra.rightI (g : Gra) (l : List Itm) : Bool := g.usB && l.all g.isItm
theorem ok19 (g : Gra) (hg : Small g 100) (l : List Itm) (hl : l.length ≤ 100000) : Ok Tryz.prog 19 [g.av, .fv (.lst 2 (l.map Itm.row))] [] (.ret (.fv (.bool (g.rightI l)))) [] := by
  have hu := ok47 g hg
  have hcf := ok51 (f := 52) (caps := [.fptr g.row]) (p := fun x => !g.isItm x) l hl (fun _ => rfl) (fun _ => rfl) (fun x _ => ok52 g x)
  rw [show (l.any fun x => !g.isItm x) = !(l.all g.isItm) from by rw [List.not_all_eq_any_not]] at hcf
  refine ok_start (k := 11) (n0 := 0) (rs := [.tmp 4]) mix Tryz.func19 rfl rfl rfl rfl rfl rfl rfl ?_
  cases hb : g.usB with
  | false =>
    rw [hb] at hu
    have e : g.rightI l = false := by simp [Gra.rightI, hb]
    rw [e]
    simp -implicitDefEqProofs only [Gra.av,
    evx, evy, ofValue, ofCell, List.range, List.range.loop, Array.size, Nat.reduceAdd, Nat.reduceSub, Nat.reduceEqDiff, List.replicate, if_true, if_false, ↓reduceIte, reduceCtorEq, elB, evParts, Int.reduceToNat, Int.reduceLE, Int.reduceLT, Int.reduceEq, Nat.reduceMul, Nat.reduceLeDiff, Nat.reduceLT, ty3, ty4, ty9, ty28, ty22, ty23, ty24, ty25, ty27, ty55, ty39, ty43]
    refine callK_ret _ _ _ _ (call_pure (hu) (fun _ => rfl) (fun _ => rfl)) (ok_nil _ _) ?_
    simp -implicitDefEqProofs only [evx, evy, ofValue, ofCell, List.range, List.range.loop, Array.size, Nat.reduceAdd, Nat.reduceSub, Nat.reduceEqDiff, List.replicate, if_true, if_false, ↓reduceIte, reduceCtorEq, elB, evParts, Int.reduceToNat, Int.reduceLE, Int.reduceLT, Int.reduceEq, Nat.reduceMul, Nat.reduceLeDiff, Nat.reduceLT, ty3, ty4, ty9, ty28, ty22, ty23, ty24, ty25, ty27, ty55, ty39, ty43]
    exact le_flat rfl
  | true =>
    rw [hb] at hu
    have e : g.rightI l = l.all g.isItm := by simp [Gra.rightI, hb]
    rw [e]
    simp -implicitDefEqProofs only [Gra.av,
    evx, evy, ofValue, ofCell, List.range, List.range.loop, Array.size, Nat.reduceAdd, Nat.reduceSub, Nat.reduceEqDiff, List.replicate, if_true, if_false, ↓reduceIte, reduceCtorEq, elB, evParts, Int.reduceToNat, Int.reduceLE, Int.reduceLT, Int.reduceEq, Nat.reduceMul, Nat.reduceLeDiff, Nat.reduceLT, ty3, ty4, ty9, ty28, ty22, ty23, ty24, ty25, ty27, ty55, ty39, ty43]
    refine callK_ret _ _ _ _ (call_pure (hu) (fun _ => rfl) (fun _ => rfl)) (ok_nil _ _) ?_
    simp -implicitDefEqProofs only [evx, evy, ofValue, ofCell, List.range, List.range.loop, Array.size, Nat.reduceAdd, Nat.reduceSub, Nat.reduceEqDiff, List.replicate, if_true, if_false, ↓reduceIte, reduceCtorEq, elB, evParts, Int.reduceToNat, Int.reduceLE, Int.reduceLT, Int.reduceEq, Nat.reduceMul, Nat.reduceLeDiff, Nat.reduceLT, ty3, ty4, ty9, ty28, ty22, ty23, ty24, ty25, ty27, ty55, ty39, ty43]
    refine callK_ret _ _ _ _ (call_deep hcf (by rfl) rfl) (ok_nil _ _) ?_
    simp -implicitDefEqProofs only [evx, evy, ofValue, ofCell, List.range, List.range.loop, Array.size, Nat.reduceAdd, Nat.reduceSub, Nat.reduceEqDiff, List.replicate, if_true, if_false, ↓reduceIte, reduceCtorEq, elB, evParts, Int.reduceToNat, Int.reduceLE, Int.reduceLT, Int.reduceEq, Nat.reduceMul, Nat.reduceLeDiff, Nat.reduceLT, ty3, ty4, ty9, ty28, ty22, ty23, ty24, ty25, ty27, ty55, ty39, ty43]
    cases l.all g.isItm <;> exact le_flat rfl
end Go.Abs
