/- Automata: where texts lead. -/
import Derived.Test.YtlifmaooikhhoaaGreatDoorTyTryzx
import Derived.Test.YtlifmaooikhhoaaGreatDoorDrTryzx
import Derived.Test.YtlifmaooikhhoaaGreatDoorLxGx
namespace Go.Abs
open Go.Proofs
set_option linter.unusedVariables false
set_option linter.unusedSimpArgs false
set_option maxRecDepth 100000
set_option maxHeartbeats 4000000
theorem drop_cons {s : Bs} {n : Nat} (h : n < s.length) : s.drop n = s[n] :: s.drop (n + 1) := List.drop_eq_getElem_cons h
theorem idx_str {s : Bs} {n : Nat} (h : n < s.length) : s[n]? = some s[n] := List.getElem?_eq_getElem h
theorem wbyte (c : UInt8) : IntKind.wrap .i64 (c.toNat : Int) = (c.toNat : Int) := wrap_small (by omega) (by have := c.toNat_lt; omega)
/-- A cell of a right automaton. -/
theorem step_row {d : Aut} (hr : d.Right) {a : Int} (h0 : 0 ≤ a) (h1 : a < d.next.length) (c : UInt8) : ∃ row : List Int, (d.next.map nRow)[a.toNat]? = some [.lst 1 (row.map iRow)] ∧ (row.map iRow)[c.toNat]? = some [.int .i64 (d.step a c)] := by
  have hn : a.toNat < d.next.length := by omega
  have hc : c.toNat < d.next[a.toNat].length := by rw [hr.wide]; exact c.toNat_lt
  refine ⟨d.next[a.toNat], rows_at nRow d.next _ hn, ?_⟩
  rw [rows_at iRow _ _ hc]
  unfold Aut.step
  rw [getD_at hn, getD_at hc]
  rfl
theorem ok18 (d : Aut) (hR : d.Right) (a0 : Int) (ha0 : -1 ≤ a0) (ha1 : a0 < d.next.length) (s : Bs) (hs : s.length ≤ 1000000) : Ok Tryz.prog 18 [d.av, .fv (.int .i64 a0), .fv (.str s)] [] (.ret (.fv (.int .i64 (d.go a0 s)))) [] := by
  have hn := hR.most
  refine ok_start (k := 25) (n0 := 0) (rs := [.tmp 6]) mix Tryz.func18 rfl rfl rfl rfl rfl rfl rfl ?_
  simp -implicitDefEqProofs only [awp_draw _ _ Tryzdr18_6, Aut.av,
    evx, evy, ofValue, ofCell, List.range, List.range.loop, Array.size, Nat.reduceAdd, Nat.reduceSub, Nat.reduceEqDiff, List.replicate, if_true, if_false, ↓reduceIte, reduceCtorEq, elB, evParts, Int.reduceToNat, Int.reduceLE, Int.reduceLT, Int.reduceEq, Nat.reduceMul, Nat.reduceLeDiff, Nat.reduceLT, ty3, ty4, ty9, ty23, ty22, ty25, ty5]
  refine loop_rule (fun x : Nat × Int => ⟨[.any, .fv (.int .i64 x.2), .fv (.str s), .ptr 0 0 0 0, .any, .any, .any, .fv (.int .i64 x.1), .any, .any, .any, .any, .any, .any, .any, .any, .any, .any, .any, .any, .any, .any, .any, .any, .any, .any, .any, .any], [.box d.cells], []⟩)
    (fun x => x.1 ≤ s.length ∧ -1 ≤ x.2 ∧ x.2 < d.next.length ∧ d.go a0 s = d.go x.2 (s.drop x.1)) (fun x => s.length - x.1) (0, a0) (le_wk (by simp [wk, Aut.cells])) ⟨by simp, ha0, ha1, rfl⟩ (fun x hx st hst => ?_)
  obtain ⟨i, a⟩ := x
  obtain ⟨h1, h2, h3, h4⟩ := hx
  simp only at h1 h2 h3 h4 hst ⊢
  by_cases hlt : i < s.length
  · by_cases ha : a < 0
    · have hat : (a < 0) = True := by simpa using ha
      obtain rfl : a = -1 := by omega
      rw [Aut.go_neg] at h4
      simp -implicitDefEqProofs only [awp_draw _ _ Tryzdr18_6, lt_true hlt, hat,
    evx, evy, ofValue, ofCell, List.range, List.range.loop, Array.size, Nat.reduceAdd, Nat.reduceSub, Nat.reduceEqDiff, List.replicate, if_true, if_false, ↓reduceIte, reduceCtorEq, elB, evParts, Int.reduceToNat, Int.reduceLE, Int.reduceLT, Int.reduceEq, Nat.reduceMul, Nat.reduceLeDiff, Nat.reduceLT, ty3, ty4, ty9, ty23, ty22, ty25, ty5]
      rw [h4]
      exact le_flat rfl
    · have hat : (a < 0) = False := by simpa using ha
      have hix := idx_str hlt
      rw [drop_cons hlt, Aut.go, if_neg (by omega)] at h4
      generalize s[i] = c at hix h4
      obtain ⟨row, hrow, hcell⟩ := step_row hR (show 0 ≤ a by omega) h3 c
      have hst2 := hR.step (show 0 ≤ a by omega) h3 c
      simp -implicitDefEqProofs only [awp_draw _ _ Tryzdr18_6, Aut.cells, lt_true hlt, hat, hix, hrow, wbyte, hcell, wsucc i (by omega),
    evx, evy, ofValue, ofCell, List.range, List.range.loop, Array.size, Nat.reduceAdd, Nat.reduceSub, Nat.reduceEqDiff, List.replicate, if_true, if_false, ↓reduceIte, reduceCtorEq, elB, evParts, Int.reduceToNat, Int.reduceLE, Int.reduceLT, Int.reduceEq, Nat.reduceMul, Nat.reduceLeDiff, Nat.reduceLT, ty3, ty4, ty9, ty23, ty22, ty25, ty5]
      refine ⟨by omega, ?_⟩
      refine back_intro hst (i + 1, d.step a c) (le_wk ?_) ⟨by simp only; omega, hst2.1, hst2.2, h4⟩ (by simp only; omega)
      simp [wk, Aut.cells]
  · have hie : i = s.length := by omega
    subst hie
    rw [List.drop_length, Aut.go] at h4
    simp -implicitDefEqProofs only [awp_draw _ _ Tryzdr18_6, lt_false hlt,
    evx, evy, ofValue, ofCell, List.range, List.range.loop, Array.size, Nat.reduceAdd, Nat.reduceSub, Nat.reduceEqDiff, List.replicate, if_true, if_false, ↓reduceIte, reduceCtorEq, elB, evParts, Int.reduceToNat, Int.reduceLE, Int.reduceLT, Int.reduceEq, Nat.reduceMul, Nat.reduceLeDiff, Nat.reduceLT, ty3, ty4, ty9, ty23, ty22, ty25, ty5]
    rw [h4]
    exact le_flat rfl
end Go.Abs
/- Automata: whether they are right, as the document says. -/
namespace Go.Abs
open Go.Proofs
set_option linter.unusedVariables false
set_option linter.unusedSimpArgs false
set_option maxRecDepth 100000
set_option maxHeartbeats 4000000
theorem ok14 (d : Aut) (hn : d.next.length ≤ 100000) : Ok Tryz.prog 14 [d.av] [] (.ret (.fv (.bool d.rightB))) [] := by
  refine ok_start (k := 72) (n0 := 0) (rs := [.tmp 2]) mix Tryz.func14 rfl rfl rfl rfl rfl rfl rfl ?_
  by_cases a1 : d.next.length = 0
  · have a1t : ((d.next.length : Int) < 1) = True := by simp [a1]
    have e : d.rightB = false := by unfold Aut.rightB; rw [a1]; rfl
    rw [e]
    simp -implicitDefEqProofs only [awp_draw _ _ Tryzdr14_11, Aut.av, List.length_map, a1t,
    evx, evy, ofValue, ofCell, List.range, List.range.loop, Array.size, Nat.reduceAdd, Nat.reduceSub, Nat.reduceEqDiff, List.replicate, if_true, if_false, ↓reduceIte, reduceCtorEq, elB, evParts, Int.reduceToNat, Int.reduceLE, Int.reduceLT, Int.reduceEq, Nat.reduceMul, Nat.reduceLeDiff, Nat.reduceLT, ty3, ty4, ty9, ty23, ty22, ty25, ty5]
    exact le_flat rfl
  have a1t : ((d.next.length : Int) < 1) = False := eq_false (by omega)
  by_cases a2 : (240 : Int) < (d.next.length : Int)
  · have e : d.rightB = false := by unfold Aut.rightB; rw [decide_eq_false (show ¬ d.next.length ≤ 240 by omega)]; simp
    rw [e]
    simp -implicitDefEqProofs only [awp_draw _ _ Tryzdr14_11, Aut.av, List.length_map, a1t, lit_true a2,
    evx, evy, ofValue, ofCell, List.range, List.range.loop, Array.size, Nat.reduceAdd, Nat.reduceSub, Nat.reduceEqDiff, List.replicate, if_true, if_false, ↓reduceIte, reduceCtorEq, elB, evParts, Int.reduceToNat, Int.reduceLE, Int.reduceLT, Int.reduceEq, Nat.reduceMul, Nat.reduceLeDiff, Nat.reduceLT, ty3, ty4, ty9, ty23, ty22, ty25, ty5]
    exact le_flat rfl
  by_cases a3 : d.acc.length = d.next.length
  · have a3t : ((d.next.length : Int) = (d.acc.length : Int)) = True := by simp [a3]
    rw [right_of (by omega) (by omega) a3]
    simp -implicitDefEqProofs only [awp_draw _ _ Tryzdr14_11, Aut.av, List.length_map, a1t, lit_false a2, a3t,
    evx, evy, ofValue, ofCell, List.range, List.range.loop, Array.size, Nat.reduceAdd, Nat.reduceSub, Nat.reduceEqDiff, List.replicate, if_true, if_false, ↓reduceIte, reduceCtorEq, elB, evParts, Int.reduceToNat, Int.reduceLE, Int.reduceLT, Int.reduceEq, Nat.reduceMul, Nat.reduceLeDiff, Nat.reduceLT, ty3, ty4, ty9, ty23, ty22, ty25, ty5]
    refine loop_rule (fun i : Nat => ⟨[.any, .ptr 0 0 0 0, .any, .fv (.int .i64 i), .any, .any, .any, .any, .any, .any, .any, .any, .any, .any, .any, .any, .any, .any, .any, .any, .any, .any, .any, .any, .any, .any, .any, .any, .any, .any, .any, .any, .any, .any, .any, .any, .any, .any, .any, .any, .any, .any, .any, .any, .any, .any, .any, .any, .any, .any, .any, .any, .any, .any, .any, .any, .any, .any, .any, .any, .any, .any, .any, .any, .any, .any, .any, .any, .any, .any, .any, .any, .any], [.box d.cells], []⟩)
      (fun i => i ≤ d.next.length ∧ ∀ j, j < i → d.rowB j = true) (fun i => d.next.length - i) 0 (le_wk (by simp [wk, Aut.cells])) ⟨by omega, fun j hj => by omega⟩ (fun i hi s hs => ?_)
    obtain ⟨hi, hall⟩ := hi
    by_cases hlt : i < d.next.length
    · have hr := rows_at nRow d.next i hlt
      have hac := rows_at iRow d.acc i (by omega)
      have hrb := rowB_eq hlt (show i < d.acc.length by omega)
      have hfin : d.rowB i = false → d.rowsB = false := @not_all d.rowB d.next.length i hlt
      generalize d.next[i] = row at hr hrb
      generalize d.acc[i] = ac at hac hrb
      by_cases b1 : row.length = 256
      · have b1t : ((row.length : Int) = 256) = True := by simp; omega
        by_cases b2 : ac < -1
        · have b2t : (ac < -1) = True := by simpa using b2
          simp -implicitDefEqProofs only [awp_draw _ _ Tryzdr14_11, Aut.cells, List.length_map, lt_true hlt, hr, nRow, b1t, hac, iRow, b2t,
    evx, evy, ofValue, ofCell, List.range, List.range.loop, Array.size, Nat.reduceAdd, Nat.reduceSub, Nat.reduceEqDiff, List.replicate, if_true, if_false, ↓reduceIte, reduceCtorEq, elB, evParts, Int.reduceToNat, Int.reduceLE, Int.reduceLT, Int.reduceEq, Nat.reduceMul, Nat.reduceLeDiff, Nat.reduceLT, ty3, ty4, ty9, ty23, ty22, ty25, ty5]
          rw [hfin (by rw [hrb, decide_eq_false (show ¬ -1 ≤ ac by omega)]; simp)]
          exact le_flat rfl
        · have b2t : (ac < -1) = False := by simpa using b2
          simp -implicitDefEqProofs only [awp_draw _ _ Tryzdr14_11, Aut.cells, List.length_map, lt_true hlt, hr, nRow, b1t, hac, iRow, b2t,
    evx, evy, ofValue, ofCell, List.range, List.range.loop, Array.size, Nat.reduceAdd, Nat.reduceSub, Nat.reduceEqDiff, List.replicate, if_true, if_false, ↓reduceIte, reduceCtorEq, elB, evParts, Int.reduceToNat, Int.reduceLE, Int.reduceLT, Int.reduceEq, Nat.reduceMul, Nat.reduceLeDiff, Nat.reduceLT, ty3, ty4, ty9, ty23, ty22, ty25, ty5]
          refine loop_rule (fun k : Nat => ⟨[.any, .ptr 0 0 0 0, .any, .fv (.int .i64 i), .fv (.int .i64 k), .any, .any, .any, .any, .any, .any, .any, .any, .any, .any, .any, .any, .any, .any, .any, .any, .any, .any, .any, .any, .any, .any, .any, .any, .any, .any, .any, .any, .any, .any, .any, .any, .any, .any, .any, .any, .any, .any, .any, .any, .any, .any, .any, .any, .any, .any, .any, .any, .any, .any, .any, .any, .any, .any, .any, .any, .any, .any, .any, .any, .any, .any, .any, .any, .any, .any, .any, .any], [.box d.cells], []⟩)
            (fun k => k ≤ row.length ∧ (row.take k).all d.numB = true) (fun k => row.length - k) 0 (le_wk (by simp [wk, Aut.cells])) ⟨by omega, by simp⟩ (fun k hk s2 hs2 => ?_)
          obtain ⟨hk, hka⟩ := hk
          by_cases hkl : k < row.length
          · have hk256 : ((k : Int) < 256) = True := eq_true (by omega)
            have hr2 := rows_at iRow row k hkl
            have hst := take_all_succ d.numB row k hkl
            have hmem := List.getElem_mem hkl
            generalize row[k] = x at hr2 hst hmem
            by_cases c1 : x < -1
            · have c1t : (x < -1) = True := by simpa using c1
              simp -implicitDefEqProofs only [awp_draw _ _ Tryzdr14_11, Aut.cells, List.length_map, hk256, hr, nRow, hr2, iRow, c1t,
    evx, evy, ofValue, ofCell, List.range, List.range.loop, Array.size, Nat.reduceAdd, Nat.reduceSub, Nat.reduceEqDiff, List.replicate, if_true, if_false, ↓reduceIte, reduceCtorEq, elB, evParts, Int.reduceToNat, Int.reduceLE, Int.reduceLT, Int.reduceEq, Nat.reduceMul, Nat.reduceLeDiff, Nat.reduceLT, ty3, ty4, ty9, ty23, ty22, ty25, ty5]
              rw [hfin (by rw [hrb, all_false hmem (by simp [Aut.numB]; omega)]; simp)]
              exact le_flat rfl
            have c1t : (x < -1) = False := by simpa using c1
            by_cases c2 : (d.next.length : Int) ≤ x
            · have c2t : ((d.next.length : Int) ≤ x) = True := by simpa using c2
              simp -implicitDefEqProofs only [awp_draw _ _ Tryzdr14_11, Aut.cells, List.length_map, hk256, hr, nRow, hr2, iRow, c1t, c2t,
    evx, evy, ofValue, ofCell, List.range, List.range.loop, Array.size, Nat.reduceAdd, Nat.reduceSub, Nat.reduceEqDiff, List.replicate, if_true, if_false, ↓reduceIte, reduceCtorEq, elB, evParts, Int.reduceToNat, Int.reduceLE, Int.reduceLT, Int.reduceEq, Nat.reduceMul, Nat.reduceLeDiff, Nat.reduceLT, ty3, ty4, ty9, ty23, ty22, ty25, ty5]
              rw [hfin (by rw [hrb, all_false hmem (by simp [Aut.numB]; omega)]; simp)]
              exact le_flat rfl
            · have c2t : ((d.next.length : Int) ≤ x) = False := by simpa using c2
              simp -implicitDefEqProofs only [awp_draw _ _ Tryzdr14_11, Aut.cells, List.length_map, hk256, hr, nRow, hr2, iRow, c1t, c2t, wsucc k (by omega),
    evx, evy, ofValue, ofCell, List.range, List.range.loop, Array.size, Nat.reduceAdd, Nat.reduceSub, Nat.reduceEqDiff, List.replicate, if_true, if_false, ↓reduceIte, reduceCtorEq, elB, evParts, Int.reduceToNat, Int.reduceLE, Int.reduceLT, Int.reduceEq, Nat.reduceMul, Nat.reduceLeDiff, Nat.reduceLT, ty3, ty4, ty9, ty23, ty22, ty25, ty5]
              refine back_intro hs2 (k + 1) (le_wk ?_) ⟨by omega, by rw [hst, hka]; simp [Aut.numB]; omega⟩ (by omega)
              simp [wk, Aut.cells]
          · have hke : k = row.length := by omega
            subst hke
            have hk256 : ((row.length : Int) < 256) = False := eq_false (by omega)
            rw [List.take_length] at hka
            simp -implicitDefEqProofs only [awp_draw _ _ Tryzdr14_11, Aut.cells, List.length_map, hk256, wsucc i (by omega),
    evx, evy, ofValue, ofCell, List.range, List.range.loop, Array.size, Nat.reduceAdd, Nat.reduceSub, Nat.reduceEqDiff, List.replicate, if_true, if_false, ↓reduceIte, reduceCtorEq, elB, evParts, Int.reduceToNat, Int.reduceLE, Int.reduceLT, Int.reduceEq, Nat.reduceMul, Nat.reduceLeDiff, Nat.reduceLT, ty3, ty4, ty9, ty23, ty22, ty25, ty5]
            refine back_intro hs (i + 1) (le_wk ?_) ⟨by omega, fun j hj => ?_⟩ (by omega)
            · simp [wk, Aut.cells]
            · by_cases hji : j = i
              · subst hji
                rw [hrb, hka]
                simp
                omega
              · exact hall j (by omega)
      · have b1t : ((row.length : Int) = 256) = False := by simp; omega
        simp -implicitDefEqProofs only [awp_draw _ _ Tryzdr14_11, Aut.cells, List.length_map, lt_true hlt, hr, nRow, b1t,
    evx, evy, ofValue, ofCell, List.range, List.range.loop, Array.size, Nat.reduceAdd, Nat.reduceSub, Nat.reduceEqDiff, List.replicate, if_true, if_false, ↓reduceIte, reduceCtorEq, elB, evParts, Int.reduceToNat, Int.reduceLE, Int.reduceLT, Int.reduceEq, Nat.reduceMul, Nat.reduceLeDiff, Nat.reduceLT, ty3, ty4, ty9, ty23, ty22, ty25, ty5]
        rw [hfin (by rw [hrb, decide_eq_false b1]; simp)]
        exact le_flat rfl
    · have hie : i = d.next.length := by omega
      subst hie
      simp -implicitDefEqProofs only [awp_draw _ _ Tryzdr14_11, Aut.cells, List.length_map, lt_false hlt,
    evx, evy, ofValue, ofCell, List.range, List.range.loop, Array.size, Nat.reduceAdd, Nat.reduceSub, Nat.reduceEqDiff, List.replicate, if_true, if_false, ↓reduceIte, reduceCtorEq, elB, evParts, Int.reduceToNat, Int.reduceLE, Int.reduceLT, Int.reduceEq, Nat.reduceMul, Nat.reduceLeDiff, Nat.reduceLT, ty3, ty4, ty9, ty23, ty22, ty25, ty5]
      rw [show d.rowsB = true from all_upto hall]
      exact le_flat rfl
  · have a3t : ((d.next.length : Int) = (d.acc.length : Int)) = False := by simp; omega
    have e : d.rightB = false := by unfold Aut.rightB; rw [decide_eq_false a3]; simp
    rw [e]
    simp -implicitDefEqProofs only [awp_draw _ _ Tryzdr14_11, Aut.av, List.length_map, a1t, lit_false a2, a3t,
    evx, evy, ofValue, ofCell, List.range, List.range.loop, Array.size, Nat.reduceAdd, Nat.reduceSub, Nat.reduceEqDiff, List.replicate, if_true, if_false, ↓reduceIte, reduceCtorEq, elB, evParts, Int.reduceToNat, Int.reduceLE, Int.reduceLT, Int.reduceEq, Nat.reduceMul, Nat.reduceLeDiff, Nat.reduceLT, ty3, ty4, ty9, ty23, ty22, ty25, ty5]
    exact le_flat rfl
end Go.Abs
