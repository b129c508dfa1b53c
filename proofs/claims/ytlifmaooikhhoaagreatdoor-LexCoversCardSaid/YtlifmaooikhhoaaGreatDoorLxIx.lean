/- The longest match: the program's. -/
import Derived.Test.YtlifmaooikhhoaaGreatDoorTyTryzx
import Derived.Test.YtlifmaooikhhoaaGreatDoorDrTryzx
import Derived.Test.YtlifmaooikhhoaaGreatDoorLxHx
import Derived.Test.YtlifmaooikhhoaaGreatDoorAbsScope
namespace Go.Abs
open Go.Proofs
set_option linter.unusedVariables false
set_option linter.unusedSimpArgs false
set_option maxRecDepth 100000
set_option maxHeartbeats 4000000
theorem ok42 (d : Aut) (hR : d.Right) (s : Bs) (hs : s.length ≤ 1000000) (a : Nat) (ha : a ≤ s.length) : Ok Tryz.prog 42 [d.av, .fv (.str s), .fv (.int .i64 a)] []
    (.ret (.tuple [.agg [.fv (.int .i64 (d.one (s.drop a)).1.1), .fv (.int .i64 a), .fv (.int .i64 (d.one (s.drop a)).1.2)], .fv (.int .i64 ((a + (d.one (s.drop a)).2 : Nat) : Int))])) [] := by
  refine ok_start_scope (k := 53) (n0 := 0) (rs := [.cell 6 35, .tmp 7]) mix Tryz.func42 rfl rfl rfl rfl rfl rfl rfl ?_
  simp -implicitDefEqProofs only [awp_draw _ _ Tryzdr42_6, Aut.av, stB_boxA, splice_all, List.all_cons, List.all_nil, Bool.and_self,
    evx, evy, ofValue, ofCell, List.range, List.range.loop, Array.size, Nat.reduceAdd, Nat.reduceSub, Nat.reduceEqDiff, List.replicate, if_true, if_false, ↓reduceIte, reduceCtorEq, elB, evParts, Int.reduceToNat, Int.reduceLE, Int.reduceLT, Int.reduceEq, Nat.reduceMul, Nat.reduceLeDiff, Nat.reduceLT, ty3, ty4, ty9, ty23, ty22, ty25, ty5, ty35]
  refine loop_rule (fun x : Nat × Int × (Int × Nat) => ⟨[.any, .fv (.str s), .fv (.int .i64 a), .ptr 0 0 0 0, .any, .any, .ptr 1 0 0 0, .any, .ptr 2 0 0 0, .fv (.int .i64 x.2.1), .fv (.int .i64 ((a + x.1 : Nat) : Int)), .any, .any, .any, .any, .any, .any, .any, .any, .any, .any, .any, .any, .any, .any, .any, .any, .any, .any, .any, .any, .any, .any, .any, .any, .any, .any, .any, .any, .any, .any, .any, .any, .any, .any, .any, .any, .any, .any, .any, .any, .any, .any, .any, .any, .any],
      [.box d.cells, .box [.fv (.int .i64 0), .fv (.int .i64 0), .fv (.int .i64 0)], .box [.fv (.int .i64 x.2.2.1), .fv (.int .i64 a), .fv (.int .i64 x.2.2.2)]], []⟩)
    (fun x => a + x.1 ≤ s.length ∧ 0 ≤ x.2.1 ∧ x.2.1 < d.next.length ∧ x.2.2.2 ≤ x.1 ∧ d.one (s.drop a) = d.oneG (s.drop (a + x.1)) x.2.1 x.1 x.2.2) (fun x => s.length - (a + x.1)) (0, 0, (0, 0)) (le_wk (by simp [wk, Aut.cells])) ⟨by simp only; omega, by simp, by have := hR.pos; simp only; omega, by simp, rfl⟩ (fun x hx st hst => ?_)
  obtain ⟨n, q, b1, b2⟩ := x
  obtain ⟨h1, h2, h3, hb, h4⟩ := hx
  simp only at h1 h2 h3 hb h4 hst ⊢
  have hqa : q.toNat < d.acc.length := by rw [hR.same]; omega
  have hac := rows_at iRow d.acc _ hqa
  have hacc : d.accI q = d.acc[q.toNat] := by unfold Aut.accI; rw [getD_at hqa]
  rw [← hacc] at hac
  have wlen : IntKind.wrap .i64 (((a + n : Nat) : Int) - (a : Int)) = (n : Int) := by rw [wrap_small (by omega) (by omega)]; omega
  have h2t : (0 ≤ q) = True := eq_true h2
  generalize hv : d.accI q = v at hac
  have h5 := wsucc (a + n) (by omega)
  have h6 : ((a + n : Nat) : Int) + 1 = ((a + n + 1 : Nat) : Int) := by omega
  by_cases hn : 0 < n
  · have hnt : ((a : Int) < ((a + n : Nat) : Int)) = True := eq_true (by omega)
    by_cases hvp : 0 ≤ v
    · have hvt : (0 ≤ v) = True := eq_true hvp
      have hbest : d.best q n (b1, b2) = (v, n) := by
        unfold Aut.best
        rw [hv]
        rw [if_pos ⟨hn, hvp⟩]
      by_cases hend : a + n = s.length
      · have hendt : (((a + n : Nat) : Int) = (s.length : Int)) = True := by rw [hend]; simp
        have hd0 : s.drop (a + n) = [] := by rw [hend]; exact List.drop_length
        rw [hd0, Aut.oneG, hbest] at h4
        simp -implicitDefEqProofs only [awp_draw _ _ Tryzdr42_6, stB_boxA, splice_all, List.all_cons, List.all_nil, Bool.and_self, Aut.cells, hnt, hac, iRow, h2t, hvt, wlen, hendt, h5,
    evx, evy, ofValue, ofCell, List.range, List.range.loop, Array.size, Nat.reduceAdd, Nat.reduceSub, Nat.reduceEqDiff, List.replicate, if_true, if_false, ↓reduceIte, reduceCtorEq, elB, evParts, Int.reduceToNat, Int.reduceLE, Int.reduceLT, Int.reduceEq, Nat.reduceMul, Nat.reduceLeDiff, Nat.reduceLT, ty3, ty4, ty9, ty23, ty22, ty25, ty5, ty35]
        rw [h4]
        exact le_sf (by simp [subAny, subA, subL])
      · have hendt : (((a + n : Nat) : Int) = (s.length : Int)) = False := eq_false (by omega)
        have hlt : a + n < s.length := by omega
        have hix := idx_str hlt
        rw [drop_cons hlt, Aut.oneG, hbest] at h4
        generalize s[a + n] = c at hix h4
        obtain ⟨row, hrow, hcell⟩ := step_row hR h2 h3 c
        have hst2 := hR.step h2 h3 c
        by_cases hneg : d.step q c < 0
        · have hnegt : (d.step q c < 0) = True := eq_true hneg
          rw [if_pos hneg] at h4
          simp -implicitDefEqProofs only [awp_draw _ _ Tryzdr42_6, stB_boxA, splice_all, List.all_cons, List.all_nil, Bool.and_self, Aut.cells, hnt, hac, iRow, h2t, hvt, wlen, hendt, hix, hrow, hcell, h2t, hnegt, h5,
    evx, evy, ofValue, ofCell, List.range, List.range.loop, Array.size, Nat.reduceAdd, Nat.reduceSub, Nat.reduceEqDiff, List.replicate, if_true, if_false, ↓reduceIte, reduceCtorEq, elB, evParts, Int.reduceToNat, Int.reduceLE, Int.reduceLT, Int.reduceEq, Nat.reduceMul, Nat.reduceLeDiff, Nat.reduceLT, ty3, ty4, ty9, ty23, ty22, ty25, ty5, ty35]
          rw [h4]
          exact le_sf (by simp [subAny, subA, subL])
        · have hnegt : (d.step q c < 0) = False := eq_false hneg
          rw [if_neg hneg] at h4
          simp -implicitDefEqProofs only [awp_draw _ _ Tryzdr42_6, stB_boxA, splice_all, List.all_cons, List.all_nil, Bool.and_self, Aut.cells, hnt, hac, iRow, h2t, hvt, wlen, hendt, hix, hrow, hcell, h2t, hnegt, h5,
    evx, evy, ofValue, ofCell, List.range, List.range.loop, Array.size, Nat.reduceAdd, Nat.reduceSub, Nat.reduceEqDiff, List.replicate, if_true, if_false, ↓reduceIte, reduceCtorEq, elB, evParts, Int.reduceToNat, Int.reduceLE, Int.reduceLT, Int.reduceEq, Nat.reduceMul, Nat.reduceLeDiff, Nat.reduceLT, ty3, ty4, ty9, ty23, ty22, ty25, ty5, ty35]
          refine back_intro hst (n + 1, d.step q c, (v, n)) (le_wk ?_) ⟨by simp only; omega, by simp only; omega, hst2.2, by simp only; omega, ?_⟩ (by simp only; omega)
          · simp [wk, Aut.cells]
            omega
          · simp only
            rw [h4]
            rfl
    · have hvt : (0 ≤ v) = False := eq_false hvp
      have hbest : d.best q n (b1, b2) = (b1, b2) := by
        unfold Aut.best
        rw [hv]
        rw [if_neg (by omega)]
      by_cases hend : a + n = s.length
      · have hendt : (((a + n : Nat) : Int) = (s.length : Int)) = True := by rw [hend]; simp
        have hd0 : s.drop (a + n) = [] := by rw [hend]; exact List.drop_length
        rw [hd0, Aut.oneG, hbest] at h4
        simp -implicitDefEqProofs only [awp_draw _ _ Tryzdr42_6, stB_boxA, splice_all, List.all_cons, List.all_nil, Bool.and_self, Aut.cells, hnt, hac, iRow, h2t, hvt, hendt, h5,
    evx, evy, ofValue, ofCell, List.range, List.range.loop, Array.size, Nat.reduceAdd, Nat.reduceSub, Nat.reduceEqDiff, List.replicate, if_true, if_false, ↓reduceIte, reduceCtorEq, elB, evParts, Int.reduceToNat, Int.reduceLE, Int.reduceLT, Int.reduceEq, Nat.reduceMul, Nat.reduceLeDiff, Nat.reduceLT, ty3, ty4, ty9, ty23, ty22, ty25, ty5, ty35]
        rw [h4]
        exact le_sf (by simp [subAny, subA, subL])
      · have hendt : (((a + n : Nat) : Int) = (s.length : Int)) = False := eq_false (by omega)
        have hlt : a + n < s.length := by omega
        have hix := idx_str hlt
        rw [drop_cons hlt, Aut.oneG, hbest] at h4
        generalize s[a + n] = c at hix h4
        obtain ⟨row, hrow, hcell⟩ := step_row hR h2 h3 c
        have hst2 := hR.step h2 h3 c
        by_cases hneg : d.step q c < 0
        · have hnegt : (d.step q c < 0) = True := eq_true hneg
          rw [if_pos hneg] at h4
          simp -implicitDefEqProofs only [awp_draw _ _ Tryzdr42_6, stB_boxA, splice_all, List.all_cons, List.all_nil, Bool.and_self, Aut.cells, hnt, hac, iRow, h2t, hvt, hendt, hix, hrow, hcell, h2t, hnegt, h5,
    evx, evy, ofValue, ofCell, List.range, List.range.loop, Array.size, Nat.reduceAdd, Nat.reduceSub, Nat.reduceEqDiff, List.replicate, if_true, if_false, ↓reduceIte, reduceCtorEq, elB, evParts, Int.reduceToNat, Int.reduceLE, Int.reduceLT, Int.reduceEq, Nat.reduceMul, Nat.reduceLeDiff, Nat.reduceLT, ty3, ty4, ty9, ty23, ty22, ty25, ty5, ty35]
          rw [h4]
          exact le_sf (by simp [subAny, subA, subL])
        · have hnegt : (d.step q c < 0) = False := eq_false hneg
          rw [if_neg hneg] at h4
          simp -implicitDefEqProofs only [awp_draw _ _ Tryzdr42_6, stB_boxA, splice_all, List.all_cons, List.all_nil, Bool.and_self, Aut.cells, hnt, hac, iRow, h2t, hvt, hendt, hix, hrow, hcell, h2t, hnegt, h5,
    evx, evy, ofValue, ofCell, List.range, List.range.loop, Array.size, Nat.reduceAdd, Nat.reduceSub, Nat.reduceEqDiff, List.replicate, if_true, if_false, ↓reduceIte, reduceCtorEq, elB, evParts, Int.reduceToNat, Int.reduceLE, Int.reduceLT, Int.reduceEq, Nat.reduceMul, Nat.reduceLeDiff, Nat.reduceLT, ty3, ty4, ty9, ty23, ty22, ty25, ty5, ty35]
          refine back_intro hst (n + 1, d.step q c, (b1, b2)) (le_wk ?_) ⟨by simp only; omega, by simp only; omega, hst2.2, by simp only; omega, ?_⟩ (by simp only; omega)
          · simp [wk, Aut.cells]
            omega
          · simp only
            rw [h4]
            rfl
  · have hnt : ((a : Int) < ((a + n : Nat) : Int)) = False := eq_false (by omega)
    have hbest : d.best q n (b1, b2) = (b1, b2) := by
      unfold Aut.best
      rw [hv]
      rw [if_neg (by omega)]
    by_cases hend : a + n = s.length
    · have hendt : (((a + n : Nat) : Int) = (s.length : Int)) = True := by rw [hend]; simp
      have hd0 : s.drop (a + n) = [] := by rw [hend]; exact List.drop_length
      rw [hd0, Aut.oneG, hbest] at h4
      simp -implicitDefEqProofs only [awp_draw _ _ Tryzdr42_6, stB_boxA, splice_all, List.all_cons, List.all_nil, Bool.and_self, Aut.cells, hnt, hendt, h5,
    evx, evy, ofValue, ofCell, List.range, List.range.loop, Array.size, Nat.reduceAdd, Nat.reduceSub, Nat.reduceEqDiff, List.replicate, if_true, if_false, ↓reduceIte, reduceCtorEq, elB, evParts, Int.reduceToNat, Int.reduceLE, Int.reduceLT, Int.reduceEq, Nat.reduceMul, Nat.reduceLeDiff, Nat.reduceLT, ty3, ty4, ty9, ty23, ty22, ty25, ty5, ty35]
      rw [h4]
      exact le_sf (by simp [subAny, subA, subL])
    · have hendt : (((a + n : Nat) : Int) = (s.length : Int)) = False := eq_false (by omega)
      have hlt : a + n < s.length := by omega
      have hix := idx_str hlt
      rw [drop_cons hlt, Aut.oneG, hbest] at h4
      generalize s[a + n] = c at hix h4
      obtain ⟨row, hrow, hcell⟩ := step_row hR h2 h3 c
      have hst2 := hR.step h2 h3 c
      by_cases hneg : d.step q c < 0
      · have hnegt : (d.step q c < 0) = True := eq_true hneg
        rw [if_pos hneg] at h4
        simp -implicitDefEqProofs only [awp_draw _ _ Tryzdr42_6, stB_boxA, splice_all, List.all_cons, List.all_nil, Bool.and_self, Aut.cells, hnt, hendt, hix, hrow, hcell, h2t, hnegt, h5,
    evx, evy, ofValue, ofCell, List.range, List.range.loop, Array.size, Nat.reduceAdd, Nat.reduceSub, Nat.reduceEqDiff, List.replicate, if_true, if_false, ↓reduceIte, reduceCtorEq, elB, evParts, Int.reduceToNat, Int.reduceLE, Int.reduceLT, Int.reduceEq, Nat.reduceMul, Nat.reduceLeDiff, Nat.reduceLT, ty3, ty4, ty9, ty23, ty22, ty25, ty5, ty35]
        rw [h4]
        exact le_sf (by simp [subAny, subA, subL])
      · have hnegt : (d.step q c < 0) = False := eq_false hneg
        rw [if_neg hneg] at h4
        simp -implicitDefEqProofs only [awp_draw _ _ Tryzdr42_6, stB_boxA, splice_all, List.all_cons, List.all_nil, Bool.and_self, Aut.cells, hnt, hendt, hix, hrow, hcell, h2t, hnegt, h5,
    evx, evy, ofValue, ofCell, List.range, List.range.loop, Array.size, Nat.reduceAdd, Nat.reduceSub, Nat.reduceEqDiff, List.replicate, if_true, if_false, ↓reduceIte, reduceCtorEq, elB, evParts, Int.reduceToNat, Int.reduceLE, Int.reduceLT, Int.reduceEq, Nat.reduceMul, Nat.reduceLeDiff, Nat.reduceLT, ty3, ty4, ty9, ty23, ty22, ty25, ty5, ty35]
        refine back_intro hst (n + 1, d.step q c, (b1, b2)) (le_wk ?_) ⟨by simp only; omega, by simp only; omega, hst2.2, by simp only; omega, ?_⟩ (by simp only; omega)
        · simp [wk, Aut.cells]
          omega
        · simp only
          rw [h4]
          rfl
end Go.Abs
