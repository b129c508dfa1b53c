/- The longest match: the program's. -/
import Derived.Test.YtlifmaooikhhoaaGreatDoorTyTryzx
import Derived.Test.YtlifmaooikhhoaaGreatDoorDrTryzx
import Derived.Test.YtlifmaooikhhoaaGreatDoorLxHx
import Derived.Test.YtlifmaooikhhoaaGreatDoorAbsScope
namespace Go.Abs
open Go.Proofs
set_option linter.unusedVariables false
set_option linter.unusedSimpArgs false
set_option maxRecDepth 100000
set_option maxHeartbeats 4000000
theorem ok42 (d : Aut) (hR : d.Right) (s : Bs) (hs : s.length ≤ 1000000) (a : Nat) (ha : a ≤ s.length) : Ok Tryz.prog 42 [d.av, .fv (.str s), .fv (.int .i64 a)] []
    (.ret (.tuple [.agg [.fv (.int .i64 (d.one (s.drop a)).1.1), .fv (.int .i64 a), .fv (.int .i64 (d.one (s.drop a)).1.2)], .fv (.int .i64 ((a + (d.one (s.drop a)).2 : Nat) : Int))])) [] := by
  refine ok_start_scope (k := 53) (n0 := 0) (rs := [.cell 6 35, .tmp 7]) mix Tryz.func42 rfl rfl rfl rfl rfl rfl rfl ?_
  simp -implicitDefEqProofs only [awp_draw _ _ Tryzdr42_6, Aut.av, stB_boxA, splice_all, List.all_cons, List.all_nil, Bool.and_self,
    evx, evy, ofValue, ofCell, List.range, List.range.loop, Array.size, Nat.reduceAdd, Nat.reduceSub, Nat.reduceEqDiff, List.replicate, if_true, if_false, ↓reduceIte, reduceCtorEq, elB, evParts, Int.reduceToNat, Int.reduceLE, Int.reduceLT, Int.reduceEq, Nat.reduceMul, Nat.reduceLeDiff, Nat.reduceLT, ty3, ty4, ty9, ty23, ty22, ty25, ty5, ty35]
  refine loop_rule (fun x : Nat × Int × (Int × Nat) => ⟨[.any, .fv (.str s), .fv (.int .i64 a), .ptr 0 0 0 0, .any, .any, .ptr 1 0 0 0, .any, .ptr 2 0 0 0, .fv (.int .i64 x.2.1), .fv (.int .i64 ((a + x.1 : Nat) : Int)), .any, .any, .any, .any, .any, .any, .any, .any, .any, .any, .any, .any, .any, .any, .any, .any, .any, .any, .any, .any, .any, .any, .any, .any, .any, .any, .any, .any, .any, .any, .any, .any, .any, .any, .any, .any, .any, .any, .any, .any, .any, .any, .any, .any, .any],
      [.box d.cells, .box [.fv (.int .i64 0), .fv (.int .i64 0), .fv (.int .i64 0)], .box [.fv (.int .i64 x.2.2.1), .fv (.int .i64 a), .fv (.int .i64 x.2.2.2)]], []⟩)
    (fun x => a + x.1 ≤ s.length ∧ 0 ≤ x.2.1 ∧ x.2.1 < d.next.length ∧ x.2.2.2 ≤ x.1 ∧ d.one (s.drop a) = d.oneG (s.drop (a + x.1)) x.2.1 x.1 x.2.2) (fun x => s.length - (a + x.1)) (0, 0, (0, 0)) (le_wk (by simp [wk, Aut.cells])) ⟨by simp only; omega, by simp, by have := hR.pos; simp only; omega, by simp, rfl⟩ (fun x hx st hst => ?_)
  obtain ⟨n, q, b1, b2⟩ := x
  obtain ⟨h1, h2, h3, hb, h4⟩ := hx
  simp only at h1 h2 h3 hb h4 hst ⊢
  have hqa : q.toNat < d.acc.length := by rw [hR.same]; omega
  have hac := rows_at iRow d.acc _ hqa
  have hacc : d.accI q = d.acc[q.toNat] := by unfold Aut.accI; rw [getD_at hqa]
  rw [← hacc] at hac
  have wlen : IntKind.wrap .i64 (((a + n : Nat) : Int) - (a : Int)) = (n : Int) := by rw [wrap_small (by omega) (by omega)]; omega
  have h2t : (0 ≤ q) = True := eq_true h2
  generalize hv : d.accI q = v at hac
  have h5 := wsucc (a + n) (by omega)
  have h6 : ((a + n : Nat) : Int) + 1 = ((a + n + 1 : Nat) : Int) := by omega
  by_cases hn : 0 < n
  · have hnt : ((a : Int) < ((a + n : Nat) : Int)) = True := eq_true (by omega)
    by_cases hvp : 0 ≤ v
    · have hvt : (0 ≤ v) = True := eq_true hvp
      have hbest : d.best q n (b1, b2) = (v, n) := by
        unfold Aut.best
        rw [hv]
        rw [if_pos ⟨hn, hvp⟩]
      by_cases hend : a + n = s.length
      · have hendt : (((a + n : Nat) : Int) = (s.length : Int)) = True := by rw [hend]; simp
        have hd0 : s.drop (a + n) = [] := by rw [hend]; exact List.drop_length
        rw [hd0, Aut.oneG, hbest] at h4
        simp -implicitDefEqProofs only [awp_draw _ _ Tryzdr42_6, stB_boxA, splice_all, List.all_cons, List.all_nil, Bool.and_self, Aut.cells, hnt, hac, iRow, h2t, hvt, wlen, hendt, h5,
    evx, evy, ofValue, ofCell, List.range, List.range.loop, Array.size, Nat.reduceAdd, Nat.reduceSub, Nat.reduceEqDiff, List.replicate, if_true, if_false, ↓reduceIte, reduceCtorEq, elB, evParts, Int.reduceToNat, Int.reduceLE, Int.reduceLT, Int.reduceEq, Nat.reduceMul, Nat.reduceLeDiff, Nat.reduceLT, ty3, ty4, ty9, ty23, ty22, ty25, ty5, ty35]
        rw [h4]
        exact le_sf (by simp [subAny, subA, subL])
      · have hendt : (((a + n : Nat) : Int) = (s.length : Int)) = False := eq_false (by omega)
        have hlt : a + n < s.length := by omega
        have hix := idx_str hlt
        rw [drop_cons hlt, Aut.oneG, hbest] at h4
        generalize s[a + n] = c at hix h4
        obtain ⟨row, hrow, hcell⟩ := step_row hR h2 h3 c
        have hst2 := hR.step h2 h3 c
        by_cases hneg : d.step q c < 0
        · have hnegt : (d.step q c < 0) = True := eq_true hneg
          rw [if_pos hneg] at h4
          simp -implicitDefEqProofs only [awp_draw _ _ Tryzdr42_6, stB_boxA, splice_all, List.all_cons, List.all_nil, Bool.and_self, Aut.cells, hnt, hac, iRow, h2t, hvt, wlen, hendt, hix, hrow, hcell, h2t, hnegt, h5,
    evx, evy, ofValue, ofCell, List.range, List.range.loop, Array.size, Nat.reduceAdd, Nat.reduceSub, Nat.reduceEqDiff, List.replicate, if_true, if_false, ↓reduceIte, reduceCtorEq, elB, evParts, Int.reduceToNat, Int.reduceLE, Int.reduceLT, Int.reduceEq, Nat.reduceMul, Nat.reduceLeDiff, Nat.reduceLT, ty3, ty4, ty9, ty23, ty22, ty25, ty5, ty35]
          rw [h4]
          exact le_sf (by simp [subAny, subA, subL])
        · have hnegt : (d.step q c < 0) = False := eq_false hneg
          rw [if_neg hneg] at h4
          simp -implicitDefEqProofs only [awp_draw _ _ Tryzdr42_6, stB_boxA, splice_all, List.all_cons, List.all_nil, Bool.and_self, Aut.cells, hnt, hac, iRow, h2t, hvt, wlen, hendt, hix, hrow, hcell, h2t, hnegt, h5,
    evx, evy, ofValue, ofCell, List.range, List.range.loop, Array.size, Nat.reduceAdd, Nat.reduceSub, Nat.reduceEqDiff, List.replicate, if_true, if_false, ↓reduceIte, reduceCtorEq, elB, evParts, Int.reduceToNat, Int.reduceLE, Int.reduceLT, Int.reduceEq, Nat.reduceMul, Nat.reduceLeDiff, Nat.reduceLT, ty3, ty4, ty9, ty23, ty22, ty25, ty5, ty35]
          refine back_intro hst (n + 1, d.step q c, (v, n)) (le_wk ?_) ⟨by simp only; omega, by simp only; omega, hst2.2, by simp only; omega, ?_⟩ (by simp only; omega)
          · simp [wk, Aut.cells]
            omega
          · simp only
            rw [h4]
            rfl
    · have hvt : (0 ≤ v) = False := eq_false hvp
      have hbest : d.best q n (b1, b2) = (b1, b2) := by
        unfold Aut.best
        rw [hv]
        rw [if_neg (by omega)]
      by_cases hend : a + n = s.length
      · have hendt : (((a + n : Nat) : Int) = (s.length : Int)) = True := by rw [hend]; simp
        have hd0 : s.drop (a + n) = [] := by rw [hend]; exact List.drop_length
        rw [hd0, Aut.oneG, hbest] at h4
        simp -implicitDefEqProofs only [awp_draw _ _ Tryzdr42_6, stB_boxA, splice_all, List.all_cons, List.all_nil, Bool.and_self, Aut.cells, hnt, hac, iRow, h2t, hvt, hendt, h5,
    evx, evy, ofValue, ofCell, List.range, List.range.loop, Array.size, Nat.reduceAdd, Nat.reduceSub, Nat.reduceEqDiff, List.replicate, if_true, if_false, ↓reduceIte, reduceCtorEq, elB, evParts, Int.reduceToNat, Int.reduceLE, Int.reduceLT, Int.reduceEq, Nat.reduceMul, Nat.reduceLeDiff, Nat.reduceLT, ty3, ty4, ty9, ty23, ty22, ty25, ty5, ty35]
        rw [h4]
        exact le_sf (by simp [subAny, subA, subL])
      · have hendt : (((a + n : Nat) : Int) = (s.length : Int)) = False := eq_false (by omega)
        have hlt : a + n < s.length := by omega
        have hix := idx_str hlt
        rw [drop_cons hlt, Aut.oneG, hbest] at h4
        generalize s[a + n] = c at hix h4
        obtain ⟨row, hrow, hcell⟩ := step_row hR h2 h3 c
        have hst2 := hR.step h2 h3 c
        by_cases hneg : d.step q c < 0
        · have hnegt : (d.step q c < 0) = True := eq_true hneg
          rw [if_pos hneg] at h4
          simp -implicitDefEqProofs only [awp_draw _ _ Tryzdr42_6, stB_boxA, splice_all, List.all_cons, List.all_nil, Bool.and_self, Aut.cells, hnt, hac, iRow, h2t, hvt, hendt, hix, hrow, hcell, h2t, hnegt, h5,
    evx, evy, ofValue, ofCell, List.range, List.range.loop, Array.size, Nat.reduceAdd, Nat.reduceSub, Nat.reduceEqDiff, List.replicate, if_true, if_false, ↓reduceIte, reduceCtorEq, elB, evParts, Int.reduceToNat, Int.reduceLE, Int.reduceLT, Int.reduceEq, Nat.reduceMul, Nat.reduceLeDiff, Nat.reduceLT, ty3, ty4, ty9, ty23, ty22, ty25, ty5, ty35]
          rw [h4]
          exact le_sf (by simp [subAny, subA, subL])
        · have hnegt : (d.step q c < 0) = False := eq_false hneg
          rw [if_neg hneg] at h4
          simp -implicitDefEqProofs only [awp_draw _ _ Tryzdr42_6, stB_boxA, splice_all, List.all_cons, List.all_nil, Bool.and_self, Aut.cells, hnt, hac, iRow, h2t, hvt, hendt, hix, hrow, hcell, h2t, hnegt, h5,
    evx, evy, ofValue, ofCell, List.range, List.range.loop, Array.size, Nat.reduceAdd, Nat.reduceSub, Nat.reduceEqDiff, List.replicate, if_true, if_false, ↓reduceIte, reduceCtorEq, elB, evParts, Int.reduceToNat, Int.reduceLE, Int.reduceLT, Int.reduceEq, Nat.reduceMul, Nat.reduceLeDiff, Nat.reduceLT, ty3, ty4, ty9, ty23, ty22, ty25, ty5, ty35]
          refine back_intro hst (n + 1, d.step q c, (b1, b2)) (le_wk ?_) ⟨by simp only; omega, by simp only; omega, hst2.2, by simp only; omega, ?_⟩ (by simp only; omega)
          · simp [wk, Aut.cells]
            omega
          · simp only
            rw [h4]
            rfl
  · have hnt : ((a : Int) < ((a + n : Nat) : Int)) = False := eq_false (by omega)
    have hbest : d.best q n (b1, b2) = (b1, b2) := by
      unfold Aut.best
      rw [hv]
      rw [if_neg (by omega)]
    by_cases hend : a + n = s.length
    · have hendt : (((a + n : Nat) : Int) = (s.length : Int)) = True := by rw [hend]; simp
      have hd0 : s.drop (a + n) = [] := by rw [hend]; exact List.drop_length
      rw [hd0, Aut.oneG, hbest] at h4
      simp -implicitDefEqProofs only [awp_draw _ _ Tryzdr42_6, stB_boxA, splice_all, List.all_cons, List.all_nil, Bool.and_self, Aut.cells, hnt, hendt, h5,
    evx, evy, ofValue, ofCell, List.range, List.range.loop, Array.size, Nat.reduceAdd, Nat.reduceSub, Nat.reduceEqDiff, List.replicate, if_true, if_false, ↓reduceIte, reduceCtorEq, elB, evParts, Int.reduceToNat, Int.reduceLE, Int.reduceLT, Int.reduceEq, Nat.reduceMul, Nat.reduceLeDiff, Nat.reduceLT, ty3, ty4, ty9, ty23, ty22, ty25, ty5, ty35]
      rw [h4]
      exact le_sf (by simp [subAny, subA, subL])
    · have hendt : (((a + n : Nat) : Int) = (s.length : Int)) = False := eq_false (by omega)
      have hlt : a + n < s.length := by omega
      have hix := idx_str hlt
      rw [drop_cons hlt, Aut.oneG, hbest] at h4
      generalize s[a + n] = c at hix h4
      obtain ⟨row, hrow, hcell⟩ := step_row hR h2 h3 c
      have hst2 := hR.step h2 h3 c
      by_cases hneg : d.step q c < 0
      · have hnegt : (d.step q c < 0) = True := eq_true hneg
        rw [if_pos hneg] at h4
        simp -implicitDefEqProofs only [awp_draw _ _ Tryzdr42_6, stB_boxA, splice_all, List.all_cons, List.all_nil, Bool.and_self, Aut.cells, hnt, hendt, hix, hrow, hcell, h2t, hnegt, h5,
    evx, evy, ofValue, ofCell, List.range, List.range.loop, Array.size, Nat.reduceAdd, Nat.reduceSub, Nat.reduceEqDiff, List.replicate, if_true, if_false, ↓reduceIte, reduceCtorEq, elB, evParts, Int.reduceToNat, Int.reduceLE, Int.reduceLT, Int.reduceEq, Nat.reduceMul, Nat.reduceLeDiff, Nat.reduceLT, ty3, ty4, ty9, ty23, ty22, ty25, ty5, ty35]
        rw [h4]
        exact le_sf (by simp [subAny, subA, subL])
      · have hnegt : (d.step q c < 0) = False := eq_false hneg
        rw [if_neg hneg] at h4
        simp -implicitDefEqProofs only [awp_draw _ _ Tryzdr42_6, stB_boxA, splice_all, List.all_cons, List.all_nil, Bool.and_self, Aut.cells, hnt, hendt, hix, hrow, hcell, h2t, hnegt, h5,
    evx, evy, ofValue, ofCell, List.range, List.range.loop, Array.size, Nat.reduceAdd, Nat.reduceSub, Nat.reduceEqDiff, List.replicate, if_true, if_false, ↓reduceIte, reduceCtorEq, elB, evParts, Int.reduceToNat, Int.reduceLE, Int.reduceLT, Int.reduceEq, Nat.reduceMul, Nat.reduceLeDiff, Nat.reduceLT, ty3, ty4, ty9, ty23, ty22, ty25, ty5, ty35]
        refine back_intro hst (n + 1, d.step q c, (b1, b2)) (le_wk ?_) ⟨by simp only; omega, by simp only; omega, hst2.2, by simp only; omega, ?_⟩ (by simp only; omega)
        · simp [wk, Aut.cells]
          omega
        · simp only
          rw [h4]
          rfl
end Go.Abs
/- The longest match: as the document says; at any place. -/
namespace Go.Abs
open Go.Proofs
set_option linter.unusedVariables false
set_option linter.unusedSimpArgs false
set_option maxRecDepth 100000
set_option maxHeartbeats 4000000
def Aut.oneH (d : Aut) (r : Bs) (st : Int) (n : Nat) (b : Int × Nat) : (Int × Nat) × Nat := if st < 0 then (b, n) else d.oneG r st n b
theorem Aut.oneH_cons {d : Aut} {c : UInt8} {r : Bs} {st : Int} {n : Nat} {b : Int × Nat} (h : 0 ≤ st) : d.oneH (c :: r) st n b = d.oneH r (d.step st c) (n + 1) (d.best st n b) := by
  unfold Aut.oneH
  rw [if_neg (by omega), Aut.oneG]
theorem Aut.oneH_nil {d : Aut} {st : Int} {n : Nat} {b : Int × Nat} (h : 0 ≤ st) : d.oneH [] st n b = (d.best st n b, n + 1) := by
  unfold Aut.oneH
  rw [if_neg (by omega), Aut.oneG]
theorem take_snoc {s : Bs} {n : Nat} (h : n < s.length) : s.take (n + 1) = s.take n ++ [s[n]] := List.take_succ_eq_append_getElem h
theorem Aut.go_one {d : Aut} {st : Int} {c : UInt8} (h : 0 ≤ st) : d.go st [c] = d.step st c := by
  rw [Aut.go, if_neg (by omega), Aut.go]
theorem ok26 (d : Aut) (hR : d.Right) (s : Bs) (hs : s.length ≤ 1000000) (a : Nat) (ha : a ≤ s.length) : Ok Tryz.prog 26 [d.av, .fv (.str s), .fv (.int .i64 a)] []
    (.ret (.agg [.fv (.int .i64 (d.one (s.drop a)).1.1), .fv (.int .i64 (d.one (s.drop a)).1.2), .fv (.int .i64 ((a + (d.one (s.drop a)).2 : Nat) : Int))])) [] := by
  have hl : (s.drop a).length = s.length - a := List.length_drop
  refine ok_start (k := 54) (n0 := 0) (rs := [.cell 6 47]) mix Tryz.func26 rfl rfl rfl rfl rfl rfl rfl ?_
  simp -implicitDefEqProofs only [awp_draw _ _ Tryzdr26_5, Aut.av, stB_boxA, splice_all, List.all_cons, List.all_nil, Bool.and_self,
    evx, evy, ofValue, ofCell, List.range, List.range.loop, Array.size, Nat.reduceAdd, Nat.reduceSub, Nat.reduceEqDiff, List.replicate, if_true, if_false, ↓reduceIte, reduceCtorEq, elB, evParts, Int.reduceToNat, Int.reduceLE, Int.reduceLT, Int.reduceEq, Nat.reduceMul, Nat.reduceLeDiff, Nat.reduceLT, ty3, ty4, ty9, ty23, ty22, ty25, ty5, ty35, ty47, ty43]
  refine loop_rule (fun x : Nat × (Int × Nat) × Int => ⟨[.any, .fv (.str s), .fv (.int .i64 a), .ptr 0 0 0 0, .any, .any, .ptr 1 0 0 0, .ptr 2 0 0 0, .fv (.int .i64 x.1), .any, .any, .any, .any, .any, .any, .any, .any, .any, .any, .any, .any, .any, .any, .any, .any, .any, .any, .any, .any, .any, .any, .any, .any, .any, .any, .any, .any, .any, .any, .any, .any, .any, .any, .any, .any, .any, .any, .any, .any, .any, .any, .any, .any, .any, .any, .any, .any],
      [.box d.cells, .box [.fv (.int .i64 0), .fv (.int .i64 0), .fv (.int .i64 0)], .box [.fv (.int .i64 x.2.1.1), .fv (.int .i64 x.2.1.2), .fv (.int .i64 x.2.2)]], []⟩)
    (fun x => (a + x.1 ≤ s.length ∧ d.one (s.drop a) = d.oneH ((s.drop a).drop x.1) (d.go 0 ((s.drop a).take x.1)) x.1 x.2.1) ∨ (a + x.1 = s.length + 1 ∧ d.one (s.drop a) = (x.2.1, x.1))) (fun x => s.length + 1 - (a + x.1)) (0, (0, 0), 0)
    (le_wk (by simp [wk, Aut.cells])) (.inl ⟨by simp only; omega, by simp only [List.drop_zero, List.take_zero, Aut.go, Aut.oneH]; rw [if_neg (by omega)]; rfl⟩) (fun x hx st hst => ?_)
  obtain ⟨n, ⟨b1, b2⟩, sn⟩ := x
  simp only at hx hst ⊢
  have hpos := hR.pos
  have wan : IntKind.wrap .i64 ((a : Int) + (n : Int)) = ((a + n : Nat) : Int) := by rw [wrap_small (by omega) (by omega)]; omega
  rcases hx with ⟨h1, h2⟩ | ⟨h1, h2⟩
  · have hle : (a ≤ a + n) = True := eq_true (by omega)
    have hls : (a + n ≤ s.length) = True := eq_true h1
    have hlt : (((a + n : Nat) : Int) ≤ (s.length : Int)) = True := eq_true (by omega)
    have hr := hR.go ((s.drop a).take n) (a := 0) (by omega) (by omega)
    have hgo := ok18 d hR 0 (by omega) (by omega) ((s.drop a).take n) (by rw [List.length_take]; omega)
    have hgd := hR.go_append [] ((s.drop a).take n) (a := 0) (by omega) (by omega)
    have htk : ∀ hn : n < (s.drop a).length, d.go 0 ((s.drop a).take (n + 1)) = d.go (d.go 0 ((s.drop a).take n)) [(s.drop a)[n]] := fun hn => by
      rw [take_snoc hn]
      exact hR.go_append _ _ (by omega) (by omega)
    have hdt : (s.take (a + n)).drop a = (s.drop a).take n := by rw [List.drop_take]; congr 1; omega
    generalize d.go 0 ((s.drop a).take n) = q at hr hgo h2 htk
    by_cases hq : q < 0
    · have hqt : (q < 0) = True := eq_true hq
      have e : d.one (s.drop a) = ((b1, b2), n) := by rw [h2]; unfold Aut.oneH; rw [if_pos hq]
      rw [e]
      simp -implicitDefEqProofs only [awp_draw _ _ Tryzdr26_5, stB_boxA, splice_all, List.all_cons, List.all_nil, Bool.and_self, Aut.cells, wan, hlt, hle, hls, hdt,
    evx, evy, ofValue, ofCell, List.range, List.range.loop, Array.size, Nat.reduceAdd, Nat.reduceSub, Nat.reduceEqDiff, List.replicate, if_true, if_false, ↓reduceIte, reduceCtorEq, elB, evParts, Int.reduceToNat, Int.reduceLE, Int.reduceLT, Int.reduceEq, Nat.reduceMul, Nat.reduceLeDiff, Nat.reduceLT, ty3, ty4, ty9, ty23, ty22, ty25, ty5, ty35, ty47, ty43]
      refine callK_ret _ _ _ _ (call_pure hgo (fun _ => rfl) (fun _ => rfl)) (by kernel_rfl) ?_
      simp -implicitDefEqProofs only [awp_draw _ _ Tryzdr26_5, stB_boxA, splice_all, List.all_cons, List.all_nil, Bool.and_self, hqt, wan,
    evx, evy, ofValue, ofCell, List.range, List.range.loop, Array.size, Nat.reduceAdd, Nat.reduceSub, Nat.reduceEqDiff, List.replicate, if_true, if_false, ↓reduceIte, reduceCtorEq, elB, evParts, Int.reduceToNat, Int.reduceLE, Int.reduceLT, Int.reduceEq, Nat.reduceMul, Nat.reduceLeDiff, Nat.reduceLT, ty3, ty4, ty9, ty23, ty22, ty25, ty5, ty35, ty47, ty43]
      exact le_sf (by simp [subAny, subA, subL])
    · have hqf : (q < 0) = False := eq_false hq
      have hq0 : (0 ≤ q) = True := eq_true (by omega)
      have hqa : q.toNat < d.acc.length := by rw [hR.same]; omega
      have hac := rows_at iRow d.acc _ hqa
      have hacc : d.accI q = d.acc[q.toNat] := by unfold Aut.accI; rw [getD_at hqa]
      rw [← hacc] at hac
      have hsn := wsucc n (by omega)
      have next : ∀ b', d.best q n (b1, b2) = b' → (a + (n + 1) ≤ s.length ∧ d.one (s.drop a) = d.oneH ((s.drop a).drop (n + 1)) (d.go 0 ((s.drop a).take (n + 1))) (n + 1) b') ∨ (a + (n + 1) = s.length + 1 ∧ d.one (s.drop a) = (b', n + 1)) := fun b' hb => by
        by_cases hn : n < (s.drop a).length
        · refine .inl ⟨by omega, ?_⟩
          rw [htk hn, h2, drop_cons hn, Aut.oneH_cons (by omega), hb, Aut.go_one (by omega)]
        · refine .inr ⟨by omega, ?_⟩
          rw [h2, List.drop_eq_nil_of_le (by omega), Aut.oneH_nil (by omega), hb]
      generalize hv : d.accI q = v at hac
      by_cases hn : 0 < n
      · have hnt : ((0 : Int) < (n : Int)) = True := eq_true (by omega)
        by_cases hvp : 0 ≤ v
        · have hvt : (0 ≤ v) = True := eq_true hvp
          have nx := next (v, n) (by unfold Aut.best; rw [hv, if_pos ⟨hn, hvp⟩])
          simp -implicitDefEqProofs only [awp_draw _ _ Tryzdr26_5, stB_boxA, splice_all, List.all_cons, List.all_nil, Bool.and_self, Aut.cells, wan, hlt, hle, hls, hdt,
    evx, evy, ofValue, ofCell, List.range, List.range.loop, Array.size, Nat.reduceAdd, Nat.reduceSub, Nat.reduceEqDiff, List.replicate, if_true, if_false, ↓reduceIte, reduceCtorEq, elB, evParts, Int.reduceToNat, Int.reduceLE, Int.reduceLT, Int.reduceEq, Nat.reduceMul, Nat.reduceLeDiff, Nat.reduceLT, ty3, ty4, ty9, ty23, ty22, ty25, ty5, ty35, ty47, ty43]
          refine callK_ret _ _ _ _ (call_pure hgo (fun _ => rfl) (fun _ => rfl)) (by kernel_rfl) ?_
          simp -implicitDefEqProofs only [awp_draw _ _ Tryzdr26_5, stB_boxA, splice_all, List.all_cons, List.all_nil, Bool.and_self, Aut.cells, hqf, wan, hnt, hac, iRow, hq0, hvt, hsn,
    evx, evy, ofValue, ofCell, List.range, List.range.loop, Array.size, Nat.reduceAdd, Nat.reduceSub, Nat.reduceEqDiff, List.replicate, if_true, if_false, ↓reduceIte, reduceCtorEq, elB, evParts, Int.reduceToNat, Int.reduceLE, Int.reduceLT, Int.reduceEq, Nat.reduceMul, Nat.reduceLeDiff, Nat.reduceLT, ty3, ty4, ty9, ty23, ty22, ty25, ty5, ty35, ty47, ty43]
          refine back_intro hst (n + 1, (v, n), ((a + n : Nat) : Int)) (le_wk ?_) nx (by simp only; omega)
          simp [wk, Aut.cells]
        · have hvt : (0 ≤ v) = False := eq_false hvp
          have nx := next (b1, b2) (by unfold Aut.best; rw [hv, if_neg (by omega)])
          simp -implicitDefEqProofs only [awp_draw _ _ Tryzdr26_5, stB_boxA, splice_all, List.all_cons, List.all_nil, Bool.and_self, Aut.cells, wan, hlt, hle, hls, hdt,
    evx, evy, ofValue, ofCell, List.range, List.range.loop, Array.size, Nat.reduceAdd, Nat.reduceSub, Nat.reduceEqDiff, List.replicate, if_true, if_false, ↓reduceIte, reduceCtorEq, elB, evParts, Int.reduceToNat, Int.reduceLE, Int.reduceLT, Int.reduceEq, Nat.reduceMul, Nat.reduceLeDiff, Nat.reduceLT, ty3, ty4, ty9, ty23, ty22, ty25, ty5, ty35, ty47, ty43]
          refine callK_ret _ _ _ _ (call_pure hgo (fun _ => rfl) (fun _ => rfl)) (by kernel_rfl) ?_
          simp -implicitDefEqProofs only [awp_draw _ _ Tryzdr26_5, stB_boxA, splice_all, List.all_cons, List.all_nil, Bool.and_self, Aut.cells, hqf, wan, hnt, hac, iRow, hq0, hvt, hsn,
    evx, evy, ofValue, ofCell, List.range, List.range.loop, Array.size, Nat.reduceAdd, Nat.reduceSub, Nat.reduceEqDiff, List.replicate, if_true, if_false, ↓reduceIte, reduceCtorEq, elB, evParts, Int.reduceToNat, Int.reduceLE, Int.reduceLT, Int.reduceEq, Nat.reduceMul, Nat.reduceLeDiff, Nat.reduceLT, ty3, ty4, ty9, ty23, ty22, ty25, ty5, ty35, ty47, ty43]
          refine back_intro hst (n + 1, (b1, b2), ((a + n : Nat) : Int)) (le_wk ?_) nx (by simp only; omega)
          simp [wk, Aut.cells]
      · have hnt : ((0 : Int) < (n : Int)) = False := eq_false (by omega)
        have nx := next (b1, b2) (by unfold Aut.best; rw [hv, if_neg (by omega)])
        simp -implicitDefEqProofs only [awp_draw _ _ Tryzdr26_5, stB_boxA, splice_all, List.all_cons, List.all_nil, Bool.and_self, Aut.cells, wan, hlt, hle, hls, hdt,
    evx, evy, ofValue, ofCell, List.range, List.range.loop, Array.size, Nat.reduceAdd, Nat.reduceSub, Nat.reduceEqDiff, List.replicate, if_true, if_false, ↓reduceIte, reduceCtorEq, elB, evParts, Int.reduceToNat, Int.reduceLE, Int.reduceLT, Int.reduceEq, Nat.reduceMul, Nat.reduceLeDiff, Nat.reduceLT, ty3, ty4, ty9, ty23, ty22, ty25, ty5, ty35, ty47, ty43]
        refine callK_ret _ _ _ _ (call_pure hgo (fun _ => rfl) (fun _ => rfl)) (by kernel_rfl) ?_
        simp -implicitDefEqProofs only [awp_draw _ _ Tryzdr26_5, stB_boxA, splice_all, List.all_cons, List.all_nil, Bool.and_self, Aut.cells, hqf, wan, hnt, hsn,
    evx, evy, ofValue, ofCell, List.range, List.range.loop, Array.size, Nat.reduceAdd, Nat.reduceSub, Nat.reduceEqDiff, List.replicate, if_true, if_false, ↓reduceIte, reduceCtorEq, elB, evParts, Int.reduceToNat, Int.reduceLE, Int.reduceLT, Int.reduceEq, Nat.reduceMul, Nat.reduceLeDiff, Nat.reduceLT, ty3, ty4, ty9, ty23, ty22, ty25, ty5, ty35, ty47, ty43]
        refine back_intro hst (n + 1, (b1, b2), ((a + n : Nat) : Int)) (le_wk ?_) nx (by simp only; omega)
        simp [wk, Aut.cells]
  · have hlt : (((a + n : Nat) : Int) ≤ (s.length : Int)) = False := eq_false (by omega)
    have hsl := wsucc s.length (by omega)
    rw [h2]
    have e2 : a + n = s.length + 1 := h1
    simp -implicitDefEqProofs only [awp_draw _ _ Tryzdr26_5, stB_boxA, splice_all, List.all_cons, List.all_nil, Bool.and_self, wan, hlt, hsl,
    evx, evy, ofValue, ofCell, List.range, List.range.loop, Array.size, Nat.reduceAdd, Nat.reduceSub, Nat.reduceEqDiff, List.replicate, if_true, if_false, ↓reduceIte, reduceCtorEq, elB, evParts, Int.reduceToNat, Int.reduceLE, Int.reduceLT, Int.reduceEq, Nat.reduceMul, Nat.reduceLeDiff, Nat.reduceLT, ty3, ty4, ty9, ty23, ty22, ty25, ty5, ty35, ty47, ty43]
    rw [e2]
    exact le_sf (by simp [subAny, subA, subL])
/-- The longest match at any place. -/
def Aut.oneR (d : Aut) (s : Bs) (at_ : Int) : (Int × Int × Int) × Int × Int :=
  if d.rightB = true ∧ 0 ≤ at_ ∧ at_ ≤ s.length then
    (if (d.one (s.drop at_.toNat)).1.2 = 0 then ((0, 0, 0), at_ + (d.one (s.drop at_.toNat)).2, 4) else (((d.one (s.drop at_.toNat)).1.1, at_, (d.one (s.drop at_.toNat)).1.2), at_ + (d.one (s.drop at_.toNat)).2, 0))
  else ((0, 0, 0), 0, 10)
theorem ok25 (d : Aut) (hn : d.next.length ≤ 100000) (s : Bs) (hs : s.length ≤ 1000000) (a : Int) : Ok Tryz.prog 25 [d.av, .fv (.str s), .fv (.int .i64 a)] []
    (.ret (.tuple [.agg [.fv (.int .i64 (d.oneR s a).1.1), .fv (.int .i64 (d.oneR s a).1.2.1), .fv (.int .i64 (d.oneR s a).1.2.2)], .fv (.int .i64 (d.oneR s a).2.1), .fv (.int .i64 (d.oneR s a).2.2)])) [] := by
  have hri := ok15 d hn
  refine ok_start (k := 36) (n0 := 0) (rs := [.cell 6 35, .tmp 7, .tmp 8]) mix Tryz.func25 rfl rfl rfl rfl rfl rfl rfl ?_
  by_cases h0 : a < 0
  · have h0t : (a < 0) = True := eq_true h0
    have e : d.oneR s a = ((0, 0, 0), 0, 10) := by unfold Aut.oneR; rw [if_neg (by omega)]
    rw [e]
    simp -implicitDefEqProofs only [Aut.av, stB_boxA, splice_all, List.all_cons, List.all_nil, Bool.and_self, h0t,
    evx, evy, ofValue, ofCell, List.range, List.range.loop, Array.size, Nat.reduceAdd, Nat.reduceSub, Nat.reduceEqDiff, List.replicate, if_true, if_false, ↓reduceIte, reduceCtorEq, elB, evParts, Int.reduceToNat, Int.reduceLE, Int.reduceLT, Int.reduceEq, Nat.reduceMul, Nat.reduceLeDiff, Nat.reduceLT, ty3, ty4, ty9, ty23, ty22, ty25, ty5, ty35, ty47, ty43]
    exact le_sf (by simp [subAny, subA, subL])
  have h0t : (a < 0) = False := eq_false h0
  by_cases h1 : (s.length : Int) < a
  · have h1t : ((s.length : Int) < a) = True := eq_true h1
    have e : d.oneR s a = ((0, 0, 0), 0, 10) := by unfold Aut.oneR; rw [if_neg (by omega)]
    rw [e]
    simp -implicitDefEqProofs only [Aut.av, stB_boxA, splice_all, List.all_cons, List.all_nil, Bool.and_self, h0t, h1t,
    evx, evy, ofValue, ofCell, List.range, List.range.loop, Array.size, Nat.reduceAdd, Nat.reduceSub, Nat.reduceEqDiff, List.replicate, if_true, if_false, ↓reduceIte, reduceCtorEq, elB, evParts, Int.reduceToNat, Int.reduceLE, Int.reduceLT, Int.reduceEq, Nat.reduceMul, Nat.reduceLeDiff, Nat.reduceLT, ty3, ty4, ty9, ty23, ty22, ty25, ty5, ty35, ty47, ty43]
    exact le_sf (by simp [subAny, subA, subL])
  have h1t : ((s.length : Int) < a) = False := eq_false h1
  simp -implicitDefEqProofs only [Aut.av, stB_boxA, splice_all, List.all_cons, List.all_nil, Bool.and_self, h0t, h1t,
    evx, evy, ofValue, ofCell, List.range, List.range.loop, Array.size, Nat.reduceAdd, Nat.reduceSub, Nat.reduceEqDiff, List.replicate, if_true, if_false, ↓reduceIte, reduceCtorEq, elB, evParts, Int.reduceToNat, Int.reduceLE, Int.reduceLT, Int.reduceEq, Nat.reduceMul, Nat.reduceLeDiff, Nat.reduceLT, ty3, ty4, ty9, ty23, ty22, ty25, ty5, ty35, ty47, ty43]
  cases hb : d.rightB with
  | false =>
    rw [hb] at hri
    have e : d.oneR s a = ((0, 0, 0), 0, 10) := by unfold Aut.oneR; rw [if_neg (by rw [hb]; simp)]
    rw [e]
    refine callK_ret _ _ _ _ (call_pure (hri) (fun _ => rfl) (fun _ => rfl)) (ok_nil _ _) ?_
    simp -implicitDefEqProofs only [stB_boxA, splice_all, List.all_cons, List.all_nil, Bool.and_self,
    evx, evy, ofValue, ofCell, List.range, List.range.loop, Array.size, Nat.reduceAdd, Nat.reduceSub, Nat.reduceEqDiff, List.replicate, if_true, if_false, ↓reduceIte, reduceCtorEq, elB, evParts, Int.reduceToNat, Int.reduceLE, Int.reduceLT, Int.reduceEq, Nat.reduceMul, Nat.reduceLeDiff, Nat.reduceLT, ty3, ty4, ty9, ty23, ty22, ty25, ty5, ty35, ty47, ty43]
    exact le_sf (by simp [subAny, subA, subL])
  | true =>
    have hR := Aut.right_iff.1 hb
    rw [hb] at hri
    obtain ⟨k, rfl⟩ : ∃ k : Nat, a = k := ⟨a.toNat, by omega⟩
    have hone := ok42 d hR s hs k (by omega)
    have e : d.oneR s k = (if (d.one (s.drop k)).1.2 = 0 then ((0, 0, 0), ((k + (d.one (s.drop k)).2 : Nat) : Int), 4) else (((d.one (s.drop k)).1.1, (k : Int), ((d.one (s.drop k)).1.2 : Int)), ((k + (d.one (s.drop k)).2 : Nat) : Int), 0)) := by
      unfold Aut.oneR
      rw [if_pos ⟨hb, by omega, by omega⟩]
      simp only [Int.toNat_natCast, Int.natCast_add]
    generalize d.one (s.drop k) = o at hone e
    obtain ⟨⟨r, l⟩, n⟩ := o
    simp only at hone e
    rw [e]
    refine callK_ret _ _ _ _ (call_pure (hri) (fun _ => rfl) (fun _ => rfl)) (ok_nil _ _) ?_
    simp -implicitDefEqProofs only [Aut.cells,
    evx, evy, ofValue, ofCell, List.range, List.range.loop, Array.size, Nat.reduceAdd, Nat.reduceSub, Nat.reduceEqDiff, List.replicate, if_true, if_false, ↓reduceIte, reduceCtorEq, elB, evParts, Int.reduceToNat, Int.reduceLE, Int.reduceLT, Int.reduceEq, Nat.reduceMul, Nat.reduceLeDiff, Nat.reduceLT, ty3, ty4, ty9, ty23, ty22, ty25, ty5, ty35, ty47, ty43]
    refine callK_ret _ _ _ _ (call_pure (hone) (fun _ => rfl) (fun _ => rfl)) (ok_nil _ _) ?_
    simp -implicitDefEqProofs only [stB_boxA, splice_all, List.all_cons, List.all_nil, Bool.and_self,
    evx, evy, ofValue, ofCell, List.range, List.range.loop, Array.size, Nat.reduceAdd, Nat.reduceSub, Nat.reduceEqDiff, List.replicate, if_true, if_false, ↓reduceIte, reduceCtorEq, elB, evParts, Int.reduceToNat, Int.reduceLE, Int.reduceLT, Int.reduceEq, Nat.reduceMul, Nat.reduceLeDiff, Nat.reduceLT, ty3, ty4, ty9, ty23, ty22, ty25, ty5, ty35, ty47, ty43]
    by_cases hl : l = 0
    · subst hl
      have h00 : (((0 : Nat) : Int) = 0) = True := eq_true rfl
      rw [if_pos rfl]
      simp -implicitDefEqProofs only [stB_boxA, splice_all, List.all_cons, List.all_nil, Bool.and_self, h00,
    evx, evy, ofValue, ofCell, List.range, List.range.loop, Array.size, Nat.reduceAdd, Nat.reduceSub, Nat.reduceEqDiff, List.replicate, if_true, if_false, ↓reduceIte, reduceCtorEq, elB, evParts, Int.reduceToNat, Int.reduceLE, Int.reduceLT, Int.reduceEq, Nat.reduceMul, Nat.reduceLeDiff, Nat.reduceLT, ty3, ty4, ty9, ty23, ty22, ty25, ty5, ty35, ty47, ty43]
      exact le_sf (by simp [subAny, subA, subL])
    · have hlt : ((l : Int) = 0) = False := eq_false (by omega)
      rw [if_neg hl]
      simp -implicitDefEqProofs only [stB_boxA, splice_all, List.all_cons, List.all_nil, Bool.and_self, hlt,
    evx, evy, ofValue, ofCell, List.range, List.range.loop, Array.size, Nat.reduceAdd, Nat.reduceSub, Nat.reduceEqDiff, List.replicate, if_true, if_false, ↓reduceIte, reduceCtorEq, elB, evParts, Int.reduceToNat, Int.reduceLE, Int.reduceLT, Int.reduceEq, Nat.reduceMul, Nat.reduceLeDiff, Nat.reduceLT, ty3, ty4, ty9, ty23, ty22, ty25, ty5, ty35, ty47, ty43]
      exact le_sf (by simp [subAny, subA, subL])
end Go.Abs
