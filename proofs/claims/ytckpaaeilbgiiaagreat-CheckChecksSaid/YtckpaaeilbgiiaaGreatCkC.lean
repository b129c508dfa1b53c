/- A text's words. -/
import Derived.Test.YtckpaaeilbgiiaaGreatTyTryz
import Derived.Test.YtckpaaeilbgiiaaGreatDrTryz
import Derived.Test.YtckpaaeilbgiiaaGreatAbsTree
import Derived.Test.YtckpaaeilbgiiaaGreatCkB
namespace Go.Abs
open Go.Proofs
set_option linter.unusedVariables false
set_option linter.unusedSimpArgs false
set_option maxRecDepth 100000
set_option maxHeartbeats 1000000
theorem ty102 : tiOf Tryz.prog 102 = some ⟨.func #[9] #[3] false, 1, 8, some [.nil .nilFunc]⟩ := by kernel_rfl
theorem isAggF (a b : Array TypeId) (c : Bool) (n m : Nat) (z : Option (List FV)) : TI.isAgg ⟨.func a b c, n, m, z⟩ = false := rfl
theorem le_tup3 {id es off len : Nat} {h : List Blk} {rows xs : List (List FV)} {x y : FV} (hb : h[id]? = some (.plain es rows)) (hl : off + len ≤ rows.length) (hx : (rows.drop off).take len = xs) :
    Le 0 { t := [.tuple [.ref id es off len, .fv x, .fv y]], h := h, d := [] } { t := [.tuple [.fv (.lst es xs), .fv x, .fv y]], h := [], d := [] } := by
  subst hx
  refine le_to [] [id] rfl List.nodup_nil (fun i hi => by simp at hi) (fun i _ hi => by simp at hi) (fun i hi => by simp at hi; subst hi; exact ⟨es, rows, hb⟩) ?_
  simp [subSt, subAny, subA, subL, mkSub, idx, hb, hl]
theorem cellsA_func (f : FuncId) (caps : List AV) : cellsA (.func f caps) = some [.func f caps] := rfl
def wrow (k a : Int) (s : Bs) : List FV := [.int .i64 k, .int .i64 a, .str s]
theorem bsE_w (b : Nat) (dd : TypeDesc) (z1 z2 z3 : FV) (x y z : FV) (h : List Blk) : bsE (some ⟨dd, 3, b, some [z1, z2, z3]⟩) 1 h (some [(0, .agg [.fv x, .fv y, .fv z])]) = some (.ref h.length 3 0 1, h ++ [.plain 3 [[x, y, z]]], []) :=
  bsE_r1 b dd 3 [z1, z2, z3] [x, y, z] h rfl (by omega) (by omega) rfl
def allOut : Option (List Wd) × Nat → AOut
  | (some ws, _) => .ret (.tuple [.fv (.lst 3 (ws.map Wd.row)), .fv (.int .i64 0), .fv (.int .i64 0)])
  | (none, a) => .ret (.tuple [.fv .nils, .fv (.int .i64 a), .fv (.int .i64 1)])
theorem ruleG_ge : ∀ (s : Bs) (n : Nat), ruleG s n ≠ 0 → n + 1 ≤ ruleG s n
  | [], n, h => absurd (ruleG_nil n) h
  | c :: r, n, h => by
    rw [ruleG_cons] at h ⊢
    split
    · rename_i h1; rw [if_pos h1] at h; omega
    · rename_i h1
      rw [if_neg h1] at h
      split
      · omega
      · rename_i h2
        rw [if_neg h2] at h
        split
        · rename_i h3
          rw [if_pos h3] at h
          cases r with
          | nil => simp at h
          | cons d r =>
            simp only at h ⊢
            split
            · rename_i h4; rw [if_pos h4] at h; omega
            · rename_i h4
              rw [if_neg h4] at h
              have := ruleG_ge r (n + 2) h
              omega
        · rename_i h3
          rw [if_neg h3] at h
          have := ruleG_ge r (n + 1) h
          omega
theorem ruleN_two {s : Bs} (h : ruleN s ≠ 0) : 2 ≤ ruleN s := by
  cases s with
  | nil => simp [ruleN] at h
  | cons c r =>
    unfold ruleN at h ⊢
    simp only at h ⊢
    split
    · rename_i h1; rw [if_pos h1] at h; exact ruleG_ge r 1 h
    · rename_i h1; rw [if_neg h1] at h; omega
theorem wd_row1 (s : Bs) (a n : Nat) : (wordAt s a 1 n).row = [.int .i64 1, .int .i64 a, .str ((s.drop a).take n)] := rfl
theorem wd_row3 (s : Bs) (a n : Nat) : (wordAt s a 3 n).row = [.int .i64 3, .int .i64 a, .str ((s.drop a).take n)] := rfl
theorem wd_row2 (s : Bs) (a n : Nat) : (wordAt s a 2 n).row = [.int .i64 2, .int .i64 a, .str ((((s.drop a).take n).drop 1).take (n - 2))] := rfl
theorem mid_text (t : Bs) (n : Nat) (h : 2 ≤ n) : (t.take (n - 1)).drop 1 = (t.drop 1).take (n - 2) := by
  rw [show n - 1 = 1 + (n - 2) from by omega]
  rw [List.drop_take]
  congr 1
  omega
theorem c03 : ((0 : Int) < ((3 : Nat) : Int)) = True := by simp
theorem c13 : ((1 : Int) < ((3 : Nat) : Int)) = True := by simp
theorem c23 : ((2 : Int) < ((3 : Nat) : Int)) = True := by simp
theorem w01 : IntKind.wrap .i64 ((0 : Int) + 1) = 1 := by decide
theorem w12 : IntKind.wrap .i64 ((1 : Int) + 1) = 2 := by decide
theorem w23 : IntKind.wrap .i64 ((2 : Int) + 1) = 3 := by decide
theorem cut_text (s : Bs) (a n : Nat) : (s.take (a + n)).drop a = (s.drop a).take n := by
  rw [List.drop_take]
  congr 1
  omega
theorem allG_some {s : Bs} {f at_ k n : Nat} {out : List Wd} (h : at_ < s.length) (hc : cutW (s.drop at_) = some (k, n)) : allG s (f + 1) at_ out = allG s f (at_ + n + blankN (s.drop (at_ + n))) (out ++ [wordAt s at_ k n]) := by
  rw [allG, if_pos h, hc]
theorem allG_none {s : Bs} {f at_ : Nat} {out : List Wd} (h : at_ < s.length) (hc : cutW (s.drop at_) = none) : allG s (f + 1) at_ out = (none, at_) := by
  rw [allG, if_pos h, hc]
theorem allG_end {s : Bs} {f at_ : Nat} {out : List Wd} (h : ¬ at_ < s.length) : allG s (f + 1) at_ out = (some out, 0) := by
  rw [allG, if_neg h]
theorem wsum (a n : Nat) (h : a + n < 4611686018427387904) : IntKind.wrap .i64 ((a : Int) + (n : Int)) = ((a + n : Nat) : Int) := wrap_small (by omega) (by omega)
theorem wpred (n : Nat) (h : n < 4611686018427387904) (h1 : 0 < n) : IntKind.wrap .i64 ((n : Int) - 1) = ((n - 1 : Nat) : Int) := by
  rw [wrap_small (by omega) (by omega)]; omega
theorem le_true {a b : Nat} (h : a ≤ b) : (a ≤ b) = True := by simpa using h
theorem ok31 (s : Bs) (hs : s.length ≤ 4000) : Ok Tryz.prog 31 [.fv (.str s)] [] (allOut (allW s)) [] := by
  unfold allW
  have hb0 := blankG_le false s
  have hbd : blankN s ≤ s.length := hb0
  generalize hw : allG s (s.length + 1) (blankN s) [] = ww
  refine ok_start (k := 67) (n0 := 0) (rs := [.tmp 2, .tmp 3, .tmp 4]) mix Tryz.func31 rfl rfl rfl rfl rfl rfl rfl ?_
  have hlen : ((4000 : Int) < (s.length : Int)) = False := lit_false (by omega)
  simp -implicitDefEqProofs only [hlen,
    evx, evy, ofValue, ofCell, List.range, List.range.loop, Array.size, Nat.reduceAdd, Nat.reduceSub, Nat.reduceEqDiff, List.replicate, if_true, if_false, ↓reduceIte, reduceCtorEq, elB, evParts, Int.reduceToNat, Int.reduceLE, Int.reduceLT, Int.reduceEq, Nat.reduceMul, Nat.reduceLeDiff, Nat.reduceLT, ty3, ty4, ty9, ty5, ty58, ty105, ty103, ty102, ty30]
  refine callK_ret _ _ _ _ (call_pure (ok49 s hs) (fun _ => rfl) (fun _ => rfl)) (ok_nil _ _) ?_
  simp -implicitDefEqProofs only [evx, evy, ofValue, ofCell, List.range, List.range.loop, Array.size, Nat.reduceAdd, Nat.reduceSub, Nat.reduceEqDiff, List.replicate, if_true, if_false, ↓reduceIte, reduceCtorEq, elB, evParts, Int.reduceToNat, Int.reduceLE, Int.reduceLT, Int.reduceEq, Nat.reduceMul, Nat.reduceLeDiff, Nat.reduceLT, ty3, ty4, ty9, ty5, ty58, ty105, ty103, ty102, ty30]
  refine loop_rule (fun x : Nat × List Wd × Nat => ⟨[.fv (.str s), .any, .any, .any, .any, .ref 0 3 0 x.2.1.length, .fv (.int .i64 x.1), .any, .any, .any, .any, .any, .any, .any, .any, .any, .any, .any, .any, .any, .any, .any, .any, .any, .any, .any, .any, .any, .any, .any, .any, .any, .any, .any, .any, .any, .any, .any, .any, .any, .any, .any, .any, .any, .any, .any, .any, .any, .any, .any, .any, .any, .any, .any, .any, .any, .any, .any, .any, .any, .any, .any, .any, .any, .any, .any, .any, .any], [.plain 3 (x.2.1.map Wd.row)], []⟩)
    (fun x => allG s x.2.2 x.1 x.2.1 = ww ∧ x.1 ≤ s.length ∧ s.length < x.2.2 + x.1 ∧ x.2.1.length ≤ x.1) (fun x => x.2.2) (blankN s, [], s.length + 1)
    (Le.trans (le_virt 5 3 rfl) (le_wk (by simp [wk]))) ⟨hw, hbd, by simp only; omega, by simp⟩ (fun x hx st hst => ?_)
  obtain ⟨a, ws, f⟩ := x
  obtain ⟨h1, h2, h3, h4⟩ := hx
  simp only at h1 h2 h3 h4 hst ⊢
  have hwl : (ws.map Wd.row).length = ws.length := List.length_map _
  have htk : List.take ws.length (ws.map Wd.row) = ws.map Wd.row := by rw [← hwl, List.take_length]
  by_cases hlt : a < s.length
  · obtain ⟨f, rfl⟩ : ∃ f', f = f' + 1 := ⟨f - 1, by omega⟩
    have hdl : (s.drop a).length = s.length - a := List.length_drop
    have hname := ok50 (s.drop a) (by omega)
    have hrule := ok51 (s.drop a) (by omega) (by omega)
    have hsign := ok52 (s.drop a) (by omega)
    have hnl := nameN_le (s.drop a)
    have hrl := ruleN_le (s.drop a)
    have hsl := signN_le (s.drop a)
    have hcut : cutW (s.drop a) = if nameN (s.drop a) ≠ 0 then some (1, nameN (s.drop a)) else if ruleN (s.drop a) ≠ 0 then some (2, ruleN (s.drop a)) else if signN (s.drop a) ≠ 0 then some (3, signN (s.drop a)) else none := rfl
    have hr2 := @ruleN_two (s.drop a)
    generalize nameN (s.drop a) = n1 at hname hnl hcut
    generalize ruleN (s.drop a) = n2 at hrule hrl hcut hr2
    generalize signN (s.drop a) = n3 at hsign hsl hcut
    simp -implicitDefEqProofs only [lt_true hlt, cellsA_func,
    evx, evy, ofValue, ofCell, List.range, List.range.loop, Array.size, Nat.reduceAdd, Nat.reduceSub, Nat.reduceEqDiff, List.replicate, if_true, if_false, ↓reduceIte, reduceCtorEq, elB, evParts, Int.reduceToNat, Int.reduceLE, Int.reduceLT, Int.reduceEq, Nat.reduceMul, Nat.reduceLeDiff, Nat.reduceLT, ty3, ty4, ty9, ty5, ty58, ty105, ty103, ty102, ty30]
    refine loop_rule (fun j : Int => ⟨[.fv (.str s), .any, .any, .any, .any, .ref 0 3 0 ws.length, .fv (.int .i64 a), .fv (.bool false), .any, .any, .any, .any, .any, .any, .any, .any, .any, .any, .any, .any, .any, .any, .any, .any, .any, .any, .any, .agg [.func 50 [], .func 51 [], .func 52 []], .fv (.int .i64 j), .any, .any, .any, .any, .any, .any, .any, .any, .any, .any, .any, .any, .any, .any, .any, .any, .any, .any, .any, .any, .any, .any, .any, .any, .any, .any, .any, .any, .any, .any, .any, .any, .any, .any, .any, .any, .any, .any, .any], [.plain 3 (ws.map Wd.row)], []⟩)
      (fun j => j = 0 ∨ (j = 1 ∧ n1 = 0) ∨ (j = 2 ∧ n1 = 0 ∧ n2 = 0) ∨ (j = 3 ∧ n1 = 0 ∧ n2 = 0 ∧ n3 = 0)) (fun j => (3 - j).toNat) 0 (le_wk (by simp [wk])) (.inl rfl) (fun j hj s0 hs0 => ?_)
    rcases hj with rfl | ⟨rfl, z1⟩ | ⟨rfl, z1, z2⟩ | ⟨rfl, z1, z2, z3⟩
    · simp -implicitDefEqProofs only [lt_true hlt, cellsA_func, isAggF, le_true h2, Nat.le_refl, List.take_length, List.length_map, cut_text, w01, w12, w23, c03, c13, c23, bsE_w,
    evx, evy, ofValue, ofCell, List.range, List.range.loop, Array.size, Nat.reduceAdd, Nat.reduceSub, Nat.reduceEqDiff, List.replicate, if_true, if_false, ↓reduceIte, reduceCtorEq, elB, evParts, Int.reduceToNat, Int.reduceLE, Int.reduceLT, Int.reduceEq, Nat.reduceMul, Nat.reduceLeDiff, Nat.reduceLT, ty3, ty4, ty9, ty5, ty58, ty105, ty103, ty102, ty30]
      refine callK_ret _ _ _ _ (call_pure (hname) (fun _ => rfl) (fun _ => rfl)) (ok_nil _ _) ?_
      by_cases hz : n1 = 0
      · have hzt : ((n1 : Int) = 0) = True := by simpa using hz
        simp -implicitDefEqProofs only [hzt, w01, w12, w23,
    evx, evy, ofValue, ofCell, List.range, List.range.loop, Array.size, Nat.reduceAdd, Nat.reduceSub, Nat.reduceEqDiff, List.replicate, if_true, if_false, ↓reduceIte, reduceCtorEq, elB, evParts, Int.reduceToNat, Int.reduceLE, Int.reduceLT, Int.reduceEq, Nat.reduceMul, Nat.reduceLeDiff, Nat.reduceLT, ty3, ty4, ty9, ty5, ty58, ty105, ty103, ty102, ty30]
        exact back_intro hs0 1 (le_wk (by simp [wk])) (.inr (.inl ⟨rfl, hz⟩)) (by decide)
      · have hzt : ((n1 : Int) = 0) = False := by simpa using hz
        have hcl : cutW (s.drop a) = some (1, n1) := by rw [hcut, if_pos hz]
        rw [allG_some hlt hcl] at h1
        have hsum : a + n1 ≤ s.length := by omega
        have hbl := blankG_le false (s.drop (a + n1))
        have hbl2 : blankN (s.drop (a + n1)) = blankG false (s.drop (a + n1)) := rfl
        rw [List.length_drop, ← hbl2] at hbl
        have hblank := ok49 (s.drop (a + n1)) (by rw [List.length_drop]; omega)
        simp -implicitDefEqProofs only [hzt, wsum a n1 (by omega), le_true (by omega : a ≤ a + n1), le_true hsum, lt_true hlt, cellsA_func, isAggF, le_true h2, Nat.le_refl, List.take_length, List.length_map, cut_text, w01, w12, w23, c03, c13, c23, bsE_w,
    evx, evy, ofValue, ofCell, List.range, List.range.loop, Array.size, Nat.reduceAdd, Nat.reduceSub, Nat.reduceEqDiff, List.replicate, if_true, if_false, ↓reduceIte, reduceCtorEq, elB, evParts, Int.reduceToNat, Int.reduceLE, Int.reduceLT, Int.reduceEq, Nat.reduceMul, Nat.reduceLeDiff, Nat.reduceLT, ty3, ty4, ty9, ty5, ty58, ty105, ty103, ty102, ty30]
        refine ⟨by omega, ?_⟩
        refine callK_ret _ _ _ _ (call_pure (hblank) (fun _ => rfl) (fun _ => rfl)) (ok_nil _ _) ?_
        simp -implicitDefEqProofs only [wsum (a + n1) _ (by omega : a + n1 + blankN (s.drop (a + n1)) < 4611686018427387904),
    evx, evy, ofValue, ofCell, List.range, List.range.loop, Array.size, Nat.reduceAdd, Nat.reduceSub, Nat.reduceEqDiff, List.replicate, if_true, if_false, ↓reduceIte, reduceCtorEq, elB, evParts, Int.reduceToNat, Int.reduceLE, Int.reduceLT, Int.reduceEq, Nat.reduceMul, Nat.reduceLeDiff, Nat.reduceLT, ty3, ty4, ty9, ty5, ty58, ty105, ty103, ty102, ty30]
        refine back_intro hst (a + n1 + blankN (s.drop (a + n1)), ws ++ [wordAt s a 1 n1], f) (le_pk [2] rfl (by simp) (by simp) ?_ ?_) ⟨h1, by simp only; omega, by simp only; omega, by simp only [List.length_append, List.length_cons, List.length_nil]; omega⟩ (by simp only; omega)
        · simp [subBlk, wd_row1, htk]
        · simp [wk, subAny, subA, mkSub, idx]
    · simp -implicitDefEqProofs only [lt_true hlt, cellsA_func, isAggF, le_true h2, Nat.le_refl, List.take_length, List.length_map, cut_text, w01, w12, w23, c03, c13, c23, bsE_w,
    evx, evy, ofValue, ofCell, List.range, List.range.loop, Array.size, Nat.reduceAdd, Nat.reduceSub, Nat.reduceEqDiff, List.replicate, if_true, if_false, ↓reduceIte, reduceCtorEq, elB, evParts, Int.reduceToNat, Int.reduceLE, Int.reduceLT, Int.reduceEq, Nat.reduceMul, Nat.reduceLeDiff, Nat.reduceLT, ty3, ty4, ty9, ty5, ty58, ty105, ty103, ty102, ty30]
      refine callK_ret _ _ _ _ (call_pure (hrule) (fun _ => rfl) (fun _ => rfl)) (ok_nil _ _) ?_
      by_cases hz : n2 = 0
      · have hzt : ((n2 : Int) = 0) = True := by simpa using hz
        simp -implicitDefEqProofs only [hzt, w01, w12, w23,
    evx, evy, ofValue, ofCell, List.range, List.range.loop, Array.size, Nat.reduceAdd, Nat.reduceSub, Nat.reduceEqDiff, List.replicate, if_true, if_false, ↓reduceIte, reduceCtorEq, elB, evParts, Int.reduceToNat, Int.reduceLE, Int.reduceLT, Int.reduceEq, Nat.reduceMul, Nat.reduceLeDiff, Nat.reduceLT, ty3, ty4, ty9, ty5, ty58, ty105, ty103, ty102, ty30]
        exact back_intro hs0 2 (le_wk (by simp [wk])) (.inr (.inr (.inl ⟨rfl, z1, hz⟩))) (by decide)
      · have hzt : ((n2 : Int) = 0) = False := by simpa using hz
        have hcl : cutW (s.drop a) = some (2, n2) := by rw [hcut, z1, if_neg (by simp), if_pos hz]
        rw [allG_some hlt hcl] at h1
        have hsum : a + n2 ≤ s.length := by omega
        have hbl := blankG_le false (s.drop (a + n2))
        have hbl2 : blankN (s.drop (a + n2)) = blankG false (s.drop (a + n2)) := rfl
        rw [List.length_drop, ← hbl2] at hbl
        have hblank := ok49 (s.drop (a + n2)) (by rw [List.length_drop]; omega)
        have h22 := hr2 hz
        have htl : (List.take n2 (List.drop a s)).length = n2 := by rw [List.length_take, List.length_drop]; omega
        simp -implicitDefEqProofs only [hzt, wsum a n2 (by omega), le_true (by omega : a ≤ a + n2), le_true hsum, wpred n2 (by omega) (by omega), le_true (by omega : 1 ≤ n2 - 1), htl, le_true (by omega : n2 - 1 ≤ n2), mid_text _ n2 h22, lt_true hlt, cellsA_func, isAggF, le_true h2, Nat.le_refl, List.take_length, List.length_map, cut_text, w01, w12, w23, c03, c13, c23, bsE_w,
    evx, evy, ofValue, ofCell, List.range, List.range.loop, Array.size, Nat.reduceAdd, Nat.reduceSub, Nat.reduceEqDiff, List.replicate, if_true, if_false, ↓reduceIte, reduceCtorEq, elB, evParts, Int.reduceToNat, Int.reduceLE, Int.reduceLT, Int.reduceEq, Nat.reduceMul, Nat.reduceLeDiff, Nat.reduceLT, ty3, ty4, ty9, ty5, ty58, ty105, ty103, ty102, ty30]
        refine ⟨by omega, ?_⟩
        refine callK_ret _ _ _ _ (call_pure (hblank) (fun _ => rfl) (fun _ => rfl)) (ok_nil _ _) ?_
        simp -implicitDefEqProofs only [wsum (a + n2) _ (by omega : a + n2 + blankN (s.drop (a + n2)) < 4611686018427387904),
    evx, evy, ofValue, ofCell, List.range, List.range.loop, Array.size, Nat.reduceAdd, Nat.reduceSub, Nat.reduceEqDiff, List.replicate, if_true, if_false, ↓reduceIte, reduceCtorEq, elB, evParts, Int.reduceToNat, Int.reduceLE, Int.reduceLT, Int.reduceEq, Nat.reduceMul, Nat.reduceLeDiff, Nat.reduceLT, ty3, ty4, ty9, ty5, ty58, ty105, ty103, ty102, ty30]
        refine back_intro hst (a + n2 + blankN (s.drop (a + n2)), ws ++ [wordAt s a 2 n2], f) (le_pk [2] rfl (by simp) (by simp) ?_ ?_) ⟨h1, by simp only; omega, by simp only; omega, by simp only [List.length_append, List.length_cons, List.length_nil]; omega⟩ (by simp only; omega)
        · simp [subBlk, wd_row2, htk]
        · simp [wk, subAny, subA, mkSub, idx]
    · simp -implicitDefEqProofs only [lt_true hlt, cellsA_func, isAggF, le_true h2, Nat.le_refl, List.take_length, List.length_map, cut_text, w01, w12, w23, c03, c13, c23, bsE_w,
    evx, evy, ofValue, ofCell, List.range, List.range.loop, Array.size, Nat.reduceAdd, Nat.reduceSub, Nat.reduceEqDiff, List.replicate, if_true, if_false, ↓reduceIte, reduceCtorEq, elB, evParts, Int.reduceToNat, Int.reduceLE, Int.reduceLT, Int.reduceEq, Nat.reduceMul, Nat.reduceLeDiff, Nat.reduceLT, ty3, ty4, ty9, ty5, ty58, ty105, ty103, ty102, ty30]
      refine callK_ret _ _ _ _ (call_pure (hsign) (fun _ => rfl) (fun _ => rfl)) (ok_nil _ _) ?_
      by_cases hz : n3 = 0
      · have hzt : ((n3 : Int) = 0) = True := by simpa using hz
        simp -implicitDefEqProofs only [hzt, w01, w12, w23,
    evx, evy, ofValue, ofCell, List.range, List.range.loop, Array.size, Nat.reduceAdd, Nat.reduceSub, Nat.reduceEqDiff, List.replicate, if_true, if_false, ↓reduceIte, reduceCtorEq, elB, evParts, Int.reduceToNat, Int.reduceLE, Int.reduceLT, Int.reduceEq, Nat.reduceMul, Nat.reduceLeDiff, Nat.reduceLT, ty3, ty4, ty9, ty5, ty58, ty105, ty103, ty102, ty30]
        exact back_intro hs0 3 (le_wk (by simp [wk])) (.inr (.inr (.inr ⟨rfl, z1, z2, hz⟩))) (by decide)
      · have hzt : ((n3 : Int) = 0) = False := by simpa using hz
        have hcl : cutW (s.drop a) = some (3, n3) := by rw [hcut, z1, if_neg (by simp), z2, if_neg (by simp), if_pos hz]
        rw [allG_some hlt hcl] at h1
        have hsum : a + n3 ≤ s.length := by omega
        have hbl := blankG_le false (s.drop (a + n3))
        have hbl2 : blankN (s.drop (a + n3)) = blankG false (s.drop (a + n3)) := rfl
        rw [List.length_drop, ← hbl2] at hbl
        have hblank := ok49 (s.drop (a + n3)) (by rw [List.length_drop]; omega)
        simp -implicitDefEqProofs only [hzt, wsum a n3 (by omega), le_true (by omega : a ≤ a + n3), le_true hsum, lt_true hlt, cellsA_func, isAggF, le_true h2, Nat.le_refl, List.take_length, List.length_map, cut_text, w01, w12, w23, c03, c13, c23, bsE_w,
    evx, evy, ofValue, ofCell, List.range, List.range.loop, Array.size, Nat.reduceAdd, Nat.reduceSub, Nat.reduceEqDiff, List.replicate, if_true, if_false, ↓reduceIte, reduceCtorEq, elB, evParts, Int.reduceToNat, Int.reduceLE, Int.reduceLT, Int.reduceEq, Nat.reduceMul, Nat.reduceLeDiff, Nat.reduceLT, ty3, ty4, ty9, ty5, ty58, ty105, ty103, ty102, ty30]
        refine ⟨by omega, ?_⟩
        refine callK_ret _ _ _ _ (call_pure (hblank) (fun _ => rfl) (fun _ => rfl)) (ok_nil _ _) ?_
        simp -implicitDefEqProofs only [wsum (a + n3) _ (by omega : a + n3 + blankN (s.drop (a + n3)) < 4611686018427387904),
    evx, evy, ofValue, ofCell, List.range, List.range.loop, Array.size, Nat.reduceAdd, Nat.reduceSub, Nat.reduceEqDiff, List.replicate, if_true, if_false, ↓reduceIte, reduceCtorEq, elB, evParts, Int.reduceToNat, Int.reduceLE, Int.reduceLT, Int.reduceEq, Nat.reduceMul, Nat.reduceLeDiff, Nat.reduceLT, ty3, ty4, ty9, ty5, ty58, ty105, ty103, ty102, ty30]
        refine back_intro hst (a + n3 + blankN (s.drop (a + n3)), ws ++ [wordAt s a 3 n3], f) (le_pk [2] rfl (by simp) (by simp) ?_ ?_) ⟨h1, by simp only; omega, by simp only; omega, by simp only [List.length_append, List.length_cons, List.length_nil]; omega⟩ (by simp only; omega)
        · simp [subBlk, wd_row3, htk]
        · simp [wk, subAny, subA, mkSub, idx]
    · have hcl : cutW (s.drop a) = none := by rw [hcut, z1, z2, z3]; rfl
      rw [allG_none hlt hcl] at h1
      subst h1
      simp -implicitDefEqProofs only [allOut,
    evx, evy, ofValue, ofCell, List.range, List.range.loop, Array.size, Nat.reduceAdd, Nat.reduceSub, Nat.reduceEqDiff, List.replicate, if_true, if_false, ↓reduceIte, reduceCtorEq, elB, evParts, Int.reduceToNat, Int.reduceLE, Int.reduceLT, Int.reduceEq, Nat.reduceMul, Nat.reduceLeDiff, Nat.reduceLT, ty3, ty4, ty9, ty5, ty58, ty105, ty103, ty102, ty30]
      exact le_flat rfl
  · obtain ⟨f, rfl⟩ : ∃ f', f = f' + 1 := ⟨f - 1, by omega⟩
    rw [allG_end hlt] at h1
    subst h1
    simp -implicitDefEqProofs only [lt_false hlt, allOut,
    evx, evy, ofValue, ofCell, List.range, List.range.loop, Array.size, Nat.reduceAdd, Nat.reduceSub, Nat.reduceEqDiff, List.replicate, if_true, if_false, ↓reduceIte, reduceCtorEq, elB, evParts, Int.reduceToNat, Int.reduceLE, Int.reduceLT, Int.reduceEq, Nat.reduceMul, Nat.reduceLeDiff, Nat.reduceLT, ty3, ty4, ty9, ty5, ty58, ty105, ty103, ty102, ty30]
    exact le_tup3 rfl (by rw [hwl]; omega) (by rw [List.drop_zero, ← hwl, List.take_length])
end Go.Abs
