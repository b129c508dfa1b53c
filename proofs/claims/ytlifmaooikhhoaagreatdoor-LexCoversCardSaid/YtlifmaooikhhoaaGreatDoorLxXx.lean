/- The laws LexOne and LexAll as contracts. -/
import Derived.Test.YtlifmaooikhhoaaGreatDoorTyTryzx
import Derived.Test.YtlifmaooikhhoaaGreatDoorDrTryzx
import Derived.Test.YtlifmaooikhhoaaGreatDoorLxVx
namespace Go.Abs
open Go.Proofs
set_option linter.unusedVariables false
set_option linter.unusedSimpArgs false
set_option maxRecDepth 100000
set_option maxHeartbeats 4000000
theorem lawLexOne (d : Aut) (s : Bs) (a : Int) : Ok Tryz.prog 6 [d.av, .fv (.str s), .fv (.int .i64 a)] [] (.ret (.fv (.bool true))) [] := by
  refine ok_start (k := 89) (n0 := 0) (rs := [.tmp 6]) mix Tryz.func6 rfl rfl rfl rfl rfl rfl rfl ?_
  simp -implicitDefEqProofs only [Aut.av,
    evx, evy, ofValue, ofCell, List.range, List.range.loop, Array.size, Nat.reduceAdd, Nat.reduceSub, Nat.reduceEqDiff, List.replicate, if_true, if_false, ↓reduceIte, reduceCtorEq, elB, evParts, Int.reduceToNat, Int.reduceLE, Int.reduceLT, Int.reduceEq, Nat.reduceMul, Nat.reduceLeDiff, Nat.reduceLT, ty3, ty4, ty9, ty23, ty22, ty25, ty5, ty35, ty31, ty47, ty38, ty43]
  refine callK_ret _ _ _ _ (call_pure (okWakes10) (fun _ => rfl) (fun _ => rfl)) (ok_nil _ _) ?_
  by_cases c1 : (300 : Int) < (s.length : Int)
  · simp -implicitDefEqProofs only [lit_true c1,
    evx, evy, ofValue, ofCell, List.range, List.range.loop, Array.size, Nat.reduceAdd, Nat.reduceSub, Nat.reduceEqDiff, List.replicate, if_true, if_false, ↓reduceIte, reduceCtorEq, elB, evParts, Int.reduceToNat, Int.reduceLE, Int.reduceLT, Int.reduceEq, Nat.reduceMul, Nat.reduceLeDiff, Nat.reduceLT, ty3, ty4, ty9, ty23, ty22, ty25, ty5, ty35, ty31, ty47, ty38, ty43]
    exact le_flat rfl
  by_cases c2 : (300 : Int) < (d.next.length : Int)
  · simp -implicitDefEqProofs only [List.length_map, lit_false c1, lit_true c2,
    evx, evy, ofValue, ofCell, List.range, List.range.loop, Array.size, Nat.reduceAdd, Nat.reduceSub, Nat.reduceEqDiff, List.replicate, if_true, if_false, ↓reduceIte, reduceCtorEq, elB, evParts, Int.reduceToNat, Int.reduceLE, Int.reduceLT, Int.reduceEq, Nat.reduceMul, Nat.reduceLeDiff, Nat.reduceLT, ty3, ty4, ty9, ty23, ty22, ty25, ty5, ty35, ty31, ty47, ty38, ty43]
    exact le_flat rfl
  have hr := ok14 d (by omega)
  have hone := ok25 d (by omega) s (by omega) a
  simp -implicitDefEqProofs only [List.length_map, lit_false c1, lit_false c2,
    evx, evy, ofValue, ofCell, List.range, List.range.loop, Array.size, Nat.reduceAdd, Nat.reduceSub, Nat.reduceEqDiff, List.replicate, if_true, if_false, ↓reduceIte, reduceCtorEq, elB, evParts, Int.reduceToNat, Int.reduceLE, Int.reduceLT, Int.reduceEq, Nat.reduceMul, Nat.reduceLeDiff, Nat.reduceLT, ty3, ty4, ty9, ty23, ty22, ty25, ty5, ty35, ty31, ty47, ty38, ty43]
  have z3 : decide ((⟨0, 0, 0⟩ : Tk) = ⟨0, 0, 0⟩) = true := rfl
  by_cases hb : d.rightB = true
  · rw [hb] at hr
    by_cases h0 : a < 0
    · have h0t : (a < 0) = True := eq_true h0
      have e : d.oneR s a = ((0, 0, 0), 0, 10) := by unfold Aut.oneR; rw [if_neg (by omega)]
      rw [e] at hone
      refine callK_ret _ _ _ _ (call_pure (hone) (fun _ => rfl) (fun _ => rfl)) (ok_nil _ _) ?_
      simp -implicitDefEqProofs only [stB_boxA, splice_all, List.all_cons, List.all_nil, Bool.and_self,
    evx, evy, ofValue, ofCell, List.range, List.range.loop, Array.size, Nat.reduceAdd, Nat.reduceSub, Nat.reduceEqDiff, List.replicate, if_true, if_false, ↓reduceIte, reduceCtorEq, elB, evParts, Int.reduceToNat, Int.reduceLE, Int.reduceLT, Int.reduceEq, Nat.reduceMul, Nat.reduceLeDiff, Nat.reduceLT, ty3, ty4, ty9, ty23, ty22, ty25, ty5, ty35, ty31, ty47, ty38, ty43]
      refine callK_ret _ _ _ _ (call_pure (hr) (fun _ => rfl) (fun _ => rfl)) (ok_nil _ _) ?_
      simp -implicitDefEqProofs only [h0t, eql_tok, z3,
    evx, evy, ofValue, ofCell, List.range, List.range.loop, Array.size, Nat.reduceAdd, Nat.reduceSub, Nat.reduceEqDiff, List.replicate, if_true, if_false, ↓reduceIte, reduceCtorEq, elB, evParts, Int.reduceToNat, Int.reduceLE, Int.reduceLT, Int.reduceEq, Nat.reduceMul, Nat.reduceLeDiff, Nat.reduceLT, ty3, ty4, ty9, ty23, ty22, ty25, ty5, ty35, ty31, ty47, ty38, ty43]
      exact le_flat rfl
    have h0t : (a < 0) = False := eq_false h0
    by_cases h1 : (s.length : Int) < a
    · have h1t : ((s.length : Int) < a) = True := eq_true h1
      have e : d.oneR s a = ((0, 0, 0), 0, 10) := by unfold Aut.oneR; rw [if_neg (by omega)]
      rw [e] at hone
      refine callK_ret _ _ _ _ (call_pure (hone) (fun _ => rfl) (fun _ => rfl)) (ok_nil _ _) ?_
      simp -implicitDefEqProofs only [stB_boxA, splice_all, List.all_cons, List.all_nil, Bool.and_self,
    evx, evy, ofValue, ofCell, List.range, List.range.loop, Array.size, Nat.reduceAdd, Nat.reduceSub, Nat.reduceEqDiff, List.replicate, if_true, if_false, ↓reduceIte, reduceCtorEq, elB, evParts, Int.reduceToNat, Int.reduceLE, Int.reduceLT, Int.reduceEq, Nat.reduceMul, Nat.reduceLeDiff, Nat.reduceLT, ty3, ty4, ty9, ty23, ty22, ty25, ty5, ty35, ty31, ty47, ty38, ty43]
      refine callK_ret _ _ _ _ (call_pure (hr) (fun _ => rfl) (fun _ => rfl)) (ok_nil _ _) ?_
      simp -implicitDefEqProofs only [h0t, h1t, eql_tok, z3,
    evx, evy, ofValue, ofCell, List.range, List.range.loop, Array.size, Nat.reduceAdd, Nat.reduceSub, Nat.reduceEqDiff, List.replicate, if_true, if_false, ↓reduceIte, reduceCtorEq, elB, evParts, Int.reduceToNat, Int.reduceLE, Int.reduceLT, Int.reduceEq, Nat.reduceMul, Nat.reduceLeDiff, Nat.reduceLT, ty3, ty4, ty9, ty23, ty22, ty25, ty5, ty35, ty31, ty47, ty38, ty43]
      exact le_flat rfl
    have h1t : ((s.length : Int) < a) = False := eq_false h1
    obtain ⟨k, rfl⟩ : ∃ k : Nat, a = k := ⟨a.toNat, by omega⟩
    have hR := Aut.right_iff.1 hb
    have hm := ok26 d hR s (by omega) k (by omega)
    have e : d.oneR s k = (if (d.one (s.drop k)).1.2 = 0 then ((0, 0, 0), ((k + (d.one (s.drop k)).2 : Nat) : Int), 4) else (((d.one (s.drop k)).1.1, (k : Int), ((d.one (s.drop k)).1.2 : Int)), ((k + (d.one (s.drop k)).2 : Nat) : Int), 0)) := by
      unfold Aut.oneR
      rw [if_pos ⟨hb, by omega, by omega⟩]
      simp only [Int.toNat_natCast, Int.natCast_add]
    generalize d.one (s.drop k) = o at hm e
    obtain ⟨⟨r, l⟩, n⟩ := o
    simp only at hm e
    by_cases hl : l = 0
    · subst hl
      rw [if_pos rfl] at e
      rw [e] at hone
      have h00 : (((0 : Nat) : Int) = 0) = True := eq_true rfl
      have hnn : (((k + n : Nat) : Int) = ((k + n : Nat) : Int)) = True := eq_self _
      refine callK_ret _ _ _ _ (call_pure (hone) (fun _ => rfl) (fun _ => rfl)) (ok_nil _ _) ?_
      simp -implicitDefEqProofs only [stB_boxA, splice_all, List.all_cons, List.all_nil, Bool.and_self,
    evx, evy, ofValue, ofCell, List.range, List.range.loop, Array.size, Nat.reduceAdd, Nat.reduceSub, Nat.reduceEqDiff, List.replicate, if_true, if_false, ↓reduceIte, reduceCtorEq, elB, evParts, Int.reduceToNat, Int.reduceLE, Int.reduceLT, Int.reduceEq, Nat.reduceMul, Nat.reduceLeDiff, Nat.reduceLT, ty3, ty4, ty9, ty23, ty22, ty25, ty5, ty35, ty31, ty47, ty38, ty43]
      refine callK_ret _ _ _ _ (call_pure (hr) (fun _ => rfl) (fun _ => rfl)) (ok_nil _ _) ?_
      simp -implicitDefEqProofs only [h0t, h1t, Aut.cells,
    evx, evy, ofValue, ofCell, List.range, List.range.loop, Array.size, Nat.reduceAdd, Nat.reduceSub, Nat.reduceEqDiff, List.replicate, if_true, if_false, ↓reduceIte, reduceCtorEq, elB, evParts, Int.reduceToNat, Int.reduceLE, Int.reduceLT, Int.reduceEq, Nat.reduceMul, Nat.reduceLeDiff, Nat.reduceLT, ty3, ty4, ty9, ty23, ty22, ty25, ty5, ty35, ty31, ty47, ty38, ty43]
      refine callK_ret _ _ _ _ (call_pure (hm) (fun _ => rfl) (fun _ => rfl)) (ok_nil _ _) ?_
      simp -implicitDefEqProofs only [stB_boxA, splice_all, List.all_cons, List.all_nil, Bool.and_self, h00, eql_tok, z3, hnn,
    evx, evy, ofValue, ofCell, List.range, List.range.loop, Array.size, Nat.reduceAdd, Nat.reduceSub, Nat.reduceEqDiff, List.replicate, if_true, if_false, ↓reduceIte, reduceCtorEq, elB, evParts, Int.reduceToNat, Int.reduceLE, Int.reduceLT, Int.reduceEq, Nat.reduceMul, Nat.reduceLeDiff, Nat.reduceLT, ty3, ty4, ty9, ty23, ty22, ty25, ty5, ty35, ty31, ty47, ty38, ty43]
      exact le_flat rfl
    · rw [if_neg hl] at e
      rw [e] at hone
      have hlf : ((l : Int) = 0) = False := eq_false (by omega)
      have hnn : (((k + n : Nat) : Int) = ((k + n : Nat) : Int)) = True := eq_self _
      have zt : decide ((⟨r, k, l⟩ : Tk) = ⟨r, k, l⟩) = true := decide_eq_true rfl
      refine callK_ret _ _ _ _ (call_pure (hone) (fun _ => rfl) (fun _ => rfl)) (ok_nil _ _) ?_
      simp -implicitDefEqProofs only [stB_boxA, splice_all, List.all_cons, List.all_nil, Bool.and_self,
    evx, evy, ofValue, ofCell, List.range, List.range.loop, Array.size, Nat.reduceAdd, Nat.reduceSub, Nat.reduceEqDiff, List.replicate, if_true, if_false, ↓reduceIte, reduceCtorEq, elB, evParts, Int.reduceToNat, Int.reduceLE, Int.reduceLT, Int.reduceEq, Nat.reduceMul, Nat.reduceLeDiff, Nat.reduceLT, ty3, ty4, ty9, ty23, ty22, ty25, ty5, ty35, ty31, ty47, ty38, ty43]
      refine callK_ret _ _ _ _ (call_pure (hr) (fun _ => rfl) (fun _ => rfl)) (ok_nil _ _) ?_
      simp -implicitDefEqProofs only [h0t, h1t, Aut.cells,
    evx, evy, ofValue, ofCell, List.range, List.range.loop, Array.size, Nat.reduceAdd, Nat.reduceSub, Nat.reduceEqDiff, List.replicate, if_true, if_false, ↓reduceIte, reduceCtorEq, elB, evParts, Int.reduceToNat, Int.reduceLE, Int.reduceLT, Int.reduceEq, Nat.reduceMul, Nat.reduceLeDiff, Nat.reduceLT, ty3, ty4, ty9, ty23, ty22, ty25, ty5, ty35, ty31, ty47, ty38, ty43]
      refine callK_ret _ _ _ _ (call_pure (hm) (fun _ => rfl) (fun _ => rfl)) (ok_nil _ _) ?_
      simp -implicitDefEqProofs only [stB_boxA, splice_all, List.all_cons, List.all_nil, Bool.and_self, hlf, eql_tok, zt, hnn,
    evx, evy, ofValue, ofCell, List.range, List.range.loop, Array.size, Nat.reduceAdd, Nat.reduceSub, Nat.reduceEqDiff, List.replicate, if_true, if_false, ↓reduceIte, reduceCtorEq, elB, evParts, Int.reduceToNat, Int.reduceLE, Int.reduceLT, Int.reduceEq, Nat.reduceMul, Nat.reduceLeDiff, Nat.reduceLT, ty3, ty4, ty9, ty23, ty22, ty25, ty5, ty35, ty31, ty47, ty38, ty43]
      exact le_flat rfl
  · have e : d.oneR s a = ((0, 0, 0), 0, 10) := by unfold Aut.oneR; rw [if_neg (by rintro ⟨h, _⟩; exact hb h)]
    have hbf : d.rightB = false := by simpa using hb
    rw [hbf] at hr
    rw [e] at hone
    refine callK_ret _ _ _ _ (call_pure (hone) (fun _ => rfl) (fun _ => rfl)) (ok_nil _ _) ?_
    simp -implicitDefEqProofs only [stB_boxA, splice_all, List.all_cons, List.all_nil, Bool.and_self,
    evx, evy, ofValue, ofCell, List.range, List.range.loop, Array.size, Nat.reduceAdd, Nat.reduceSub, Nat.reduceEqDiff, List.replicate, if_true, if_false, ↓reduceIte, reduceCtorEq, elB, evParts, Int.reduceToNat, Int.reduceLE, Int.reduceLT, Int.reduceEq, Nat.reduceMul, Nat.reduceLeDiff, Nat.reduceLT, ty3, ty4, ty9, ty23, ty22, ty25, ty5, ty35, ty31, ty47, ty38, ty43]
    refine callK_ret _ _ _ _ (call_pure (hr) (fun _ => rfl) (fun _ => rfl)) (ok_nil _ _) ?_
    simp -implicitDefEqProofs only [eql_tok, z3,
    evx, evy, ofValue, ofCell, List.range, List.range.loop, Array.size, Nat.reduceAdd, Nat.reduceSub, Nat.reduceEqDiff, List.replicate, if_true, if_false, ↓reduceIte, reduceCtorEq, elB, evParts, Int.reduceToNat, Int.reduceLE, Int.reduceLT, Int.reduceEq, Nat.reduceMul, Nat.reduceLeDiff, Nat.reduceLT, ty3, ty4, ty9, ty23, ty22, ty25, ty5, ty35, ty31, ty47, ty38, ty43]
    exact le_flat rfl
theorem cmpL_self : ∀ l : List Int, cmpL l l = 0
  | [] => rfl
  | x :: l => by
    have h : cmpI x x = 0 := by simp [cmpI]
    rw [cmpL, if_pos h, cmpL_self l]
theorem all_len (d : Aut) (s : Bs) : (d.all s).1.length ≤ s.length := by
  unfold Aut.all
  split
  · exact Aut.allF_len s 0
  · simp
theorem lawLexAll (d : Aut) (s : Bs) : Ok Tryz.prog 5 [d.av, .fv (.str s)] [] (.ret (.fv (.bool true))) [] := by
  refine ok_start (k := 44) (n0 := 0) (rs := [.tmp 4]) mix Tryz.func5 rfl rfl rfl rfl rfl rfl rfl ?_
  simp -implicitDefEqProofs only [awp_draw _ _ Tryzdr5_7, Aut.av,
    evx, evy, ofValue, ofCell, List.range, List.range.loop, Array.size, Nat.reduceAdd, Nat.reduceSub, Nat.reduceEqDiff, List.replicate, if_true, if_false, ↓reduceIte, reduceCtorEq, elB, evParts, Int.reduceToNat, Int.reduceLE, Int.reduceLT, Int.reduceEq, Nat.reduceMul, Nat.reduceLeDiff, Nat.reduceLT, ty3, ty4, ty9, ty23, ty22, ty25, ty5, ty35, ty31, ty47, ty38, ty43]
  refine callK_ret _ _ _ _ (call_pure (okWakes10) (fun _ => rfl) (fun _ => rfl)) (ok_nil _ _) ?_
  by_cases c1 : (200 : Int) < (s.length : Int)
  · simp -implicitDefEqProofs only [awp_draw _ _ Tryzdr5_7, lit_true c1,
    evx, evy, ofValue, ofCell, List.range, List.range.loop, Array.size, Nat.reduceAdd, Nat.reduceSub, Nat.reduceEqDiff, List.replicate, if_true, if_false, ↓reduceIte, reduceCtorEq, elB, evParts, Int.reduceToNat, Int.reduceLE, Int.reduceLT, Int.reduceEq, Nat.reduceMul, Nat.reduceLeDiff, Nat.reduceLT, ty3, ty4, ty9, ty23, ty22, ty25, ty5, ty35, ty31, ty47, ty38, ty43]
    exact le_flat rfl
  by_cases c2 : (300 : Int) < (d.next.length : Int)
  · simp -implicitDefEqProofs only [awp_draw _ _ Tryzdr5_7, List.length_map, lit_false c1, lit_true c2,
    evx, evy, ofValue, ofCell, List.range, List.range.loop, Array.size, Nat.reduceAdd, Nat.reduceSub, Nat.reduceEqDiff, List.replicate, if_true, if_false, ↓reduceIte, reduceCtorEq, elB, evParts, Int.reduceToNat, Int.reduceLE, Int.reduceLT, Int.reduceEq, Nat.reduceMul, Nat.reduceLeDiff, Nat.reduceLT, ty3, ty4, ty9, ty23, ty22, ty25, ty5, ty35, ty31, ty47, ty38, ty43]
    exact le_flat rfl
  have hall := ok20 d (by omega) s (by omega)
  have href := ok21 d (by omega) s (by omega)
  have hseen := ok24 d (by omega) s (by omega)
  have hlen := all_len d s
  generalize d.all s = x at hall href hseen hlen
  obtain ⟨l, f⟩ := x
  simp only [lexedA] at hall href hseen hlen
  have hs1 := ok22 (l.map Tok.tk) (l.map Tok.tk) (by rw [List.length_map]; omega) (by rw [List.length_map]; omega)
  rw [decide_eq_true rfl, ← tokRow_map] at hs1
  have hs2 := ok23 (l.map fun t => (t.seen : Int)) (l.map fun t => (t.seen : Int)) (by rw [List.length_map]; omega) (by rw [List.length_map]; omega)
  rw [cmpL_self, ← ints_row, ← seenRow_map] at hs2
  have hff : (f = f) = True := eq_self f
  simp -implicitDefEqProofs only [awp_draw _ _ Tryzdr5_7, List.length_map, lit_false c1, lit_false c2,
    evx, evy, ofValue, ofCell, List.range, List.range.loop, Array.size, Nat.reduceAdd, Nat.reduceSub, Nat.reduceEqDiff, List.replicate, if_true, if_false, ↓reduceIte, reduceCtorEq, elB, evParts, Int.reduceToNat, Int.reduceLE, Int.reduceLT, Int.reduceEq, Nat.reduceMul, Nat.reduceLeDiff, Nat.reduceLT, ty3, ty4, ty9, ty23, ty22, ty25, ty5, ty35, ty31, ty47, ty38, ty43]
  refine callK_ret _ _ _ _ (call_pure (hall) (fun _ => rfl) (fun _ => rfl)) (ok_nil _ _) ?_
  simp -implicitDefEqProofs only [awp_draw _ _ Tryzdr5_7,
    evx, evy, ofValue, ofCell, List.range, List.range.loop, Array.size, Nat.reduceAdd, Nat.reduceSub, Nat.reduceEqDiff, List.replicate, if_true, if_false, ↓reduceIte, reduceCtorEq, elB, evParts, Int.reduceToNat, Int.reduceLE, Int.reduceLT, Int.reduceEq, Nat.reduceMul, Nat.reduceLeDiff, Nat.reduceLT, ty3, ty4, ty9, ty23, ty22, ty25, ty5, ty35, ty31, ty47, ty38, ty43]
  refine callK_ret _ _ _ _ (call_pure (href) (fun _ => rfl) (fun _ => rfl)) (ok_nil _ _) ?_
  simp -implicitDefEqProofs only [awp_draw _ _ Tryzdr5_7, stB_boxA, splice_all, List.all_cons, List.all_nil, Bool.and_self,
    evx, evy, ofValue, ofCell, List.range, List.range.loop, Array.size, Nat.reduceAdd, Nat.reduceSub, Nat.reduceEqDiff, List.replicate, if_true, if_false, ↓reduceIte, reduceCtorEq, elB, evParts, Int.reduceToNat, Int.reduceLE, Int.reduceLT, Int.reduceEq, Nat.reduceMul, Nat.reduceLeDiff, Nat.reduceLT, ty3, ty4, ty9, ty23, ty22, ty25, ty5, ty35, ty31, ty47, ty38, ty43]
  refine callK_ret _ _ _ _ (call_pure hs1 (fun _ => rfl) (fun _ => rfl)) (by kernel_rfl) ?_
  simp -implicitDefEqProofs only [awp_draw _ _ Tryzdr5_7, hff,
    evx, evy, ofValue, ofCell, List.range, List.range.loop, Array.size, Nat.reduceAdd, Nat.reduceSub, Nat.reduceEqDiff, List.replicate, if_true, if_false, ↓reduceIte, reduceCtorEq, elB, evParts, Int.reduceToNat, Int.reduceLE, Int.reduceLT, Int.reduceEq, Nat.reduceMul, Nat.reduceLeDiff, Nat.reduceLT, ty3, ty4, ty9, ty23, ty22, ty25, ty5, ty35, ty31, ty47, ty38, ty43]
  refine callK_ret _ _ _ _ (call_pure hseen (fun _ => rfl) (fun _ => rfl)) (by kernel_rfl) ?_
  simp -implicitDefEqProofs only [awp_draw _ _ Tryzdr5_7,
    evx, evy, ofValue, ofCell, List.range, List.range.loop, Array.size, Nat.reduceAdd, Nat.reduceSub, Nat.reduceEqDiff, List.replicate, if_true, if_false, ↓reduceIte, reduceCtorEq, elB, evParts, Int.reduceToNat, Int.reduceLE, Int.reduceLT, Int.reduceEq, Nat.reduceMul, Nat.reduceLeDiff, Nat.reduceLT, ty3, ty4, ty9, ty23, ty22, ty25, ty5, ty35, ty31, ty47, ty38, ty43]
  refine callK_ret _ _ _ _ (call_pure hs2 (fun _ => rfl) (fun _ => rfl)) (by kernel_rfl) ?_
  simp -implicitDefEqProofs only [awp_draw _ _ Tryzdr5_7,
    evx, evy, ofValue, ofCell, List.range, List.range.loop, Array.size, Nat.reduceAdd, Nat.reduceSub, Nat.reduceEqDiff, List.replicate, if_true, if_false, ↓reduceIte, reduceCtorEq, elB, evParts, Int.reduceToNat, Int.reduceLE, Int.reduceLT, Int.reduceEq, Nat.reduceMul, Nat.reduceLeDiff, Nat.reduceLT, ty3, ty4, ty9, ty23, ty22, ty25, ty5, ty35, ty31, ty47, ty38, ty43]
  exact le_flat rfl
end Go.Abs
