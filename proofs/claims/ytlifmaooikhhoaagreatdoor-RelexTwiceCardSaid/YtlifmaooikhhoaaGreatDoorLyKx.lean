/- Two edits, one behind the other, and the way back. -/
import Derived.Test.YtlifmaooikhhoaaGreatDoorTyTryzx
import Derived.Test.YtlifmaooikhhoaaGreatDoorDrTryzx
import Derived.Test.YtlifmaooikhhoaaGreatDoorLyIx
namespace Go.Abs
open Go.Proofs
set_option linter.unusedVariables false
set_option linter.unusedSimpArgs false
set_option maxRecDepth 100000
set_option maxHeartbeats 8000000
def playE (s : Bs) (a b : Edt) : Bs × Int × Int :=
  if (applyE s a).2 = 0 then (if (applyE (applyE s a).1 b).2 = 0 then ((applyE (applyE s a).1 b).1, 2, 0) else ((applyE s a).1, 1, (applyE (applyE s a).1 b).2)) else (s, 0, (applyE s a).2)
theorem applyE_len {s : Bs} {e : Edt} (hs : s.length ≤ 1000000) : (applyE s e).1.length ≤ 1000000 := by
  unfold applyE
  split
  · rename_i hf
    split
    · simp
    · rename_i hn
      have hl := Edt.done_length hf
      unfold Edt.fullB at hn
      simp only [Bool.or_eq_true, decide_eq_true_eq, not_or] at hn
      simp only
      omega
  · simp
def playS (s r q : Bs) (i : Nat) : Bs := match i with
  | 0 => s
  | 1 => r
  | _ => q
theorem ok34 (s : Bs) (hs : s.length ≤ 1000000) (a b : Edt) (ha : a.text.length ≤ 1000000) (hb : b.text.length ≤ 1000000) :
    Ok Tryz.prog 34 [.fv (.str s), .fv (.lst 3 [a.row, b.row])] [] (.ret (.agg [.fv (.str (playE s a b).1), .fv (.int .i64 (playE s a b).2.1), .fv (.int .i64 (playE s a b).2.2)])) [] := by
  have h1 := ok35 s hs a ha
  have h2 := ok35 (applyE s a).1 (applyE_len hs) b hb
  unfold playE
  generalize applyE s a = p at h1 h2 ⊢
  obtain ⟨r, x⟩ := p
  simp only at h1 h2 ⊢
  generalize applyE r b = p at h2 ⊢
  obtain ⟨q, y⟩ := p
  simp only at h2 ⊢
  refine ok_start (k := 32) (n0 := 0) (rs := [.cell 4 67]) mix Tryz.func34 rfl rfl rfl rfl rfl rfl rfl ?_
  simp -implicitDefEqProofs only [evx, evy, ofValue, ofCell, List.range, List.range.loop, Array.size, Nat.reduceAdd, Nat.reduceSub, Nat.reduceEqDiff, List.replicate, if_true, if_false, ↓reduceIte, reduceCtorEq, elB, evParts, Int.reduceToNat, Int.reduceLE, Int.reduceLT, Int.reduceEq, Nat.reduceMul, Nat.reduceLeDiff, Nat.reduceLT, ty3, ty4, ty9, ty23, ty5, ty43, ty52, ty69, ty65, ty67]
  refine loop_rule (fun i : Nat => ⟨[.fv (.str (playS s r q i)), .fv (.lst 3 [a.row, b.row]), .any, .any, .ptr 0 0 0 0, .fv (.int .i64 i), .any, .any, .any, .any, .any, .any, .any, .any, .any, .any, .any, .any, .any, .any, .any, .any, .any, .any, .any, .any, .any, .any, .any, .any, .any, .any, .any, .any], [.box [.fv (.str []), .fv (.int .i64 0), .fv (.int .i64 0)]], []⟩)
    (fun i => i ≤ 2 ∧ (0 < i → x = 0) ∧ (1 < i → y = 0)) (fun i => 2 - i) 0 (le_wk (by simp [wk, playS])) (by simp) (fun i hi st hst => ?_)
  obtain ⟨hi2, hx, hy⟩ := hi
  rcases (show i = 0 ∨ i = 1 ∨ i = 2 by omega) with rfl | rfl | rfl
  · have hlt := lt_true (show 0 < 2 by omega)
    by_cases h0 : x = 0
    · rw [h0] at h1
      have h0t : ((0 : Int) = 0) = True := eq_true rfl
      simp -implicitDefEqProofs only [hlt, Edt.row, playS,
    evx, evy, ofValue, ofCell, List.range, List.range.loop, Array.size, Nat.reduceAdd, Nat.reduceSub, Nat.reduceEqDiff, List.replicate, if_true, if_false, ↓reduceIte, reduceCtorEq, elB, evParts, Int.reduceToNat, Int.reduceLE, Int.reduceLT, Int.reduceEq, Nat.reduceMul, Nat.reduceLeDiff, Nat.reduceLT, ty3, ty4, ty9, ty23, ty5, ty43, ty52, ty69, ty65, ty67]
      refine callK_ret _ _ _ _ (call_pure (h1) (fun _ => rfl) (fun _ => rfl)) (ok_nil _ _) ?_
      simp -implicitDefEqProofs only [stB_boxA, splice_all, List.all_cons, List.all_nil, Bool.and_self, h0t,
    evx, evy, ofValue, ofCell, List.range, List.range.loop, Array.size, Nat.reduceAdd, Nat.reduceSub, Nat.reduceEqDiff, List.replicate, if_true, if_false, ↓reduceIte, reduceCtorEq, elB, evParts, Int.reduceToNat, Int.reduceLE, Int.reduceLT, Int.reduceEq, Nat.reduceMul, Nat.reduceLeDiff, Nat.reduceLT, ty3, ty4, ty9, ty23, ty5, ty43, ty52, ty69, ty65, ty67]
      refine back_intro hst 1 (le_wk (by simp [wk, playS]; exact (wrap_small (by omega) (by omega)).symm)) ⟨by omega, fun _ => h0, fun h => by omega⟩ (by omega)
    · rw [if_neg h0]
      have h0t : (x = 0) = False := eq_false h0
      simp -implicitDefEqProofs only [hlt, Edt.row, playS,
    evx, evy, ofValue, ofCell, List.range, List.range.loop, Array.size, Nat.reduceAdd, Nat.reduceSub, Nat.reduceEqDiff, List.replicate, if_true, if_false, ↓reduceIte, reduceCtorEq, elB, evParts, Int.reduceToNat, Int.reduceLE, Int.reduceLT, Int.reduceEq, Nat.reduceMul, Nat.reduceLeDiff, Nat.reduceLT, ty3, ty4, ty9, ty23, ty5, ty43, ty52, ty69, ty65, ty67]
      refine callK_ret _ _ _ _ (call_pure (h1) (fun _ => rfl) (fun _ => rfl)) (ok_nil _ _) ?_
      simp -implicitDefEqProofs only [stB_boxA, splice_all, List.all_cons, List.all_nil, Bool.and_self, h0t,
    evx, evy, ofValue, ofCell, List.range, List.range.loop, Array.size, Nat.reduceAdd, Nat.reduceSub, Nat.reduceEqDiff, List.replicate, if_true, if_false, ↓reduceIte, reduceCtorEq, elB, evParts, Int.reduceToNat, Int.reduceLE, Int.reduceLT, Int.reduceEq, Nat.reduceMul, Nat.reduceLeDiff, Nat.reduceLT, ty3, ty4, ty9, ty23, ty5, ty43, ty52, ty69, ty65, ty67]
      exact le_sf (by simp [subAny, subA, subL])
  · have hlt := lt_true (show 1 < 2 by omega)
    have h0 := hx (by omega)
    rw [if_pos h0]
    by_cases h3 : y = 0
    · rw [h3] at h2
      have h0t : ((0 : Int) = 0) = True := eq_true rfl
      simp -implicitDefEqProofs only [hlt, Edt.row, playS,
    evx, evy, ofValue, ofCell, List.range, List.range.loop, Array.size, Nat.reduceAdd, Nat.reduceSub, Nat.reduceEqDiff, List.replicate, if_true, if_false, ↓reduceIte, reduceCtorEq, elB, evParts, Int.reduceToNat, Int.reduceLE, Int.reduceLT, Int.reduceEq, Nat.reduceMul, Nat.reduceLeDiff, Nat.reduceLT, ty3, ty4, ty9, ty23, ty5, ty43, ty52, ty69, ty65, ty67]
      refine callK_ret _ _ _ _ (call_pure (h2) (fun _ => rfl) (fun _ => rfl)) (ok_nil _ _) ?_
      simp -implicitDefEqProofs only [stB_boxA, splice_all, List.all_cons, List.all_nil, Bool.and_self, h0t,
    evx, evy, ofValue, ofCell, List.range, List.range.loop, Array.size, Nat.reduceAdd, Nat.reduceSub, Nat.reduceEqDiff, List.replicate, if_true, if_false, ↓reduceIte, reduceCtorEq, elB, evParts, Int.reduceToNat, Int.reduceLE, Int.reduceLT, Int.reduceEq, Nat.reduceMul, Nat.reduceLeDiff, Nat.reduceLT, ty3, ty4, ty9, ty23, ty5, ty43, ty52, ty69, ty65, ty67]
      refine back_intro hst 2 (le_wk (by simp [wk, playS]; exact (wrap_small (by omega) (by omega)).symm)) ⟨by omega, fun _ => h0, fun _ => h3⟩ (by omega)
    · rw [if_neg h3]
      have h0t : (y = 0) = False := eq_false h3
      simp -implicitDefEqProofs only [hlt, Edt.row, playS,
    evx, evy, ofValue, ofCell, List.range, List.range.loop, Array.size, Nat.reduceAdd, Nat.reduceSub, Nat.reduceEqDiff, List.replicate, if_true, if_false, ↓reduceIte, reduceCtorEq, elB, evParts, Int.reduceToNat, Int.reduceLE, Int.reduceLT, Int.reduceEq, Nat.reduceMul, Nat.reduceLeDiff, Nat.reduceLT, ty3, ty4, ty9, ty23, ty5, ty43, ty52, ty69, ty65, ty67]
      refine callK_ret _ _ _ _ (call_pure (h2) (fun _ => rfl) (fun _ => rfl)) (ok_nil _ _) ?_
      simp -implicitDefEqProofs only [stB_boxA, splice_all, List.all_cons, List.all_nil, Bool.and_self, h0t,
    evx, evy, ofValue, ofCell, List.range, List.range.loop, Array.size, Nat.reduceAdd, Nat.reduceSub, Nat.reduceEqDiff, List.replicate, if_true, if_false, ↓reduceIte, reduceCtorEq, elB, evParts, Int.reduceToNat, Int.reduceLE, Int.reduceLT, Int.reduceEq, Nat.reduceMul, Nat.reduceLeDiff, Nat.reduceLT, ty3, ty4, ty9, ty23, ty5, ty43, ty52, ty69, ty65, ty67]
      exact le_sf (by simp [subAny, subA, subL])
  · have hlt := lt_false (show ¬ 2 < 2 by omega)
    rw [if_pos (hx (by omega)), if_pos (hy (by omega))]
    simp -implicitDefEqProofs only [hlt, Edt.row, playS, stB_boxA, splice_all, List.all_cons, List.all_nil, Bool.and_self,
    evx, evy, ofValue, ofCell, List.range, List.range.loop, Array.size, Nat.reduceAdd, Nat.reduceSub, Nat.reduceEqDiff, List.replicate, if_true, if_false, ↓reduceIte, reduceCtorEq, elB, evParts, Int.reduceToNat, Int.reduceLE, Int.reduceLT, Int.reduceEq, Nat.reduceMul, Nat.reduceLeDiff, Nat.reduceLT, ty3, ty4, ty9, ty23, ty5, ty43, ty52, ty69, ty65, ty67]
    exact le_sf (by simp [subAny, subA, subL])
theorem ok36 (s : Bs) (hs : s.length ≤ 1000000) (e : Edt) (he : e.text.length ≤ 1000000) (hf : e.fitsB s = true) :
    Ok Tryz.prog 36 [.fv (.str s), e.av] [] (.ret (backE s e).av) [] := by
  obtain ⟨h1, h2, h3, h4⟩ := Edt.fits_iff.1 hf
  have w3 : IntKind.wrap .i64 (e.at_ + e.len) = e.at_ + e.len := wrap_small (by omega) (by omega)
  have b1 : (0 ≤ e.at_) = True := eq_true h1
  have b2 : (0 ≤ e.at_ + e.len) = True := eq_true (by omega)
  have b3 : (e.at_.toNat ≤ (e.at_ + e.len).toNat) = True := eq_true (by omega)
  have b4 : ((e.at_ + e.len).toNat ≤ s.length) = True := eq_true (by omega)
  have e1 : (s.take (e.at_ + e.len).toNat).drop e.at_.toNat = (s.drop e.at_.toNat).take e.len.toNat := by rw [List.drop_take]; congr 1; omega
  unfold backE Edt.av
  refine ok_start (k := 18) (n0 := 0) (rs := [.cell 4 52]) mix Tryz.func36 rfl rfl rfl rfl rfl rfl rfl ?_
  simp -implicitDefEqProofs only [awp_draw _ _ Tryzdr36_1, w3, b1, b2, b3, b4, e1, stB_boxA, splice_all, List.all_cons, List.all_nil, Bool.and_self,
    evx, evy, ofValue, ofCell, List.range, List.range.loop, Array.size, Nat.reduceAdd, Nat.reduceSub, Nat.reduceEqDiff, List.replicate, if_true, if_false, ↓reduceIte, reduceCtorEq, elB, evParts, Int.reduceToNat, Int.reduceLE, Int.reduceLT, Int.reduceEq, Nat.reduceMul, Nat.reduceLeDiff, Nat.reduceLT, ty3, ty4, ty9, ty23, ty5, ty43, ty52, ty69, ty65, ty67]
  try refine ⟨by kernel_rfl, ?_⟩
  try simp -implicitDefEqProofs only [awp_draw _ _ Tryzdr36_1,
    evx, evy, ofValue, ofCell, List.range, List.range.loop, Array.size, Nat.reduceAdd, Nat.reduceSub, Nat.reduceEqDiff, List.replicate, if_true, if_false, ↓reduceIte, reduceCtorEq, elB, evParts, Int.reduceToNat, Int.reduceLE, Int.reduceLT, Int.reduceEq, Nat.reduceMul, Nat.reduceLeDiff, Nat.reduceLT, ty3, ty4, ty9, ty23, ty5, ty43, ty52, ty69, ty65, ty67]
  exact le_sf (by simp [subAny, subA, subL])
theorem editO_all {d : Aut} {s : Bs} {e : Edt} (hd : d.rightB = true) (hf : e.fitsB s = true) (hn : e.fullB s = false) :
    d.editO s (knw (d.all s)) e = (d.all (e.done s), ((d.editR (d.allF s 0) s (e.done s) e).2 : Int), 0) := by
  unfold Aut.editO
  rw [if_pos ⟨hd, rfl⟩]
  unfold Aut.editM
  rw [applyE_ok hf hn, if_pos rfl]
  have e1 := Aut.edit_eq (d := d) hf
  rw [e1]
  have e2 : d.all (e.done s) = d.allF (e.done s) 0 := by unfold Aut.all; rw [if_pos hd]
  rw [e2]
  rfl
theorem applyE_inv {s : Bs} {e : Edt} (h : (applyE s e).2 = 0) : e.fitsB s = true ∧ e.fullB s = false ∧ applyE s e = (e.done s, 0) := by
  cases hf : e.fitsB s with
  | false => rw [applyE_no hf] at h; cases h
  | true =>
    cases hn : e.fullB s with
    | true => rw [applyE_full hf hn] at h; cases h
    | false => exact ⟨rfl, rfl, applyE_ok hf hn⟩
end Go.Abs
