/- What is known behind an edit: the document's. -/
import Derived.Test.YtlifmaooikhhoaaGreatDoorTyTryzx
import Derived.Test.YtlifmaooikhhoaaGreatDoorDrTryzx
import Derived.Test.YtlifmaooikhhoaaGreatDoorLyEx
namespace Go.Abs
open Go.Proofs
set_option linter.unusedVariables false
set_option linter.unusedSimpArgs false
set_option maxRecDepth 100000
set_option maxHeartbeats 16000000
theorem le_nil2b {n0 : Nat} (k j : Nat) (x y z : AV) (h : List Blk) : Le n0 ⟨[.agg [.fv .nils, .fv .nils, x, y, z]], h, []⟩ ⟨[.agg [.fv (.lst k []), .fv (.lst j []), x, y, z]], h, []⟩ := by
  intro w0 S0 m0 w S m a hn hr
  refine ⟨S, m, ⟨hr.heap, ⟨hr.tmps.1, fun i v q hv hy => ?_⟩, hr.defs, hr.fr⟩⟩
  cases i with
  | zero =>
    have h0 := hr.tmps.2 0 v _ hv rfl
    simp only [List.getElem?_cons_zero, Option.some.injEq] at hy
    subst hy
    cases h0 with
    | agg vs cs hs hc =>
      refine .agg vs _ hs (fun i u q hu hz => ?_)
      match i with
      | 0 => simp at hz; subst hz; exact nils_lst k (hc 0 u _ hu rfl)
      | 1 => simp at hz; subst hz; exact nils_lst j (hc 1 u _ hu rfl)
      | 2 => exact hc 2 u q hu (by simpa using hz)
      | 3 => exact hc 3 u q hu (by simpa using hz)
      | 4 => exact hc 4 u q hu (by simpa using hz)
      | i + 5 => simp at hz
  | succ i => simp at hy
theorem splice_53 (a b c d e x y z : AV) : splice [a, b, c, d, e] 0 [x, y, z] = some [x, y, z, d, e] := rfl
def editedA (x : (List Tok × Int) × Int × Int) : AV := .agg [.fv (.lst 3 (x.1.1.map tokRow)), .fv (.lst 1 (x.1.1.map seenRow)), .fv (.int .i64 x.1.2), .fv (.int .i64 x.2.1), .fv (.int .i64 x.2.2)]
theorem frontN_step (l : List Tok) (i : Nat) (a : Int) (h : i < l.length) : frontN (l.drop i) a = if (l[i].seen : Int) ≤ a then frontN (l.drop (i + 1)) a + 1 else 0 := by
  rw [List.drop_eq_getElem_cons h, frontN_cons]
theorem ok33 (d : Aut) (hn : d.next.length ≤ 100000) (s : Bs) (hs : s.length ≤ 1000) (k : Knw) (hk1 : k.toks.length ≤ 4000000) (hk2 : k.seen.length ≤ 4000000) (e : Edt) (he : e.text.length ≤ 1000) :
    Ok Tryz.prog 33 [d.av, .fv (.str s), k.av, e.av] [] (.ret (editedA (d.editO s k e))) [] := by
  have hri := ok14 d hn
  have hcut := fun t ht => ok21 d hn t ht
  have hlen : (d.all s).1.length ≤ s.length := by
    unfold Aut.all
    split
    · exact Aut.allF_len s 0
    · simp
  have hsame := ok29 k (knw (d.all s)) hk1 (by simp only [knw, List.length_map]; omega) hk2 (by simp only [knw, List.length_map]; omega)
  rw [← lexed_knw] at hsame
  refine ok_start (k := 87) (n0 := 0) (rs := [.cell 8 60]) mix Tryz.func33 rfl rfl rfl rfl rfl rfl rfl ?_
  simp -implicitDefEqProofs only [awp_draw _ _ Tryzdr33_1, awp_draw _ _ Tryzdr33_8, awp_draw _ _ Tryzdr33_12, Aut.av, Knw.av, Edt.av, stB_boxA, splice_all, List.all_cons, List.all_nil, Bool.and_self,
    evx, evy, ofValue, ofCell, List.range, List.range.loop, Array.size, Nat.reduceAdd, Nat.reduceSub, Nat.reduceEqDiff, List.replicate, if_true, if_false, ↓reduceIte, reduceCtorEq, elB, evParts, Int.reduceToNat, Int.reduceLE, Int.reduceLT, Int.reduceEq, Nat.reduceMul, Nat.reduceLeDiff, Nat.reduceLT, ty3, ty4, ty9, ty23, ty5, ty25, ty22, ty35, ty31, ty38, ty43, ty55, ty52, ty60]
  by_cases hbf : d.rightB = false
  · have hb : ¬ d.rightB = true := by rw [hbf]; simp
    have eo : d.editO s k e = (([], 0), 0, 10) := by unfold Aut.editO; rw [if_neg (fun h => hb h.1)]
    rw [hbf] at hri
    rw [eo]
    refine callK_ret _ _ _ _ (call_pure hri (fun _ => rfl) (fun _ => rfl)) (by kernel_rfl) ?_
    simp -implicitDefEqProofs only [awp_draw _ _ Tryzdr33_1, awp_draw _ _ Tryzdr33_8, awp_draw _ _ Tryzdr33_12, stB_boxA, splice_all, List.all_cons, List.all_nil, Bool.and_self,
    evx, evy, ofValue, ofCell, List.range, List.range.loop, Array.size, Nat.reduceAdd, Nat.reduceSub, Nat.reduceEqDiff, List.replicate, if_true, if_false, ↓reduceIte, reduceCtorEq, elB, evParts, Int.reduceToNat, Int.reduceLE, Int.reduceLT, Int.reduceEq, Nat.reduceMul, Nat.reduceLeDiff, Nat.reduceLT, ty3, ty4, ty9, ty23, ty5, ty25, ty22, ty35, ty31, ty38, ty43, ty55, ty52, ty60]
    exact Le.trans (le_nil2b 3 1 _ _ _ _) (le_to [] [] rfl (by simp) (by simp) (by simp) (by simp) rfl)
  have hb : d.rightB = true := by simpa using hbf
  rw [hb] at hri
  refine callK_ret _ _ _ _ (call_pure hri (fun _ => rfl) (fun _ => rfl)) (by kernel_rfl) ?_
  simp -implicitDefEqProofs only [awp_draw _ _ Tryzdr33_1, awp_draw _ _ Tryzdr33_8, awp_draw _ _ Tryzdr33_12, Aut.cells,
    evx, evy, ofValue, ofCell, List.range, List.range.loop, Array.size, Nat.reduceAdd, Nat.reduceSub, Nat.reduceEqDiff, List.replicate, if_true, if_false, ↓reduceIte, reduceCtorEq, elB, evParts, Int.reduceToNat, Int.reduceLE, Int.reduceLT, Int.reduceEq, Nat.reduceMul, Nat.reduceLeDiff, Nat.reduceLT, ty3, ty4, ty9, ty23, ty5, ty25, ty22, ty35, ty31, ty38, ty43, ty55, ty52, ty60]
  refine callK_ret _ _ _ _ (call_pure (hcut s (by omega)) (fun _ => rfl) (fun _ => rfl)) (by kernel_rfl) ?_
  simp -implicitDefEqProofs only [awp_draw _ _ Tryzdr33_1, awp_draw _ _ Tryzdr33_8, awp_draw _ _ Tryzdr33_12,
    evx, evy, ofValue, ofCell, List.range, List.range.loop, Array.size, Nat.reduceAdd, Nat.reduceSub, Nat.reduceEqDiff, List.replicate, if_true, if_false, ↓reduceIte, reduceCtorEq, elB, evParts, Int.reduceToNat, Int.reduceLE, Int.reduceLT, Int.reduceEq, Nat.reduceMul, Nat.reduceLeDiff, Nat.reduceLT, ty3, ty4, ty9, ty23, ty5, ty25, ty22, ty35, ty31, ty38, ty43, ty55, ty52, ty60]
  refine callK_ret _ _ _ _ (call_pure hsame (fun _ => rfl) (fun _ => rfl)) (by kernel_rfl) ?_
  by_cases hk : ¬ k = knw (d.all s)
  · have eo : d.editO s k e = (([], 0), 0, 10) := by unfold Aut.editO; rw [if_neg (fun h => hk h.2)]
    rw [eo, decide_eq_false hk]
    simp -implicitDefEqProofs only [awp_draw _ _ Tryzdr33_1, awp_draw _ _ Tryzdr33_8, awp_draw _ _ Tryzdr33_12, stB_boxA, splice_all, List.all_cons, List.all_nil, Bool.and_self,
    evx, evy, ofValue, ofCell, List.range, List.range.loop, Array.size, Nat.reduceAdd, Nat.reduceSub, Nat.reduceEqDiff, List.replicate, if_true, if_false, ↓reduceIte, reduceCtorEq, elB, evParts, Int.reduceToNat, Int.reduceLE, Int.reduceLT, Int.reduceEq, Nat.reduceMul, Nat.reduceLeDiff, Nat.reduceLT, ty3, ty4, ty9, ty23, ty5, ty25, ty22, ty35, ty31, ty38, ty43, ty55, ty52, ty60]
    exact Le.trans (le_nil2b 3 1 _ _ _ _) (le_to [] [] rfl (by simp) (by simp) (by simp) (by simp) rfl)
  have hk : k = knw (d.all s) := Decidable.not_not.1 hk
  have eo : d.editO s k e = d.editM s e := by unfold Aut.editO; rw [if_pos ⟨hb, hk⟩]
  rw [eo, decide_eq_true hk]
  have hap := ok35 s (by omega) e (by omega)
  simp -implicitDefEqProofs only [awp_draw _ _ Tryzdr33_1, awp_draw _ _ Tryzdr33_8, awp_draw _ _ Tryzdr33_12,
    evx, evy, ofValue, ofCell, List.range, List.range.loop, Array.size, Nat.reduceAdd, Nat.reduceSub, Nat.reduceEqDiff, List.replicate, if_true, if_false, ↓reduceIte, reduceCtorEq, elB, evParts, Int.reduceToNat, Int.reduceLE, Int.reduceLT, Int.reduceEq, Nat.reduceMul, Nat.reduceLeDiff, Nat.reduceLT, ty3, ty4, ty9, ty23, ty5, ty25, ty22, ty35, ty31, ty38, ty43, ty55, ty52, ty60]
  refine callK_ret _ _ _ _ (call_pure (hap) (fun _ => rfl) (fun _ => rfl)) (ok_nil _ _) ?_
  by_cases h0 : ¬ (applyE s e).2 = 0
  · have h0t : ((applyE s e).2 = 0) = False := eq_false h0
    have em : d.editM s e = (([], 0), 0, (applyE s e).2) := by unfold Aut.editM; rw [if_neg h0]
    rw [em]
    simp -implicitDefEqProofs only [awp_draw _ _ Tryzdr33_1, awp_draw _ _ Tryzdr33_8, awp_draw _ _ Tryzdr33_12, h0t, stB_boxA, splice_all, List.all_cons, List.all_nil, Bool.and_self,
    evx, evy, ofValue, ofCell, List.range, List.range.loop, Array.size, Nat.reduceAdd, Nat.reduceSub, Nat.reduceEqDiff, List.replicate, if_true, if_false, ↓reduceIte, reduceCtorEq, elB, evParts, Int.reduceToNat, Int.reduceLE, Int.reduceLT, Int.reduceEq, Nat.reduceMul, Nat.reduceLeDiff, Nat.reduceLT, ty3, ty4, ty9, ty23, ty5, ty25, ty22, ty35, ty31, ty38, ty43, ty55, ty52, ty60]
    exact Le.trans (le_nil2b 3 1 _ _ _ _) (le_to [] [] rfl (by simp) (by simp) (by simp) (by simp) rfl)
  have h0 : (applyE s e).2 = 0 := Decidable.not_not.1 h0
  have h0t : ((applyE s e).2 = 0) = True := eq_true h0
  have hfit : e.fitsB s = true := by
    cases hq : e.fitsB s with
    | true => rfl
    | false => rw [applyE_no hq] at h0; cases h0
  have hnf : e.fullB s = false := by
    cases hq : e.fullB s with
    | false => rfl
    | true => rw [applyE_full hfit hq] at h0; cases h0
  have em : d.editM s e = (d.allF (e.done s) 0, (refN (d.allF s 0).1 (e.at_ + e.len) (((e.done s).length : Int) - s.length) ((d.allF (e.done s) 0).1.drop (frontN (d.allF s 0).1 e.at_)) 0 : Int), 0) := by
    unfold Aut.editM
    rw [if_pos h0, Aut.edit_eq hfit]
    rfl
  have hap1 : (applyE s e).1 = e.done s := by rw [applyE_ok hfit hnf]
  have hdl := Edt.done_length hfit
  obtain ⟨f1, f2, f3, f4⟩ := Edt.fits_iff.1 hfit
  have ea : ∀ u : Bs, d.all u = d.allF u 0 := fun u => by unfold Aut.all; rw [if_pos hb]
  rw [em, hap1, h0]
  have hkt : k.toks.map Tk.row = (d.allF s 0).1.map tokRow := by rw [hk, ea, tokRow_map]; rfl
  have hks : k.seen.map iRow = (d.allF s 0).1.map seenRow := by rw [hk, ea, seenRow_map]; rfl
  have hka : k.at_ = (d.allF s 0).2 := by rw [hk, ea]; rfl
  rw [hkt, hks, hka]
  rw [ea] at hlen
  have hall := hcut (e.done s) (by omega)
  rw [ea] at hall
  have hfx := edFacts d s
  have hfy := edFacts d (e.done s)
  obtain ⟨kk, hg⟩ : ∃ kk, d.allF s 0 = kk := ⟨_, rfl⟩
  obtain ⟨X, hX⟩ : ∃ X, d.allF (e.done s) 0 = X := ⟨_, rfl⟩
  rw [hg] at hlen hfx ⊢
  rw [hX] at hall hfy ⊢
  obtain ⟨l, f⟩ := kk
  obtain ⟨X, g⟩ := X
  unfold editedA
  simp only at hlen hfx hfy ⊢
  obtain ⟨t, ht⟩ : ∃ t, e.done s = t := ⟨_, rfl⟩
  rw [ht] at hdl hall hfy ⊢
  obtain ⟨hcov, hmono, hfin, hlen2, hend⟩ := hfx
  obtain ⟨hcov', hmono', hfin', hlen', hend'⟩ := hfy
  have hby : IntKind.wrap .i64 ((t.length : Int) - (s.length : Int)) = (t.length : Int) - (s.length : Int) := wrap_small (by omega) (by omega)
  obtain ⟨b, hb0⟩ : ∃ b : Int, (t.length : Int) - s.length = b := ⟨_, rfl⟩
  have hby2 : IntKind.wrap .i64 ((t.length : Int) - (s.length : Int)) = b := by rw [hby, hb0]
  rw [hb0] at hby ⊢
  have hbg := fun a : Nat => ok49 (l, f) (by simp only; omega) (fun x hx => by have := hcov x hx; omega) e (by omega) b (by omega) a
  have hlex : lexedA (l, f) = .agg [.fv (.lst 3 (l.map tokRow)), .fv (.lst 1 (l.map seenRow)), .fv (.int .i64 f)] := rfl
  rw [hlex] at hbg
  have hlexX : lexedA (X, g) = .agg [.fv (.lst 3 (X.map tokRow)), .fv (.lst 1 (X.map seenRow)), .fv (.int .i64 g)] := rfl
  rw [hlexX] at hall
  simp -implicitDefEqProofs only [awp_draw _ _ Tryzdr33_1, awp_draw _ _ Tryzdr33_8, awp_draw _ _ Tryzdr33_12,
    evx, evy, ofValue, ofCell, List.range, List.range.loop, Array.size, Nat.reduceAdd, Nat.reduceSub, Nat.reduceEqDiff, List.replicate, if_true, if_false, ↓reduceIte, reduceCtorEq, elB, evParts, Int.reduceToNat, Int.reduceLE, Int.reduceLT, Int.reduceEq, Nat.reduceMul, Nat.reduceLeDiff, Nat.reduceLT, ty3, ty4, ty9, ty23, ty5, ty25, ty22, ty35, ty31, ty38, ty43, ty55, ty52, ty60]
  refine callK_ret _ _ _ _ (call_pure (hall) (fun _ => rfl) (fun _ => rfl)) (ok_nil _ _) ?_
  simp -implicitDefEqProofs only [awp_draw _ _ Tryzdr33_1, awp_draw _ _ Tryzdr33_8, awp_draw _ _ Tryzdr33_12, stB_boxA, splice_all, List.all_cons, List.all_nil, Bool.and_self,
    evx, evy, ofValue, ofCell, List.range, List.range.loop, Array.size, Nat.reduceAdd, Nat.reduceSub, Nat.reduceEqDiff, List.replicate, if_true, if_false, ↓reduceIte, reduceCtorEq, elB, evParts, Int.reduceToNat, Int.reduceLE, Int.reduceLT, Int.reduceEq, Nat.reduceMul, Nat.reduceLeDiff, Nat.reduceLT, ty3, ty4, ty9, ty23, ty5, ty25, ty22, ty35, ty31, ty38, ty43, ty55, ty52, ty60]
  refine loop_rule (fun i : Nat => ⟨[.any, .fv (.str s), .any, .any, .any, .any, .ptr 1 0 0 0, .ptr 2 0 0 0, .ptr 3 0 0 0, .fv (.str t), .any, .ptr 4 0 0 0, .fv (.int .i64 i), .any, .any, .any, .any, .any, .any, .any, .any, .any, .any, .any, .any, .any, .any, .any, .any, .any, .any, .any, .any, .any, .any, .any, .any, .any, .any, .any, .any, .any, .any, .any, .any, .any, .any, .any, .any, .any, .any, .any, .any, .any, .any, .any, .any, .any, .any, .any, .any, .any, .any, .any, .any, .any, .any, .any, .any, .any, .any, .any, .any, .any, .any, .any, .any, .any, .any, .any, .any, .any, .any, .any, .any, .any, .any, .any, .any, .any, .any],
      [.box d.cells, .box [.fv (.lst 3 (l.map tokRow)), .fv (.lst 1 (l.map seenRow)), .fv (.int .i64 f)], .box [.fv (.int .i64 e.at_), .fv (.int .i64 e.len), .fv (.str e.text)], .box [.fv .nils, .fv .nils, .fv (.int .i64 0), .fv (.int .i64 0), .fv (.int .i64 0)],
        .box [.fv (.lst 3 (X.map tokRow)), .fv (.lst 1 (X.map seenRow)), .fv (.int .i64 g)]], []⟩)
    (fun i => i ≤ l.length ∧ frontN l e.at_ = i + frontN (l.drop i) e.at_) (fun i => l.length - i) 0 (le_wk (by simp [wk, Aut.cells])) (by simp) (fun i hi st hst => ?_)
  obtain ⟨hi, hq⟩ := hi
  by_cases hgo : ∃ h : i < l.length, (l[i].seen : Int) ≤ e.at_
  · obtain ⟨hlt, hc⟩ := hgo
    have hr := rows_at seenRow l i hlt
    rw [frontN_step l i e.at_ hlt, if_pos hc] at hq
    generalize l[i] = x at hr hc
    have hct : ((x.seen : Int) ≤ e.at_) = True := eq_true hc
    simp -implicitDefEqProofs only [awp_draw _ _ Tryzdr33_1, awp_draw _ _ Tryzdr33_8, awp_draw _ _ Tryzdr33_12, List.length_map, lt_true hlt, hr, seenRow, hct, wsucc i (by omega),
    evx, evy, ofValue, ofCell, List.range, List.range.loop, Array.size, Nat.reduceAdd, Nat.reduceSub, Nat.reduceEqDiff, List.replicate, if_true, if_false, ↓reduceIte, reduceCtorEq, elB, evParts, Int.reduceToNat, Int.reduceLE, Int.reduceLT, Int.reduceEq, Nat.reduceMul, Nat.reduceLeDiff, Nat.reduceLT, ty3, ty4, ty9, ty23, ty5, ty25, ty22, ty35, ty31, ty38, ty43, ty55, ty52, ty60]
    exact back_intro hst (i + 1) (le_wk (by simp [wk])) ⟨by omega, by omega⟩ (by omega)
  have hfr : frontN l e.at_ = i := by
    by_cases hlt : i < l.length
    · rw [frontN_step l i e.at_ hlt, if_neg (fun h => hgo ⟨hlt, h⟩)] at hq
      omega
    · obtain rfl : i = l.length := by omega
      rw [List.drop_length] at hq
      have hq0 : frontN [] e.at_ = 0 := rfl
      omega
  rw [hfr]
  by_cases hlt : i < l.length
  all_goals first
    | (have hlt' : i < l.length := hlt
       have hr := rows_at seenRow l i hlt'
       have hc : ¬ (l[i].seen : Int) ≤ e.at_ := fun h => hgo ⟨hlt', h⟩
       generalize l[i] = x at hr hc
       have hct : ((x.seen : Int) ≤ e.at_) = False := eq_false hc
       simp -implicitDefEqProofs only [awp_draw _ _ Tryzdr33_1, awp_draw _ _ Tryzdr33_8, awp_draw _ _ Tryzdr33_12, List.length_map, lt_true hlt', hr, seenRow, hct,
    evx, evy, ofValue, ofCell, List.range, List.range.loop, Array.size, Nat.reduceAdd, Nat.reduceSub, Nat.reduceEqDiff, List.replicate, if_true, if_false, ↓reduceIte, reduceCtorEq, elB, evParts, Int.reduceToNat, Int.reduceLE, Int.reduceLT, Int.reduceEq, Nat.reduceMul, Nat.reduceLeDiff, Nat.reduceLT, ty3, ty4, ty9, ty23, ty5, ty25, ty22, ty35, ty31, ty38, ty43, ty55, ty52, ty60])
    | simp -implicitDefEqProofs only [awp_draw _ _ Tryzdr33_1, awp_draw _ _ Tryzdr33_8, awp_draw _ _ Tryzdr33_12, List.length_map, lt_false hlt,
    evx, evy, ofValue, ofCell, List.range, List.range.loop, Array.size, Nat.reduceAdd, Nat.reduceSub, Nat.reduceEqDiff, List.replicate, if_true, if_false, ↓reduceIte, reduceCtorEq, elB, evParts, Int.reduceToNat, Int.reduceLE, Int.reduceLT, Int.reduceEq, Nat.reduceMul, Nat.reduceLeDiff, Nat.reduceLT, ty3, ty4, ty9, ty23, ty5, ty25, ty22, ty35, ty31, ty38, ty43, ty55, ty52, ty60]
  all_goals
    refine loop_rule (fun n : Nat => ⟨[.any, .fv (.str s), .any, .any, .any, .any, .ptr 1 0 0 0, .ptr 2 0 0 0, .ptr 3 0 0 0, .fv (.str t), .any, .ptr 4 0 0 0, .fv (.int .i64 i), .fv (.int .i64 n), .any, .any, .any, .any, .any, .any, .any, .any, .any, .any, .any, .any, .any, .any, .any, .any, .any, .any, .any, .any, .any, .any, .any, .any, .any, .any, .any, .any, .any, .any, .any, .any, .any, .any, .any, .any, .any, .any, .any, .any, .any, .any, .any, .any, .any, .any, .any, .any, .any, .any, .any, .any, .any, .any, .any, .any, .any, .any, .any, .any, .any, .any, .any, .any, .any, .any, .any, .any, .any, .any, .any, .any, .any, .any, .any, .any, .any],
      [.box d.cells, .box [.fv (.lst 3 (l.map tokRow)), .fv (.lst 1 (l.map seenRow)), .fv (.int .i64 f)], .box [.fv (.int .i64 e.at_), .fv (.int .i64 e.len), .fv (.str e.text)], .box [.fv .nils, .fv .nils, .fv (.int .i64 0), .fv (.int .i64 0), .fv (.int .i64 0)],
        .box [.fv (.lst 3 (X.map tokRow)), .fv (.lst 1 (X.map seenRow)), .fv (.int .i64 g)]], []⟩)
      (fun n => n ≤ X.length ∧ refN l (e.at_ + e.len) b (X.drop i) 0 = refN l (e.at_ + e.len) b (X.drop (i + n)) n) (fun n => X.length - (i + n)) 0 (le_wk (by simp [wk])) (by simp) (fun n hnn st2 hst2 => ?_)
    obtain ⟨hn1, hn2⟩ := hnn
    by_cases hlt2 : i + n < X.length
    · have hr2 := rows_at tokRow X (i + n) hlt2
      have hcx := hcov' _ (List.getElem_mem hlt2)
      rw [List.drop_eq_getElem_cons hlt2, refN] at hn2
      generalize X[i + n] = x at hr2 hcx hn2
      by_cases hnz : 0 < n
      · have hnt : (0 < (n : Int)) = True := eq_true (by omega)
        have hbx := hbg x.at_
        simp only at hbx
        simp -implicitDefEqProofs only [awp_draw _ _ Tryzdr33_1, awp_draw _ _ Tryzdr33_8, awp_draw _ _ Tryzdr33_12, List.length_map, wsum i n (by omega), lt_true hlt2, hnt, hby2, hr2, tokRow,
    evx, evy, ofValue, ofCell, List.range, List.range.loop, Array.size, Nat.reduceAdd, Nat.reduceSub, Nat.reduceEqDiff, List.replicate, if_true, if_false, ↓reduceIte, reduceCtorEq, elB, evParts, Int.reduceToNat, Int.reduceLE, Int.reduceLT, Int.reduceEq, Nat.reduceMul, Nat.reduceLeDiff, Nat.reduceLT, ty3, ty4, ty9, ty23, ty5, ty25, ty22, ty35, ty31, ty38, ty43, ty55, ty52, ty60]
        cases hbb : beginsB l (e.at_ + e.len) b x.at_ with
        | true =>
          rw [hbb] at hbx
          rw [if_pos ⟨hnz, hbb⟩] at hn2
          refine callK_ret _ _ _ _ (call_pure hbx (fun _ => rfl) (fun _ => rfl)) (by kernel_rfl) ?_
          simp -implicitDefEqProofs only [awp_draw _ _ Tryzdr33_1, awp_draw _ _ Tryzdr33_8, awp_draw _ _ Tryzdr33_12, splice_53, stB_boxA, splice_all, List.all_cons, List.all_nil, Bool.and_self,
    evx, evy, ofValue, ofCell, List.range, List.range.loop, Array.size, Nat.reduceAdd, Nat.reduceSub, Nat.reduceEqDiff, List.replicate, if_true, if_false, ↓reduceIte, reduceCtorEq, elB, evParts, Int.reduceToNat, Int.reduceLE, Int.reduceLT, Int.reduceEq, Nat.reduceMul, Nat.reduceLeDiff, Nat.reduceLT, ty3, ty4, ty9, ty23, ty5, ty25, ty22, ty35, ty31, ty38, ty43, ty55, ty52, ty60]
          rw [hn2]
          exact le_sf (by simp [subAny, subA, subL])
        | false =>
          rw [hbb] at hbx
          rw [if_neg (fun h => by rw [hbb] at h; cases h.2)] at hn2
          refine callK_ret _ _ _ _ (call_pure hbx (fun _ => rfl) (fun _ => rfl)) (by kernel_rfl) ?_
          simp -implicitDefEqProofs only [awp_draw _ _ Tryzdr33_1, awp_draw _ _ Tryzdr33_8, awp_draw _ _ Tryzdr33_12, wsucc n (by omega),
    evx, evy, ofValue, ofCell, List.range, List.range.loop, Array.size, Nat.reduceAdd, Nat.reduceSub, Nat.reduceEqDiff, List.replicate, if_true, if_false, ↓reduceIte, reduceCtorEq, elB, evParts, Int.reduceToNat, Int.reduceLE, Int.reduceLT, Int.reduceEq, Nat.reduceMul, Nat.reduceLeDiff, Nat.reduceLT, ty3, ty4, ty9, ty23, ty5, ty25, ty22, ty35, ty31, ty38, ty43, ty55, ty52, ty60]
          exact back_intro hst2 (n + 1) (le_wk (by simp [wk])) ⟨by omega, hn2⟩ (by omega)
      · have hnt : (0 < (n : Int)) = False := eq_false (by omega)
        rw [if_neg (fun h => hnz h.1)] at hn2
        simp -implicitDefEqProofs only [awp_draw _ _ Tryzdr33_1, awp_draw _ _ Tryzdr33_8, awp_draw _ _ Tryzdr33_12, List.length_map, wsum i n (by omega), lt_true hlt2, hnt, wsucc n (by omega),
    evx, evy, ofValue, ofCell, List.range, List.range.loop, Array.size, Nat.reduceAdd, Nat.reduceSub, Nat.reduceEqDiff, List.replicate, if_true, if_false, ↓reduceIte, reduceCtorEq, elB, evParts, Int.reduceToNat, Int.reduceLE, Int.reduceLT, Int.reduceEq, Nat.reduceMul, Nat.reduceLeDiff, Nat.reduceLT, ty3, ty4, ty9, ty23, ty5, ty25, ty22, ty35, ty31, ty38, ty43, ty55, ty52, ty60]
        exact back_intro hst2 (n + 1) (le_wk (by simp [wk])) ⟨by omega, hn2⟩ (by omega)
    · rw [show X.drop (i + n) = [] from List.drop_eq_nil_of_le (by omega), refN] at hn2
      simp -implicitDefEqProofs only [awp_draw _ _ Tryzdr33_1, awp_draw _ _ Tryzdr33_8, awp_draw _ _ Tryzdr33_12, List.length_map, wsum i n (by omega), lt_false hlt2, splice_53, stB_boxA, splice_all, List.all_cons, List.all_nil, Bool.and_self,
    evx, evy, ofValue, ofCell, List.range, List.range.loop, Array.size, Nat.reduceAdd, Nat.reduceSub, Nat.reduceEqDiff, List.replicate, if_true, if_false, ↓reduceIte, reduceCtorEq, elB, evParts, Int.reduceToNat, Int.reduceLE, Int.reduceLT, Int.reduceEq, Nat.reduceMul, Nat.reduceLeDiff, Nat.reduceLT, ty3, ty4, ty9, ty23, ty5, ty25, ty22, ty35, ty31, ty38, ty43, ty55, ty52, ty60]
      rw [hn2]
      exact le_sf (by simp [subAny, subA, subL])
end Go.Abs
