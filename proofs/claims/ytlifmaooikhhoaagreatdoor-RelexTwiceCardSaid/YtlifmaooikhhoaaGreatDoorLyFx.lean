/- What is known behind an edit: the program's walk. -/
import Derived.Test.YtlifmaooikhhoaaGreatDoorTyTryzx
import Derived.Test.YtlifmaooikhhoaaGreatDoorDrTryzx
import Derived.Test.YtlifmaooikhhoaaGreatDoorLyEx
namespace Go.Abs
open Go.Proofs
set_option linter.unusedVariables false
set_option linter.unusedSimpArgs false
set_option maxRecDepth 100000
set_option maxHeartbeats 16000000
theorem sub_enc (σ : Nat → Option Sb) (l : List (Int × Nat)) : subBlk σ (.map (l.map enc)) = .map (l.map enc) := by
  simp only [subBlk, List.map_map]
  congr 1
theorem le_two3 {i j e f n m : Nat} {h : List Blk} {r q : List (List FV)} {x y z : FV} (hi : h[i]? = some (.plain e r)) (hj : h[j]? = some (.plain f q)) (hn : n = r.length) (hm : m = q.length) :
    Le 0 ⟨[.tuple [.agg [.ref i e 0 n, .ref j f 0 m, .fv x], .fv y, .fv z]], h, []⟩ ⟨[.tuple [.agg [.fv (.lst e r), .fv (.lst f q), .fv x], .fv y, .fv z]], [], []⟩ := by
  subst hn; subst hm
  refine le_to [] [i, j] rfl List.nodup_nil (fun i hi => by simp at hi) (fun i _ hi => by simp at hi) (fun k hk => by
    simp at hk
    rcases hk with rfl | rfl
    · exact ⟨e, r, hi⟩
    · exact ⟨f, q, hj⟩) ?_
  simp [subSt, subAny, subA, subL, mkSub, idx, hi, hj]
theorem ok32 (d : Aut) (hn : d.next.length ≤ 100000) (s : Bs) (hs : s.length ≤ 1000) (k : Knw) (hk1 : k.toks.length ≤ 4000000) (hk2 : k.seen.length ≤ 4000000) (e : Edt) (he : e.text.length ≤ 1000) :
    Ok Tryz.prog 32 [d.av, .fv (.str s), k.av, e.av] [] (.ret (.tuple [lexedA (d.editO s k e).1, .fv (.int .i64 (d.editO s k e).2.1), .fv (.int .i64 (d.editO s k e).2.2)])) [] := by
  have hri := ok15 d hn
  have hcut := ok31 d hn s (by omega)
  have hlen : (d.all s).1.length ≤ s.length := by
    unfold Aut.all
    split
    · exact Aut.allF_len s 0
    · simp
  have hsame := ok44 k (knw (d.all s)) hk1 (by simp only [knw, List.length_map]; omega) hk2 (by simp only [knw, List.length_map]; omega)
  rw [← lexed_knw] at hsame
  refine ok_start (k := 152) (n0 := 0) (rs := [.cell 8 55, .tmp 9, .tmp 10]) mix Tryz.func32 rfl rfl rfl rfl rfl rfl rfl ?_
  simp -implicitDefEqProofs only [awp_draw _ _ Tryzdr32_1, awp_draw _ _ Tryzdr32_10, Aut.av, Knw.av, Edt.av, stB_boxA, splice_all, List.all_cons, List.all_nil, Bool.and_self,
    evx, evy, ofValue, ofCell, List.range, List.range.loop, Array.size, Nat.reduceAdd, Nat.reduceSub, Nat.reduceEqDiff, List.replicate, if_true, if_false, ↓reduceIte, reduceCtorEq, elB, evParts, Int.reduceToNat, Int.reduceLE, Int.reduceLT, Int.reduceEq, Nat.reduceMul, Nat.reduceLeDiff, Nat.reduceLT, ty3, ty4, ty9, ty23, ty5, ty25, ty22, ty35, ty31, ty38, ty43, ty55, ty52, ty99, ty94]
  by_cases hbf : d.rightB = false
  · have hb : ¬ d.rightB = true := by rw [hbf]; simp
    have eo : d.editO s k e = (([], 0), 0, 10) := by unfold Aut.editO; rw [if_neg (fun h => hb h.1)]
    rw [hbf] at hri
    rw [eo]
    refine callK_ret _ _ _ _ (call_pure hri (fun _ => rfl) (fun _ => rfl)) (by kernel_rfl) ?_
    simp -implicitDefEqProofs only [awp_draw _ _ Tryzdr32_1, awp_draw _ _ Tryzdr32_10, stB_boxA, splice_all, List.all_cons, List.all_nil, Bool.and_self,
    evx, evy, ofValue, ofCell, List.range, List.range.loop, Array.size, Nat.reduceAdd, Nat.reduceSub, Nat.reduceEqDiff, List.replicate, if_true, if_false, ↓reduceIte, reduceCtorEq, elB, evParts, Int.reduceToNat, Int.reduceLE, Int.reduceLT, Int.reduceEq, Nat.reduceMul, Nat.reduceLeDiff, Nat.reduceLT, ty3, ty4, ty9, ty23, ty5, ty25, ty22, ty35, ty31, ty38, ty43, ty55, ty52, ty99, ty94]
    exact Le.trans (le_nil3t 3 1 _ _ _ _) (le_to [] [] rfl (by simp) (by simp) (by simp) (by simp) rfl)
  have hb : d.rightB = true := by simpa using hbf
  rw [hb] at hri
  refine callK_ret _ _ _ _ (call_pure hri (fun _ => rfl) (fun _ => rfl)) (by kernel_rfl) ?_
  simp -implicitDefEqProofs only [awp_draw _ _ Tryzdr32_1, awp_draw _ _ Tryzdr32_10, Aut.cells,
    evx, evy, ofValue, ofCell, List.range, List.range.loop, Array.size, Nat.reduceAdd, Nat.reduceSub, Nat.reduceEqDiff, List.replicate, if_true, if_false, ↓reduceIte, reduceCtorEq, elB, evParts, Int.reduceToNat, Int.reduceLE, Int.reduceLT, Int.reduceEq, Nat.reduceMul, Nat.reduceLeDiff, Nat.reduceLT, ty3, ty4, ty9, ty23, ty5, ty25, ty22, ty35, ty31, ty38, ty43, ty55, ty52, ty99, ty94]
  refine callK_ret _ _ _ _ (call_pure hcut (fun _ => rfl) (fun _ => rfl)) (by kernel_rfl) ?_
  simp -implicitDefEqProofs only [awp_draw _ _ Tryzdr32_1, awp_draw _ _ Tryzdr32_10,
    evx, evy, ofValue, ofCell, List.range, List.range.loop, Array.size, Nat.reduceAdd, Nat.reduceSub, Nat.reduceEqDiff, List.replicate, if_true, if_false, ↓reduceIte, reduceCtorEq, elB, evParts, Int.reduceToNat, Int.reduceLE, Int.reduceLT, Int.reduceEq, Nat.reduceMul, Nat.reduceLeDiff, Nat.reduceLT, ty3, ty4, ty9, ty23, ty5, ty25, ty22, ty35, ty31, ty38, ty43, ty55, ty52, ty99, ty94]
  refine callK_ret _ _ _ _ (call_pure hsame (fun _ => rfl) (fun _ => rfl)) (by kernel_rfl) ?_
  by_cases hk : ¬ k = knw (d.all s)
  · have eo : d.editO s k e = (([], 0), 0, 10) := by unfold Aut.editO; rw [if_neg (fun h => hk h.2)]
    rw [eo, decide_eq_false hk]
    simp -implicitDefEqProofs only [awp_draw _ _ Tryzdr32_1, awp_draw _ _ Tryzdr32_10, stB_boxA, splice_all, List.all_cons, List.all_nil, Bool.and_self,
    evx, evy, ofValue, ofCell, List.range, List.range.loop, Array.size, Nat.reduceAdd, Nat.reduceSub, Nat.reduceEqDiff, List.replicate, if_true, if_false, ↓reduceIte, reduceCtorEq, elB, evParts, Int.reduceToNat, Int.reduceLE, Int.reduceLT, Int.reduceEq, Nat.reduceMul, Nat.reduceLeDiff, Nat.reduceLT, ty3, ty4, ty9, ty23, ty5, ty25, ty22, ty35, ty31, ty38, ty43, ty55, ty52, ty99, ty94]
    exact Le.trans (le_nil3t 3 1 _ _ _ _) (le_to [] [] rfl (by simp) (by simp) (by simp) (by simp) rfl)
  have hk : k = knw (d.all s) := Decidable.not_not.1 hk
  have eo : d.editO s k e = d.editM s e := by unfold Aut.editO; rw [if_pos ⟨hb, hk⟩]
  rw [eo, decide_eq_true hk]
  have hap := ok45 s (by omega) e (by omega)
  simp -implicitDefEqProofs only [awp_draw _ _ Tryzdr32_1, awp_draw _ _ Tryzdr32_10,
    evx, evy, ofValue, ofCell, List.range, List.range.loop, Array.size, Nat.reduceAdd, Nat.reduceSub, Nat.reduceEqDiff, List.replicate, if_true, if_false, ↓reduceIte, reduceCtorEq, elB, evParts, Int.reduceToNat, Int.reduceLE, Int.reduceLT, Int.reduceEq, Nat.reduceMul, Nat.reduceLeDiff, Nat.reduceLT, ty3, ty4, ty9, ty23, ty5, ty25, ty22, ty35, ty31, ty38, ty43, ty55, ty52, ty99, ty94]
  refine callK_ret _ _ _ _ (call_pure (hap) (fun _ => rfl) (fun _ => rfl)) (ok_nil _ _) ?_
  by_cases h0 : ¬ (applyE s e).2 = 0
  · have h0t : ((applyE s e).2 = 0) = False := eq_false h0
    have em : d.editM s e = (([], 0), 0, (applyE s e).2) := by unfold Aut.editM; rw [if_neg h0]
    rw [em]
    simp -implicitDefEqProofs only [awp_draw _ _ Tryzdr32_1, awp_draw _ _ Tryzdr32_10, h0t, stB_boxA, splice_all, List.all_cons, List.all_nil, Bool.and_self,
    evx, evy, ofValue, ofCell, List.range, List.range.loop, Array.size, Nat.reduceAdd, Nat.reduceSub, Nat.reduceEqDiff, List.replicate, if_true, if_false, ↓reduceIte, reduceCtorEq, elB, evParts, Int.reduceToNat, Int.reduceLE, Int.reduceLT, Int.reduceEq, Nat.reduceMul, Nat.reduceLeDiff, Nat.reduceLT, ty3, ty4, ty9, ty23, ty5, ty25, ty22, ty35, ty31, ty38, ty43, ty55, ty52, ty99, ty94]
    exact Le.trans (le_nil3t 3 1 _ _ _ _) (le_to [] [] rfl (by simp) (by simp) (by simp) (by simp) rfl)
  have h0 : (applyE s e).2 = 0 := Decidable.not_not.1 h0
  have h0t : ((applyE s e).2 = 0) = True := eq_true h0
  have em : d.editM s e = ((d.editR (d.allF s 0) s (e.done s) e).1, ((d.editR (d.allF s 0) s (e.done s) e).2 : Int), 0) := by unfold Aut.editM; rw [if_pos h0]
  have hfit : e.fitsB s = true := by
    cases hq : e.fitsB s with
    | true => rfl
    | false => rw [applyE_no hq] at h0; cases h0
  have hnf : e.fullB s = false := by
    cases hq : e.fullB s with
    | false => rfl
    | true => rw [applyE_full hfit hq] at h0; cases h0
  have hap1 : (applyE s e).1 = e.done s := by rw [applyE_ok hfit hnf]
  have hdl := Edt.done_length hfit
  obtain ⟨f1, f2, f3, f4⟩ := Edt.fits_iff.1 hfit
  have ea : d.all s = d.allF s 0 := by unfold Aut.all; rw [if_pos hb]
  have hR := Aut.right_iff.1 hb
  rw [em, Aut.editR_eq, hap1, h0]
  have hkt : k.toks.map Tk.row = (d.allF s 0).1.map tokRow := by rw [hk, ea, tokRow_map]; rfl
  have hks : k.seen.map iRow = (d.allF s 0).1.map seenRow := by rw [hk, ea, seenRow_map]; rfl
  have hka : k.at_ = (d.allF s 0).2 := by rw [hk, ea]; rfl
  rw [hkt, hks, hka]
  rw [ea] at hlen
  have hfx := edFacts d s
  have hfront := ok46 (d.allF s 0) (by omega) e.at_
  have hfl := frontN_le (d.allF s 0).1 e.at_
  have hjoin := fun p i hp hi hk ht hm hf => ok48 p (d.allF s 0) i (((e.done s).length : Int) - s.length) hp hi hk (by omega) ht hm hf
  have hbeh := fun a : Nat => look_behind (e.at_ + e.len) (((e.done s).length : Int) - s.length) a (d.allF s 0).1 0 0
  have hone := fun a : Int => ok25 d hn (e.done s) (by omega) a
  have hcop := ok47 (d.allF s 0) (by omega) (frontN (d.allF s 0).1 e.at_) hfl
  obtain ⟨kk, hg⟩ : ∃ kk, d.allF s 0 = kk := ⟨_, rfl⟩
  rw [hg] at hlen hfx hfront hfl hjoin hbeh hcop ⊢
  obtain ⟨l, f⟩ := kk
  simp only at hlen hfx hfront hfl hjoin hbeh hcop ⊢
  obtain ⟨n0, hm0⟩ : ∃ n0, frontN l e.at_ = n0 := ⟨_, rfl⟩
  obtain ⟨t, ht⟩ : ∃ t, e.done s = t := ⟨_, rfl⟩
  rw [hm0] at hfront hfl hcop ⊢
  rw [ht] at hdl hjoin hbeh hone ⊢
  obtain ⟨hcov, hmono, hfin, hlen2, hend⟩ := hfx
  have hby : IntKind.wrap .i64 ((t.length : Int) - (s.length : Int)) = (t.length : Int) - (s.length : Int) := wrap_small (by omega) (by omega)
  have hel : IntKind.wrap .i64 (e.at_ + e.len) = e.at_ + e.len := wrap_small (by omega) (by omega)
  have hlex : lexedA (l, f) = .agg [.fv (.lst 3 (l.map tokRow)), .fv (.lst 1 (l.map seenRow)), .fv (.int .i64 f)] := rfl
  have htl : (l.take n0).length = n0 := by rw [List.length_take]; omega
  have hcop : Ok Tryz.prog 47 [lexedA (l, f), .fv (.int .i64 n0)] [] (.ret (.agg [.ref 0 3 0 (l.take n0).length, .ref 1 1 0 (l.take n0).length, .fv (.int .i64 (-1))])) [.plain 3 ((l.take n0).map tokRow), .plain 1 ((l.take n0).map seenRow)] := by
    rw [htl]
    exact hcop
  rw [hlex] at hfront hcop
  simp -implicitDefEqProofs only [awp_draw _ _ Tryzdr32_1, awp_draw _ _ Tryzdr32_10,
    evx, evy, ofValue, ofCell, List.range, List.range.loop, Array.size, Nat.reduceAdd, Nat.reduceSub, Nat.reduceEqDiff, List.replicate, if_true, if_false, ↓reduceIte, reduceCtorEq, elB, evParts, Int.reduceToNat, Int.reduceLE, Int.reduceLT, Int.reduceEq, Nat.reduceMul, Nat.reduceLeDiff, Nat.reduceLT, ty3, ty4, ty9, ty23, ty5, ty25, ty22, ty35, ty31, ty38, ty43, ty55, ty52, ty99, ty94]
  refine callK_ret _ _ _ _ (call_pure (hfront) (fun _ => rfl) (fun _ => rfl)) (ok_nil _ _) ?_
  simp -implicitDefEqProofs only [awp_draw _ _ Tryzdr32_1, awp_draw _ _ Tryzdr32_10,
    evx, evy, ofValue, ofCell, List.range, List.range.loop, Array.size, Nat.reduceAdd, Nat.reduceSub, Nat.reduceEqDiff, List.replicate, if_true, if_false, ↓reduceIte, reduceCtorEq, elB, evParts, Int.reduceToNat, Int.reduceLE, Int.reduceLT, Int.reduceEq, Nat.reduceMul, Nat.reduceLeDiff, Nat.reduceLT, ty3, ty4, ty9, ty23, ty5, ty25, ty22, ty35, ty31, ty38, ty43, ty55, ty52, ty99, ty94]
  refine callK_ret _ _ _ _ (call_lent [] hcop rfl rfl (by simp) (by simp)) (by kernel_rfl) ?_
  simp -implicitDefEqProofs only [awp_draw _ _ Tryzdr32_1, awp_draw _ _ Tryzdr32_10, subAny, subA, subL, backSub, back, putBack, subBlk, Option.getD_some, List.map_cons, List.map_nil, Nat.not_lt_zero, Nat.sub_zero, Nat.add_zero, List.length_map, stB_boxA, splice_all, List.all_cons, List.all_nil, Bool.and_self,
    evx, evy, ofValue, ofCell, List.range, List.range.loop, Array.size, Nat.reduceAdd, Nat.reduceSub, Nat.reduceEqDiff, List.replicate, if_true, if_false, ↓reduceIte, reduceCtorEq, elB, evParts, Int.reduceToNat, Int.reduceLE, Int.reduceLT, Int.reduceEq, Nat.reduceMul, Nat.reduceLeDiff, Nat.reduceLT, ty3, ty4, ty9, ty23, ty5, ty25, ty22, ty35, ty31, ty38, ty43, ty55, ty52, ty99, ty94]
  have hq0 : ∀ x : Tok, x ∈ l → x.at_ ≤ 1000 ∧ x.len ≤ 1000 := fun x hx => by have := hcov x hx; omega
  obtain ⟨a0, ha0⟩ : ∃ a0 : Nat, a0 = endT (l.take n0) 0 := ⟨_, rfl⟩
  have ha0l : a0 ≤ s.length := by rw [ha0]; exact hend n0 hfl
  have ha0t : a0 ≤ t.length := by
    rw [ha0]
    refine endT_le fun x hx => ?_
    have h1 := hcov x (List.mem_of_mem_take hx)
    rw [← hm0] at hx
    have h2 := frontN_seen x hx
    omega
  rw [← ha0]
  obtain ⟨fr, hfr⟩ : ∃ fr, e.at_ + e.len = fr := ⟨_, rfl⟩
  obtain ⟨b, hb0⟩ : ∃ b : Int, (t.length : Int) - s.length = b := ⟨_, rfl⟩
  have hel2 : IntKind.wrap .i64 (e.at_ + e.len) = fr := by rw [hel, hfr]
  rw [hfr] at hel hbeh ⊢
  have hby2 : IntKind.wrap .i64 ((t.length : Int) - (s.length : Int)) = b := by rw [hby, hb0]
  rw [hb0] at hby hjoin hbeh ⊢
  have hkey : ∀ i (h : i < l.length), lookE ((l[i].at_ : Int) + b) (ents fr b (l.take i) 0) 0 = none := fun i h => lookE_none fun p hp he => by
    obtain ⟨y, hy, e1⟩ := ents_key fr b _ _ p hp
    obtain ⟨j, hj, rfl⟩ := List.getElem_of_mem hy
    rw [List.length_take] at hj
    have h1 := hmono j i (l.take i)[j] l[i] (by rw [List.getElem_take]; exact List.getElem?_eq_getElem _) (List.getElem?_eq_getElem h) (by omega)
    have h2 := (hcov (l.take i)[j] (List.mem_of_mem_take hy)).1
    omega
  rcases Nat.eq_zero_or_pos n0 with hz | hz
  all_goals first
    | (have hz1 : n0 = 0 := hz
       have hzt : (0 < (n0 : Int)) = False := eq_false (by omega)
       have ha00 : a0 = 0 := by rw [ha0, hz1]; rfl
       simp -implicitDefEqProofs only [awp_draw _ _ Tryzdr32_1, awp_draw _ _ Tryzdr32_10, hzt, hby2, opK_mm, List.length_map,
    evx, evy, ofValue, ofCell, List.range, List.range.loop, Array.size, Nat.reduceAdd, Nat.reduceSub, Nat.reduceEqDiff, List.replicate, if_true, if_false, ↓reduceIte, reduceCtorEq, elB, evParts, Int.reduceToNat, Int.reduceLE, Int.reduceLT, Int.reduceEq, Nat.reduceMul, Nat.reduceLeDiff, Nat.reduceLT, ty3, ty4, ty9, ty23, ty5, ty25, ty22, ty35, ty31, ty38, ty43, ty55, ty52, ty99, ty94])
    | (have hz1 : 0 < n0 := hz
       have hzt : (0 < (n0 : Int)) = True := eq_true (by omega)
       have hn1 : IntKind.wrap .i64 ((n0 : Int) - 1) = ((n0 - 1 : Nat) : Int) := by rw [wrap_small (by omega) (by omega)]; omega
       have hnl : n0 - 1 < l.length := by omega
       have hr := rows_at tokRow l (n0 - 1) hnl
       have ha00 : a0 = l[n0 - 1].at_ + l[n0 - 1].len := by
         rw [ha0]
         have h9 := List.take_succ_eq_append_getElem hnl
         rw [show n0 - 1 + 1 = n0 by omega] at h9
         rw [h9, endT_append]
       have hqn := hq0 _ (List.getElem_mem hnl)
       generalize l[n0 - 1] = x at hr ha00 hqn
       simp -implicitDefEqProofs only [awp_draw _ _ Tryzdr32_1, awp_draw _ _ Tryzdr32_10, hzt, hn1, hr, tokRow, wsum x.at_ x.len (by omega), hby2, opK_mm, List.length_map,
    evx, evy, ofValue, ofCell, List.range, List.range.loop, Array.size, Nat.reduceAdd, Nat.reduceSub, Nat.reduceEqDiff, List.replicate, if_true, if_false, ↓reduceIte, reduceCtorEq, elB, evParts, Int.reduceToNat, Int.reduceLE, Int.reduceLT, Int.reduceEq, Nat.reduceMul, Nat.reduceLeDiff, Nat.reduceLT, ty3, ty4, ty9, ty23, ty5, ty25, ty22, ty35, ty31, ty38, ty43, ty55, ty52, ty99, ty94])
  all_goals
    refine loop_rule (fun i : Nat => ⟨[.any, .any, .any, .any, .ptr 0 0 0 0, .any, .ptr 1 0 0 0, .ptr 2 0 0 0, .ptr 3 0 0 0, .any, .any, .fv (.str t), .any, .any, .ptr 6 0 0 0, .fv (.int .i64 a0), .fv (.int .i64 b), .mp 7, .any, .any, .any, .any, .any, .any, .any, .any, .any, .any, .any, .any, .any, .any, .any, .any, .any, .any, .any, .any, .any, .any, .any, .any, .any, .any, .any, .any, .any, .any, .any, .any, .any, .any, .any, .any, .any, .any, .any, .any, .any, .any, .any, .any, .any, .any, .any, .any, .any, .any, .any, .any, .any, .any, .any, .any, .any, .any, .any, .any, .any, .fv (.lst 3 (l.map tokRow)), .fv (.int .i64 l.length), .fv (.int .i64 i), .any, .any, .any, .any, .any, .any, .any, .any, .any, .any, .any, .any, .any, .any, .any, .any, .any, .any, .any, .any, .any, .any, .any, .any, .any, .any, .any, .any, .any, .any, .any, .any, .any, .any, .any, .any, .any, .any, .any, .any, .any, .any, .any, .any, .any, .any, .any, .any, .any, .any, .any, .any, .any, .any, .any, .any, .any, .any, .any, .any, .any, .any, .any, .any, .any, .any, .any, .any, .any, .any, .any, .any, .any, .any], [.box d.cells, .box [.fv (.lst 3 (l.map tokRow)), .fv (.lst 1 (l.map seenRow)), .fv (.int .i64 f)], .box [.fv (.int .i64 e.at_), .fv (.int .i64 e.len), .fv (.str e.text)], .box [.fv .nils, .fv .nils, .fv (.int .i64 0)],
      .plain 3 ((l.take n0).map tokRow), .plain 1 ((l.take n0).map seenRow), .box [.ref 4 3 0 (l.take n0).length, .ref 5 1 0 (l.take n0).length, .fv (.int .i64 (-1))], .map ((ents fr b (l.take i) 0).map enc)], []⟩)
      (fun i => i ≤ l.length) (fun i => l.length - i) 0 (le_wk (by simp [wk, ha00, hby, hby2])) (by simp) (fun i hi st hst => ?_)
    by_cases hlt : i < l.length
    · have hr := rows_at tokRow l i hlt
      have hq := hq0 _ (List.getElem_mem hlt)
      have hk := hkey i hlt
      have hsn := ents_snoc fr b (l.take i) l[i]
      rw [← List.take_succ_eq_append_getElem hlt, List.length_take, Nat.min_eq_left (Nat.le_of_lt hlt)] at hsn
      generalize l[i] = x at hr hq hk hsn
      have wx : IntKind.wrap .i64 ((x.at_ : Int) + b) = (x.at_ : Int) + b := wrap_small (by omega) (by omega)
      by_cases hc : fr ≤ (x.at_ : Int)
      · have hct : (fr ≤ (x.at_ : Int)) = True := eq_true hc
        rw [if_pos hc] at hsn
        simp -implicitDefEqProofs only [awp_draw _ _ Tryzdr32_1, awp_draw _ _ Tryzdr32_10, lt_true hlt, hr, tokRow, stB_boxA, splice_all, List.all_cons, List.all_nil, Bool.and_self, hel2, hct, wx, opK_mu, mu_red ty94 ty3, muB_map, find_enc, hk, putE_none, wsucc i (by omega),
    evx, evy, ofValue, ofCell, List.range, List.range.loop, Array.size, Nat.reduceAdd, Nat.reduceSub, Nat.reduceEqDiff, List.replicate, if_true, if_false, ↓reduceIte, reduceCtorEq, elB, evParts, Int.reduceToNat, Int.reduceLE, Int.reduceLT, Int.reduceEq, Nat.reduceMul, Nat.reduceLeDiff, Nat.reduceLT, ty3, ty4, ty9, ty23, ty5, ty25, ty22, ty35, ty31, ty38, ty43, ty55, ty52, ty99, ty94]
        refine back_intro hst (i + 1) (le_pk [0, 1, 2, 3, 4, 5, 6, 7] rfl (by simp) (by simp) ?_ ?_) (by omega) (by omega)
        · rw [hsn]
          simp only [List.map_cons, List.map_nil, List.getD_cons_zero, List.getD_cons_succ, enc_snoc, sub_enc]
          simp [subBlk, subAny, subA, subL, mkSub, idx, Aut.cells]
        · simp [wk, subAny, subA, mkSub, idx]
      · have hct : (fr ≤ (x.at_ : Int)) = False := eq_false hc
        rw [if_neg hc] at hsn
        simp -implicitDefEqProofs only [awp_draw _ _ Tryzdr32_1, awp_draw _ _ Tryzdr32_10, lt_true hlt, hr, tokRow, stB_boxA, splice_all, List.all_cons, List.all_nil, Bool.and_self, hel2, hct, wsucc i (by omega),
    evx, evy, ofValue, ofCell, List.range, List.range.loop, Array.size, Nat.reduceAdd, Nat.reduceSub, Nat.reduceEqDiff, List.replicate, if_true, if_false, ↓reduceIte, reduceCtorEq, elB, evParts, Int.reduceToNat, Int.reduceLE, Int.reduceLT, Int.reduceEq, Nat.reduceMul, Nat.reduceLeDiff, Nat.reduceLT, ty3, ty4, ty9, ty23, ty5, ty25, ty22, ty35, ty31, ty38, ty43, ty55, ty52, ty99, ty94]
        refine back_intro hst (i + 1) (le_pk [0, 1, 2, 3, 4, 5, 6, 7] rfl (by simp) (by simp) ?_ ?_) (by omega) (by omega)
        · rw [hsn]
          simp only [List.map_cons, List.map_nil, List.getD_cons_zero, List.getD_cons_succ, sub_enc]
          simp [subBlk, subAny, subA, subL, mkSub, idx, Aut.cells]
        · simp [wk, subAny, subA, mkSub, idx]
    · obtain rfl : i = l.length := by omega
      rw [List.take_length]
      simp -implicitDefEqProofs only [awp_draw _ _ Tryzdr32_1, awp_draw _ _ Tryzdr32_10, lt_false hlt,
    evx, evy, ofValue, ofCell, List.range, List.range.loop, Array.size, Nat.reduceAdd, Nat.reduceSub, Nat.reduceEqDiff, List.replicate, if_true, if_false, ↓reduceIte, reduceCtorEq, elB, evParts, Int.reduceToNat, Int.reduceLE, Int.reduceLT, Int.reduceEq, Nat.reduceMul, Nat.reduceLeDiff, Nat.reduceLT, ty3, ty4, ty9, ty23, ty5, ty25, ty22, ty35, ty31, ty38, ty43, ty55, ty52, ty99, ty94]
      refine loop_rule (fun x : List Tok × Nat × Nat => ⟨[.any, .any, .any, .any, .ptr 0 0 0 0, .any, .ptr 1 0 0 0, .any, .ptr 3 0 0 0, .any, .any, .fv (.str t), .any, .any, .ptr 6 0 0 0, .fv (.int .i64 x.2.1), .fv (.int .i64 b), .mp 7, .any, .any, .fv (.int .i64 x.2.2), .any, .any, .any, .any, .any, .any, .any, .any, .any, .any, .any, .any, .any, .any, .any, .any, .any, .any, .any, .any, .any, .any, .any, .any, .any, .any, .any, .any, .any, .any, .any, .any, .any, .any, .any, .any, .any, .any, .any, .any, .any, .any, .any, .any, .any, .any, .any, .any, .any, .any, .any, .any, .any, .any, .any, .any, .any, .any, .any, .any, .any, .any, .any, .any, .any, .any, .any, .any, .any, .any, .any, .any, .any, .any, .any, .any, .any, .any, .any, .any, .any, .any, .any, .any, .any, .any, .any, .any, .any, .any, .any, .any, .any, .any, .any, .any, .any, .any, .any, .any, .any, .any, .any, .any, .any, .any, .any, .any, .any, .any, .any, .any, .any, .any, .any, .any, .any, .any, .any, .any, .any, .any, .any, .any, .any, .any, .any, .any, .any, .any, .any, .any, .any, .any, .any], [.box d.cells, .box [.fv (.lst 3 (l.map tokRow)), .fv (.lst 1 (l.map seenRow)), .fv (.int .i64 f)], .box [.fv (.int .i64 e.at_), .fv (.int .i64 e.len), .fv (.str e.text)], .box [.fv .nils, .fv .nils, .fv (.int .i64 0)],
      .plain 3 (x.1.map tokRow), .plain 1 (x.1.map seenRow), .box [.ref 4 3 0 x.1.length, .ref 5 1 0 x.1.length, .fv (.int .i64 (-1))], .map ((ents fr b l 0).map enc)], []⟩)
        (fun x => x.2.1 ≤ t.length ∧ x.1.length ≤ 1000 + x.2.1 ∧ x.2.2 ≤ x.2.1 ∧ ((l.take n0 ++ (d.editF (l, f) fr b (t.drop a0) a0 0).1.1, (d.editF (l, f) fr b (t.drop a0) a0 0).1.2), (d.editF (l, f) fr b (t.drop a0) a0 0).2) = ((x.1 ++ (d.editF (l, f) fr b (t.drop x.2.1) x.2.1 x.2.2).1.1, (d.editF (l, f) fr b (t.drop x.2.1) x.2.1 x.2.2).1.2), (d.editF (l, f) fr b (t.drop x.2.1) x.2.1 x.2.2).2))
        (fun x => t.length - x.2.1) (l.take n0, a0, 0) (le_wk (by simp [wk])) ⟨ha0t, by simp only [List.length_take]; omega, by simp, rfl⟩ (fun x hx st2 hst2 => ?_)
      obtain ⟨p, a, m⟩ := x
      obtain ⟨h1, h2, h3, h4⟩ := hx
      simp only at h1 h2 h3 h4 hst2 ⊢
      generalize d.editF (l, f) fr b (t.drop a0) a0 0 = E0 at h4 hst2 ⊢
      obtain ⟨⟨E1, E2⟩, E3⟩ := E0
      simp only [Prod.mk.injEq] at h4
      simp only at hst2 ⊢
      obtain ⟨⟨h5, h6⟩, h7⟩ := h4
      by_cases hlt2 : a < t.length
      · have hne : t.drop a ≠ [] := fun q => by have := congrArg List.length q; rw [List.length_drop] at this; simp at this; omega
        have hb1 := hbeh a
        have hbi : behindI l fr b a = List.findIdx? (fun x => decide (fr ≤ x.at_) && decide ((x.at_ : Int) + b = a)) l := rfl
        rw [← hbi] at hb1
        by_cases hC : 0 < m ∧ (behindI l fr b a).isSome = true
        · obtain ⟨hm, hsome⟩ := hC
          cases hq : behindI l fr b a with
          | none => rw [hq] at hsome; cases hsome
          | some i =>
            rw [hq] at hb1
            simp only [Option.map_some, Nat.zero_add] at hb1
            obtain ⟨⟨j, v⟩, hlk, hv⟩ := Option.map_eq_some_iff.1 hb1
            simp only at hv
            subst hv
            obtain ⟨hil, hi1, hi2⟩ := behind_some hq
            have hme := @Aut.editF_behind d (l, f) fr b (t.drop a) a m i hne hm hq
            rw [hme] at h5 h6 h7
            simp only at h5 h6 h7
            have hmt : (0 < (m : Int)) = True := eq_true (by omega)
            have hjn := hjoin p i (by omega) hil (by omega) (fun x hx => by have := hcov x hx; omega) (fun j2 x hx hij => by
              have hcx := hcov x (List.mem_of_getElem? hx)
              have hge : (l[i].at_ : Int) ≤ x.at_ := by
                by_cases hij2 : i = j2
                · subst hij2
                  rw [List.getElem?_eq_getElem hil] at hx
                  rw [Option.some.inj hx]
                  omega
                · have := hmono i j2 l[i] x (List.getElem?_eq_getElem hil) hx (by omega)
                  omega
              omega) (by omega)
            simp -implicitDefEqProofs only [awp_draw _ _ Tryzdr32_1, awp_draw _ _ Tryzdr32_10, lt_true hlt2, opK_lk, lk_red ty94 ty3 ty3, lkB_map, find_enc, hlk, look_some, hmt,
    evx, evy, ofValue, ofCell, List.range, List.range.loop, Array.size, Nat.reduceAdd, Nat.reduceSub, Nat.reduceEqDiff, List.replicate, if_true, if_false, ↓reduceIte, reduceCtorEq, elB, evParts, Int.reduceToNat, Int.reduceLE, Int.reduceLT, Int.reduceEq, Nat.reduceMul, Nat.reduceLeDiff, Nat.reduceLT, ty3, ty4, ty9, ty23, ty5, ty25, ty22, ty35, ty31, ty38, ty43, ty55, ty52, ty99, ty94]
            refine callK_ret _ _ _ _ (call_lent [4, 5] hjn (by simp [subAny, subA, subL, mkSub, idx, lexedA]) rfl (by simp) (by simp [Blk.live])) (by kernel_rfl) ?_
            simp -implicitDefEqProofs only [awp_draw _ _ Tryzdr32_1, awp_draw _ _ Tryzdr32_10, subAny, subA, subL, backSub, back, putBack, subBlk, Option.getD_some, List.map_cons, List.map_nil, Nat.not_lt_zero, Nat.sub_zero, Nat.add_zero, List.length_map, lexedA, stB_boxA, splice_all, List.all_cons, List.all_nil, Bool.and_self,
    evx, evy, ofValue, ofCell, List.range, List.range.loop, Array.size, Nat.reduceAdd, Nat.reduceSub, Nat.reduceEqDiff, List.replicate, if_true, if_false, ↓reduceIte, reduceCtorEq, elB, evParts, Int.reduceToNat, Int.reduceLE, Int.reduceLT, Int.reduceEq, Nat.reduceMul, Nat.reduceLeDiff, Nat.reduceLT, ty3, ty4, ty9, ty23, ty5, ty25, ty22, ty35, ty31, ty38, ty43, ty55, ty52, ty99, ty94]
            rw [h5, h6, h7]
            exact le_sf (by simp [subAny, subA, subL, lexedA])
        · have hno : (if 0 < m then behindI l fr b a else none) = none := by
            by_cases hm : 0 < m
            · rw [if_pos hm]
              cases hq : behindI l fr b a with
              | none => rfl
              | some i => exact absurd ⟨hm, by rw [hq]; rfl⟩ hC
            · rw [if_neg hm]
          have hwp := d.one_le (t.drop a)
          rw [List.length_drop] at hwp
          have e1 : d.oneR t a = (if (d.one (t.drop a)).1.2 = 0 then ((0, 0, 0), ((a + (d.one (t.drop a)).2 : Nat) : Int), 4) else (((d.one (t.drop a)).1.1, (a : Int), ((d.one (t.drop a)).1.2 : Int)), ((a + (d.one (t.drop a)).2 : Nat) : Int), 0)) := by
            unfold Aut.oneR
            rw [if_pos ⟨hb, by omega, by omega⟩]
            simp only [Int.toNat_natCast, Int.natCast_add]
          have ho := hone a
          rw [e1] at ho
          have hme0 := @Aut.editF_none d (l, f) fr b (t.drop a) a m hne hno
          have hme1 := @Aut.editF_some d (l, f) fr b (t.drop a) a m hne hno
          rw [List.drop_drop] at hme1
          generalize d.one (t.drop a) = o at hwp ho hme0 hme1
          obtain ⟨⟨r, k1⟩, sn⟩ := o
          simp only at hwp ho hme0 hme1
          have tk1 : List.take p.length (p.map tokRow) = p.map tokRow := by rw [← List.length_map tokRow, List.take_length]
          have tk2 : List.take p.length (p.map seenRow) = p.map seenRow := by rw [← List.length_map seenRow, List.take_length]
          have q1 := tok_snoc p ⟨r, a, k1, a + sn⟩
          have q2 := seen_snoc p ⟨r, a, k1, a + sn⟩
          simp only at q1 q2
          have tail : ∀ Z : Prop, Z → Z := fun _ h => h
          cases hq : behindI l fr b a
          all_goals
            rw [hq] at hb1
            first
              | (have hlk : lookE (a : Int) (ents fr b l 0) 0 = none := by simpa using hb1
                 simp -implicitDefEqProofs only [awp_draw _ _ Tryzdr32_1, awp_draw _ _ Tryzdr32_10, lt_true hlt2, opK_lk, lk_red ty94 ty3 ty3, lkB_map, find_enc, hlk, look_none, Aut.cells,
    evx, evy, ofValue, ofCell, List.range, List.range.loop, Array.size, Nat.reduceAdd, Nat.reduceSub, Nat.reduceEqDiff, List.replicate, if_true, if_false, ↓reduceIte, reduceCtorEq, elB, evParts, Int.reduceToNat, Int.reduceLE, Int.reduceLT, Int.reduceEq, Nat.reduceMul, Nat.reduceLeDiff, Nat.reduceLT, ty3, ty4, ty9, ty23, ty5, ty25, ty22, ty35, ty31, ty38, ty43, ty55, ty52, ty99, ty94])
              | (have hm0 : ¬ 0 < m := fun hm => hC ⟨hm, by rw [hq]; rfl⟩
                 simp only [Option.map_some, Nat.zero_add] at hb1
                 obtain ⟨⟨j, v⟩, hlk, hv⟩ := Option.map_eq_some_iff.1 hb1
                 simp only at hv
                 subst hv
                 have hmt : (0 < (m : Int)) = False := eq_false (by omega)
                 simp -implicitDefEqProofs only [awp_draw _ _ Tryzdr32_1, awp_draw _ _ Tryzdr32_10, lt_true hlt2, opK_lk, lk_red ty94 ty3 ty3, lkB_map, find_enc, hlk, look_some, hmt, Aut.cells,
    evx, evy, ofValue, ofCell, List.range, List.range.loop, Array.size, Nat.reduceAdd, Nat.reduceSub, Nat.reduceEqDiff, List.replicate, if_true, if_false, ↓reduceIte, reduceCtorEq, elB, evParts, Int.reduceToNat, Int.reduceLE, Int.reduceLT, Int.reduceEq, Nat.reduceMul, Nat.reduceLeDiff, Nat.reduceLT, ty3, ty4, ty9, ty23, ty5, ty25, ty22, ty35, ty31, ty38, ty43, ty55, ty52, ty99, ty94])
          all_goals
            refine callK_ret _ _ _ _ (call_pure (ho) (fun _ => rfl) (fun _ => rfl)) (ok_nil _ _) ?_
            by_cases hk0 : k1 = 0
            · subst hk0
              have hz0 := hme0 rfl
              rw [hz0] at h5 h6 h7
              simp only at h5 h6 h7
              rw [List.append_nil] at h5
              rw [h5, h6, h7, if_pos rfl]
              simp -implicitDefEqProofs only [awp_draw _ _ Tryzdr32_1, awp_draw _ _ Tryzdr32_10, stB_boxA, splice_all, List.all_cons, List.all_nil, Bool.and_self,
    evx, evy, ofValue, ofCell, List.range, List.range.loop, Array.size, Nat.reduceAdd, Nat.reduceSub, Nat.reduceEqDiff, List.replicate, if_true, if_false, ↓reduceIte, reduceCtorEq, elB, evParts, Int.reduceToNat, Int.reduceLE, Int.reduceLT, Int.reduceEq, Nat.reduceMul, Nat.reduceLeDiff, Nat.reduceLT, ty3, ty4, ty9, ty23, ty5, ty25, ty22, ty35, ty31, ty38, ty43, ty55, ty52, ty99, ty94]
              exact le_two3 rfl rfl (by simp) (by simp)
            · have hz1 := hme1 hk0
              rw [hz1] at h5 h6 h7
              simp only at h5 h6 h7
              rw [if_neg hk0]
              simp -implicitDefEqProofs only [awp_draw _ _ Tryzdr32_1, awp_draw _ _ Tryzdr32_10, stB_boxA, splice_all, List.all_cons, List.all_nil, Bool.and_self, bsE_tok, List.length_map, le_true (Nat.le_refl p.length), wsum a k1 (by omega), wsucc m (by omega),
    evx, evy, ofValue, ofCell, List.range, List.range.loop, Array.size, Nat.reduceAdd, Nat.reduceSub, Nat.reduceEqDiff, List.replicate, if_true, if_false, ↓reduceIte, reduceCtorEq, elB, evParts, Int.reduceToNat, Int.reduceLE, Int.reduceLT, Int.reduceEq, Nat.reduceMul, Nat.reduceLeDiff, Nat.reduceLT, ty3, ty4, ty9, ty23, ty5, ty25, ty22, ty35, ty31, ty38, ty43, ty55, ty52, ty99, ty94]
              refine ⟨by omega, by omega, ?_⟩
              refine back_intro hst2 (p ++ [⟨r, a, k1, a + sn⟩], a + k1, m + 1) (le_pk [0, 1, 2, 3, 10, 12, 6, 7] rfl (by simp) (by simp) ?_ ?_) ⟨by simp only; omega, by simp only [List.length_append, List.length_cons, List.length_nil]; omega, by simp only; omega, ?_⟩ (by simp only; omega)
              · simp only [List.map_cons, List.map_nil, List.getD_cons_zero, List.getD_cons_succ, sub_enc]
                simp [subBlk, subAny, subA, subL, mkSub, idx, Aut.cells, tk1, tk2, ← q1, ← q2]
              · simp [wk, subAny, subA, mkSub, idx]
              · simp only [h5, h6, h7, List.append_assoc, List.cons_append, List.nil_append]
      · obtain rfl : a = t.length := by omega
        rw [List.drop_length, Aut.editF_nil] at h5 h6 h7
        simp only at h5 h6 h7
        rw [List.append_nil] at h5
        rw [h5, h6, h7]
        simp -implicitDefEqProofs only [awp_draw _ _ Tryzdr32_1, awp_draw _ _ Tryzdr32_10, lt_false hlt2, stB_boxA, splice_all, List.all_cons, List.all_nil, Bool.and_self,
    evx, evy, ofValue, ofCell, List.range, List.range.loop, Array.size, Nat.reduceAdd, Nat.reduceSub, Nat.reduceEqDiff, List.replicate, if_true, if_false, ↓reduceIte, reduceCtorEq, elB, evParts, Int.reduceToNat, Int.reduceLE, Int.reduceLT, Int.reduceEq, Nat.reduceMul, Nat.reduceLeDiff, Nat.reduceLT, ty3, ty4, ty9, ty23, ty5, ty25, ty22, ty35, ty31, ty38, ty43, ty55, ty52, ty99, ty94]
        exact le_two3 rfl rfl (by simp) (by simp)
end Go.Abs
