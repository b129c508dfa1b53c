/- The law RelexTwice as a contract. -/
import Derived.Test.YtlifmaooikhhoaaGreatDoorTyTryzx
import Derived.Test.YtlifmaooikhhoaaGreatDoorDrTryzx
import Derived.Test.YtlifmaooikhhoaaGreatDoorLyKx
import Derived.Test.YtlifmaooikhhoaaGreatDoorAbsScope
namespace Go.Abs
open Go.Proofs
set_option linter.unusedVariables false
set_option linter.unusedSimpArgs false
set_option maxRecDepth 100000
set_option maxHeartbeats 8000000
theorem heavy_no {d : Aut} {s : Bs} {e : Edt} (h : heavyB d s e = false) : s.length ≤ 100 ∧ e.text.length ≤ 100 ∧ d.next.length ≤ 60 := by
  unfold heavyB at h
  simp only [Bool.or_eq_false_iff, decide_eq_false_iff_not] at h
  omega
theorem all_len (d : Aut) (s : Bs) : (d.all s).1.length ≤ s.length := by
  unfold Aut.all
  split
  · exact Aut.allF_len s 0
  · simp
theorem lawRelexTwice (d : Aut) (s : Bs) (a b : Edt) : Ok Tryz.prog 10 [d.av, .fv (.str s), .agg ((a.row ++ b.row).map .fv)] [] (.ret (.fv (.bool true))) [] := by
  have hha := ok28 d s a
  have hhb := ok28 d s b
  refine ok_start_hyb (k := 111) (n0 := 0) (rs := [.tmp 6]) Tryz.func10 rfl rfl rfl rfl rfl rfl rfl ?_
  refine Hyb.seqA mix ?_
  simp -implicitDefEqProofs only [awp_draw _ _ Tryzdr10_13, hybC_normal, hybC_ret, hybC_pan, Aut.av, Edt.row, List.map_cons, List.map_nil, List.cons_append, List.nil_append,
    evx, evy, ofValue, ofCell, List.range, List.range.loop, Array.size, Nat.reduceAdd, Nat.reduceSub, Nat.reduceEqDiff, List.replicate, if_true, if_false, ↓reduceIte, reduceCtorEq, elB, evParts, Int.reduceToNat, Int.reduceLE, Int.reduceLT, Int.reduceEq, Nat.reduceMul, Nat.reduceLeDiff, Nat.reduceLT, ty3, ty4, ty9, ty23, ty22, ty25, ty5, ty35, ty31, ty47, ty38, ty43, ty55, ty52, ty60, ty65, ty69, ty67]
  refine Hyb.seqA mix ?_
  simp -implicitDefEqProofs only [awp_draw _ _ Tryzdr10_13, hybC_normal, hybC_ret, hybC_pan,
    evx, evy, ofValue, ofCell, List.range, List.range.loop, Array.size, Nat.reduceAdd, Nat.reduceSub, Nat.reduceEqDiff, List.replicate, if_true, if_false, ↓reduceIte, reduceCtorEq, elB, evParts, Int.reduceToNat, Int.reduceLE, Int.reduceLT, Int.reduceEq, Nat.reduceMul, Nat.reduceLeDiff, Nat.reduceLT, ty3, ty4, ty9, ty23, ty22, ty25, ty5, ty35, ty31, ty47, ty38, ty43, ty55, ty52, ty60, ty65, ty69, ty67]
  refine callK_ret _ _ _ _ (call_pure (okWakes23) (fun _ => rfl) (fun _ => rfl)) (ok_nil _ _) ?_
  simp -implicitDefEqProofs only [awp_draw _ _ Tryzdr10_13, hybC_normal, hybC_ret, hybC_pan,
    evx, evy, ofValue, ofCell, List.range, List.range.loop, Array.size, Nat.reduceAdd, Nat.reduceSub, Nat.reduceEqDiff, List.replicate, if_true, if_false, ↓reduceIte, reduceCtorEq, elB, evParts, Int.reduceToNat, Int.reduceLE, Int.reduceLT, Int.reduceEq, Nat.reduceMul, Nat.reduceLeDiff, Nat.reduceLT, ty3, ty4, ty9, ty23, ty22, ty25, ty5, ty35, ty31, ty47, ty38, ty43, ty55, ty52, ty60, ty65, ty69, ty67]
  refine Hyb.seqA mix ?_
  simp -implicitDefEqProofs only [awp_draw _ _ Tryzdr10_13, hybC_normal, hybC_ret, hybC_pan,
    evx, evy, ofValue, ofCell, List.range, List.range.loop, Array.size, Nat.reduceAdd, Nat.reduceSub, Nat.reduceEqDiff, List.replicate, if_true, if_false, ↓reduceIte, reduceCtorEq, elB, evParts, Int.reduceToNat, Int.reduceLE, Int.reduceLT, Int.reduceEq, Nat.reduceMul, Nat.reduceLeDiff, Nat.reduceLT, ty3, ty4, ty9, ty23, ty22, ty25, ty5, ty35, ty31, ty47, ty38, ty43, ty55, ty52, ty60, ty65, ty69, ty67]
  refine ⟨by omega, ?_⟩
  cases va : heavyB d s a with
  | true =>
    rw [va] at hha
    refine callK_ret _ _ _ _ (call_pure (hha) (fun _ => rfl) (fun _ => rfl)) (ok_nil _ _) ?_
    simp -implicitDefEqProofs only [awp_draw _ _ Tryzdr10_13, hybC_normal, hybC_ret, hybC_pan,
    evx, evy, ofValue, ofCell, List.range, List.range.loop, Array.size, Nat.reduceAdd, Nat.reduceSub, Nat.reduceEqDiff, List.replicate, if_true, if_false, ↓reduceIte, reduceCtorEq, elB, evParts, Int.reduceToNat, Int.reduceLE, Int.reduceLT, Int.reduceEq, Nat.reduceMul, Nat.reduceLeDiff, Nat.reduceLT, ty3, ty4, ty9, ty23, ty22, ty25, ty5, ty35, ty31, ty47, ty38, ty43, ty55, ty52, ty60, ty65, ty69, ty67]
    exact le_flat rfl
  | false =>
    rw [va] at hha
    refine callK_ret _ _ _ _ (call_pure (hha) (fun _ => rfl) (fun _ => rfl)) (ok_nil _ _) ?_
    simp -implicitDefEqProofs only [awp_draw _ _ Tryzdr10_13, hybC_normal, hybC_ret, hybC_pan,
    evx, evy, ofValue, ofCell, List.range, List.range.loop, Array.size, Nat.reduceAdd, Nat.reduceSub, Nat.reduceEqDiff, List.replicate, if_true, if_false, ↓reduceIte, reduceCtorEq, elB, evParts, Int.reduceToNat, Int.reduceLE, Int.reduceLT, Int.reduceEq, Nat.reduceMul, Nat.reduceLeDiff, Nat.reduceLT, ty3, ty4, ty9, ty23, ty22, ty25, ty5, ty35, ty31, ty47, ty38, ty43, ty55, ty52, ty60, ty65, ty69, ty67]
    refine ⟨by omega, ?_⟩
    cases vb : heavyB d s b with
    | true =>
      rw [vb] at hhb
      refine callK_ret _ _ _ _ (call_pure (hhb) (fun _ => rfl) (fun _ => rfl)) (ok_nil _ _) ?_
      simp -implicitDefEqProofs only [awp_draw _ _ Tryzdr10_13, hybC_normal, hybC_ret, hybC_pan,
    evx, evy, ofValue, ofCell, List.range, List.range.loop, Array.size, Nat.reduceAdd, Nat.reduceSub, Nat.reduceEqDiff, List.replicate, if_true, if_false, ↓reduceIte, reduceCtorEq, elB, evParts, Int.reduceToNat, Int.reduceLE, Int.reduceLT, Int.reduceEq, Nat.reduceMul, Nat.reduceLeDiff, Nat.reduceLT, ty3, ty4, ty9, ty23, ty22, ty25, ty5, ty35, ty31, ty47, ty38, ty43, ty55, ty52, ty60, ty65, ty69, ty67]
      exact le_flat rfl
    | false =>
      rw [vb] at hhb
      refine callK_ret _ _ _ _ (call_pure (hhb) (fun _ => rfl) (fun _ => rfl)) (ok_nil _ _) ?_
      simp -implicitDefEqProofs only [awp_draw _ _ Tryzdr10_13, hybC_normal, hybC_ret, hybC_pan,
    evx, evy, ofValue, ofCell, List.range, List.range.loop, Array.size, Nat.reduceAdd, Nat.reduceSub, Nat.reduceEqDiff, List.replicate, if_true, if_false, ↓reduceIte, reduceCtorEq, elB, evParts, Int.reduceToNat, Int.reduceLE, Int.reduceLT, Int.reduceEq, Nat.reduceMul, Nat.reduceLeDiff, Nat.reduceLT, ty3, ty4, ty9, ty23, ty22, ty25, ty5, ty35, ty31, ty47, ty38, ty43, ty55, ty52, ty60, ty65, ty69, ty67]
      obtain ⟨ls, la, ln⟩ := heavy_no va
      obtain ⟨_, lb, _⟩ := heavy_no vb
      have hr := ok14 d (by omega)
      cases hd : d.rightB with
      | false =>
        rw [hd] at hr
        refine callK_ret _ _ _ _ (call_pure (hr) (fun _ => rfl) (fun _ => rfl)) (ok_nil _ _) ?_
        simp -implicitDefEqProofs only [awp_draw _ _ Tryzdr10_13, hybC_normal, hybC_ret, hybC_pan,
    evx, evy, ofValue, ofCell, List.range, List.range.loop, Array.size, Nat.reduceAdd, Nat.reduceSub, Nat.reduceEqDiff, List.replicate, if_true, if_false, ↓reduceIte, reduceCtorEq, elB, evParts, Int.reduceToNat, Int.reduceLE, Int.reduceLT, Int.reduceEq, Nat.reduceMul, Nat.reduceLeDiff, Nat.reduceLT, ty3, ty4, ty9, ty23, ty22, ty25, ty5, ty35, ty31, ty47, ty38, ty43, ty55, ty52, ty60, ty65, ty69, ty67]
        exact le_flat rfl
      | true =>
        rw [hd] at hr
        refine callK_ret _ _ _ _ (call_pure (hr) (fun _ => rfl) (fun _ => rfl)) (ok_nil _ _) ?_
        simp -implicitDefEqProofs only [awp_draw _ _ Tryzdr10_13, hybC_normal, hybC_ret, hybC_pan,
    evx, evy, ofValue, ofCell, List.range, List.range.loop, Array.size, Nat.reduceAdd, Nat.reduceSub, Nat.reduceEqDiff, List.replicate, if_true, if_false, ↓reduceIte, reduceCtorEq, elB, evParts, Int.reduceToNat, Int.reduceLE, Int.reduceLT, Int.reduceEq, Nat.reduceMul, Nat.reduceLeDiff, Nat.reduceLT, ty3, ty4, ty9, ty23, ty22, ty25, ty5, ty35, ty31, ty47, ty38, ty43, ty55, ty52, ty60, ty65, ty69, ty67]
        refine Hyb.seqH (Hyb.region ?_)
        refine HOps.appN (l2 := [1, 2, 3, 4]) [0] ?_
        simp -implicitDefEqProofs only [awp_draw _ _ Tryzdr10_13, hopC_normal, hopC_pan,
    evx, evy, ofValue, ofCell, List.range, List.range.loop, Array.size, Nat.reduceAdd, Nat.reduceSub, Nat.reduceEqDiff, List.replicate, if_true, if_false, ↓reduceIte, reduceCtorEq, elB, evParts, Int.reduceToNat, Int.reduceLE, Int.reduceLT, Int.reduceEq, Nat.reduceMul, Nat.reduceLeDiff, Nat.reduceLT, ty3, ty4, ty9, ty23, ty22, ty25, ty5, ty35, ty31, ty47, ty38, ty43, ty55, ty52, ty60, ty65, ty69, ty67]
        refine HOps.arr (dst := some 40) rfl rfl rfl rfl ty65 rfl ty52 rfl rfl rfl (by decide) (by simp) ?_
        refine HOps.of_nxt ?_
        have hpl := ok34 s (by omega) a b (by omega) (by omega)
        simp -implicitDefEqProofs only [awp_draw _ _ Tryzdr10_13, hybC_normal, hybC_ret, hybC_pan,
    evx, evy, ofValue, ofCell, List.range, List.range.loop, Array.size, Nat.reduceAdd, Nat.reduceSub, Nat.reduceEqDiff, List.replicate, if_true, if_false, ↓reduceIte, reduceCtorEq, elB, evParts, Int.reduceToNat, Int.reduceLE, Int.reduceLT, Int.reduceEq, Nat.reduceMul, Nat.reduceLeDiff, Nat.reduceLT, ty3, ty4, ty9, ty23, ty22, ty25, ty5, ty35, ty31, ty47, ty38, ty43, ty55, ty52, ty60, ty65, ty69, ty67]
        refine callK_ret _ _ _ _ (call_deep hpl rfl rfl) (ok_nil _ _) ?_
        unfold playE
        by_cases x0 : (applyE s a).2 = 0
        · rw [if_pos x0]
          obtain ⟨fa, na, ea⟩ := applyE_inv x0
          have lt := Edt.done_length fa
          obtain ⟨_, ta1, _, ta3⟩ := Edt.fits_iff.1 fa
          obtain ⟨t, ht⟩ : ∃ t, a.done s = t := ⟨_, rfl⟩
          rw [ht] at lt ea
          rw [ea]
          simp only
          by_cases y0 : (applyE t b).2 = 0
          · rw [if_pos y0]
            obtain ⟨fb, nb, eb⟩ := applyE_inv y0
            have lq := Edt.done_length fb
            obtain ⟨_, tb1, _, tb3⟩ := Edt.fits_iff.1 fb
            obtain ⟨bf, bd⟩ := back_done fb
            obtain ⟨q, hq⟩ : ∃ q, b.done t = q := ⟨_, rfl⟩
            rw [hq] at lq eb bf bd
            rw [eb]
            have lbk : (backE t b).text.length ≤ t.length := by
              simp only [backE, List.length_take, List.length_drop]
              omega
            have bn : (backE t b).fullB q = false := by
              unfold Edt.fullB
              rw [decide_eq_false (by omega), decide_eq_false (by show ¬ (4000 : Int) < (q.length : Int) - (b.text.length : Int) + ((backE t b).text.length : Int); omega)]
              rfl
            have hls := all_len d s
            have hlt := all_len d t
            have hlq := all_len d q
            have hap := ok35 s (by omega) a (by omega)
            rw [ea] at hap
            have hcut := ok31 d (by omega) s (by omega)
            have hall := ok21 d (by omega) q (by omega)
            have hbk := ok36 t (by omega) b (by omega) fb
            have he1 := ok32 d (by omega) s (by omega) (knw (d.all s)) (by simp only [knw, List.length_map]; omega) (by simp only [knw, List.length_map]; omega) a (by omega)
            rw [editO_all hd fa na, ht, ← lexed_knw] at he1
            generalize ((d.editR (d.allF s 0) s t a).2 : Int) = n1 at he1
            have he2 := ok32 d (by omega) t (by omega) (knw (d.all t)) (by simp only [knw, List.length_map]; omega) (by simp only [knw, List.length_map]; omega) b (by omega)
            rw [editO_all hd fb nb, hq, ← lexed_knw] at he2
            generalize ((d.editR (d.allF t 0) t q b).2 : Int) = n2 at he2
            have he3 := ok32 d (by omega) q (by omega) (knw (d.all q)) (by simp only [knw, List.length_map]; omega) (by simp only [knw, List.length_map]; omega) (backE t b) (by omega)
            rw [editO_all hd bf bn, bd, ← lexed_knw] at he3
            generalize ((d.editR (d.allF q 0) q t (backE t b)).2 : Int) = n3 at he3
            have hlxq := ok30 (knw (d.all q))
            have hsmq := ok29 (knw (d.all q)) (knw (d.all q)) (by simp only [knw, List.length_map]; omega) (by simp only [knw, List.length_map]; omega) (by simp only [knw, List.length_map]; omega) (by simp only [knw, List.length_map]; omega)
            have hlxt := ok30 (knw (d.all t))
            have hsmt := ok29 (knw (d.all t)) (knw (d.all t)) (by simp only [knw, List.length_map]; omega) (by simp only [knw, List.length_map]; omega) (by simp only [knw, List.length_map]; omega) (by simp only [knw, List.length_map]; omega)
            rw [decide_eq_true rfl] at hsmq hsmt
            rw [← lexed_knw] at hlxq hsmq hlxt hsmt
            simp only [lexedA] at hcut hall he1 he2 he3 hlxq hsmq hlxt hsmt
            obtain ⟨ba, bl, bt, hbe⟩ : ∃ ba bl bt, (backE t b).av = .agg [.fv (.int .i64 ba), .fv (.int .i64 bl), .fv (.str bt)] := ⟨_, _, _, rfl⟩
            rw [hbe] at hbk he3
            generalize (d.all s).1.map tokRow = A1 at hcut he1
            generalize (d.all s).1.map seenRow = B1 at hcut he1
            generalize (d.all s).2 = C1 at hcut he1
            generalize (d.all t).1.map tokRow = A2 at he1 he2 he3 hlxt hsmt
            generalize (d.all t).1.map seenRow = B2 at he1 he2 he3 hlxt hsmt
            generalize (d.all t).2 = C2 at he1 he2 he3 hlxt hsmt
            generalize (d.all q).1.map tokRow = A3 at he2 he3 hall hlxq hsmq
            generalize (d.all q).1.map seenRow = B3 at he2 he3 hall hlxq hsmq
            generalize (d.all q).2 = C3 at he2 he3 hall hlxq hsmq
            simp -implicitDefEqProofs only [awp_draw _ _ Tryzdr10_13, hybC_normal, hybC_ret, hybC_pan, stB_boxA, splice_all, List.all_cons, List.all_nil, Bool.and_self,
    evx, evy, ofValue, ofCell, List.range, List.range.loop, Array.size, Nat.reduceAdd, Nat.reduceSub, Nat.reduceEqDiff, List.replicate, if_true, if_false, ↓reduceIte, reduceCtorEq, elB, evParts, Int.reduceToNat, Int.reduceLE, Int.reduceLT, Int.reduceEq, Nat.reduceMul, Nat.reduceLeDiff, Nat.reduceLT, ty3, ty4, ty9, ty23, ty22, ty25, ty5, ty35, ty31, ty47, ty38, ty43, ty55, ty52, ty60, ty65, ty69, ty67]
            refine Hyb.of_awp mix ?_
            simp -implicitDefEqProofs only [awp_draw _ _ Tryzdr10_13,
    evx, evy, ofValue, ofCell, List.range, List.range.loop, Array.size, Nat.reduceAdd, Nat.reduceSub, Nat.reduceEqDiff, List.replicate, if_true, if_false, ↓reduceIte, reduceCtorEq, elB, evParts, Int.reduceToNat, Int.reduceLE, Int.reduceLT, Int.reduceEq, Nat.reduceMul, Nat.reduceLeDiff, Nat.reduceLT, ty3, ty4, ty9, ty23, ty22, ty25, ty5, ty35, ty31, ty47, ty38, ty43, ty55, ty52, ty60, ty65, ty69, ty67]
            refine ⟨by omega, ?_⟩
            refine callK_ret _ _ _ _ (call_pure (hap) (fun _ => rfl) (fun _ => rfl)) (ok_nil _ _) ?_
            simp -implicitDefEqProofs only [awp_draw _ _ Tryzdr10_13,
    evx, evy, ofValue, ofCell, List.range, List.range.loop, Array.size, Nat.reduceAdd, Nat.reduceSub, Nat.reduceEqDiff, List.replicate, if_true, if_false, ↓reduceIte, reduceCtorEq, elB, evParts, Int.reduceToNat, Int.reduceLE, Int.reduceLT, Int.reduceEq, Nat.reduceMul, Nat.reduceLeDiff, Nat.reduceLT, ty3, ty4, ty9, ty23, ty22, ty25, ty5, ty35, ty31, ty47, ty38, ty43, ty55, ty52, ty60, ty65, ty69, ty67]
            refine callK_ret _ _ _ _ (call_pure (hcut) (fun _ => rfl) (fun _ => rfl)) (ok_nil _ _) ?_
            simp -implicitDefEqProofs only [awp_draw _ _ Tryzdr10_13, stB_boxA, splice_all, List.all_cons, List.all_nil, Bool.and_self,
    evx, evy, ofValue, ofCell, List.range, List.range.loop, Array.size, Nat.reduceAdd, Nat.reduceSub, Nat.reduceEqDiff, List.replicate, if_true, if_false, ↓reduceIte, reduceCtorEq, elB, evParts, Int.reduceToNat, Int.reduceLE, Int.reduceLT, Int.reduceEq, Nat.reduceMul, Nat.reduceLeDiff, Nat.reduceLT, ty3, ty4, ty9, ty23, ty22, ty25, ty5, ty35, ty31, ty47, ty38, ty43, ty55, ty52, ty60, ty65, ty69, ty67]
            refine ⟨by omega, ?_⟩
            refine callK_ret _ _ _ _ (call_pure (he1) (fun _ => rfl) (fun _ => rfl)) (ok_nil _ _) ?_
            simp -implicitDefEqProofs only [awp_draw _ _ Tryzdr10_13, stB_boxA, splice_all, List.all_cons, List.all_nil, Bool.and_self,
    evx, evy, ofValue, ofCell, List.range, List.range.loop, Array.size, Nat.reduceAdd, Nat.reduceSub, Nat.reduceEqDiff, List.replicate, if_true, if_false, ↓reduceIte, reduceCtorEq, elB, evParts, Int.reduceToNat, Int.reduceLE, Int.reduceLT, Int.reduceEq, Nat.reduceMul, Nat.reduceLeDiff, Nat.reduceLT, ty3, ty4, ty9, ty23, ty22, ty25, ty5, ty35, ty31, ty47, ty38, ty43, ty55, ty52, ty60, ty65, ty69, ty67]
            refine ⟨by omega, ?_⟩
            refine callK_ret _ _ _ _ (call_pure (he2) (fun _ => rfl) (fun _ => rfl)) (ok_nil _ _) ?_
            simp -implicitDefEqProofs only [awp_draw _ _ Tryzdr10_13, stB_boxA, splice_all, List.all_cons, List.all_nil, Bool.and_self,
    evx, evy, ofValue, ofCell, List.range, List.range.loop, Array.size, Nat.reduceAdd, Nat.reduceSub, Nat.reduceEqDiff, List.replicate, if_true, if_false, ↓reduceIte, reduceCtorEq, elB, evParts, Int.reduceToNat, Int.reduceLE, Int.reduceLT, Int.reduceEq, Nat.reduceMul, Nat.reduceLeDiff, Nat.reduceLT, ty3, ty4, ty9, ty23, ty22, ty25, ty5, ty35, ty31, ty47, ty38, ty43, ty55, ty52, ty60, ty65, ty69, ty67]
            refine awp_forks5 (t := .fork [(0, true), (1, true), (2, true), (3, true), (4, true), (5, true), (6, true)] 7 (.fork [] 8 (.lin [(9, true), (10, true), (11, true), (12, true), (13, false), (14, false), (15, true), (16, true)]) 13 (.lin [(8, false), (9, true), (10, true), (11, true), (12, true), (14, false), (15, true), (16, true)])) 13 (.lin [(7, false), (8, false), (9, true), (10, true), (11, true), (12, true), (14, false), (15, true), (16, true)])) (by kernel_rfl) (by kernel_rfl) (by kernel_rfl)
              ⟨[.any, .any, .any, .ptr 0 0 0 0, .any, .any, .any, .ptr 2 0 0 0, .any, .any, .any, .ptr 4 0 0 0, .any, .fv (.int .i64 0), .ptr 5 0 0 0, .any, .fv (.int .i64 0), .ptr 6 0 0 0, .any, .fv (.int .i64 0), .any, .any, .any, .any, .any, .any, .any, .any, .any, .any, .any, .any, .any, .any, .any, .any, .any, .any, .any, .any, .any, .any, .any, .any, .any, .any, .any, .any, .any, .any, .any, .any, .any, .any, .any, .any, .any, .any, .any, .any, .any, .any, .any, .any, .any, .any, .any, .any, .any, .any, .any, .any, .any, .any, .any, .any, .any, .any, .any, .any, .any, .any, .any, .any, .any, .any, .any, .any, .any, .any, .any, .any, .any, .any, .any, .any, .any, .any, .any, .any, .any, .any, .any, .any, .any, .any, .any, .any, .any, .any, .any, .any, .any, .any],
                [.box d.cells, .box [.fv (.int .i64 a.at_), .fv (.int .i64 a.len), .fv (.str a.text), .fv (.int .i64 b.at_), .fv (.int .i64 b.len), .fv (.str b.text)], .box [.fv (.str q), .fv (.int .i64 2), .fv (.int .i64 0)],
                  .box [.fv (.lst 3 A1), .fv (.lst 1 B1), .fv (.int .i64 C1)], .box [.fv (.lst 3 A2), .fv (.lst 1 B2), .fv (.int .i64 C2)], .box [.fv (.lst 3 A3), .fv (.lst 1 B3), .fv (.int .i64 C3)], .box [.fv (.lst 3 A2), .fv (.lst 1 B2), .fv (.int .i64 C2)]], []⟩ ?_ ?_
            · simp only [ord5G]
              simp -implicitDefEqProofs only [awp_draw _ _ Tryzdr10_13,
    evx, evy, ofValue, ofCell, List.range, List.range.loop, Array.size, Nat.reduceAdd, Nat.reduceSub, Nat.reduceEqDiff, List.replicate, if_true, if_false, ↓reduceIte, reduceCtorEq, elB, evParts, Int.reduceToNat, Int.reduceLE, Int.reduceLT, Int.reduceEq, Nat.reduceMul, Nat.reduceLeDiff, Nat.reduceLT, ty3, ty4, ty9, ty23, ty22, ty25, ty5, ty35, ty31, ty47, ty38, ty43, ty55, ty52, ty60, ty65, ty69, ty67]
              refine ⟨by omega, ?_⟩
              try simp only [onN]
              intro hs hk
              refine ⟨?_, ?_⟩
              · try simp -implicitDefEqProofs only [awp_draw _ _ Tryzdr10_13,
    evx, evy, ofValue, ofCell, List.range, List.range.loop, Array.size, Nat.reduceAdd, Nat.reduceSub, Nat.reduceEqDiff, List.replicate, if_true, if_false, ↓reduceIte, reduceCtorEq, elB, evParts, Int.reduceToNat, Int.reduceLE, Int.reduceLT, Int.reduceEq, Nat.reduceMul, Nat.reduceLeDiff, Nat.reduceLT, ty3, ty4, ty9, ty23, ty22, ty25, ty5, ty35, ty31, ty47, ty38, ty43, ty55, ty52, ty60, ty65, ty69, ty67]
                refine callK_ret _ _ _ _ (call_pure hbk (fun _ => rfl) (fun _ => rfl)) (by first | exact ok_nil _ _ | kernel_rfl) ?_
                simp -implicitDefEqProofs only [awp_draw _ _ Tryzdr10_13,
    evx, evy, ofValue, ofCell, List.range, List.range.loop, Array.size, Nat.reduceAdd, Nat.reduceSub, Nat.reduceEqDiff, List.replicate, if_true, if_false, ↓reduceIte, reduceCtorEq, elB, evParts, Int.reduceToNat, Int.reduceLE, Int.reduceLT, Int.reduceEq, Nat.reduceMul, Nat.reduceLeDiff, Nat.reduceLT, ty3, ty4, ty9, ty23, ty22, ty25, ty5, ty35, ty31, ty47, ty38, ty43, ty55, ty52, ty60, ty65, ty69, ty67]
                try simp only [onN, ord5G]
                try simp -implicitDefEqProofs only [awp_draw _ _ Tryzdr10_13,
    evx, evy, ofValue, ofCell, List.range, List.range.loop, Array.size, Nat.reduceAdd, Nat.reduceSub, Nat.reduceEqDiff, List.replicate, if_true, if_false, ↓reduceIte, reduceCtorEq, elB, evParts, Int.reduceToNat, Int.reduceLE, Int.reduceLT, Int.reduceEq, Nat.reduceMul, Nat.reduceLeDiff, Nat.reduceLT, ty3, ty4, ty9, ty23, ty22, ty25, ty5, ty35, ty31, ty47, ty38, ty43, ty55, ty52, ty60, ty65, ty69, ty67]
                try simp only [onN]
                intro hs2 hk2
                refine ⟨?_, ?_⟩
                · try simp -implicitDefEqProofs only [awp_draw _ _ Tryzdr10_13,
    evx, evy, ofValue, ofCell, List.range, List.range.loop, Array.size, Nat.reduceAdd, Nat.reduceSub, Nat.reduceEqDiff, List.replicate, if_true, if_false, ↓reduceIte, reduceCtorEq, elB, evParts, Int.reduceToNat, Int.reduceLE, Int.reduceLT, Int.reduceEq, Nat.reduceMul, Nat.reduceLeDiff, Nat.reduceLT, ty3, ty4, ty9, ty23, ty22, ty25, ty5, ty35, ty31, ty47, ty38, ty43, ty55, ty52, ty60, ty65, ty69, ty67]
                  refine callK_ret _ _ _ _ (call_pure he3 (fun _ => rfl) (fun _ => rfl)) (by first | exact ok_nil _ _ | kernel_rfl) ?_
                  simp -implicitDefEqProofs only [awp_draw _ _ Tryzdr10_13,
    evx, evy, ofValue, ofCell, List.range, List.range.loop, Array.size, Nat.reduceAdd, Nat.reduceSub, Nat.reduceEqDiff, List.replicate, if_true, if_false, ↓reduceIte, reduceCtorEq, elB, evParts, Int.reduceToNat, Int.reduceLE, Int.reduceLT, Int.reduceEq, Nat.reduceMul, Nat.reduceLeDiff, Nat.reduceLT, ty3, ty4, ty9, ty23, ty22, ty25, ty5, ty35, ty31, ty47, ty38, ty43, ty55, ty52, ty60, ty65, ty69, ty67]
                  try simp only [onN, ord5G]
                  simp -implicitDefEqProofs only [awp_draw _ _ Tryzdr10_13, stB_boxA, splice_all, List.all_cons, List.all_nil, Bool.and_self,
    evx, evy, ofValue, ofCell, List.range, List.range.loop, Array.size, Nat.reduceAdd, Nat.reduceSub, Nat.reduceEqDiff, List.replicate, if_true, if_false, ↓reduceIte, reduceCtorEq, elB, evParts, Int.reduceToNat, Int.reduceLE, Int.reduceLT, Int.reduceEq, Nat.reduceMul, Nat.reduceLeDiff, Nat.reduceLT, ty3, ty4, ty9, ty23, ty22, ty25, ty5, ty35, ty31, ty47, ty38, ty43, ty55, ty52, ty60, ty65, ty69, ty67]
                  refine ⟨heldIn_ok (heldIn_drop (heldIn_drop hk2 _) _) (by kernel_rfl) _, ?_⟩
                  exact le_wk (by simp [wk, Aut.cells])
                · try simp -implicitDefEqProofs only [awp_draw _ _ Tryzdr10_13,
    evx, evy, ofValue, ofCell, List.range, List.range.loop, Array.size, Nat.reduceAdd, Nat.reduceSub, Nat.reduceEqDiff, List.replicate, if_true, if_false, ↓reduceIte, reduceCtorEq, elB, evParts, Int.reduceToNat, Int.reduceLE, Int.reduceLT, Int.reduceEq, Nat.reduceMul, Nat.reduceLeDiff, Nat.reduceLT, ty3, ty4, ty9, ty23, ty22, ty25, ty5, ty35, ty31, ty47, ty38, ty43, ty55, ty52, ty60, ty65, ty69, ty67]
                  try simp only [onN, ord5G]
                  try simp -implicitDefEqProofs only [awp_draw _ _ Tryzdr10_13,
    evx, evy, ofValue, ofCell, List.range, List.range.loop, Array.size, Nat.reduceAdd, Nat.reduceSub, Nat.reduceEqDiff, List.replicate, if_true, if_false, ↓reduceIte, reduceCtorEq, elB, evParts, Int.reduceToNat, Int.reduceLE, Int.reduceLT, Int.reduceEq, Nat.reduceMul, Nat.reduceLeDiff, Nat.reduceLT, ty3, ty4, ty9, ty23, ty22, ty25, ty5, ty35, ty31, ty47, ty38, ty43, ty55, ty52, ty60, ty65, ty69, ty67]
                  refine callK_ret _ _ _ _ (call_pure he3 (fun _ => rfl) (fun _ => rfl)) (by first | exact ok_nil _ _ | kernel_rfl) ?_
                  simp -implicitDefEqProofs only [awp_draw _ _ Tryzdr10_13, stB_boxA, splice_all, List.all_cons, List.all_nil, Bool.and_self,
    evx, evy, ofValue, ofCell, List.range, List.range.loop, Array.size, Nat.reduceAdd, Nat.reduceSub, Nat.reduceEqDiff, List.replicate, if_true, if_false, ↓reduceIte, reduceCtorEq, elB, evParts, Int.reduceToNat, Int.reduceLE, Int.reduceLT, Int.reduceEq, Nat.reduceMul, Nat.reduceLeDiff, Nat.reduceLT, ty3, ty4, ty9, ty23, ty22, ty25, ty5, ty35, ty31, ty47, ty38, ty43, ty55, ty52, ty60, ty65, ty69, ty67]
                  refine ⟨heldIn_ok (heldIn_drop (heldIn_drop hk2 _) _) (by kernel_rfl) _, ?_⟩
                  exact le_wk (by simp [wk, Aut.cells])
              · try simp -implicitDefEqProofs only [awp_draw _ _ Tryzdr10_13,
    evx, evy, ofValue, ofCell, List.range, List.range.loop, Array.size, Nat.reduceAdd, Nat.reduceSub, Nat.reduceEqDiff, List.replicate, if_true, if_false, ↓reduceIte, reduceCtorEq, elB, evParts, Int.reduceToNat, Int.reduceLE, Int.reduceLT, Int.reduceEq, Nat.reduceMul, Nat.reduceLeDiff, Nat.reduceLT, ty3, ty4, ty9, ty23, ty22, ty25, ty5, ty35, ty31, ty47, ty38, ty43, ty55, ty52, ty60, ty65, ty69, ty67]
                try simp only [onN, ord5G]
                try simp -implicitDefEqProofs only [awp_draw _ _ Tryzdr10_13,
    evx, evy, ofValue, ofCell, List.range, List.range.loop, Array.size, Nat.reduceAdd, Nat.reduceSub, Nat.reduceEqDiff, List.replicate, if_true, if_false, ↓reduceIte, reduceCtorEq, elB, evParts, Int.reduceToNat, Int.reduceLE, Int.reduceLT, Int.reduceEq, Nat.reduceMul, Nat.reduceLeDiff, Nat.reduceLT, ty3, ty4, ty9, ty23, ty22, ty25, ty5, ty35, ty31, ty47, ty38, ty43, ty55, ty52, ty60, ty65, ty69, ty67]
                refine callK_ret _ _ _ _ (call_pure hbk (fun _ => rfl) (fun _ => rfl)) (by first | exact ok_nil _ _ | kernel_rfl) ?_
                simp -implicitDefEqProofs only [awp_draw _ _ Tryzdr10_13,
    evx, evy, ofValue, ofCell, List.range, List.range.loop, Array.size, Nat.reduceAdd, Nat.reduceSub, Nat.reduceEqDiff, List.replicate, if_true, if_false, ↓reduceIte, reduceCtorEq, elB, evParts, Int.reduceToNat, Int.reduceLE, Int.reduceLT, Int.reduceEq, Nat.reduceMul, Nat.reduceLeDiff, Nat.reduceLT, ty3, ty4, ty9, ty23, ty22, ty25, ty5, ty35, ty31, ty47, ty38, ty43, ty55, ty52, ty60, ty65, ty69, ty67]
                refine callK_ret _ _ _ _ (call_pure he3 (fun _ => rfl) (fun _ => rfl)) (by first | exact ok_nil _ _ | kernel_rfl) ?_
                simp -implicitDefEqProofs only [awp_draw _ _ Tryzdr10_13, stB_boxA, splice_all, List.all_cons, List.all_nil, Bool.and_self,
    evx, evy, ofValue, ofCell, List.range, List.range.loop, Array.size, Nat.reduceAdd, Nat.reduceSub, Nat.reduceEqDiff, List.replicate, if_true, if_false, ↓reduceIte, reduceCtorEq, elB, evParts, Int.reduceToNat, Int.reduceLE, Int.reduceLT, Int.reduceEq, Nat.reduceMul, Nat.reduceLeDiff, Nat.reduceLT, ty3, ty4, ty9, ty23, ty22, ty25, ty5, ty35, ty31, ty47, ty38, ty43, ty55, ty52, ty60, ty65, ty69, ty67]
                refine ⟨heldIn_ok (heldIn_drop (heldIn_drop (heldIn_drop hk _) _) _) (by kernel_rfl) _, ?_⟩
                exact le_wk (by simp [wk, Aut.cells])
            · simp -implicitDefEqProofs only [awp_draw _ _ Tryzdr10_13, Aut.cells,
    evx, evy, ofValue, ofCell, List.range, List.range.loop, Array.size, Nat.reduceAdd, Nat.reduceSub, Nat.reduceEqDiff, List.replicate, if_true, if_false, ↓reduceIte, reduceCtorEq, elB, evParts, Int.reduceToNat, Int.reduceLE, Int.reduceLT, Int.reduceEq, Nat.reduceMul, Nat.reduceLeDiff, Nat.reduceLT, ty3, ty4, ty9, ty23, ty22, ty25, ty5, ty35, ty31, ty47, ty38, ty43, ty55, ty52, ty60, ty65, ty69, ty67]
              refine callK_ret _ _ _ _ (call_pure hlxq (fun _ => rfl) (fun _ => rfl)) (by first | exact ok_nil _ _ | kernel_rfl) ?_
              simp -implicitDefEqProofs only [awp_draw _ _ Tryzdr10_13,
    evx, evy, ofValue, ofCell, List.range, List.range.loop, Array.size, Nat.reduceAdd, Nat.reduceSub, Nat.reduceEqDiff, List.replicate, if_true, if_false, ↓reduceIte, reduceCtorEq, elB, evParts, Int.reduceToNat, Int.reduceLE, Int.reduceLT, Int.reduceEq, Nat.reduceMul, Nat.reduceLeDiff, Nat.reduceLT, ty3, ty4, ty9, ty23, ty22, ty25, ty5, ty35, ty31, ty47, ty38, ty43, ty55, ty52, ty60, ty65, ty69, ty67]
              refine callK_ret _ _ _ _ (call_pure hall (fun _ => rfl) (fun _ => rfl)) (by first | exact ok_nil _ _ | kernel_rfl) ?_
              simp -implicitDefEqProofs only [awp_draw _ _ Tryzdr10_13,
    evx, evy, ofValue, ofCell, List.range, List.range.loop, Array.size, Nat.reduceAdd, Nat.reduceSub, Nat.reduceEqDiff, List.replicate, if_true, if_false, ↓reduceIte, reduceCtorEq, elB, evParts, Int.reduceToNat, Int.reduceLE, Int.reduceLT, Int.reduceEq, Nat.reduceMul, Nat.reduceLeDiff, Nat.reduceLT, ty3, ty4, ty9, ty23, ty22, ty25, ty5, ty35, ty31, ty47, ty38, ty43, ty55, ty52, ty60, ty65, ty69, ty67]
              refine callK_ret _ _ _ _ (call_pure hsmq (fun _ => rfl) (fun _ => rfl)) (by first | exact ok_nil _ _ | kernel_rfl) ?_
              simp -implicitDefEqProofs only [awp_draw _ _ Tryzdr10_13,
    evx, evy, ofValue, ofCell, List.range, List.range.loop, Array.size, Nat.reduceAdd, Nat.reduceSub, Nat.reduceEqDiff, List.replicate, if_true, if_false, ↓reduceIte, reduceCtorEq, elB, evParts, Int.reduceToNat, Int.reduceLE, Int.reduceLT, Int.reduceEq, Nat.reduceMul, Nat.reduceLeDiff, Nat.reduceLT, ty3, ty4, ty9, ty23, ty22, ty25, ty5, ty35, ty31, ty47, ty38, ty43, ty55, ty52, ty60, ty65, ty69, ty67]
              refine callK_ret _ _ _ _ (call_pure hlxt (fun _ => rfl) (fun _ => rfl)) (by first | exact ok_nil _ _ | kernel_rfl) ?_
              simp -implicitDefEqProofs only [awp_draw _ _ Tryzdr10_13,
    evx, evy, ofValue, ofCell, List.range, List.range.loop, Array.size, Nat.reduceAdd, Nat.reduceSub, Nat.reduceEqDiff, List.replicate, if_true, if_false, ↓reduceIte, reduceCtorEq, elB, evParts, Int.reduceToNat, Int.reduceLE, Int.reduceLT, Int.reduceEq, Nat.reduceMul, Nat.reduceLeDiff, Nat.reduceLT, ty3, ty4, ty9, ty23, ty22, ty25, ty5, ty35, ty31, ty47, ty38, ty43, ty55, ty52, ty60, ty65, ty69, ty67]
              refine callK_ret _ _ _ _ (call_pure hlxt (fun _ => rfl) (fun _ => rfl)) (by first | exact ok_nil _ _ | kernel_rfl) ?_
              simp -implicitDefEqProofs only [awp_draw _ _ Tryzdr10_13,
    evx, evy, ofValue, ofCell, List.range, List.range.loop, Array.size, Nat.reduceAdd, Nat.reduceSub, Nat.reduceEqDiff, List.replicate, if_true, if_false, ↓reduceIte, reduceCtorEq, elB, evParts, Int.reduceToNat, Int.reduceLE, Int.reduceLT, Int.reduceEq, Nat.reduceMul, Nat.reduceLeDiff, Nat.reduceLT, ty3, ty4, ty9, ty23, ty22, ty25, ty5, ty35, ty31, ty47, ty38, ty43, ty55, ty52, ty60, ty65, ty69, ty67]
              refine callK_ret _ _ _ _ (call_pure hsmt (fun _ => rfl) (fun _ => rfl)) (by first | exact ok_nil _ _ | kernel_rfl) ?_
              simp -implicitDefEqProofs only [awp_draw _ _ Tryzdr10_13,
    evx, evy, ofValue, ofCell, List.range, List.range.loop, Array.size, Nat.reduceAdd, Nat.reduceSub, Nat.reduceEqDiff, List.replicate, if_true, if_false, ↓reduceIte, reduceCtorEq, elB, evParts, Int.reduceToNat, Int.reduceLE, Int.reduceLT, Int.reduceEq, Nat.reduceMul, Nat.reduceLeDiff, Nat.reduceLT, ty3, ty4, ty9, ty23, ty22, ty25, ty5, ty35, ty31, ty47, ty38, ty43, ty55, ty52, ty60, ty65, ty69, ty67]
              exact le_flat rfl
          · rw [if_neg y0]
            have y0t := eq_false y0
            simp -implicitDefEqProofs only [awp_draw _ _ Tryzdr10_13, hybC_normal, hybC_ret, hybC_pan, stB_boxA, splice_all, List.all_cons, List.all_nil, Bool.and_self,
    evx, evy, ofValue, ofCell, List.range, List.range.loop, Array.size, Nat.reduceAdd, Nat.reduceSub, Nat.reduceEqDiff, List.replicate, if_true, if_false, ↓reduceIte, reduceCtorEq, elB, evParts, Int.reduceToNat, Int.reduceLE, Int.reduceLT, Int.reduceEq, Nat.reduceMul, Nat.reduceLeDiff, Nat.reduceLT, ty3, ty4, ty9, ty23, ty22, ty25, ty5, ty35, ty31, ty47, ty38, ty43, ty55, ty52, ty60, ty65, ty69, ty67]
            refine Hyb.of_awp mix ?_
            simp -implicitDefEqProofs only [awp_draw _ _ Tryzdr10_13, y0t,
    evx, evy, ofValue, ofCell, List.range, List.range.loop, Array.size, Nat.reduceAdd, Nat.reduceSub, Nat.reduceEqDiff, List.replicate, if_true, if_false, ↓reduceIte, reduceCtorEq, elB, evParts, Int.reduceToNat, Int.reduceLE, Int.reduceLT, Int.reduceEq, Nat.reduceMul, Nat.reduceLeDiff, Nat.reduceLT, ty3, ty4, ty9, ty23, ty22, ty25, ty5, ty35, ty31, ty47, ty38, ty43, ty55, ty52, ty60, ty65, ty69, ty67]
            exact le_flat rfl
        · rw [if_neg x0]
          have x0t := eq_false x0
          simp -implicitDefEqProofs only [awp_draw _ _ Tryzdr10_13, hybC_normal, hybC_ret, hybC_pan, stB_boxA, splice_all, List.all_cons, List.all_nil, Bool.and_self,
    evx, evy, ofValue, ofCell, List.range, List.range.loop, Array.size, Nat.reduceAdd, Nat.reduceSub, Nat.reduceEqDiff, List.replicate, if_true, if_false, ↓reduceIte, reduceCtorEq, elB, evParts, Int.reduceToNat, Int.reduceLE, Int.reduceLT, Int.reduceEq, Nat.reduceMul, Nat.reduceLeDiff, Nat.reduceLT, ty3, ty4, ty9, ty23, ty22, ty25, ty5, ty35, ty31, ty47, ty38, ty43, ty55, ty52, ty60, ty65, ty69, ty67]
          refine Hyb.of_awp mix ?_
          simp -implicitDefEqProofs only [awp_draw _ _ Tryzdr10_13, x0t,
    evx, evy, ofValue, ofCell, List.range, List.range.loop, Array.size, Nat.reduceAdd, Nat.reduceSub, Nat.reduceEqDiff, List.replicate, if_true, if_false, ↓reduceIte, reduceCtorEq, elB, evParts, Int.reduceToNat, Int.reduceLE, Int.reduceLT, Int.reduceEq, Nat.reduceMul, Nat.reduceLeDiff, Nat.reduceLT, ty3, ty4, ty9, ty23, ty22, ty25, ty5, ty35, ty31, ty47, ty38, ty43, ty55, ty52, ty60, ty65, ty69, ty67]
          exact le_flat rfl
end Go.Abs
