/- The law RelexIdle as a contract. -/
import Derived.Test.YtlifmaooikhhoaaGreatDoorTyTryzx
import Derived.Test.YtlifmaooikhhoaaGreatDoorDrTryzx
import Derived.Test.YtlifmaooikhhoaaGreatDoorLyIx
namespace Go.Abs
open Go.Proofs
set_option linter.unusedVariables false
set_option linter.unusedSimpArgs false
set_option maxRecDepth 100000
set_option maxHeartbeats 8000000
theorem wu16 {k : Int} (h : (Lit.int .u16 k).wf = true) : ∃ n : Nat, n < 65536 ∧ k = n := by
  have h1 : 0 ≤ k ∧ k ≤ 65535 := by simpa [Lit.wf, IntKind.min, IntKind.max, IntKind.bits, IntKind.signed] using h
  exact ⟨k.toNat, by omega, by omega⟩
theorem lawRelexIdle (d : Aut) (s : Bs) (a b : Int) (ha : (Lit.int .u16 a).wf = true) (hb : (Lit.int .u16 b).wf = true) : Ok Tryz.prog 12 [d.av, .fv (.str s), .agg [.fv (.int .u16 a), .fv (.int .u16 b)]] [] (.ret (.fv (.bool true))) [] := by
  obtain ⟨a, ha, rfl⟩ := wu16 ha
  obtain ⟨b, hb, rfl⟩ := wu16 hb
  have hh := ok28 d s ⟨0, 0, []⟩
  refine ok_start (k := 68) (n0 := 0) (rs := [.tmp 6]) mix Tryz.func12 rfl rfl rfl rfl rfl rfl rfl ?_
  simp -implicitDefEqProofs only [awp_draw _ _ Tryzdr12_9, Aut.av,
    evx, evy, ofValue, ofCell, List.range, List.range.loop, Array.size, Nat.reduceAdd, Nat.reduceSub, Nat.reduceEqDiff, List.replicate, if_true, if_false, ↓reduceIte, reduceCtorEq, elB, evParts, Int.reduceToNat, Int.reduceLE, Int.reduceLT, Int.reduceEq, Nat.reduceMul, Nat.reduceLeDiff, Nat.reduceLT, ty3, ty4, ty9, ty23, ty22, ty25, ty5, ty74, ty75, ty35, ty31, ty47, ty38, ty43, ty55, ty52, ty60]
  refine callK_ret _ _ _ _ (call_pure (okWakes23) (fun _ => rfl) (fun _ => rfl)) (ok_nil _ _) ?_
  simp -implicitDefEqProofs only [awp_draw _ _ Tryzdr12_9,
    evx, evy, ofValue, ofCell, List.range, List.range.loop, Array.size, Nat.reduceAdd, Nat.reduceSub, Nat.reduceEqDiff, List.replicate, if_true, if_false, ↓reduceIte, reduceCtorEq, elB, evParts, Int.reduceToNat, Int.reduceLE, Int.reduceLT, Int.reduceEq, Nat.reduceMul, Nat.reduceLeDiff, Nat.reduceLT, ty3, ty4, ty9, ty23, ty22, ty25, ty5, ty74, ty75, ty35, ty31, ty47, ty38, ty43, ty55, ty52, ty60]
  cases hv : heavyB d s ⟨0, 0, []⟩ with
  | true =>
    rw [hv] at hh
    refine callK_ret _ _ _ _ (call_pure hh (fun _ => rfl) (fun _ => rfl)) (by kernel_rfl) ?_
    simp -implicitDefEqProofs only [awp_draw _ _ Tryzdr12_9,
    evx, evy, ofValue, ofCell, List.range, List.range.loop, Array.size, Nat.reduceAdd, Nat.reduceSub, Nat.reduceEqDiff, List.replicate, if_true, if_false, ↓reduceIte, reduceCtorEq, elB, evParts, Int.reduceToNat, Int.reduceLE, Int.reduceLT, Int.reduceEq, Nat.reduceMul, Nat.reduceLeDiff, Nat.reduceLT, ty3, ty4, ty9, ty23, ty22, ty25, ty5, ty74, ty75, ty35, ty31, ty47, ty38, ty43, ty55, ty52, ty60]
    exact le_flat rfl
  | false =>
    rw [hv] at hh
    unfold heavyB at hv
    simp only [Bool.or_eq_false_iff, decide_eq_false_iff_not] at hv
    obtain ⟨hv1, _, hv2⟩ := hv
    have hr := ok14 d (by omega)
    refine callK_ret _ _ _ _ (call_pure hh (fun _ => rfl) (fun _ => rfl)) (by kernel_rfl) ?_
    simp -implicitDefEqProofs only [awp_draw _ _ Tryzdr12_9,
    evx, evy, ofValue, ofCell, List.range, List.range.loop, Array.size, Nat.reduceAdd, Nat.reduceSub, Nat.reduceEqDiff, List.replicate, if_true, if_false, ↓reduceIte, reduceCtorEq, elB, evParts, Int.reduceToNat, Int.reduceLE, Int.reduceLT, Int.reduceEq, Nat.reduceMul, Nat.reduceLeDiff, Nat.reduceLT, ty3, ty4, ty9, ty23, ty22, ty25, ty5, ty74, ty75, ty35, ty31, ty47, ty38, ty43, ty55, ty52, ty60]
    cases hd : d.rightB with
    | false =>
      rw [hd] at hr
      refine callK_ret _ _ _ _ (call_pure (hr) (fun _ => rfl) (fun _ => rfl)) (ok_nil _ _) ?_
      simp -implicitDefEqProofs only [awp_draw _ _ Tryzdr12_9,
    evx, evy, ofValue, ofCell, List.range, List.range.loop, Array.size, Nat.reduceAdd, Nat.reduceSub, Nat.reduceEqDiff, List.replicate, if_true, if_false, ↓reduceIte, reduceCtorEq, elB, evParts, Int.reduceToNat, Int.reduceLE, Int.reduceLT, Int.reduceEq, Nat.reduceMul, Nat.reduceLeDiff, Nat.reduceLT, ty3, ty4, ty9, ty23, ty22, ty25, ty5, ty74, ty75, ty35, ty31, ty47, ty38, ty43, ty55, ty52, ty60]
      exact le_flat rfl
    | true =>
      rw [hd] at hr
      have hlen : (d.all s).1.length ≤ s.length := by
        have e2 : d.all s = d.allF s 0 := by unfold Aut.all; rw [if_pos hd]
        rw [e2]
        exact Aut.allF_len s 0
      have hws := wsucc s.length (by omega)
      have hsz : (((s.length + 1 : Nat) : Int) = 0) = False := eq_false (by omega)
      have wa : IntKind.wrap .i64 (a : Int) = (a : Int) := wrap_small (by omega) (by omega)
      have wb : IntKind.wrap .i64 (b : Int) = (b : Int) := wrap_small (by omega) (by omega)
      have ma : (a : Int).tmod ((s.length + 1 : Nat) : Int) = ((a % (s.length + 1) : Nat) : Int) := (Int.ofNat_tmod a (s.length + 1)).symm
      have hfl : a % (s.length + 1) < s.length + 1 := Nat.mod_lt _ (by omega)
      generalize a % (s.length + 1) = x at ma hfl
      have w1 : IntKind.wrap .i64 ((s.length : Int) - (x : Int)) = ((s.length - x : Nat) : Int) := by rw [wrap_small (by omega) (by omega)]; omega
      have w2 := wsucc (s.length - x) (by omega)
      have hsz2 : (((s.length - x + 1 : Nat) : Int) = 0) = False := eq_false (by omega)
      have mb : (b : Int).tmod ((s.length - x + 1 : Nat) : Int) = ((b % (s.length - x + 1) : Nat) : Int) := (Int.ofNat_tmod b (s.length - x + 1)).symm
      have hfl2 : b % (s.length - x + 1) < s.length - x + 1 := Nat.mod_lt _ (by omega)
      generalize b % (s.length - x + 1) = y at mb hfl2
      have w3 := wsum x y (by omega)
      have w4 : IntKind.wrap .i64 (((x + y : Nat) : Int) - (x : Int)) = (y : Int) := by rw [wrap_small (by omega) (by omega)]; omega
      have p1 : (x ≤ x + y) = True := eq_true (by omega)
      have p2 : (x + y ≤ s.length) = True := eq_true (by omega)
      have htx : (s.take (x + y)).drop x = (s.drop x).take y := by rw [List.drop_take]; congr 1; omega
      have htl : ((s.drop x).take y).length ≤ 100 := by rw [List.length_take, List.length_drop]; omega
      have hfit : (⟨x, y, (s.drop x).take y⟩ : Edt).fitsB s = true := Edt.fits_iff.2 ⟨by simp only; omega, by simp only; omega, by simp only; omega, by simp only; omega⟩
      have hdone : (⟨x, y, (s.drop x).take y⟩ : Edt).done s = s := idle_done hfit (by simp)
      have hnf : (⟨x, y, (s.drop x).take y⟩ : Edt).fullB s = false := by
        unfold Edt.fullB
        rw [decide_eq_false (by simp only; omega), decide_eq_false (by simp only; omega)]
        rfl
      have hap : applyE s ⟨x, y, (s.drop x).take y⟩ = (s, 0) := by rw [applyE_ok hfit hnf, hdone]
      have hcut := ok31 d (by omega) s (by omega)
      have he := ok32 d (by omega) s (by omega) (knw (d.all s)) (by simp only [knw, List.length_map]; omega) (by simp only [knw, List.length_map]; omega) ⟨x, y, (s.drop x).take y⟩ (by simp only; omega)
      have ho : d.editO s (knw (d.all s)) ⟨x, y, (s.drop x).take y⟩ = (d.all s, ((d.editR (d.allF s 0) s s ⟨x, y, (s.drop x).take y⟩).2 : Int), 0) := by
        unfold Aut.editO
        rw [if_pos ⟨hd, rfl⟩]
        unfold Aut.editM
        rw [hap, if_pos rfl, hdone]
        have e1 := Aut.edit_eq (d := d) hfit
        rw [hdone] at e1
        rw [e1]
        have e2 : d.all s = d.allF s 0 := by unfold Aut.all; rw [if_pos hd]
        rw [e2]
        rfl
      rw [ho, ← lexed_knw] at he
      generalize ((d.editR (d.allF s 0) s s ⟨x, y, (s.drop x).take y⟩).2 : Int) = n at he
      have hlx := ok30 (knw (d.all s))
      have hsm := ok29 (knw (d.all s)) (knw (d.all s)) (by simp only [knw, List.length_map]; omega) (by simp only [knw, List.length_map]; omega) (by simp only [knw, List.length_map]; omega) (by simp only [knw, List.length_map]; omega)
      rw [decide_eq_true rfl] at hsm
      rw [← lexed_knw] at hlx hsm
      simp only [lexedA] at hcut he hlx hsm
      generalize (d.all s).1.map tokRow = A at hcut he hlx hsm
      generalize (d.all s).1.map seenRow = B at hcut he hlx hsm
      generalize (d.all s).2 = C at hcut he hlx hsm
      refine callK_ret _ _ _ _ (call_pure (hr) (fun _ => rfl) (fun _ => rfl)) (ok_nil _ _) ?_
      simp -implicitDefEqProofs only [awp_draw _ _ Tryzdr12_9, wa, hws, bin_rem, hsz, ma, w1, w2, wb, hsz2, mb, w3,
    evx, evy, ofValue, ofCell, List.range, List.range.loop, Array.size, Nat.reduceAdd, Nat.reduceSub, Nat.reduceEqDiff, List.replicate, if_true, if_false, ↓reduceIte, reduceCtorEq, elB, evParts, Int.reduceToNat, Int.reduceLE, Int.reduceLT, Int.reduceEq, Nat.reduceMul, Nat.reduceLeDiff, Nat.reduceLT, ty3, ty4, ty9, ty23, ty22, ty25, ty5, ty74, ty75, ty35, ty31, ty47, ty38, ty43, ty55, ty52, ty60]
      refine ⟨by omega, by omega, ?_⟩
      refine callK_ret _ _ _ _ (call_pure (hcut) (fun _ => rfl) (fun _ => rfl)) (ok_nil _ _) ?_
      simp -implicitDefEqProofs only [awp_draw _ _ Tryzdr12_9, stB_boxA, splice_all, List.all_cons, List.all_nil, Bool.and_self,
    evx, evy, ofValue, ofCell, List.range, List.range.loop, Array.size, Nat.reduceAdd, Nat.reduceSub, Nat.reduceEqDiff, List.replicate, if_true, if_false, ↓reduceIte, reduceCtorEq, elB, evParts, Int.reduceToNat, Int.reduceLE, Int.reduceLT, Int.reduceEq, Nat.reduceMul, Nat.reduceLeDiff, Nat.reduceLT, ty3, ty4, ty9, ty23, ty22, ty25, ty5, ty74, ty75, ty35, ty31, ty47, ty38, ty43, ty55, ty52, ty60]
      refine awp_forks5 (t := .fork [(0, true), (1, true), (2, true), (3, true), (4, true), (5, true), (6, true), (7, true), (8, true), (9, true), (10, true)] 11 (.fork [] 12 (.lin [(13, true), (14, true), (15, true), (16, true), (17, false), (18, false), (19, true), (20, true)]) 17 (.lin [(12, false), (13, true), (14, true), (15, true), (16, true), (18, false), (19, true), (20, true)])) 17 (.lin [(11, false), (12, false), (13, true), (14, true), (15, true), (16, true), (18, false), (19, true), (20, true)])) (by kernel_rfl) (by kernel_rfl) (by kernel_rfl)
        ⟨[.any, .any, .any, .any, .any, .any, .any, .any, .any, .ptr 2 0 0 0, .ptr 3 0 0 0, .any, .fv (.int .i64 0), .any, .any, .any, .any, .any, .any, .any, .any, .any, .any, .any, .any, .any, .any, .any, .any, .any, .any, .any, .any, .any, .any, .any, .any, .any, .any, .any, .any, .any, .any, .any, .any, .any, .any, .any, .any, .any, .any, .any, .any, .any, .any, .any, .any, .any, .any, .any, .any, .any, .any, .any, .any, .any, .any, .any, .any, .any, .any],
          [.box d.cells, .box [.fv (.int .u16 a), .fv (.int .u16 b)], .box [.fv (.lst 3 A), .fv (.lst 1 B), .fv (.int .i64 C)], .box [.fv (.lst 3 A), .fv (.lst 1 B), .fv (.int .i64 C)]], []⟩ ?_ ?_
      · simp only [ord5G]
        simp -implicitDefEqProofs only [awp_draw _ _ Tryzdr12_9, w4, p1, p2, htx,
    evx, evy, ofValue, ofCell, List.range, List.range.loop, Array.size, Nat.reduceAdd, Nat.reduceSub, Nat.reduceEqDiff, List.replicate, if_true, if_false, ↓reduceIte, reduceCtorEq, elB, evParts, Int.reduceToNat, Int.reduceLE, Int.reduceLT, Int.reduceEq, Nat.reduceMul, Nat.reduceLeDiff, Nat.reduceLT, ty3, ty4, ty9, ty23, ty22, ty25, ty5, ty74, ty75, ty35, ty31, ty47, ty38, ty43, ty55, ty52, ty60]
        try simp only [onN]
        intro hs hk
        refine ⟨?_, ?_⟩
        · try simp -implicitDefEqProofs only [awp_draw _ _ Tryzdr12_9,
    evx, evy, ofValue, ofCell, List.range, List.range.loop, Array.size, Nat.reduceAdd, Nat.reduceSub, Nat.reduceEqDiff, List.replicate, if_true, if_false, ↓reduceIte, reduceCtorEq, elB, evParts, Int.reduceToNat, Int.reduceLE, Int.reduceLT, Int.reduceEq, Nat.reduceMul, Nat.reduceLeDiff, Nat.reduceLT, ty3, ty4, ty9, ty23, ty22, ty25, ty5, ty74, ty75, ty35, ty31, ty47, ty38, ty43, ty55, ty52, ty60]
          try simp only [onN, ord5G]
          try simp -implicitDefEqProofs only [awp_draw _ _ Tryzdr12_9,
    evx, evy, ofValue, ofCell, List.range, List.range.loop, Array.size, Nat.reduceAdd, Nat.reduceSub, Nat.reduceEqDiff, List.replicate, if_true, if_false, ↓reduceIte, reduceCtorEq, elB, evParts, Int.reduceToNat, Int.reduceLE, Int.reduceLT, Int.reduceEq, Nat.reduceMul, Nat.reduceLeDiff, Nat.reduceLT, ty3, ty4, ty9, ty23, ty22, ty25, ty5, ty74, ty75, ty35, ty31, ty47, ty38, ty43, ty55, ty52, ty60]
          intro hs2 hk2
          refine ⟨?_, ?_⟩
          · try simp -implicitDefEqProofs only [awp_draw _ _ Tryzdr12_9,
    evx, evy, ofValue, ofCell, List.range, List.range.loop, Array.size, Nat.reduceAdd, Nat.reduceSub, Nat.reduceEqDiff, List.replicate, if_true, if_false, ↓reduceIte, reduceCtorEq, elB, evParts, Int.reduceToNat, Int.reduceLE, Int.reduceLT, Int.reduceEq, Nat.reduceMul, Nat.reduceLeDiff, Nat.reduceLT, ty3, ty4, ty9, ty23, ty22, ty25, ty5, ty74, ty75, ty35, ty31, ty47, ty38, ty43, ty55, ty52, ty60]
            refine callK_ret _ _ _ _ (call_pure he (fun _ => rfl) (fun _ => rfl)) (ok_nil _ _) ?_
            simp -implicitDefEqProofs only [awp_draw _ _ Tryzdr12_9,
    evx, evy, ofValue, ofCell, List.range, List.range.loop, Array.size, Nat.reduceAdd, Nat.reduceSub, Nat.reduceEqDiff, List.replicate, if_true, if_false, ↓reduceIte, reduceCtorEq, elB, evParts, Int.reduceToNat, Int.reduceLE, Int.reduceLT, Int.reduceEq, Nat.reduceMul, Nat.reduceLeDiff, Nat.reduceLT, ty3, ty4, ty9, ty23, ty22, ty25, ty5, ty74, ty75, ty35, ty31, ty47, ty38, ty43, ty55, ty52, ty60]
            try simp only [onN, ord5G]
            simp -implicitDefEqProofs only [awp_draw _ _ Tryzdr12_9, stB_boxA, splice_all, List.all_cons, List.all_nil, Bool.and_self,
    evx, evy, ofValue, ofCell, List.range, List.range.loop, Array.size, Nat.reduceAdd, Nat.reduceSub, Nat.reduceEqDiff, List.replicate, if_true, if_false, ↓reduceIte, reduceCtorEq, elB, evParts, Int.reduceToNat, Int.reduceLE, Int.reduceLT, Int.reduceEq, Nat.reduceMul, Nat.reduceLeDiff, Nat.reduceLT, ty3, ty4, ty9, ty23, ty22, ty25, ty5, ty74, ty75, ty35, ty31, ty47, ty38, ty43, ty55, ty52, ty60]
            refine ⟨heldIn_ok (heldIn_drop (heldIn_drop hk2 _) _) (by kernel_rfl) _, ?_⟩
            exact le_wk (by simp [wk, Aut.cells])
          · try simp -implicitDefEqProofs only [awp_draw _ _ Tryzdr12_9,
    evx, evy, ofValue, ofCell, List.range, List.range.loop, Array.size, Nat.reduceAdd, Nat.reduceSub, Nat.reduceEqDiff, List.replicate, if_true, if_false, ↓reduceIte, reduceCtorEq, elB, evParts, Int.reduceToNat, Int.reduceLE, Int.reduceLT, Int.reduceEq, Nat.reduceMul, Nat.reduceLeDiff, Nat.reduceLT, ty3, ty4, ty9, ty23, ty22, ty25, ty5, ty74, ty75, ty35, ty31, ty47, ty38, ty43, ty55, ty52, ty60]
            try simp only [onN, ord5G]
            try simp -implicitDefEqProofs only [awp_draw _ _ Tryzdr12_9,
    evx, evy, ofValue, ofCell, List.range, List.range.loop, Array.size, Nat.reduceAdd, Nat.reduceSub, Nat.reduceEqDiff, List.replicate, if_true, if_false, ↓reduceIte, reduceCtorEq, elB, evParts, Int.reduceToNat, Int.reduceLE, Int.reduceLT, Int.reduceEq, Nat.reduceMul, Nat.reduceLeDiff, Nat.reduceLT, ty3, ty4, ty9, ty23, ty22, ty25, ty5, ty74, ty75, ty35, ty31, ty47, ty38, ty43, ty55, ty52, ty60]
            refine callK_ret _ _ _ _ (call_pure he (fun _ => rfl) (fun _ => rfl)) (ok_nil _ _) ?_
            simp -implicitDefEqProofs only [awp_draw _ _ Tryzdr12_9, stB_boxA, splice_all, List.all_cons, List.all_nil, Bool.and_self,
    evx, evy, ofValue, ofCell, List.range, List.range.loop, Array.size, Nat.reduceAdd, Nat.reduceSub, Nat.reduceEqDiff, List.replicate, if_true, if_false, ↓reduceIte, reduceCtorEq, elB, evParts, Int.reduceToNat, Int.reduceLE, Int.reduceLT, Int.reduceEq, Nat.reduceMul, Nat.reduceLeDiff, Nat.reduceLT, ty3, ty4, ty9, ty23, ty22, ty25, ty5, ty74, ty75, ty35, ty31, ty47, ty38, ty43, ty55, ty52, ty60]
            refine ⟨heldIn_ok (heldIn_drop (heldIn_drop hk2 _) _) (by kernel_rfl) _, ?_⟩
            exact le_wk (by simp [wk, Aut.cells])
        · try simp -implicitDefEqProofs only [awp_draw _ _ Tryzdr12_9,
    evx, evy, ofValue, ofCell, List.range, List.range.loop, Array.size, Nat.reduceAdd, Nat.reduceSub, Nat.reduceEqDiff, List.replicate, if_true, if_false, ↓reduceIte, reduceCtorEq, elB, evParts, Int.reduceToNat, Int.reduceLE, Int.reduceLT, Int.reduceEq, Nat.reduceMul, Nat.reduceLeDiff, Nat.reduceLT, ty3, ty4, ty9, ty23, ty22, ty25, ty5, ty74, ty75, ty35, ty31, ty47, ty38, ty43, ty55, ty52, ty60]
          try simp only [onN, ord5G]
          try simp -implicitDefEqProofs only [awp_draw _ _ Tryzdr12_9,
    evx, evy, ofValue, ofCell, List.range, List.range.loop, Array.size, Nat.reduceAdd, Nat.reduceSub, Nat.reduceEqDiff, List.replicate, if_true, if_false, ↓reduceIte, reduceCtorEq, elB, evParts, Int.reduceToNat, Int.reduceLE, Int.reduceLT, Int.reduceEq, Nat.reduceMul, Nat.reduceLeDiff, Nat.reduceLT, ty3, ty4, ty9, ty23, ty22, ty25, ty5, ty74, ty75, ty35, ty31, ty47, ty38, ty43, ty55, ty52, ty60]
          refine callK_ret _ _ _ _ (call_pure he (fun _ => rfl) (fun _ => rfl)) (ok_nil _ _) ?_
          simp -implicitDefEqProofs only [awp_draw _ _ Tryzdr12_9, stB_boxA, splice_all, List.all_cons, List.all_nil, Bool.and_self,
    evx, evy, ofValue, ofCell, List.range, List.range.loop, Array.size, Nat.reduceAdd, Nat.reduceSub, Nat.reduceEqDiff, List.replicate, if_true, if_false, ↓reduceIte, reduceCtorEq, elB, evParts, Int.reduceToNat, Int.reduceLE, Int.reduceLT, Int.reduceEq, Nat.reduceMul, Nat.reduceLeDiff, Nat.reduceLT, ty3, ty4, ty9, ty23, ty22, ty25, ty5, ty74, ty75, ty35, ty31, ty47, ty38, ty43, ty55, ty52, ty60]
          refine ⟨heldIn_ok (heldIn_drop (heldIn_drop (heldIn_drop hk _) _) _) (by kernel_rfl) _, ?_⟩
          exact le_wk (by simp [wk, Aut.cells])
      · simp -implicitDefEqProofs only [awp_draw _ _ Tryzdr12_9,
    evx, evy, ofValue, ofCell, List.range, List.range.loop, Array.size, Nat.reduceAdd, Nat.reduceSub, Nat.reduceEqDiff, List.replicate, if_true, if_false, ↓reduceIte, reduceCtorEq, elB, evParts, Int.reduceToNat, Int.reduceLE, Int.reduceLT, Int.reduceEq, Nat.reduceMul, Nat.reduceLeDiff, Nat.reduceLT, ty3, ty4, ty9, ty23, ty22, ty25, ty5, ty74, ty75, ty35, ty31, ty47, ty38, ty43, ty55, ty52, ty60]
        refine callK_ret _ _ _ _ (call_pure hlx (fun _ => rfl) (fun _ => rfl)) (by kernel_rfl) ?_
        simp -implicitDefEqProofs only [awp_draw _ _ Tryzdr12_9,
    evx, evy, ofValue, ofCell, List.range, List.range.loop, Array.size, Nat.reduceAdd, Nat.reduceSub, Nat.reduceEqDiff, List.replicate, if_true, if_false, ↓reduceIte, reduceCtorEq, elB, evParts, Int.reduceToNat, Int.reduceLE, Int.reduceLT, Int.reduceEq, Nat.reduceMul, Nat.reduceLeDiff, Nat.reduceLT, ty3, ty4, ty9, ty23, ty22, ty25, ty5, ty74, ty75, ty35, ty31, ty47, ty38, ty43, ty55, ty52, ty60]
        refine callK_ret _ _ _ _ (call_pure hlx (fun _ => rfl) (fun _ => rfl)) (by kernel_rfl) ?_
        simp -implicitDefEqProofs only [awp_draw _ _ Tryzdr12_9,
    evx, evy, ofValue, ofCell, List.range, List.range.loop, Array.size, Nat.reduceAdd, Nat.reduceSub, Nat.reduceEqDiff, List.replicate, if_true, if_false, ↓reduceIte, reduceCtorEq, elB, evParts, Int.reduceToNat, Int.reduceLE, Int.reduceLT, Int.reduceEq, Nat.reduceMul, Nat.reduceLeDiff, Nat.reduceLT, ty3, ty4, ty9, ty23, ty22, ty25, ty5, ty74, ty75, ty35, ty31, ty47, ty38, ty43, ty55, ty52, ty60]
        refine callK_ret _ _ _ _ (call_pure hsm (fun _ => rfl) (fun _ => rfl)) (by kernel_rfl) ?_
        simp -implicitDefEqProofs only [awp_draw _ _ Tryzdr12_9,
    evx, evy, ofValue, ofCell, List.range, List.range.loop, Array.size, Nat.reduceAdd, Nat.reduceSub, Nat.reduceEqDiff, List.replicate, if_true, if_false, ↓reduceIte, reduceCtorEq, elB, evParts, Int.reduceToNat, Int.reduceLE, Int.reduceLT, Int.reduceEq, Nat.reduceMul, Nat.reduceLeDiff, Nat.reduceLT, ty3, ty4, ty9, ty23, ty22, ty25, ty5, ty74, ty75, ty35, ty31, ty47, ty38, ty43, ty55, ty52, ty60]
        exact le_flat rfl
end Go.Abs
