/- The laws RelexEdits, RelexFew as contracts. -/
import Derived.Test.YtlifmaooikhhoaaGreatDoorTyTryzx
import Derived.Test.YtlifmaooikhhoaaGreatDoorDrTryzx
import Derived.Test.YtlifmaooikhhoaaGreatDoorLyHx
import Derived.Test.YtlifmaooikhhoaaGreatDoorAbsTree
namespace Go.Abs
open Go.Proofs
set_option linter.unusedVariables false
set_option linter.unusedSimpArgs false
set_option maxRecDepth 100000
set_option maxHeartbeats 8000000
theorem editO_err (d : Aut) (s : Bs) (k : Knw) (e : Edt) (h : (d.editO s k e).2.2 ≠ 0) : (d.editO s k e).1 = ([], 0) ∧ (d.editO s k e).2.1 = 0 := by
  unfold Aut.editO at h ⊢
  split at h
  · rename_i hc
    rw [if_pos hc]
    unfold Aut.editM at h ⊢
    split at h
    · exact absurd rfl h
    · rename_i h0
      rw [if_neg h0]
      exact ⟨rfl, rfl⟩
  · rename_i hc
    rw [if_neg hc]
    exact ⟨rfl, rfl⟩
theorem editO_ok (d : Aut) (s : Bs) (e : Edt) (h : (d.editO s (knw (d.all s)) e).2.2 = 0) : d.rightB = true ∧ (applyE s e).2 = 0 ∧ e.fitsB s = true ∧ d.editO s (knw (d.all s)) e = ((d.editR (d.allF s 0) s (e.done s) e).1, ((d.editR (d.allF s 0) s (e.done s) e).2 : Int), 0) := by
  unfold Aut.editO at h ⊢
  split at h
  · rename_i hc
    rw [if_pos hc]
    unfold Aut.editM at h ⊢
    split at h
    · rename_i h0
      rw [if_pos h0]
      refine ⟨hc.1, h0, ?_, rfl⟩
      cases hq : e.fitsB s with
      | true => rfl
      | false => rw [applyE_no hq] at h0; cases h0
    · rename_i h0
      exact absurd h h0
  · cases h
theorem editR_len (d : Aut) (s : Bs) (e : Edt) (h : e.fitsB s = true) : (d.editR (d.allF s 0) s (e.done s) e).1.1.length ≤ (e.done s).length := by
  rw [Aut.edit_eq h]
  exact Aut.allF_len _ _
theorem lawRelexEdits (d : Aut) (s : Bs) (e : Edt) : Ok Tryz.prog 8 [d.av, .fv (.str s), e.av] [] (.ret (.fv (.bool true))) [] := by
  have hh := ok28 d s e
  refine ok_start (k := 83) (n0 := 0) (rs := [.tmp 6]) mix Tryz.func8 rfl rfl rfl rfl rfl rfl rfl ?_
  simp -implicitDefEqProofs only [awp_draw _ _ Tryzdr8_10, Aut.av, Edt.av,
    evx, evy, ofValue, ofCell, List.range, List.range.loop, Array.size, Nat.reduceAdd, Nat.reduceSub, Nat.reduceEqDiff, List.replicate, if_true, if_false, ↓reduceIte, reduceCtorEq, elB, evParts, Int.reduceToNat, Int.reduceLE, Int.reduceLT, Int.reduceEq, Nat.reduceMul, Nat.reduceLeDiff, Nat.reduceLT, ty3, ty4, ty9, ty23, ty22, ty25, ty5, ty35, ty31, ty47, ty38, ty43, ty127, ty82, ty77, ty55, ty52, ty60, ty63]
  refine callK_ret _ _ _ _ (call_pure (okWakes23) (fun _ => rfl) (fun _ => rfl)) (ok_nil _ _) ?_
  simp -implicitDefEqProofs only [awp_draw _ _ Tryzdr8_10,
    evx, evy, ofValue, ofCell, List.range, List.range.loop, Array.size, Nat.reduceAdd, Nat.reduceSub, Nat.reduceEqDiff, List.replicate, if_true, if_false, ↓reduceIte, reduceCtorEq, elB, evParts, Int.reduceToNat, Int.reduceLE, Int.reduceLT, Int.reduceEq, Nat.reduceMul, Nat.reduceLeDiff, Nat.reduceLT, ty3, ty4, ty9, ty23, ty22, ty25, ty5, ty35, ty31, ty47, ty38, ty43, ty127, ty82, ty77, ty55, ty52, ty60, ty63]
  cases hb : heavyB d s e with
  | true =>
    rw [hb] at hh
    refine callK_ret _ _ _ _ (call_pure (hh) (fun _ => rfl) (fun _ => rfl)) (ok_nil _ _) ?_
    simp -implicitDefEqProofs only [awp_draw _ _ Tryzdr8_10,
    evx, evy, ofValue, ofCell, List.range, List.range.loop, Array.size, Nat.reduceAdd, Nat.reduceSub, Nat.reduceEqDiff, List.replicate, if_true, if_false, ↓reduceIte, reduceCtorEq, elB, evParts, Int.reduceToNat, Int.reduceLE, Int.reduceLT, Int.reduceEq, Nat.reduceMul, Nat.reduceLeDiff, Nat.reduceLT, ty3, ty4, ty9, ty23, ty22, ty25, ty5, ty35, ty31, ty47, ty38, ty43, ty127, ty82, ty77, ty55, ty52, ty60, ty63]
    exact le_flat rfl
  | false =>
    rw [hb] at hh
    unfold heavyB at hb
    simp only [Bool.or_eq_false_iff, decide_eq_false_iff_not] at hb
    obtain ⟨hb1, hb3, hb2⟩ := hb
    have hlen : (d.all s).1.length ≤ s.length := by
      unfold Aut.all
      split
      · exact Aut.allF_len s 0
      · simp
    have hcut := ok31 d (by omega) s (by omega)
    have hall := ok21 d (by omega) s (by omega)
    have he1 := ok32 d (by omega) s (by omega) (knw (d.all s)) (by simp only [knw, List.length_map]; omega) (by simp only [knw, List.length_map]; omega) e (by omega)
    have he2 := ok33 d (by omega) s (by omega) (knw (d.all s)) (by simp only [knw, List.length_map]; omega) (by simp only [knw, List.length_map]; omega) e (by omega)
    have hlx := ok30 (knw (d.all s))
    have hsm := ok29 (knw (d.all s)) (knw (d.all s)) (by simp only [knw, List.length_map]; omega) (by simp only [knw, List.length_map]; omega) (by simp only [knw, List.length_map]; omega) (by simp only [knw, List.length_map]; omega)
    rw [decide_eq_true rfl] at hsm
    have herr := editO_err d s (knw (d.all s)) e
    have hol : (d.editO s (knw (d.all s)) e).1.1.length ≤ 1000 := by
      by_cases h0 : (d.editO s (knw (d.all s)) e).2.2 = 0
      · obtain ⟨_, _, h3, h4⟩ := editO_ok d s e h0
        rw [h4]
        have h5 := editR_len d s e h3
        have h6 := Edt.done_length h3
        have h7 := Edt.fits_iff.1 h3
        simp only
        omega
      · rw [(herr h0).1]; simp
    rw [← lexed_knw] at he1 he2 hlx hsm
    generalize d.editO s (knw (d.all s)) e = o at he1 he2 herr hol
    obtain ⟨⟨l, f⟩, n, er⟩ := o
    simp only at herr hol
    have hlx2 := ok30 (knw (l, f))
    have hsm2 := ok29 (knw (l, f)) (knw (l, f)) (by simp only [knw, List.length_map]; omega) (by simp only [knw, List.length_map]; omega) (by simp only [knw, List.length_map]; omega) (by simp only [knw, List.length_map]; omega)
    rw [decide_eq_true rfl] at hsm2
    rw [← lexed_knw] at hlx2 hsm2
    simp only [lexedA, editedA] at hcut hall he1 he2 hlx hsm hlx2 hsm2
    generalize (d.all s).1.map tokRow = A at hcut hall he1 he2 hlx hsm
    generalize (d.all s).1.map seenRow = B at hcut hall he1 he2 hlx hsm
    generalize (d.all s).2 = C at hcut hall he1 he2 hlx hsm
    refine callK_ret _ _ _ _ (call_pure (hh) (fun _ => rfl) (fun _ => rfl)) (ok_nil _ _) ?_
    simp -implicitDefEqProofs only [awp_draw _ _ Tryzdr8_10,
    evx, evy, ofValue, ofCell, List.range, List.range.loop, Array.size, Nat.reduceAdd, Nat.reduceSub, Nat.reduceEqDiff, List.replicate, if_true, if_false, ↓reduceIte, reduceCtorEq, elB, evParts, Int.reduceToNat, Int.reduceLE, Int.reduceLT, Int.reduceEq, Nat.reduceMul, Nat.reduceLeDiff, Nat.reduceLT, ty3, ty4, ty9, ty23, ty22, ty25, ty5, ty35, ty31, ty47, ty38, ty43, ty127, ty82, ty77, ty55, ty52, ty60, ty63]
    refine callK_ret _ _ _ _ (call_pure (hcut) (fun _ => rfl) (fun _ => rfl)) (ok_nil _ _) ?_
    simp -implicitDefEqProofs only [awp_draw _ _ Tryzdr8_10, stB_boxA, splice_all, List.all_cons, List.all_nil, Bool.and_self,
    evx, evy, ofValue, ofCell, List.range, List.range.loop, Array.size, Nat.reduceAdd, Nat.reduceSub, Nat.reduceEqDiff, List.replicate, if_true, if_false, ↓reduceIte, reduceCtorEq, elB, evParts, Int.reduceToNat, Int.reduceLE, Int.reduceLT, Int.reduceEq, Nat.reduceMul, Nat.reduceLeDiff, Nat.reduceLT, ty3, ty4, ty9, ty23, ty22, ty25, ty5, ty35, ty31, ty47, ty38, ty43, ty127, ty82, ty77, ty55, ty52, ty60, ty63]
    refine callK_ret _ _ _ _ (call_pure (he1) (fun _ => rfl) (fun _ => rfl)) (ok_nil _ _) ?_
    simp -implicitDefEqProofs only [awp_draw _ _ Tryzdr8_10, stB_boxA, splice_all, List.all_cons, List.all_nil, Bool.and_self,
    evx, evy, ofValue, ofCell, List.range, List.range.loop, Array.size, Nat.reduceAdd, Nat.reduceSub, Nat.reduceEqDiff, List.replicate, if_true, if_false, ↓reduceIte, reduceCtorEq, elB, evParts, Int.reduceToNat, Int.reduceLE, Int.reduceLT, Int.reduceEq, Nat.reduceMul, Nat.reduceLeDiff, Nat.reduceLT, ty3, ty4, ty9, ty23, ty22, ty25, ty5, ty35, ty31, ty47, ty38, ty43, ty127, ty82, ty77, ty55, ty52, ty60, ty63]
    refine awp_forks5 (t := .fork [(0, true), (1, true), (2, true), (3, true), (5, true)] 4 (.fork [] 6 (.lin [(7, false), (8, false)]) 7 (.lin [(6, false), (8, false)])) 7 (.lin [(4, false), (6, false), (8, false)])) (by kernel_rfl) (by kernel_rfl) (by kernel_rfl)
      ⟨[.any, .fv (.str s), .any, .ptr 0 0 0 0, .any, .any, .any, .ptr 2 0 0 0, .ptr 3 0 0 0, .fv (.int .i64 n), .fv (.int .i64 er), .ptr 4 0 0 0, .any, .any, .any, .any, .any, .any, .any, .any, .any, .any, .any, .any, .any, .any, .any, .any, .any, .any, .any, .any, .any, .any, .any, .any, .any, .any, .any, .any, .any, .any, .any, .any, .any, .any, .any, .any, .any, .any, .any, .any, .any, .any, .any, .any, .any, .any, .any, .any, .any, .any, .any, .any, .any, .any, .any, .any, .any, .any, .any, .any, .any, .any, .any, .any, .any, .any, .any, .any, .any, .any, .any, .any, .any, .any],
        [.box d.cells, .box [.fv (.int .i64 e.at_), .fv (.int .i64 e.len), .fv (.str e.text)], .box [.fv (.lst 3 A), .fv (.lst 1 B), .fv (.int .i64 C)], .box [.fv (.lst 3 (l.map tokRow)), .fv (.lst 1 (l.map seenRow)), .fv (.int .i64 f)],
          .box [.fv (.lst 3 (l.map tokRow)), .fv (.lst 1 (l.map seenRow)), .fv (.int .i64 f), .fv (.int .i64 n), .fv (.int .i64 er)]], []⟩ ?_ ?_
    · simp only [ord5G]
      simp -implicitDefEqProofs only [awp_draw _ _ Tryzdr8_10,
    evx, evy, ofValue, ofCell, List.range, List.range.loop, Array.size, Nat.reduceAdd, Nat.reduceSub, Nat.reduceEqDiff, List.replicate, if_true, if_false, ↓reduceIte, reduceCtorEq, elB, evParts, Int.reduceToNat, Int.reduceLE, Int.reduceLT, Int.reduceEq, Nat.reduceMul, Nat.reduceLeDiff, Nat.reduceLT, ty3, ty4, ty9, ty23, ty22, ty25, ty5, ty35, ty31, ty47, ty38, ty43, ty127, ty82, ty77, ty55, ty52, ty60, ty63]
      try simp only [onN]
      intro hs hk
      refine ⟨?_, ?_⟩
      · simp -implicitDefEqProofs only [awp_draw _ _ Tryzdr8_10,
    evx, evy, ofValue, ofCell, List.range, List.range.loop, Array.size, Nat.reduceAdd, Nat.reduceSub, Nat.reduceEqDiff, List.replicate, if_true, if_false, ↓reduceIte, reduceCtorEq, elB, evParts, Int.reduceToNat, Int.reduceLE, Int.reduceLT, Int.reduceEq, Nat.reduceMul, Nat.reduceLeDiff, Nat.reduceLT, ty3, ty4, ty9, ty23, ty22, ty25, ty5, ty35, ty31, ty47, ty38, ty43, ty127, ty82, ty77, ty55, ty52, ty60, ty63]
        refine callK_ret _ _ _ _ (call_pure hall (fun _ => rfl) (fun _ => rfl)) (ok_nil _ _) ?_
        simp -implicitDefEqProofs only [awp_draw _ _ Tryzdr8_10,
    evx, evy, ofValue, ofCell, List.range, List.range.loop, Array.size, Nat.reduceAdd, Nat.reduceSub, Nat.reduceEqDiff, List.replicate, if_true, if_false, ↓reduceIte, reduceCtorEq, elB, evParts, Int.reduceToNat, Int.reduceLE, Int.reduceLT, Int.reduceEq, Nat.reduceMul, Nat.reduceLeDiff, Nat.reduceLT, ty3, ty4, ty9, ty23, ty22, ty25, ty5, ty35, ty31, ty47, ty38, ty43, ty127, ty82, ty77, ty55, ty52, ty60, ty63]
        try simp only [onN, ord5G]
        try simp -implicitDefEqProofs only [awp_draw _ _ Tryzdr8_10,
    evx, evy, ofValue, ofCell, List.range, List.range.loop, Array.size, Nat.reduceAdd, Nat.reduceSub, Nat.reduceEqDiff, List.replicate, if_true, if_false, ↓reduceIte, reduceCtorEq, elB, evParts, Int.reduceToNat, Int.reduceLE, Int.reduceLT, Int.reduceEq, Nat.reduceMul, Nat.reduceLeDiff, Nat.reduceLT, ty3, ty4, ty9, ty23, ty22, ty25, ty5, ty35, ty31, ty47, ty38, ty43, ty127, ty82, ty77, ty55, ty52, ty60, ty63]
        try simp only [onN]
        intro hs2 hk2
        refine ⟨?_, ?_⟩
        · try simp -implicitDefEqProofs only [awp_draw _ _ Tryzdr8_10,
    evx, evy, ofValue, ofCell, List.range, List.range.loop, Array.size, Nat.reduceAdd, Nat.reduceSub, Nat.reduceEqDiff, List.replicate, if_true, if_false, ↓reduceIte, reduceCtorEq, elB, evParts, Int.reduceToNat, Int.reduceLE, Int.reduceLT, Int.reduceEq, Nat.reduceMul, Nat.reduceLeDiff, Nat.reduceLT, ty3, ty4, ty9, ty23, ty22, ty25, ty5, ty35, ty31, ty47, ty38, ty43, ty127, ty82, ty77, ty55, ty52, ty60, ty63]
          refine callK_ret _ _ _ _ (call_pure he2 (fun _ => rfl) (fun _ => rfl)) (ok_nil _ _) ?_
          simp -implicitDefEqProofs only [awp_draw _ _ Tryzdr8_10,
    evx, evy, ofValue, ofCell, List.range, List.range.loop, Array.size, Nat.reduceAdd, Nat.reduceSub, Nat.reduceEqDiff, List.replicate, if_true, if_false, ↓reduceIte, reduceCtorEq, elB, evParts, Int.reduceToNat, Int.reduceLE, Int.reduceLT, Int.reduceEq, Nat.reduceMul, Nat.reduceLeDiff, Nat.reduceLT, ty3, ty4, ty9, ty23, ty22, ty25, ty5, ty35, ty31, ty47, ty38, ty43, ty127, ty82, ty77, ty55, ty52, ty60, ty63]
          try simp only [onN, ord5G]
          simp -implicitDefEqProofs only [awp_draw _ _ Tryzdr8_10, stB_boxA, splice_all, List.all_cons, List.all_nil, Bool.and_self,
    evx, evy, ofValue, ofCell, List.range, List.range.loop, Array.size, Nat.reduceAdd, Nat.reduceSub, Nat.reduceEqDiff, List.replicate, if_true, if_false, ↓reduceIte, reduceCtorEq, elB, evParts, Int.reduceToNat, Int.reduceLE, Int.reduceLT, Int.reduceEq, Nat.reduceMul, Nat.reduceLeDiff, Nat.reduceLT, ty3, ty4, ty9, ty23, ty22, ty25, ty5, ty35, ty31, ty47, ty38, ty43, ty127, ty82, ty77, ty55, ty52, ty60, ty63]
          refine ⟨heldIn_ok (heldIn_drop (heldIn_drop hk2 _) _) (by kernel_rfl) _, ?_⟩
          exact le_wk (by simp [wk, Aut.cells])
        · try simp -implicitDefEqProofs only [awp_draw _ _ Tryzdr8_10,
    evx, evy, ofValue, ofCell, List.range, List.range.loop, Array.size, Nat.reduceAdd, Nat.reduceSub, Nat.reduceEqDiff, List.replicate, if_true, if_false, ↓reduceIte, reduceCtorEq, elB, evParts, Int.reduceToNat, Int.reduceLE, Int.reduceLT, Int.reduceEq, Nat.reduceMul, Nat.reduceLeDiff, Nat.reduceLT, ty3, ty4, ty9, ty23, ty22, ty25, ty5, ty35, ty31, ty47, ty38, ty43, ty127, ty82, ty77, ty55, ty52, ty60, ty63]
          try simp only [onN, ord5G]
          try simp -implicitDefEqProofs only [awp_draw _ _ Tryzdr8_10,
    evx, evy, ofValue, ofCell, List.range, List.range.loop, Array.size, Nat.reduceAdd, Nat.reduceSub, Nat.reduceEqDiff, List.replicate, if_true, if_false, ↓reduceIte, reduceCtorEq, elB, evParts, Int.reduceToNat, Int.reduceLE, Int.reduceLT, Int.reduceEq, Nat.reduceMul, Nat.reduceLeDiff, Nat.reduceLT, ty3, ty4, ty9, ty23, ty22, ty25, ty5, ty35, ty31, ty47, ty38, ty43, ty127, ty82, ty77, ty55, ty52, ty60, ty63]
          refine callK_ret _ _ _ _ (call_pure he2 (fun _ => rfl) (fun _ => rfl)) (ok_nil _ _) ?_
          simp -implicitDefEqProofs only [awp_draw _ _ Tryzdr8_10, stB_boxA, splice_all, List.all_cons, List.all_nil, Bool.and_self,
    evx, evy, ofValue, ofCell, List.range, List.range.loop, Array.size, Nat.reduceAdd, Nat.reduceSub, Nat.reduceEqDiff, List.replicate, if_true, if_false, ↓reduceIte, reduceCtorEq, elB, evParts, Int.reduceToNat, Int.reduceLE, Int.reduceLT, Int.reduceEq, Nat.reduceMul, Nat.reduceLeDiff, Nat.reduceLT, ty3, ty4, ty9, ty23, ty22, ty25, ty5, ty35, ty31, ty47, ty38, ty43, ty127, ty82, ty77, ty55, ty52, ty60, ty63]
          refine ⟨heldIn_ok (heldIn_drop (heldIn_drop hk2 _) _) (by kernel_rfl) _, ?_⟩
          exact le_wk (by simp [wk, Aut.cells])
      · simp -implicitDefEqProofs only [awp_draw _ _ Tryzdr8_10,
    evx, evy, ofValue, ofCell, List.range, List.range.loop, Array.size, Nat.reduceAdd, Nat.reduceSub, Nat.reduceEqDiff, List.replicate, if_true, if_false, ↓reduceIte, reduceCtorEq, elB, evParts, Int.reduceToNat, Int.reduceLE, Int.reduceLT, Int.reduceEq, Nat.reduceMul, Nat.reduceLeDiff, Nat.reduceLT, ty3, ty4, ty9, ty23, ty22, ty25, ty5, ty35, ty31, ty47, ty38, ty43, ty127, ty82, ty77, ty55, ty52, ty60, ty63]
        try simp only [onN, ord5G]
        try simp -implicitDefEqProofs only [awp_draw _ _ Tryzdr8_10,
    evx, evy, ofValue, ofCell, List.range, List.range.loop, Array.size, Nat.reduceAdd, Nat.reduceSub, Nat.reduceEqDiff, List.replicate, if_true, if_false, ↓reduceIte, reduceCtorEq, elB, evParts, Int.reduceToNat, Int.reduceLE, Int.reduceLT, Int.reduceEq, Nat.reduceMul, Nat.reduceLeDiff, Nat.reduceLT, ty3, ty4, ty9, ty23, ty22, ty25, ty5, ty35, ty31, ty47, ty38, ty43, ty127, ty82, ty77, ty55, ty52, ty60, ty63]
        refine callK_ret _ _ _ _ (call_pure hall (fun _ => rfl) (fun _ => rfl)) (ok_nil _ _) ?_
        simp -implicitDefEqProofs only [awp_draw _ _ Tryzdr8_10,
    evx, evy, ofValue, ofCell, List.range, List.range.loop, Array.size, Nat.reduceAdd, Nat.reduceSub, Nat.reduceEqDiff, List.replicate, if_true, if_false, ↓reduceIte, reduceCtorEq, elB, evParts, Int.reduceToNat, Int.reduceLE, Int.reduceLT, Int.reduceEq, Nat.reduceMul, Nat.reduceLeDiff, Nat.reduceLT, ty3, ty4, ty9, ty23, ty22, ty25, ty5, ty35, ty31, ty47, ty38, ty43, ty127, ty82, ty77, ty55, ty52, ty60, ty63]
        refine callK_ret _ _ _ _ (call_pure he2 (fun _ => rfl) (fun _ => rfl)) (ok_nil _ _) ?_
        simp -implicitDefEqProofs only [awp_draw _ _ Tryzdr8_10, stB_boxA, splice_all, List.all_cons, List.all_nil, Bool.and_self,
    evx, evy, ofValue, ofCell, List.range, List.range.loop, Array.size, Nat.reduceAdd, Nat.reduceSub, Nat.reduceEqDiff, List.replicate, if_true, if_false, ↓reduceIte, reduceCtorEq, elB, evParts, Int.reduceToNat, Int.reduceLE, Int.reduceLT, Int.reduceEq, Nat.reduceMul, Nat.reduceLeDiff, Nat.reduceLT, ty3, ty4, ty9, ty23, ty22, ty25, ty5, ty35, ty31, ty47, ty38, ty43, ty127, ty82, ty77, ty55, ty52, ty60, ty63]
        refine ⟨heldIn_ok (heldIn_drop (heldIn_drop (heldIn_drop hk _) _) _) (by kernel_rfl) _, ?_⟩
        exact le_wk (by simp [wk, Aut.cells])
    · by_cases h0 : er = 0
      · subst h0
        have nn : (n = n) = True := eq_self n
        simp -implicitDefEqProofs only [awp_draw _ _ Tryzdr8_10,
    evx, evy, ofValue, ofCell, List.range, List.range.loop, Array.size, Nat.reduceAdd, Nat.reduceSub, Nat.reduceEqDiff, List.replicate, if_true, if_false, ↓reduceIte, reduceCtorEq, elB, evParts, Int.reduceToNat, Int.reduceLE, Int.reduceLT, Int.reduceEq, Nat.reduceMul, Nat.reduceLeDiff, Nat.reduceLT, ty3, ty4, ty9, ty23, ty22, ty25, ty5, ty35, ty31, ty47, ty38, ty43, ty127, ty82, ty77, ty55, ty52, ty60, ty63]
        refine callK_ret _ _ _ _ (call_pure hlx2 (fun _ => rfl) (fun _ => rfl)) (by kernel_rfl) ?_
        simp -implicitDefEqProofs only [awp_draw _ _ Tryzdr8_10,
    evx, evy, ofValue, ofCell, List.range, List.range.loop, Array.size, Nat.reduceAdd, Nat.reduceSub, Nat.reduceEqDiff, List.replicate, if_true, if_false, ↓reduceIte, reduceCtorEq, elB, evParts, Int.reduceToNat, Int.reduceLE, Int.reduceLT, Int.reduceEq, Nat.reduceMul, Nat.reduceLeDiff, Nat.reduceLT, ty3, ty4, ty9, ty23, ty22, ty25, ty5, ty35, ty31, ty47, ty38, ty43, ty127, ty82, ty77, ty55, ty52, ty60, ty63]
        refine callK_ret _ _ _ _ (call_pure hsm2 (fun _ => rfl) (fun _ => rfl)) (by kernel_rfl) ?_
        simp -implicitDefEqProofs only [awp_draw _ _ Tryzdr8_10, nn, Aut.cells,
    evx, evy, ofValue, ofCell, List.range, List.range.loop, Array.size, Nat.reduceAdd, Nat.reduceSub, Nat.reduceEqDiff, List.replicate, if_true, if_false, ↓reduceIte, reduceCtorEq, elB, evParts, Int.reduceToNat, Int.reduceLE, Int.reduceLT, Int.reduceEq, Nat.reduceMul, Nat.reduceLeDiff, Nat.reduceLT, ty3, ty4, ty9, ty23, ty22, ty25, ty5, ty35, ty31, ty47, ty38, ty43, ty127, ty82, ty77, ty55, ty52, ty60, ty63]
        refine callK_ret _ _ _ _ (call_pure hlx (fun _ => rfl) (fun _ => rfl)) (by kernel_rfl) ?_
        simp -implicitDefEqProofs only [awp_draw _ _ Tryzdr8_10, Aut.cells,
    evx, evy, ofValue, ofCell, List.range, List.range.loop, Array.size, Nat.reduceAdd, Nat.reduceSub, Nat.reduceEqDiff, List.replicate, if_true, if_false, ↓reduceIte, reduceCtorEq, elB, evParts, Int.reduceToNat, Int.reduceLE, Int.reduceLT, Int.reduceEq, Nat.reduceMul, Nat.reduceLeDiff, Nat.reduceLT, ty3, ty4, ty9, ty23, ty22, ty25, ty5, ty35, ty31, ty47, ty38, ty43, ty127, ty82, ty77, ty55, ty52, ty60, ty63]
        refine callK_ret _ _ _ _ (call_pure hall (fun _ => rfl) (fun _ => rfl)) (by kernel_rfl) ?_
        simp -implicitDefEqProofs only [awp_draw _ _ Tryzdr8_10,
    evx, evy, ofValue, ofCell, List.range, List.range.loop, Array.size, Nat.reduceAdd, Nat.reduceSub, Nat.reduceEqDiff, List.replicate, if_true, if_false, ↓reduceIte, reduceCtorEq, elB, evParts, Int.reduceToNat, Int.reduceLE, Int.reduceLT, Int.reduceEq, Nat.reduceMul, Nat.reduceLeDiff, Nat.reduceLT, ty3, ty4, ty9, ty23, ty22, ty25, ty5, ty35, ty31, ty47, ty38, ty43, ty127, ty82, ty77, ty55, ty52, ty60, ty63]
        refine callK_ret _ _ _ _ (call_pure hsm (fun _ => rfl) (fun _ => rfl)) (by kernel_rfl) ?_
        simp -implicitDefEqProofs only [awp_draw _ _ Tryzdr8_10,
    evx, evy, ofValue, ofCell, List.range, List.range.loop, Array.size, Nat.reduceAdd, Nat.reduceSub, Nat.reduceEqDiff, List.replicate, if_true, if_false, ↓reduceIte, reduceCtorEq, elB, evParts, Int.reduceToNat, Int.reduceLE, Int.reduceLT, Int.reduceEq, Nat.reduceMul, Nat.reduceLeDiff, Nat.reduceLT, ty3, ty4, ty9, ty23, ty22, ty25, ty5, ty35, ty31, ty47, ty38, ty43, ty127, ty82, ty77, ty55, ty52, ty60, ty63]
        exact le_flat rfl
      · have h0t : (er = 0) = False := eq_false h0
        obtain ⟨h1, h2⟩ := herr h0
        simp only [Prod.mk.injEq] at h1
        obtain ⟨rfl, rfl⟩ := h1
        subst h2
        have w0 : IntKind.wrap .i64 ((((List.map tokRow ([] : List Tok)).length : Nat) : Int) + (((List.map seenRow ([] : List Tok)).length : Nat) : Int)) = 0 := by decide
        have ee : (er = er) = True := eq_self er
        simp -implicitDefEqProofs only [awp_draw _ _ Tryzdr8_10, h0t, w0, ee,
    evx, evy, ofValue, ofCell, List.range, List.range.loop, Array.size, Nat.reduceAdd, Nat.reduceSub, Nat.reduceEqDiff, List.replicate, if_true, if_false, ↓reduceIte, reduceCtorEq, elB, evParts, Int.reduceToNat, Int.reduceLE, Int.reduceLT, Int.reduceEq, Nat.reduceMul, Nat.reduceLeDiff, Nat.reduceLT, ty3, ty4, ty9, ty23, ty22, ty25, ty5, ty35, ty31, ty47, ty38, ty43, ty127, ty82, ty77, ty55, ty52, ty60, ty63]
        exact le_flat rfl
theorem lawRelexFew (d : Aut) (s : Bs) (e : Edt) : Ok Tryz.prog 11 [d.av, .fv (.str s), e.av] [] (.ret (.fv (.bool true))) [] := by
  have hh := ok28 d s e
  refine ok_start (k := 77) (n0 := 0) (rs := [.tmp 6]) mix Tryz.func11 rfl rfl rfl rfl rfl rfl rfl ?_
  simp -implicitDefEqProofs only [awp_draw _ _ Tryzdr11_10, awp_draw _ _ Tryzdr11_11, Aut.av, Edt.av,
    evx, evy, ofValue, ofCell, List.range, List.range.loop, Array.size, Nat.reduceAdd, Nat.reduceSub, Nat.reduceEqDiff, List.replicate, if_true, if_false, ↓reduceIte, reduceCtorEq, elB, evParts, Int.reduceToNat, Int.reduceLE, Int.reduceLT, Int.reduceEq, Nat.reduceMul, Nat.reduceLeDiff, Nat.reduceLT, ty3, ty4, ty9, ty23, ty22, ty25, ty5, ty35, ty31, ty47, ty38, ty43, ty127, ty82, ty77, ty55, ty52, ty60, ty63]
  refine callK_ret _ _ _ _ (call_pure (okWakes23) (fun _ => rfl) (fun _ => rfl)) (ok_nil _ _) ?_
  simp -implicitDefEqProofs only [awp_draw _ _ Tryzdr11_10, awp_draw _ _ Tryzdr11_11,
    evx, evy, ofValue, ofCell, List.range, List.range.loop, Array.size, Nat.reduceAdd, Nat.reduceSub, Nat.reduceEqDiff, List.replicate, if_true, if_false, ↓reduceIte, reduceCtorEq, elB, evParts, Int.reduceToNat, Int.reduceLE, Int.reduceLT, Int.reduceEq, Nat.reduceMul, Nat.reduceLeDiff, Nat.reduceLT, ty3, ty4, ty9, ty23, ty22, ty25, ty5, ty35, ty31, ty47, ty38, ty43, ty127, ty82, ty77, ty55, ty52, ty60, ty63]
  cases hb : heavyB d s e with
  | true =>
    rw [hb] at hh
    refine callK_ret _ _ _ _ (call_pure (hh) (fun _ => rfl) (fun _ => rfl)) (ok_nil _ _) ?_
    simp -implicitDefEqProofs only [awp_draw _ _ Tryzdr11_10, awp_draw _ _ Tryzdr11_11,
    evx, evy, ofValue, ofCell, List.range, List.range.loop, Array.size, Nat.reduceAdd, Nat.reduceSub, Nat.reduceEqDiff, List.replicate, if_true, if_false, ↓reduceIte, reduceCtorEq, elB, evParts, Int.reduceToNat, Int.reduceLE, Int.reduceLT, Int.reduceEq, Nat.reduceMul, Nat.reduceLeDiff, Nat.reduceLT, ty3, ty4, ty9, ty23, ty22, ty25, ty5, ty35, ty31, ty47, ty38, ty43, ty127, ty82, ty77, ty55, ty52, ty60, ty63]
    exact le_flat rfl
  | false =>
    rw [hb] at hh
    unfold heavyB at hb
    simp only [Bool.or_eq_false_iff, decide_eq_false_iff_not] at hb
    obtain ⟨hb1, hb3, hb2⟩ := hb
    have hlen : (d.all s).1.length ≤ s.length := by
      unfold Aut.all
      split
      · exact Aut.allF_len s 0
      · simp
    have hcut := ok31 d (by omega) s (by omega)
    have he1 := ok32 d (by omega) s (by omega) (knw (d.all s)) (by simp only [knw, List.length_map]; omega) (by simp only [knw, List.length_map]; omega) e (by omega)
    have herr := editO_err d s (knw (d.all s)) e
    have hok := editO_ok d s e
    rw [← lexed_knw] at he1
    by_cases h0 : (d.editO s (knw (d.all s)) e).2.2 = 0
    · obtain ⟨hb, _, hfit, ho⟩ := hok h0
      have ea : d.all s = d.allF s 0 := by unfold Aut.all; rw [if_pos hb]
      have hxl := editR_len d s e hfit
      have hdl := Edt.done_length hfit
      have hfi := Edt.fits_iff.1 hfit
      have hle : (refN (d.allF s 0).1 (e.at_ + e.len) (((e.done s).length : Int) - s.length) ((d.allF (e.done s) 0).1.drop (frontN (d.allF s 0).1 e.at_)) 0) + frontN (d.allF s 0).1 e.at_ ≤ (d.allF (e.done s) 0).1.length := by
        have h1 := (refN_ge (k := (d.allF s 0).1) (f := e.at_ + e.len) (b := ((e.done s).length : Int) - s.length) ((d.allF (e.done s) 0).1.drop (frontN (d.allF s 0).1 e.at_)) 0).2
        rw [List.length_drop] at h1
        have h2 : frontN (d.allF s 0).1 e.at_ ≤ (d.allF (e.done s) 0).1.length := by
          rw [Aut.front_eq hfit]
          simp only [List.length_append, List.length_take]
          have := frontN_le (d.allF s 0).1 e.at_
          omega
        omega
      have hn : (d.editR (d.allF s 0) s (e.done s) e).2 + frontN (d.allF s 0).1 e.at_ ≤ (d.editR (d.allF s 0) s (e.done s) e).1.1.length := by
        rw [Aut.edit_eq hfit]
        exact hle
      have hpre : ∀ j, j < frontN (d.allF s 0).1 e.at_ → (d.editR (d.allF s 0) s (e.done s) e).1.1[j]? = (d.allF s 0).1[j]? := fun j hj => by
        have hfl := frontN_le (d.allF s 0).1 e.at_
        rw [Aut.editR_eq]
        simp only
        rw [List.getElem?_append_left (by rw [List.length_take]; omega), List.getElem?_take, if_pos hj]
      rw [ho, ea] at he1
      rw [ea] at hcut hlen
      generalize d.editR (d.allF s 0) s (e.done s) e = o at he1 hxl hn hpre
      obtain ⟨⟨x, g⟩, n⟩ := o
      obtain ⟨kk, hg⟩ : ∃ kk, d.allF s 0 = kk := ⟨_, rfl⟩
      rw [hg] at he1 hn hpre hcut hlen
      obtain ⟨l, f⟩ := kk
      simp only [lexedA] at he1 hcut hxl hn hpre hlen
      refine callK_ret _ _ _ _ (call_pure (hh) (fun _ => rfl) (fun _ => rfl)) (ok_nil _ _) ?_
      simp -implicitDefEqProofs only [awp_draw _ _ Tryzdr11_10, awp_draw _ _ Tryzdr11_11,
    evx, evy, ofValue, ofCell, List.range, List.range.loop, Array.size, Nat.reduceAdd, Nat.reduceSub, Nat.reduceEqDiff, List.replicate, if_true, if_false, ↓reduceIte, reduceCtorEq, elB, evParts, Int.reduceToNat, Int.reduceLE, Int.reduceLT, Int.reduceEq, Nat.reduceMul, Nat.reduceLeDiff, Nat.reduceLT, ty3, ty4, ty9, ty23, ty22, ty25, ty5, ty35, ty31, ty47, ty38, ty43, ty127, ty82, ty77, ty55, ty52, ty60, ty63]
      refine callK_ret _ _ _ _ (call_pure (hcut) (fun _ => rfl) (fun _ => rfl)) (ok_nil _ _) ?_
      simp -implicitDefEqProofs only [awp_draw _ _ Tryzdr11_10, awp_draw _ _ Tryzdr11_11, stB_boxA, splice_all, List.all_cons, List.all_nil, Bool.and_self,
    evx, evy, ofValue, ofCell, List.range, List.range.loop, Array.size, Nat.reduceAdd, Nat.reduceSub, Nat.reduceEqDiff, List.replicate, if_true, if_false, ↓reduceIte, reduceCtorEq, elB, evParts, Int.reduceToNat, Int.reduceLE, Int.reduceLT, Int.reduceEq, Nat.reduceMul, Nat.reduceLeDiff, Nat.reduceLT, ty3, ty4, ty9, ty23, ty22, ty25, ty5, ty35, ty31, ty47, ty38, ty43, ty127, ty82, ty77, ty55, ty52, ty60, ty63]
      refine callK_ret _ _ _ _ (call_pure (he1) (fun _ => rfl) (fun _ => rfl)) (ok_nil _ _) ?_
      simp -implicitDefEqProofs only [awp_draw _ _ Tryzdr11_10, awp_draw _ _ Tryzdr11_11, stB_boxA, splice_all, List.all_cons, List.all_nil, Bool.and_self,
    evx, evy, ofValue, ofCell, List.range, List.range.loop, Array.size, Nat.reduceAdd, Nat.reduceSub, Nat.reduceEqDiff, List.replicate, if_true, if_false, ↓reduceIte, reduceCtorEq, elB, evParts, Int.reduceToNat, Int.reduceLE, Int.reduceLT, Int.reduceEq, Nat.reduceMul, Nat.reduceLeDiff, Nat.reduceLT, ty3, ty4, ty9, ty23, ty22, ty25, ty5, ty35, ty31, ty47, ty38, ty43, ty127, ty82, ty77, ty55, ty52, ty60, ty63]
      refine loop_rule (fun i : Nat => ⟨[.any, .any, .any, .any, .any, .ptr 1 0 0 0, .any, .ptr 2 0 0 0, .ptr 3 0 0 0, .fv (.int .i64 n), .any, .fv (.int .i64 i), .any, .any, .any, .any, .any, .any, .any, .any, .any, .any, .any, .any, .any, .any, .any, .any, .any, .any, .any, .any, .any, .any, .any, .any, .any, .any, .any, .any, .any, .any, .any, .any, .any, .any, .any, .any, .any, .any, .any, .any, .any, .any, .any, .any, .any, .any, .any, .any, .any, .any, .any, .any, .any, .any, .any, .any, .any, .any, .any, .any, .any, .any, .any, .any, .any, .any, .any, .any],
        [.box d.cells, .box [.fv (.int .i64 e.at_), .fv (.int .i64 e.len), .fv (.str e.text)], .box [.fv (.lst 3 (l.map tokRow)), .fv (.lst 1 (l.map seenRow)), .fv (.int .i64 f)], .box [.fv (.lst 3 (x.map tokRow)), .fv (.lst 1 (x.map seenRow)), .fv (.int .i64 g)]], []⟩)
        (fun i => i ≤ frontN l e.at_ ∧ i ≤ l.length ∧ frontN l e.at_ = i + frontN (l.drop i) e.at_) (fun i => l.length - i) 0 (le_wk (by simp [wk, Aut.cells])) (by simp) (fun i hi st hst => ?_)
      obtain ⟨hi1, hi2, hi3⟩ := hi
      have fin : i = frontN l e.at_ → IntKind.wrap .i64 ((n : Int) + (i : Int)) = ((n + i : Nat) : Int) ∧ (((n + i : Nat) : Int) ≤ (x.length : Int)) = True ∧ ((0 : Int) ≤ (n : Int)) = True := fun h => by
        subst h
        refine ⟨?_, eq_true (by omega), eq_true (by omega)⟩
        rw [wrap_small (by omega) (by omega)]
        omega
      by_cases hlt : i < l.length
      · have hr := rows_at seenRow l i hlt
        have hrt := rows_at tokRow l i hlt
        have hpx := hpre i
        rw [frontN_step l i e.at_ hlt] at hi3
        rw [List.getElem?_eq_getElem hlt] at hpx
        generalize l[i] = y at hr hrt hpx hi3
        by_cases hc : (y.seen : Int) ≤ e.at_
        · have hct : ((y.seen : Int) ≤ e.at_) = True := eq_true hc
          rw [if_pos hc] at hi3
          have hpx := hpx (by omega)
          have hix : i < x.length := (List.getElem?_eq_some_iff.1 hpx).1
          have hrx := rows_at tokRow x i hix
          rw [(List.getElem?_eq_some_iff.1 hpx).2] at hrx
          have hge : ((x.length : Int) ≤ (i : Int)) = False := eq_false (by omega)
          have zt : decide ((⟨y.rule, y.at_, y.len⟩ : Tk) = ⟨y.rule, y.at_, y.len⟩) = true := decide_eq_true rfl
          simp -implicitDefEqProofs only [awp_draw _ _ Tryzdr11_10, awp_draw _ _ Tryzdr11_11, List.length_map, lt_true hlt, hr, seenRow, hct, hge, hrx, hrt, tokRow, neq_tok, zt, wsucc i (by omega),
    evx, evy, ofValue, ofCell, List.range, List.range.loop, Array.size, Nat.reduceAdd, Nat.reduceSub, Nat.reduceEqDiff, List.replicate, if_true, if_false, ↓reduceIte, reduceCtorEq, elB, evParts, Int.reduceToNat, Int.reduceLE, Int.reduceLT, Int.reduceEq, Nat.reduceMul, Nat.reduceLeDiff, Nat.reduceLT, ty3, ty4, ty9, ty23, ty22, ty25, ty5, ty35, ty31, ty47, ty38, ty43, ty127, ty82, ty77, ty55, ty52, ty60, ty63]
          exact back_intro hst (i + 1) (le_wk (by simp [wk])) ⟨by omega, by omega, by omega⟩ (by omega)
        · have hct : ((y.seen : Int) ≤ e.at_) = False := eq_false hc
          rw [if_neg hc, Nat.add_zero] at hi3
          obtain ⟨q1, q2, q3⟩ := fin hi3.symm
          simp -implicitDefEqProofs only [awp_draw _ _ Tryzdr11_10, awp_draw _ _ Tryzdr11_11, List.length_map, lt_true hlt, hr, seenRow, hct, q1, q2, q3,
    evx, evy, ofValue, ofCell, List.range, List.range.loop, Array.size, Nat.reduceAdd, Nat.reduceSub, Nat.reduceEqDiff, List.replicate, if_true, if_false, ↓reduceIte, reduceCtorEq, elB, evParts, Int.reduceToNat, Int.reduceLE, Int.reduceLT, Int.reduceEq, Nat.reduceMul, Nat.reduceLeDiff, Nat.reduceLT, ty3, ty4, ty9, ty23, ty22, ty25, ty5, ty35, ty31, ty47, ty38, ty43, ty127, ty82, ty77, ty55, ty52, ty60, ty63]
          exact le_flat rfl
      · obtain rfl : i = l.length := by omega
        rw [List.drop_length] at hi3
        have hq0 : frontN [] e.at_ = 0 := rfl
        rw [hq0, Nat.add_zero] at hi3
        obtain ⟨q1, q2, q3⟩ := fin hi3.symm
        simp -implicitDefEqProofs only [awp_draw _ _ Tryzdr11_10, awp_draw _ _ Tryzdr11_11, List.length_map, lt_false hlt, q1, q2, q3,
    evx, evy, ofValue, ofCell, List.range, List.range.loop, Array.size, Nat.reduceAdd, Nat.reduceSub, Nat.reduceEqDiff, List.replicate, if_true, if_false, ↓reduceIte, reduceCtorEq, elB, evParts, Int.reduceToNat, Int.reduceLE, Int.reduceLT, Int.reduceEq, Nat.reduceMul, Nat.reduceLeDiff, Nat.reduceLT, ty3, ty4, ty9, ty23, ty22, ty25, ty5, ty35, ty31, ty47, ty38, ty43, ty127, ty82, ty77, ty55, ty52, ty60, ty63]
        exact le_flat rfl
    · obtain ⟨h1, h2⟩ := herr h0
      generalize d.editO s (knw (d.all s)) e = o at he1 h0 h1 h2
      obtain ⟨⟨l, f⟩, n, er⟩ := o
      simp only [lexedA] at he1 hcut h0 h2
      subst h2
      have h0t : (er = 0) = False := eq_false h0
      refine callK_ret _ _ _ _ (call_pure (hh) (fun _ => rfl) (fun _ => rfl)) (ok_nil _ _) ?_
      simp -implicitDefEqProofs only [awp_draw _ _ Tryzdr11_10, awp_draw _ _ Tryzdr11_11,
    evx, evy, ofValue, ofCell, List.range, List.range.loop, Array.size, Nat.reduceAdd, Nat.reduceSub, Nat.reduceEqDiff, List.replicate, if_true, if_false, ↓reduceIte, reduceCtorEq, elB, evParts, Int.reduceToNat, Int.reduceLE, Int.reduceLT, Int.reduceEq, Nat.reduceMul, Nat.reduceLeDiff, Nat.reduceLT, ty3, ty4, ty9, ty23, ty22, ty25, ty5, ty35, ty31, ty47, ty38, ty43, ty127, ty82, ty77, ty55, ty52, ty60, ty63]
      refine callK_ret _ _ _ _ (call_pure (hcut) (fun _ => rfl) (fun _ => rfl)) (ok_nil _ _) ?_
      simp -implicitDefEqProofs only [awp_draw _ _ Tryzdr11_10, awp_draw _ _ Tryzdr11_11, stB_boxA, splice_all, List.all_cons, List.all_nil, Bool.and_self,
    evx, evy, ofValue, ofCell, List.range, List.range.loop, Array.size, Nat.reduceAdd, Nat.reduceSub, Nat.reduceEqDiff, List.replicate, if_true, if_false, ↓reduceIte, reduceCtorEq, elB, evParts, Int.reduceToNat, Int.reduceLE, Int.reduceLT, Int.reduceEq, Nat.reduceMul, Nat.reduceLeDiff, Nat.reduceLT, ty3, ty4, ty9, ty23, ty22, ty25, ty5, ty35, ty31, ty47, ty38, ty43, ty127, ty82, ty77, ty55, ty52, ty60, ty63]
      refine callK_ret _ _ _ _ (call_pure (he1) (fun _ => rfl) (fun _ => rfl)) (ok_nil _ _) ?_
      simp -implicitDefEqProofs only [awp_draw _ _ Tryzdr11_10, awp_draw _ _ Tryzdr11_11, stB_boxA, splice_all, List.all_cons, List.all_nil, Bool.and_self, h0t,
    evx, evy, ofValue, ofCell, List.range, List.range.loop, Array.size, Nat.reduceAdd, Nat.reduceSub, Nat.reduceEqDiff, List.replicate, if_true, if_false, ↓reduceIte, reduceCtorEq, elB, evParts, Int.reduceToNat, Int.reduceLE, Int.reduceLT, Int.reduceEq, Nat.reduceMul, Nat.reduceLeDiff, Nat.reduceLT, ty3, ty4, ty9, ty23, ty22, ty25, ty5, ty35, ty31, ty47, ty38, ty43, ty127, ty82, ty77, ty55, ty52, ty60, ty63]
      exact le_flat rfl
end Go.Abs
