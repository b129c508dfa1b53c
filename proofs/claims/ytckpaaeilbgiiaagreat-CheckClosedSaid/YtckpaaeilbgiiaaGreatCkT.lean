/- The law CheckClosed as a contract. -/
import Derived.Test.YtckpaaeilbgiiaaGreatTyTryz
import Derived.Test.YtckpaaeilbgiiaaGreatDrTryz
import Derived.Test.YtckpaaeilbgiiaaGreatCkS
import Derived.Test.YtckpaaeilbgiiaaGreatCkQ
namespace Go.Abs
open Go.Proofs
set_option linter.unusedVariables false
set_option linter.unusedSimpArgs false
set_option maxRecDepth 100000
set_option maxHeartbeats 4000000
theorem those_full {g : Gra} {Q : Int → Prop} (h : outN g.terms (g.those Q) g.nonts.length 0 = none) : (g.those Q).length = g.nonts.length := by
  have hq : ∀ j, j < g.nonts.length → Q ((g.terms : Int) + 1 + j) := fun j hj => ((g.mem_those Q _).1 (outN_none h j (by omega) (by omega))).2
  unfold Gra.those
  rw [List.filter_eq_self.2]
  · simp
  · intro x hx
    rw [List.mem_map] at hx
    obtain ⟨i, hi, rfl⟩ := hx
    exact @decide_eq_true _ (_) (hq i (List.mem_range.1 hi))
theorem chkB_ok {g : Gra} {R E : List Int} (h : (chkB g R E).2 = 0) : outN g.terms R g.nonts.length 0 = none ∧ outN g.terms E g.nonts.length 0 = none := by
  unfold chkB at h
  split at h
  · simp at h
  · split at h
    · simp at h
    · exact ⟨‹_›, ‹_›⟩
theorem chkG_ok {p : Rul → Bool} {g : Gra} {R E : List Int} (h : (chkG p g R E).2 = 0) : outN g.terms R g.nonts.length 0 = none ∧ outN g.terms E g.nonts.length 0 = none := by
  unfold chkG at h
  split at h
  · unfold chkR at h
    split at h
    · simp at h
    · split at h
      · simp at h
      · exact chkB_ok h
  · simp at h
theorem lawClosed (g : Gra) : Ok Tryz.prog 5 [g.av] [] (.ret (.fv (.bool true))) [] := by
  have h7 := ok7 g
  refine ok_start (k := 100) (n0 := 0) (rs := [.tmp 2]) mix Tryz.func5 rfl rfl rfl rfl rfl rfl rfl ?_
  simp -implicitDefEqProofs only [awp_draw _ _ Tryzdr5_6, Gra.av,
    evx, evy, ofValue, ofCell, List.range, List.range.loop, Array.size, Nat.reduceAdd, Nat.reduceSub, Nat.reduceEqDiff, List.replicate, if_true, if_false, ↓reduceIte, reduceCtorEq, elB, evParts, Int.reduceToNat, Int.reduceLE, Int.reduceLT, Int.reduceEq, Nat.reduceMul, Nat.reduceLeDiff, Nat.reduceLT, ty3, ty4, ty9, ty22, ty23, ty24, ty25, ty27, ty35, ty40, ty44, ty46, ty55, ty30]
  refine callK_ret _ _ _ _ (call_pure (okWakes) (fun _ => rfl) (fun _ => rfl)) (ok_nil _ _) ?_
  cases hl : g.longB 100 with
  | true =>
    rw [hl] at h7
    simp -implicitDefEqProofs only [awp_draw _ _ Tryzdr5_6,
    evx, evy, ofValue, ofCell, List.range, List.range.loop, Array.size, Nat.reduceAdd, Nat.reduceSub, Nat.reduceEqDiff, List.replicate, if_true, if_false, ↓reduceIte, reduceCtorEq, elB, evParts, Int.reduceToNat, Int.reduceLE, Int.reduceLT, Int.reduceEq, Nat.reduceMul, Nat.reduceLeDiff, Nat.reduceLT, ty3, ty4, ty9, ty22, ty23, ty24, ty25, ty27, ty35, ty40, ty44, ty46, ty55, ty30]
    refine callK_ret _ _ _ _ (call_pure (h7) (fun _ => rfl) (fun _ => rfl)) (ok_nil _ _) ?_
    simp -implicitDefEqProofs only [awp_draw _ _ Tryzdr5_6,
    evx, evy, ofValue, ofCell, List.range, List.range.loop, Array.size, Nat.reduceAdd, Nat.reduceSub, Nat.reduceEqDiff, List.replicate, if_true, if_false, ↓reduceIte, reduceCtorEq, elB, evParts, Int.reduceToNat, Int.reduceLE, Int.reduceLT, Int.reduceEq, Nat.reduceMul, Nat.reduceLeDiff, Nat.reduceLT, ty3, ty4, ty9, ty22, ty23, ty24, ty25, ty27, ty35, ty40, ty44, ty46, ty55, ty30]
    exact le_flat rfl
  | false =>
    rw [hl] at h7
    have hg := small_of hl
    have h10 := ok10 g hg
    have h11 := ok11_all g hg
    have h12 := ok12 g hg
    have h8 := ok8 g hg
    have hterms := ok16 g hg.nrules
    cases hsd : g.sound with
    | false =>
      rw [hsd] at h12
      simp -implicitDefEqProofs only [awp_draw _ _ Tryzdr5_6,
    evx, evy, ofValue, ofCell, List.range, List.range.loop, Array.size, Nat.reduceAdd, Nat.reduceSub, Nat.reduceEqDiff, List.replicate, if_true, if_false, ↓reduceIte, reduceCtorEq, elB, evParts, Int.reduceToNat, Int.reduceLE, Int.reduceLT, Int.reduceEq, Nat.reduceMul, Nat.reduceLeDiff, Nat.reduceLT, ty3, ty4, ty9, ty22, ty23, ty24, ty25, ty27, ty35, ty40, ty44, ty46, ty55, ty30]
      refine callK_ret _ _ _ _ (call_pure (h7) (fun _ => rfl) (fun _ => rfl)) (ok_nil _ _) ?_
      simp -implicitDefEqProofs only [awp_draw _ _ Tryzdr5_6,
    evx, evy, ofValue, ofCell, List.range, List.range.loop, Array.size, Nat.reduceAdd, Nat.reduceSub, Nat.reduceEqDiff, List.replicate, if_true, if_false, ↓reduceIte, reduceCtorEq, elB, evParts, Int.reduceToNat, Int.reduceLE, Int.reduceLT, Int.reduceEq, Nat.reduceMul, Nat.reduceLeDiff, Nat.reduceLT, ty3, ty4, ty9, ty22, ty23, ty24, ty25, ty27, ty35, ty40, ty44, ty46, ty55, ty30]
      refine callK_ret _ _ _ _ (call_pure (h12) (fun _ => rfl) (fun _ => rfl)) (ok_nil _ _) ?_
      simp -implicitDefEqProofs only [awp_draw _ _ Tryzdr5_6,
    evx, evy, ofValue, ofCell, List.range, List.range.loop, Array.size, Nat.reduceAdd, Nat.reduceSub, Nat.reduceEqDiff, List.replicate, if_true, if_false, ↓reduceIte, reduceCtorEq, elB, evParts, Int.reduceToNat, Int.reduceLE, Int.reduceLT, Int.reduceEq, Nat.reduceMul, Nat.reduceLeDiff, Nat.reduceLT, ty3, ty4, ty9, ty22, ty23, ty24, ty25, ty27, ty35, ty40, ty44, ty46, ty55, ty30]
      exact le_flat rfl
    | true =>
      rw [hsd] at h12
      have hso := g.sound_iff hsd
      have hnn := hso.nnonts
      have hnp := hso.nprods
      have htl := hso.terms_le
      have e1 : reachL g = g.those (Reach g) := by unfold reachL; rw [if_pos hsd]
      have e2 : endL g = g.those (Ended g) := by unfold endL; rw [if_pos hsd]
      rw [e1] at h10
      rw [e2] at h11
      have hmR := g.mem_those (Reach g)
      have hmE := g.mem_those (Ended g)
      have hrl := g.those_length (Reach g)
      have hel := g.those_length (Ended g)
      have hfR := @those_full g (Reach g)
      have hfE := @those_full g (Ended g)
      generalize g.those (Reach g) = R at h10 h8 hmR hrl hfR
      generalize g.those (Ended g) = E at h11 h8 hmE hel hfE
      have hri := ints_length R
      have hei := ints_length E
      have hhR := fun x => ok17 R x (by omega)
      have hhE := fun x => ok17 E x (by omega)
      have hok := @chkG_ok noEmpty g R E
      generalize chkG noEmpty g R E = ck at h8 hok
      obtain ⟨cn, ce⟩ := ck
      simp only [chkOut] at h8
      simp -implicitDefEqProofs only [awp_draw _ _ Tryzdr5_6,
    evx, evy, ofValue, ofCell, List.range, List.range.loop, Array.size, Nat.reduceAdd, Nat.reduceSub, Nat.reduceEqDiff, List.replicate, if_true, if_false, ↓reduceIte, reduceCtorEq, elB, evParts, Int.reduceToNat, Int.reduceLE, Int.reduceLT, Int.reduceEq, Nat.reduceMul, Nat.reduceLeDiff, Nat.reduceLT, ty3, ty4, ty9, ty22, ty23, ty24, ty25, ty27, ty35, ty40, ty44, ty46, ty55, ty30]
      refine callK_ret _ _ _ _ (call_pure (h7) (fun _ => rfl) (fun _ => rfl)) (ok_nil _ _) ?_
      simp -implicitDefEqProofs only [awp_draw _ _ Tryzdr5_6,
    evx, evy, ofValue, ofCell, List.range, List.range.loop, Array.size, Nat.reduceAdd, Nat.reduceSub, Nat.reduceEqDiff, List.replicate, if_true, if_false, ↓reduceIte, reduceCtorEq, elB, evParts, Int.reduceToNat, Int.reduceLE, Int.reduceLT, Int.reduceEq, Nat.reduceMul, Nat.reduceLeDiff, Nat.reduceLT, ty3, ty4, ty9, ty22, ty23, ty24, ty25, ty27, ty35, ty40, ty44, ty46, ty55, ty30]
      refine callK_ret _ _ _ _ (call_pure (h12) (fun _ => rfl) (fun _ => rfl)) (ok_nil _ _) ?_
      simp -implicitDefEqProofs only [awp_draw _ _ Tryzdr5_6,
    evx, evy, ofValue, ofCell, List.range, List.range.loop, Array.size, Nat.reduceAdd, Nat.reduceSub, Nat.reduceEqDiff, List.replicate, if_true, if_false, ↓reduceIte, reduceCtorEq, elB, evParts, Int.reduceToNat, Int.reduceLE, Int.reduceLT, Int.reduceEq, Nat.reduceMul, Nat.reduceLeDiff, Nat.reduceLT, ty3, ty4, ty9, ty22, ty23, ty24, ty25, ty27, ty35, ty40, ty44, ty46, ty55, ty30]
      refine callK_ret _ _ _ _ (call_pure (hterms) (fun _ => rfl) (fun _ => rfl)) (ok_nil _ _) ?_
      simp -implicitDefEqProofs only [awp_draw _ _ Tryzdr5_6,
    evx, evy, ofValue, ofCell, List.range, List.range.loop, Array.size, Nat.reduceAdd, Nat.reduceSub, Nat.reduceEqDiff, List.replicate, if_true, if_false, ↓reduceIte, reduceCtorEq, elB, evParts, Int.reduceToNat, Int.reduceLE, Int.reduceLT, Int.reduceEq, Nat.reduceMul, Nat.reduceLeDiff, Nat.reduceLT, ty3, ty4, ty9, ty22, ty23, ty24, ty25, ty27, ty35, ty40, ty44, ty46, ty55, ty30]
      refine callK_ret _ _ _ _ (call_pure (h10) (fun _ => rfl) (fun _ => rfl)) (ok_nil _ _) ?_
      simp -implicitDefEqProofs only [awp_draw _ _ Tryzdr5_6,
    evx, evy, ofValue, ofCell, List.range, List.range.loop, Array.size, Nat.reduceAdd, Nat.reduceSub, Nat.reduceEqDiff, List.replicate, if_true, if_false, ↓reduceIte, reduceCtorEq, elB, evParts, Int.reduceToNat, Int.reduceLE, Int.reduceLT, Int.reduceEq, Nat.reduceMul, Nat.reduceLeDiff, Nat.reduceLT, ty3, ty4, ty9, ty22, ty23, ty24, ty25, ty27, ty35, ty40, ty44, ty46, ty55, ty30]
      refine callK_ret _ _ _ _ (call_pure (h11) (fun _ => rfl) (fun _ => rfl)) (ok_nil _ _) ?_
      simp -implicitDefEqProofs only [awp_draw _ _ Tryzdr5_6, Gra.cells, List.length_map,
    evx, evy, ofValue, ofCell, List.range, List.range.loop, Array.size, Nat.reduceAdd, Nat.reduceSub, Nat.reduceEqDiff, List.replicate, if_true, if_false, ↓reduceIte, reduceCtorEq, elB, evParts, Int.reduceToNat, Int.reduceLE, Int.reduceLT, Int.reduceEq, Nat.reduceMul, Nat.reduceLeDiff, Nat.reduceLT, ty3, ty4, ty9, ty22, ty23, ty24, ty25, ty27, ty35, ty40, ty44, ty46, ty55, ty30]
      refine loop_rule (fun i : Nat => ⟨[.any, .ptr 0 0 0 0, .any, .fv (.int .i64 g.terms), .fv (.lst 1 (ints R)), .fv (.lst 1 (ints E)), .any, .any, .any, .any, .any, .any, .any, .any, .any, .any, .any, .any, .any, .any, .any, .any, .any, .any, .any, .any, .any, .any, .any, .fv (.lst 3 (g.prods.map Prd.row)), .fv (.int .i64 g.prods.length), .fv (.int .i64 i), .any, .any, .any, .any, .any, .any, .any, .any, .any, .any, .any, .any, .any, .any, .any, .any, .any, .any, .any, .any, .any, .any, .any, .any, .any, .any, .any, .any, .any, .any, .any, .any, .any, .any, .any, .any, .any, .any, .any, .any, .any, .any, .any, .any, .any, .any, .any, .any, .any, .any, .any, .any, .any, .any, .any, .any, .any, .any, .any, .any, .any, .any, .any, .any, .any, .any, .any, .any, .any], [.box g.cells], []⟩)
        (fun i => i ≤ g.prods.length) (fun i => g.prods.length - i) 0 (le_wk (by simp [wk, Gra.cells])) (by simp) (fun i hi s hs => ?_)
      by_cases hlt : i < g.prods.length
      · have hr := rows_at Prd.row g.prods i hlt
        have hpm := List.getElem_mem hlt
        have hpr := hso.prods _ hpm
        generalize g.prods[i] = p at hr hpm hpr
        simp -implicitDefEqProofs only [awp_draw _ _ Tryzdr5_6, Gra.cells, List.length_map, stB_boxA, splice_all, List.all_cons, List.all_nil, lt_true hlt, hr, Prd.row,
    evx, evy, ofValue, ofCell, List.range, List.range.loop, Array.size, Nat.reduceAdd, Nat.reduceSub, Nat.reduceEqDiff, List.replicate, if_true, if_false, ↓reduceIte, reduceCtorEq, elB, evParts, Int.reduceToNat, Int.reduceLE, Int.reduceLT, Int.reduceEq, Nat.reduceMul, Nat.reduceLeDiff, Nat.reduceLT, ty3, ty4, ty9, ty22, ty23, ty24, ty25, ty27, ty35, ty40, ty44, ty46, ty55, ty30]
        refine loop_rule (fun k : Nat => ⟨[.any, .ptr 0 0 0 0, .any, .fv (.int .i64 g.terms), .fv (.lst 1 (ints R)), .fv (.lst 1 (ints E)), .any, .ptr 1 0 0 0, .fv (.bool ((p.right.take k).all (shutB g.terms E))), .any, .any, .any, .any, .any, .any, .any, .any, .any, .any, .any, .any, .any, .any, .any, .any, .any, .any, .any, .any, .fv (.lst 3 (g.prods.map Prd.row)), .fv (.int .i64 g.prods.length), .fv (.int .i64 i), .any, .any, .any, .any, .fv (.lst 1 (p.right.map iRow)), .fv (.int .i64 p.right.length), .fv (.int .i64 k), .any, .any, .any, .any, .any, .any, .any, .any, .any, .any, .any, .any, .any, .any, .any, .any, .any, .any, .any, .any, .any, .any, .any, .any, .any, .any, .any, .any, .any, .any, .any, .any, .any, .any, .any, .any, .any, .any, .any, .any, .any, .any, .any, .any, .any, .any, .any, .any, .any, .any, .any, .any, .any, .any, .any, .any, .any, .any, .any, .any, .any, .any], [.box g.cells, .box p.cells], []⟩)
          (fun k => k ≤ p.right.length) (fun k => p.right.length - k) 0 (le_wk (by simp [wk, Gra.cells, Prd.cells])) (by simp) (fun k hk s2 hs2 => ?_)
        by_cases hkl : k < p.right.length
        · have hr2 := rows_at iRow p.right k hkl
          have hnm := List.getElem_mem hkl
          have hall := all_take_succ (shutB g.terms E) p.right hkl
          generalize p.right[k] = n at hr2 hnm hall
          have hRl := hhR p.left
          have hRn := hhR n
          have hEn := hhE n
          have hna := (hpr.2.2.2.2.2 n hnm).2
          by_cases c1 : (g.terms : Int) < n
          · have c1t : ((g.terms : Int) < n) = True := by simpa using c1
            have c1f : (n ≤ (g.terms : Int)) = False := by simp; omega
            have hsb : shutB g.terms E n = decide (n ∈ E) := by unfold shutB; rw [decide_eq_false (by omega)]; rfl
            rw [hsb] at hall
            by_cases c2 : p.left ∈ R
            · have c3 : n ∈ R := (hmR n).2 ⟨⟨c1, hna⟩, .step p n hpm ((hmR p.left).1 c2).2 hnm c1⟩
              rw [decide_eq_true c2] at hRl
              rw [decide_eq_true c3] at hRn
              cases hb : (p.right.take k).all (shutB g.terms E) with
              | false =>
                rw [hb, Bool.false_and] at hall
                simp -implicitDefEqProofs only [awp_draw _ _ Tryzdr5_6, Prd.cells, List.length_map, lt_true hkl, hr2, iRow, c1t,
    evx, evy, ofValue, ofCell, List.range, List.range.loop, Array.size, Nat.reduceAdd, Nat.reduceSub, Nat.reduceEqDiff, List.replicate, if_true, if_false, ↓reduceIte, reduceCtorEq, elB, evParts, Int.reduceToNat, Int.reduceLE, Int.reduceLT, Int.reduceEq, Nat.reduceMul, Nat.reduceLeDiff, Nat.reduceLT, ty3, ty4, ty9, ty22, ty23, ty24, ty25, ty27, ty35, ty40, ty44, ty46, ty55, ty30]
                refine callK_ret _ _ _ _ (call_pure (hRl) (fun _ => rfl) (fun _ => rfl)) (ok_nil _ _) ?_
                simp -implicitDefEqProofs only [awp_draw _ _ Tryzdr5_6,
    evx, evy, ofValue, ofCell, List.range, List.range.loop, Array.size, Nat.reduceAdd, Nat.reduceSub, Nat.reduceEqDiff, List.replicate, if_true, if_false, ↓reduceIte, reduceCtorEq, elB, evParts, Int.reduceToNat, Int.reduceLE, Int.reduceLT, Int.reduceEq, Nat.reduceMul, Nat.reduceLeDiff, Nat.reduceLT, ty3, ty4, ty9, ty22, ty23, ty24, ty25, ty27, ty35, ty40, ty44, ty46, ty55, ty30]
                refine callK_ret _ _ _ _ (call_pure (hRn) (fun _ => rfl) (fun _ => rfl)) (ok_nil _ _) ?_
                simp -implicitDefEqProofs only [awp_draw _ _ Tryzdr5_6, wsucc k (by omega),
    evx, evy, ofValue, ofCell, List.range, List.range.loop, Array.size, Nat.reduceAdd, Nat.reduceSub, Nat.reduceEqDiff, List.replicate, if_true, if_false, ↓reduceIte, reduceCtorEq, elB, evParts, Int.reduceToNat, Int.reduceLE, Int.reduceLT, Int.reduceEq, Nat.reduceMul, Nat.reduceLeDiff, Nat.reduceLT, ty3, ty4, ty9, ty22, ty23, ty24, ty25, ty27, ty35, ty40, ty44, ty46, ty55, ty30]
                exact back_intro hs2 (k + 1) (le_wk (by simp [wk, Gra.cells, Prd.cells, hall])) (by omega) (by omega)
              | true =>
                rw [hb, Bool.true_and] at hall
                simp -implicitDefEqProofs only [awp_draw _ _ Tryzdr5_6, Prd.cells, List.length_map, lt_true hkl, hr2, iRow, c1t,
    evx, evy, ofValue, ofCell, List.range, List.range.loop, Array.size, Nat.reduceAdd, Nat.reduceSub, Nat.reduceEqDiff, List.replicate, if_true, if_false, ↓reduceIte, reduceCtorEq, elB, evParts, Int.reduceToNat, Int.reduceLE, Int.reduceLT, Int.reduceEq, Nat.reduceMul, Nat.reduceLeDiff, Nat.reduceLT, ty3, ty4, ty9, ty22, ty23, ty24, ty25, ty27, ty35, ty40, ty44, ty46, ty55, ty30]
                refine callK_ret _ _ _ _ (call_pure (hRl) (fun _ => rfl) (fun _ => rfl)) (ok_nil _ _) ?_
                simp -implicitDefEqProofs only [awp_draw _ _ Tryzdr5_6,
    evx, evy, ofValue, ofCell, List.range, List.range.loop, Array.size, Nat.reduceAdd, Nat.reduceSub, Nat.reduceEqDiff, List.replicate, if_true, if_false, ↓reduceIte, reduceCtorEq, elB, evParts, Int.reduceToNat, Int.reduceLE, Int.reduceLT, Int.reduceEq, Nat.reduceMul, Nat.reduceLeDiff, Nat.reduceLT, ty3, ty4, ty9, ty22, ty23, ty24, ty25, ty27, ty35, ty40, ty44, ty46, ty55, ty30]
                refine callK_ret _ _ _ _ (call_pure (hRn) (fun _ => rfl) (fun _ => rfl)) (ok_nil _ _) ?_
                simp -implicitDefEqProofs only [awp_draw _ _ Tryzdr5_6, c1f,
    evx, evy, ofValue, ofCell, List.range, List.range.loop, Array.size, Nat.reduceAdd, Nat.reduceSub, Nat.reduceEqDiff, List.replicate, if_true, if_false, ↓reduceIte, reduceCtorEq, elB, evParts, Int.reduceToNat, Int.reduceLE, Int.reduceLT, Int.reduceEq, Nat.reduceMul, Nat.reduceLeDiff, Nat.reduceLT, ty3, ty4, ty9, ty22, ty23, ty24, ty25, ty27, ty35, ty40, ty44, ty46, ty55, ty30]
                refine callK_ret _ _ _ _ (call_pure (hEn) (fun _ => rfl) (fun _ => rfl)) (ok_nil _ _) ?_
                simp -implicitDefEqProofs only [awp_draw _ _ Tryzdr5_6, wsucc k (by omega),
    evx, evy, ofValue, ofCell, List.range, List.range.loop, Array.size, Nat.reduceAdd, Nat.reduceSub, Nat.reduceEqDiff, List.replicate, if_true, if_false, ↓reduceIte, reduceCtorEq, elB, evParts, Int.reduceToNat, Int.reduceLE, Int.reduceLT, Int.reduceEq, Nat.reduceMul, Nat.reduceLeDiff, Nat.reduceLT, ty3, ty4, ty9, ty22, ty23, ty24, ty25, ty27, ty35, ty40, ty44, ty46, ty55, ty30]
                exact back_intro hs2 (k + 1) (le_wk (by simp [wk, Gra.cells, Prd.cells, hall])) (by omega) (by omega)
            · rw [decide_eq_false c2] at hRl
              cases hb : (p.right.take k).all (shutB g.terms E) with
              | false =>
                rw [hb, Bool.false_and] at hall
                simp -implicitDefEqProofs only [awp_draw _ _ Tryzdr5_6, Prd.cells, List.length_map, lt_true hkl, hr2, iRow, c1t,
    evx, evy, ofValue, ofCell, List.range, List.range.loop, Array.size, Nat.reduceAdd, Nat.reduceSub, Nat.reduceEqDiff, List.replicate, if_true, if_false, ↓reduceIte, reduceCtorEq, elB, evParts, Int.reduceToNat, Int.reduceLE, Int.reduceLT, Int.reduceEq, Nat.reduceMul, Nat.reduceLeDiff, Nat.reduceLT, ty3, ty4, ty9, ty22, ty23, ty24, ty25, ty27, ty35, ty40, ty44, ty46, ty55, ty30]
                refine callK_ret _ _ _ _ (call_pure (hRl) (fun _ => rfl) (fun _ => rfl)) (ok_nil _ _) ?_
                simp -implicitDefEqProofs only [awp_draw _ _ Tryzdr5_6, wsucc k (by omega),
    evx, evy, ofValue, ofCell, List.range, List.range.loop, Array.size, Nat.reduceAdd, Nat.reduceSub, Nat.reduceEqDiff, List.replicate, if_true, if_false, ↓reduceIte, reduceCtorEq, elB, evParts, Int.reduceToNat, Int.reduceLE, Int.reduceLT, Int.reduceEq, Nat.reduceMul, Nat.reduceLeDiff, Nat.reduceLT, ty3, ty4, ty9, ty22, ty23, ty24, ty25, ty27, ty35, ty40, ty44, ty46, ty55, ty30]
                exact back_intro hs2 (k + 1) (le_wk (by simp [wk, Gra.cells, Prd.cells, hall])) (by omega) (by omega)
              | true =>
                rw [hb, Bool.true_and] at hall
                simp -implicitDefEqProofs only [awp_draw _ _ Tryzdr5_6, Prd.cells, List.length_map, lt_true hkl, hr2, iRow, c1t,
    evx, evy, ofValue, ofCell, List.range, List.range.loop, Array.size, Nat.reduceAdd, Nat.reduceSub, Nat.reduceEqDiff, List.replicate, if_true, if_false, ↓reduceIte, reduceCtorEq, elB, evParts, Int.reduceToNat, Int.reduceLE, Int.reduceLT, Int.reduceEq, Nat.reduceMul, Nat.reduceLeDiff, Nat.reduceLT, ty3, ty4, ty9, ty22, ty23, ty24, ty25, ty27, ty35, ty40, ty44, ty46, ty55, ty30]
                refine callK_ret _ _ _ _ (call_pure (hRl) (fun _ => rfl) (fun _ => rfl)) (ok_nil _ _) ?_
                simp -implicitDefEqProofs only [awp_draw _ _ Tryzdr5_6, c1f,
    evx, evy, ofValue, ofCell, List.range, List.range.loop, Array.size, Nat.reduceAdd, Nat.reduceSub, Nat.reduceEqDiff, List.replicate, if_true, if_false, ↓reduceIte, reduceCtorEq, elB, evParts, Int.reduceToNat, Int.reduceLE, Int.reduceLT, Int.reduceEq, Nat.reduceMul, Nat.reduceLeDiff, Nat.reduceLT, ty3, ty4, ty9, ty22, ty23, ty24, ty25, ty27, ty35, ty40, ty44, ty46, ty55, ty30]
                refine callK_ret _ _ _ _ (call_pure (hEn) (fun _ => rfl) (fun _ => rfl)) (ok_nil _ _) ?_
                simp -implicitDefEqProofs only [awp_draw _ _ Tryzdr5_6, wsucc k (by omega),
    evx, evy, ofValue, ofCell, List.range, List.range.loop, Array.size, Nat.reduceAdd, Nat.reduceSub, Nat.reduceEqDiff, List.replicate, if_true, if_false, ↓reduceIte, reduceCtorEq, elB, evParts, Int.reduceToNat, Int.reduceLE, Int.reduceLT, Int.reduceEq, Nat.reduceMul, Nat.reduceLeDiff, Nat.reduceLT, ty3, ty4, ty9, ty22, ty23, ty24, ty25, ty27, ty35, ty40, ty44, ty46, ty55, ty30]
                exact back_intro hs2 (k + 1) (le_wk (by simp [wk, Gra.cells, Prd.cells, hall])) (by omega) (by omega)
          · have c1t : ((g.terms : Int) < n) = False := by simpa using c1
            have c1f : (n ≤ (g.terms : Int)) = True := by simp; omega
            have hsb : shutB g.terms E n = true := by unfold shutB; rw [decide_eq_true (by omega)]; rfl
            rw [hsb, Bool.and_true] at hall
            cases hb : (p.right.take k).all (shutB g.terms E) with
            | false =>
              rw [hb] at hall
              simp -implicitDefEqProofs only [awp_draw _ _ Tryzdr5_6, Prd.cells, List.length_map, lt_true hkl, hr2, iRow, c1t, wsucc k (by omega),
    evx, evy, ofValue, ofCell, List.range, List.range.loop, Array.size, Nat.reduceAdd, Nat.reduceSub, Nat.reduceEqDiff, List.replicate, if_true, if_false, ↓reduceIte, reduceCtorEq, elB, evParts, Int.reduceToNat, Int.reduceLE, Int.reduceLT, Int.reduceEq, Nat.reduceMul, Nat.reduceLeDiff, Nat.reduceLT, ty3, ty4, ty9, ty22, ty23, ty24, ty25, ty27, ty35, ty40, ty44, ty46, ty55, ty30]
              exact back_intro hs2 (k + 1) (le_wk (by simp [wk, Gra.cells, Prd.cells, hall])) (by omega) (by omega)
            | true =>
              rw [hb] at hall
              simp -implicitDefEqProofs only [awp_draw _ _ Tryzdr5_6, Prd.cells, List.length_map, lt_true hkl, hr2, iRow, c1t, c1f, wsucc k (by omega),
    evx, evy, ofValue, ofCell, List.range, List.range.loop, Array.size, Nat.reduceAdd, Nat.reduceSub, Nat.reduceEqDiff, List.replicate, if_true, if_false, ↓reduceIte, reduceCtorEq, elB, evParts, Int.reduceToNat, Int.reduceLE, Int.reduceLT, Int.reduceEq, Nat.reduceMul, Nat.reduceLeDiff, Nat.reduceLT, ty3, ty4, ty9, ty22, ty23, ty24, ty25, ty27, ty35, ty40, ty44, ty46, ty55, ty30]
              exact back_intro hs2 (k + 1) (le_wk (by simp [wk, Gra.cells, Prd.cells, hall])) (by omega) (by omega)
        · obtain rfl : k = p.right.length := by omega
          rw [List.take_length]
          have hEl := hhE p.left
          cases hb : p.right.all (shutB g.terms E) with
          | false =>
            simp -implicitDefEqProofs only [awp_draw _ _ Tryzdr5_6, Prd.cells, List.length_map, lt_false hkl, wsucc i (by omega),
    evx, evy, ofValue, ofCell, List.range, List.range.loop, Array.size, Nat.reduceAdd, Nat.reduceSub, Nat.reduceEqDiff, List.replicate, if_true, if_false, ↓reduceIte, reduceCtorEq, elB, evParts, Int.reduceToNat, Int.reduceLE, Int.reduceLT, Int.reduceEq, Nat.reduceMul, Nat.reduceLeDiff, Nat.reduceLT, ty3, ty4, ty9, ty22, ty23, ty24, ty25, ty27, ty35, ty40, ty44, ty46, ty55, ty30]
            refine back_intro hs (i + 1) (le_pk [0] rfl (by simp) (by simp) ?_ ?_) (by omega) (by omega)
            · simp [subBlk, subAny, subA, Gra.cells]
            · simp [wk, subAny, subA, mkSub, idx]
          | true =>
            have hin : p.left ∈ E := (hmE p.left).2 ⟨⟨hpr.1, hpr.2.1⟩, .mk p hpm fun q hq hT => by
              have := List.all_eq_true.1 hb q hq
              unfold shutB at this
              rw [decide_eq_false (by omega : ¬ q ≤ (g.terms : Int)), Bool.false_or, decide_eq_true_eq] at this
              exact ((hmE q).1 this).2⟩
            rw [decide_eq_true hin] at hEl
            simp -implicitDefEqProofs only [awp_draw _ _ Tryzdr5_6, Prd.cells, List.length_map, lt_false hkl,
    evx, evy, ofValue, ofCell, List.range, List.range.loop, Array.size, Nat.reduceAdd, Nat.reduceSub, Nat.reduceEqDiff, List.replicate, if_true, if_false, ↓reduceIte, reduceCtorEq, elB, evParts, Int.reduceToNat, Int.reduceLE, Int.reduceLT, Int.reduceEq, Nat.reduceMul, Nat.reduceLeDiff, Nat.reduceLT, ty3, ty4, ty9, ty22, ty23, ty24, ty25, ty27, ty35, ty40, ty44, ty46, ty55, ty30]
            refine callK_ret _ _ _ _ (call_pure (hEl) (fun _ => rfl) (fun _ => rfl)) (ok_nil _ _) ?_
            simp -implicitDefEqProofs only [awp_draw _ _ Tryzdr5_6, wsucc i (by omega),
    evx, evy, ofValue, ofCell, List.range, List.range.loop, Array.size, Nat.reduceAdd, Nat.reduceSub, Nat.reduceEqDiff, List.replicate, if_true, if_false, ↓reduceIte, reduceCtorEq, elB, evParts, Int.reduceToNat, Int.reduceLE, Int.reduceLT, Int.reduceEq, Nat.reduceMul, Nat.reduceLeDiff, Nat.reduceLT, ty3, ty4, ty9, ty22, ty23, ty24, ty25, ty27, ty35, ty40, ty44, ty46, ty55, ty30]
            refine back_intro hs (i + 1) (le_pk [0] rfl (by simp) (by simp) ?_ ?_) (by omega) (by omega)
            · simp [subBlk, subAny, subA, Gra.cells]
            · simp [wk, subAny, subA, mkSub, idx]
      · obtain rfl : i = g.prods.length := by omega
        by_cases hce : ce = 0
        · have hcet : (ce ≠ 0) = False := by simpa using hce
          obtain ⟨k1, k2⟩ := hok hce
          have l1 : (((ints R).length : Int) = (g.nonts.length : Int)) = True := by rw [hri, hfR k1]; simp
          have l2 : (((ints E).length : Int) = (g.nonts.length : Int)) = True := by rw [hei, hfE k2]; simp
          simp -implicitDefEqProofs only [awp_draw _ _ Tryzdr5_6, Gra.cells, List.length_map, lt_false hlt,
    evx, evy, ofValue, ofCell, List.range, List.range.loop, Array.size, Nat.reduceAdd, Nat.reduceSub, Nat.reduceEqDiff, List.replicate, if_true, if_false, ↓reduceIte, reduceCtorEq, elB, evParts, Int.reduceToNat, Int.reduceLE, Int.reduceLT, Int.reduceEq, Nat.reduceMul, Nat.reduceLeDiff, Nat.reduceLT, ty3, ty4, ty9, ty22, ty23, ty24, ty25, ty27, ty35, ty40, ty44, ty46, ty55, ty30]
          refine callK_ret _ _ _ _ (call_pure (h8) (fun _ => rfl) (fun _ => rfl)) (ok_nil _ _) ?_
          simp -implicitDefEqProofs only [awp_draw _ _ Tryzdr5_6, hcet, Gra.cells, List.length_map, l1, l2,
    evx, evy, ofValue, ofCell, List.range, List.range.loop, Array.size, Nat.reduceAdd, Nat.reduceSub, Nat.reduceEqDiff, List.replicate, if_true, if_false, ↓reduceIte, reduceCtorEq, elB, evParts, Int.reduceToNat, Int.reduceLE, Int.reduceLT, Int.reduceEq, Nat.reduceMul, Nat.reduceLeDiff, Nat.reduceLT, ty3, ty4, ty9, ty22, ty23, ty24, ty25, ty27, ty35, ty40, ty44, ty46, ty55, ty30]
          exact le_flat rfl
        · have hcet : (ce ≠ 0) = True := by simpa using hce
          simp -implicitDefEqProofs only [awp_draw _ _ Tryzdr5_6, Gra.cells, List.length_map, lt_false hlt,
    evx, evy, ofValue, ofCell, List.range, List.range.loop, Array.size, Nat.reduceAdd, Nat.reduceSub, Nat.reduceEqDiff, List.replicate, if_true, if_false, ↓reduceIte, reduceCtorEq, elB, evParts, Int.reduceToNat, Int.reduceLE, Int.reduceLT, Int.reduceEq, Nat.reduceMul, Nat.reduceLeDiff, Nat.reduceLT, ty3, ty4, ty9, ty22, ty23, ty24, ty25, ty27, ty35, ty40, ty44, ty46, ty55, ty30]
          refine callK_ret _ _ _ _ (call_pure (h8) (fun _ => rfl) (fun _ => rfl)) (ok_nil _ _) ?_
          simp -implicitDefEqProofs only [awp_draw _ _ Tryzdr5_6, hcet,
    evx, evy, ofValue, ofCell, List.range, List.range.loop, Array.size, Nat.reduceAdd, Nat.reduceSub, Nat.reduceEqDiff, List.replicate, if_true, if_false, ↓reduceIte, reduceCtorEq, elB, evParts, Int.reduceToNat, Int.reduceLE, Int.reduceLT, Int.reduceEq, Nat.reduceMul, Nat.reduceLeDiff, Nat.reduceLT, ty3, ty4, ty9, ty22, ty23, ty24, ty25, ty27, ty35, ty40, ty44, ty46, ty55, ty30]
          exact le_flat rfl
end Go.Abs
