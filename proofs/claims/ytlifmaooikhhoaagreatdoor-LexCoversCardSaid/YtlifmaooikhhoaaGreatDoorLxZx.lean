/- The law LexCovers as a contract. -/
import Derived.Test.YtlifmaooikhhoaaGreatDoorTyTryzx
import Derived.Test.YtlifmaooikhhoaaGreatDoorDrTryzx
import Derived.Test.YtlifmaooikhhoaaGreatDoorLxXx
namespace Go.Abs
open Go.Proofs
set_option linter.unusedVariables false
set_option linter.unusedSimpArgs false
set_option maxRecDepth 100000
set_option maxHeartbeats 4000000
structure Covers (d : Aut) (s : Bs) (l : List Tok) (f : Int) : Prop where
  at_ : ∀ i (h : i < l.length), l[i].at_ = endT (l.take i) 0 ∧ 1 ≤ l[i].len ∧ l[i].at_ + l[i].len ≤ s.length
  fin : (f = -1 ∧ endT l 0 = s.length) ∨ (f ≠ -1 ∧ f = endT l 0)
  rest : ∀ i (h : i < l.length), (d.all (s.drop l[i].at_)).1.map (Tok.shift l[i].at_) = l.drop i
theorem all_covers (d : Aut) (s : Bs) : Covers d s (d.all s).1 (d.all s).2 := by
  cases hb : d.rightB with
  | false =>
    have e : d.all s = ([], 0) := by unfold Aut.all; rw [hb]; rfl
    rw [e]
    exact ⟨fun i h => by simp at h, .inr ⟨by omega, rfl⟩, fun i h => by simp at h⟩
  | true =>
    have ea : ∀ t : Bs, d.all t = d.allF t 0 := fun t => by unfold Aut.all; rw [hb]; rfl
    rw [ea s]
    have hc := Aut.allF_cover (d := d) s 0
    have hd := Aut.allF_drop (d := d) s 0
    refine ⟨fun i h => ?_, ?_, fun i h => ?_⟩
    · have h1 := hc _ (List.getElem_mem h)
      exact ⟨(hd i (by omega)).2.2.2 h, h1.1, by omega⟩
    · obtain ⟨h1, h2, h3, _⟩ := hd _ (Nat.le_refl _)
      rw [List.take_length] at h1 h2 h3
      rw [List.drop_length, Nat.sub_zero] at h3
      by_cases hr : s.drop (endT (d.allF s 0).1 0) = []
      · rw [hr, Aut.allF_nil] at h3
        have hl := congrArg List.length hr
        rw [List.length_drop] at hl
        simp at hl
        exact .inl ⟨(congrArg Prod.snd h3).symm, by omega⟩
      · by_cases h0 : (d.one (s.drop (endT (d.allF s 0).1 0))).1.2 = 0
        · rw [Aut.allF_none hr h0] at h3
          have h4 : ((endT (d.allF s 0).1 0 : Nat) : Int) = (d.allF s 0).2 := congrArg Prod.snd h3
          exact .inr ⟨by omega, h4.symm⟩
        · rw [Aut.allF_some h0] at h3
          have h4 := congrArg Prod.fst h3
          simp at h4
    · obtain ⟨h1, h2, h3, h4⟩ := hd i (by omega)
      rw [h4 h, ea]
      rw [Nat.sub_zero] at h3
      have h5 := Aut.allF_shift (d := d) (endT ((d.allF s 0).1.take i) 0) (s.drop (endT ((d.allF s 0).1.take i) 0)) 0
      rw [Nat.zero_add, h3] at h5
      exact (congrArg Prod.fst h5).symm
theorem endT_take {l : List Tok} {i : Nat} (h : i < l.length) : endT (l.take (i + 1)) 0 = l[i].at_ + l[i].len := by
  rw [List.take_succ_eq_append_getElem h, endT_append]
theorem wu8 {k : Int} (h : (Lit.int .u8 k).wf = true) : ∃ n : Nat, n < 256 ∧ k = n := by
  have h1 : 0 ≤ k ∧ k ≤ 255 := by simpa [Lit.wf, IntKind.min, IntKind.max, IntKind.bits, IntKind.signed] using h
  exact ⟨k.toNat, by omega, by omega⟩
theorem lawLexCovers (d : Aut) (s : Bs) (k : Int) (hk : (Lit.int .u8 k).wf = true) : Ok Tryz.prog 4 [d.av, .fv (.str s), .fv (.int .u8 k)] [] (.ret (.fv (.bool true))) [] := by
  obtain ⟨k, hk, rfl⟩ := wu8 hk
  refine ok_start (k := 156) (n0 := 0) (rs := [.tmp 6]) mix Tryz.func4 rfl rfl rfl rfl rfl rfl rfl ?_
  simp -implicitDefEqProofs only [awp_draw _ _ Tryzdr4_20, awp_draw _ _ Tryzdr4_26, Aut.av,
    evx, evy, ofValue, ofCell, List.range, List.range.loop, Array.size, Nat.reduceAdd, Nat.reduceSub, Nat.reduceEqDiff, List.replicate, if_true, if_false, ↓reduceIte, reduceCtorEq, elB, evParts, Int.reduceToNat, Int.reduceLE, Int.reduceLT, Int.reduceEq, Nat.reduceMul, Nat.reduceLeDiff, Nat.reduceLT, ty3, ty4, ty9, ty23, ty22, ty25, ty5, ty35, ty31, ty47, ty38, ty43]
  refine callK_ret _ _ _ _ (call_pure (okWakes10) (fun _ => rfl) (fun _ => rfl)) (ok_nil _ _) ?_
  by_cases c1 : (200 : Int) < (s.length : Int)
  · simp -implicitDefEqProofs only [awp_draw _ _ Tryzdr4_20, awp_draw _ _ Tryzdr4_26, lit_true c1,
    evx, evy, ofValue, ofCell, List.range, List.range.loop, Array.size, Nat.reduceAdd, Nat.reduceSub, Nat.reduceEqDiff, List.replicate, if_true, if_false, ↓reduceIte, reduceCtorEq, elB, evParts, Int.reduceToNat, Int.reduceLE, Int.reduceLT, Int.reduceEq, Nat.reduceMul, Nat.reduceLeDiff, Nat.reduceLT, ty3, ty4, ty9, ty23, ty22, ty25, ty5, ty35, ty31, ty47, ty38, ty43]
    exact le_flat rfl
  by_cases c2 : (300 : Int) < (d.next.length : Int)
  · simp -implicitDefEqProofs only [awp_draw _ _ Tryzdr4_20, awp_draw _ _ Tryzdr4_26, List.length_map, lit_false c1, lit_true c2,
    evx, evy, ofValue, ofCell, List.range, List.range.loop, Array.size, Nat.reduceAdd, Nat.reduceSub, Nat.reduceEqDiff, List.replicate, if_true, if_false, ↓reduceIte, reduceCtorEq, elB, evParts, Int.reduceToNat, Int.reduceLE, Int.reduceLT, Int.reduceEq, Nat.reduceMul, Nat.reduceLeDiff, Nat.reduceLT, ty3, ty4, ty9, ty23, ty22, ty25, ty5, ty35, ty31, ty47, ty38, ty43]
    exact le_flat rfl
  have hall := ok20 d (by omega) s (by omega)
  have hall2 := fun n : Nat => ok20 d (by omega) (s.drop n) (by rw [List.length_drop]; omega)
  have hlen := all_len d s
  have hcov := all_covers d s
  generalize d.all s = x at hall hlen hcov
  obtain ⟨l, f⟩ := x
  simp only at hall hlen hcov
  obtain ⟨ha, hf, hrest⟩ := hcov
  simp -implicitDefEqProofs only [awp_draw _ _ Tryzdr4_20, awp_draw _ _ Tryzdr4_26, List.length_map, lit_false c1, lit_false c2,
    evx, evy, ofValue, ofCell, List.range, List.range.loop, Array.size, Nat.reduceAdd, Nat.reduceSub, Nat.reduceEqDiff, List.replicate, if_true, if_false, ↓reduceIte, reduceCtorEq, elB, evParts, Int.reduceToNat, Int.reduceLE, Int.reduceLT, Int.reduceEq, Nat.reduceMul, Nat.reduceLeDiff, Nat.reduceLT, ty3, ty4, ty9, ty23, ty22, ty25, ty5, ty35, ty31, ty47, ty38, ty43]
  refine callK_ret _ _ _ _ (call_pure (hall) (fun _ => rfl) (fun _ => rfl)) (ok_nil _ _) ?_
  simp -implicitDefEqProofs only [awp_draw _ _ Tryzdr4_20, awp_draw _ _ Tryzdr4_26, List.length_map,
    evx, evy, ofValue, ofCell, List.range, List.range.loop, Array.size, Nat.reduceAdd, Nat.reduceSub, Nat.reduceEqDiff, List.replicate, if_true, if_false, ↓reduceIte, reduceCtorEq, elB, evParts, Int.reduceToNat, Int.reduceLE, Int.reduceLT, Int.reduceEq, Nat.reduceMul, Nat.reduceLeDiff, Nat.reduceLT, ty3, ty4, ty9, ty23, ty22, ty25, ty5, ty35, ty31, ty47, ty38, ty43]
  refine loop_rule (fun i : Nat => ⟨[.any, .fv (.str s), .fv (.int .u8 k), .ptr 0 0 0 0, .any, .any, .any, .fv (.lst 3 (l.map tokRow)), .fv (.int .i64 f), .fv (.int .i64 (endT (l.take i) 0 : Nat)), .any, .any, .any, .any, .any, .any, .any, .any, .any, .any, .any, .any, .any, .any, .any, .any, .any, .any, .any, .any, .any, .any, .any, .any, .fv (.lst 3 (l.map tokRow)), .fv (.int .i64 l.length), .fv (.int .i64 i), .any, .any, .any, .any, .any, .any, .any, .any, .any, .any, .any, .any, .any, .any, .any, .any, .any, .any, .any, .any, .any, .any, .any, .any, .any, .any, .any, .any, .any, .any, .any, .any, .any, .any, .any, .any, .any, .any, .any, .any, .any, .any, .any, .any, .any, .any, .any, .any, .any, .any, .any, .any, .any, .any, .any, .any, .any, .any, .any, .any, .any, .any, .any, .any, .any, .any, .any, .any, .any, .any, .any, .any, .any, .any, .any, .any, .any, .any, .any, .any, .any, .any, .any, .any, .any, .any, .any, .any, .any, .any, .any, .any, .any, .any, .any, .any, .any, .any, .any, .any, .any, .any, .any, .any, .any, .any, .any, .any, .any, .any, .any, .any, .any, .any, .any, .any, .any, .any, .any, .any, .any, .any], [.box d.cells], []⟩)
    (fun i => i ≤ l.length) (fun i => l.length - i) 0 (le_wk (by simp [wk, Aut.cells, endT])) (by simp) (fun i hi st hst => ?_)
  by_cases hlt : i < l.length
  · have hr := rows_at tokRow l i hlt
    obtain ⟨h1, h2, h3⟩ := ha i hlt
    have h4 := endT_take hlt
    rw [← h1]
    generalize l[i] = t at hr h1 h2 h3 h4
    have e1 : ((t.at_ : Int) = (t.at_ : Int)) = True := eq_self _
    have e2 : ((t.len : Int) < 1) = False := eq_false (by omega)
    have e3 : IntKind.wrap .i64 ((s.length : Int) - (t.at_ : Int)) = ((s.length - t.at_ : Nat) : Int) := by rw [wrap_small (by omega) (by omega)]; omega
    have e4 : (((s.length - t.at_ : Nat) : Int) < (t.len : Int)) = False := eq_false (by omega)
    simp -implicitDefEqProofs only [awp_draw _ _ Tryzdr4_20, awp_draw _ _ Tryzdr4_26, lt_true hlt, hr, tokRow, stB_boxA, splice_all, List.all_cons, List.all_nil, Bool.and_self, e1, e2, e3, e4, wsum t.at_ t.len (by omega), wsucc i (by omega),
    evx, evy, ofValue, ofCell, List.range, List.range.loop, Array.size, Nat.reduceAdd, Nat.reduceSub, Nat.reduceEqDiff, List.replicate, if_true, if_false, ↓reduceIte, reduceCtorEq, elB, evParts, Int.reduceToNat, Int.reduceLE, Int.reduceLT, Int.reduceEq, Nat.reduceMul, Nat.reduceLeDiff, Nat.reduceLT, ty3, ty4, ty9, ty23, ty22, ty25, ty5, ty35, ty31, ty47, ty38, ty43]
    refine back_intro hst (i + 1) (le_pk [0] rfl (by simp) (by simp) ?_ ?_) (by omega) (by omega)
    · simp [subBlk, subAny, subA, mkSub, idx, Aut.cells]
    · simp [wk, subAny, subA, mkSub, idx, h4]
  · obtain rfl : i = l.length := by omega
    rw [List.take_length]
    have e1 : f = -1 → (((endT l 0 : Nat) : Int) = (s.length : Int)) = True := fun h => eq_true (by omega)
    rcases hf with ⟨hf1, hf⟩ | ⟨hf1, hf⟩
    all_goals first
      | (have hq : f = -1 := hf1
         have e1 : (((endT l 0 : Nat) : Int) = (s.length : Int)) = True := eq_true (by omega)
         have e2 : (f = -1) = True := eq_true hq
         simp -implicitDefEqProofs only [awp_draw _ _ Tryzdr4_20, awp_draw _ _ Tryzdr4_26, lt_false hlt, e1, e2,
    evx, evy, ofValue, ofCell, List.range, List.range.loop, Array.size, Nat.reduceAdd, Nat.reduceSub, Nat.reduceEqDiff, List.replicate, if_true, if_false, ↓reduceIte, reduceCtorEq, elB, evParts, Int.reduceToNat, Int.reduceLE, Int.reduceLT, Int.reduceEq, Nat.reduceMul, Nat.reduceLeDiff, Nat.reduceLT, ty3, ty4, ty9, ty23, ty22, ty25, ty5, ty35, ty31, ty47, ty38, ty43])
      | (have hq : f ≠ -1 := hf1
         have e2 : (f = -1) = False := eq_false hq
         have e1 : (f = ((endT l 0 : Nat) : Int)) = True := eq_true hf
         simp -implicitDefEqProofs only [awp_draw _ _ Tryzdr4_20, awp_draw _ _ Tryzdr4_26, lt_false hlt, e1, e2,
    evx, evy, ofValue, ofCell, List.range, List.range.loop, Array.size, Nat.reduceAdd, Nat.reduceSub, Nat.reduceEqDiff, List.replicate, if_true, if_false, ↓reduceIte, reduceCtorEq, elB, evParts, Int.reduceToNat, Int.reduceLE, Int.reduceLT, Int.reduceEq, Nat.reduceMul, Nat.reduceLeDiff, Nat.reduceLT, ty3, ty4, ty9, ty23, ty22, ty25, ty5, ty35, ty31, ty47, ty38, ty43])
    all_goals
      by_cases hl0 : l.length = 0
      · have hl0t : ((l.length : Int) = 0) = True := eq_true (by omega)
        simp -implicitDefEqProofs only [awp_draw _ _ Tryzdr4_20, awp_draw _ _ Tryzdr4_26, List.length_map, hl0t,
    evx, evy, ofValue, ofCell, List.range, List.range.loop, Array.size, Nat.reduceAdd, Nat.reduceSub, Nat.reduceEqDiff, List.replicate, if_true, if_false, ↓reduceIte, reduceCtorEq, elB, evParts, Int.reduceToNat, Int.reduceLE, Int.reduceLT, Int.reduceEq, Nat.reduceMul, Nat.reduceLeDiff, Nat.reduceLT, ty3, ty4, ty9, ty23, ty22, ty25, ty5, ty35, ty31, ty47, ty38, ty43]
        exact le_flat rfl
      have hl0t : ((l.length : Int) = 0) = False := eq_false (by omega)
      have hmod : ((k : Int).tmod (l.length : Int)) = ((k % l.length : Nat) : Int) := (Int.ofNat_tmod k l.length).symm
      have hwk : IntKind.wrap .i64 (k : Int) = (k : Int) := wrap_small (by omega) (by omega)
      have hnl : k % l.length < l.length := Nat.mod_lt _ (by omega)
      generalize k % l.length = n at hmod hnl
      have hrn := rows_at tokRow l n hnl
      have hre := hrest n hnl
      have han := (ha n hnl).2.2
      have hal := hall2 l[n].at_
      generalize hfr : l[n] = t at hrn hre han hal
      have hmc := all_len d (s.drop t.at_)
      rw [List.length_drop] at hmc
      generalize d.all (s.drop t.at_) = m at hal hre hmc
      obtain ⟨m, g⟩ := m
      simp only at hal hre hmc
      have hml : m.length = l.length - n := by
        have := congrArg List.length hre
        rw [List.length_map, List.length_drop] at this
        exact this
      have e7 : (t.at_ ≤ s.length) = True := eq_true (by omega)
      have e8 : IntKind.wrap .i64 ((l.length : Int) - (n : Int)) = ((m.length : Nat) : Int) := by rw [wrap_small (by omega) (by omega)]; omega
      have e9 : ((m.length : Int) = (m.length : Int)) = True := eq_self _
      have e10 : s.take s.length = s := List.take_length
      simp -implicitDefEqProofs only [awp_draw _ _ Tryzdr4_20, awp_draw _ _ Tryzdr4_26, List.length_map, Aut.cells, hl0t, bin_rem, hwk, hmod, hrn, tokRow, e7, Nat.le_refl, e10,
    evx, evy, ofValue, ofCell, List.range, List.range.loop, Array.size, Nat.reduceAdd, Nat.reduceSub, Nat.reduceEqDiff, List.replicate, if_true, if_false, ↓reduceIte, reduceCtorEq, elB, evParts, Int.reduceToNat, Int.reduceLE, Int.reduceLT, Int.reduceEq, Nat.reduceMul, Nat.reduceLeDiff, Nat.reduceLT, ty3, ty4, ty9, ty23, ty22, ty25, ty5, ty35, ty31, ty47, ty38, ty43]
      refine callK_ret _ _ _ _ (call_pure hal (fun _ => rfl) (fun _ => rfl)) (by kernel_rfl) ?_
      simp -implicitDefEqProofs only [awp_draw _ _ Tryzdr4_20, awp_draw _ _ Tryzdr4_26, List.length_map, e8, e9,
    evx, evy, ofValue, ofCell, List.range, List.range.loop, Array.size, Nat.reduceAdd, Nat.reduceSub, Nat.reduceEqDiff, List.replicate, if_true, if_false, ↓reduceIte, reduceCtorEq, elB, evParts, Int.reduceToNat, Int.reduceLE, Int.reduceLT, Int.reduceEq, Nat.reduceMul, Nat.reduceLeDiff, Nat.reduceLT, ty3, ty4, ty9, ty23, ty22, ty25, ty5, ty35, ty31, ty47, ty38, ty43]
      refine loop_rule (fun i : Nat => ⟨[.any, .any, .any, .any, .any, .any, .any, .fv (.lst 3 (l.map tokRow)), .any, .any, .any, .any, .fv (.int .i64 n), .fv (.int .i64 t.at_), .fv (.lst 3 (m.map tokRow)), .any, .any, .any, .any, .any, .any, .any, .any, .any, .any, .any, .any, .any, .any, .any, .any, .any, .any, .any, .any, .any, .any, .any, .any, .any, .any, .any, .any, .any, .any, .any, .any, .any, .any, .any, .any, .any, .any, .any, .any, .any, .any, .any, .any, .any, .any, .any, .any, .any, .any, .any, .any, .any, .any, .any, .any, .any, .any, .any, .any, .any, .any, .any, .any, .any, .any, .any, .any, .any, .any, .any, .any, .any, .any, .any, .any, .any, .any, .any, .any, .any, .any, .any, .any, .any, .any, .any, .any, .any, .any, .any, .any, .any, .any, .fv (.int .i64 m.length), .fv (.int .i64 i), .any, .any, .any, .any, .any, .any, .any, .any, .any, .any, .any, .any, .any, .any, .any, .any, .any, .any, .any, .any, .any, .any, .any, .any, .any, .any, .any, .any, .any, .any, .any, .any, .any, .any, .any, .any, .any, .any, .any, .any, .any, .any, .any, .any, .any, .any, .any, .any], [], []⟩)
        (fun i => i ≤ m.length) (fun i => m.length - i) 0 (le_pk [] rfl (by simp) (by simp) rfl (by simp [wk, subAny, subA, mkSub, idx])) (by simp) (fun i hi st hst => ?_)
      by_cases hlt2 : i < m.length
      · have hr1 := rows_at tokRow m i hlt2
        have hil : n + i < l.length := by omega
        have hr2 := rows_at tokRow l (n + i) hil
        have heq : m[i].shift t.at_ = l[n + i] := by
          have h5 : (m.map (Tok.shift t.at_))[i]? = (l.drop n)[i]? := by rw [hre]
          rw [List.getElem?_map, List.getElem?_eq_getElem hlt2, List.getElem?_drop, List.getElem?_eq_getElem hil] at h5
          simpa using h5
        have hm1 := hmc
        have hmt := (ha (n + i) hil).2.2
        rw [← heq] at hr2 hmt
        generalize m[i] = u at hr1 hr2 hmt
        have b1 : (u.rule = u.rule) = True := eq_self _
        have b2 : ((u.len : Int) = (u.len : Int)) = True := eq_self _
        have b3 : (((u.at_ + t.at_ : Nat) : Int) = ((u.at_ + t.at_ : Nat) : Int)) = True := eq_self _
        have hu : (Tok.shift t.at_ u).at_ = u.at_ + t.at_ := rfl
        rw [hu] at hmt
        simp -implicitDefEqProofs only [awp_draw _ _ Tryzdr4_20, awp_draw _ _ Tryzdr4_26, List.length_map, lt_true hlt2, hr1, hr2, tokRow, Tok.shift, wsum n i (by omega), wsum u.at_ t.at_ (by omega), wsucc i (by omega), b1, b2, b3,
    evx, evy, ofValue, ofCell, List.range, List.range.loop, Array.size, Nat.reduceAdd, Nat.reduceSub, Nat.reduceEqDiff, List.replicate, if_true, if_false, ↓reduceIte, reduceCtorEq, elB, evParts, Int.reduceToNat, Int.reduceLE, Int.reduceLT, Int.reduceEq, Nat.reduceMul, Nat.reduceLeDiff, Nat.reduceLT, ty3, ty4, ty9, ty23, ty22, ty25, ty5, ty35, ty31, ty47, ty38, ty43]
        exact back_intro hst (i + 1) (le_wk (by simp [wk])) (by omega) (by omega)
      · obtain rfl : i = m.length := by omega
        simp -implicitDefEqProofs only [awp_draw _ _ Tryzdr4_20, awp_draw _ _ Tryzdr4_26, lt_false hlt2,
    evx, evy, ofValue, ofCell, List.range, List.range.loop, Array.size, Nat.reduceAdd, Nat.reduceSub, Nat.reduceEqDiff, List.replicate, if_true, if_false, ↓reduceIte, reduceCtorEq, elB, evParts, Int.reduceToNat, Int.reduceLE, Int.reduceLT, Int.reduceEq, Nat.reduceMul, Nat.reduceLeDiff, Nat.reduceLT, ty3, ty4, ty9, ty23, ty22, ty25, ty5, ty35, ty31, ty47, ty38, ty43]
        exact le_flat rfl
end Go.Abs
