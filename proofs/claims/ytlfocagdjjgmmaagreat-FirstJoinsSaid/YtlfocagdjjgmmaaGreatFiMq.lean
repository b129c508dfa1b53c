/- The laws FirstJoins and FirstProds as contracts. -/
import Derived.Test.YtlfocagdjjgmmaaGreatTyTryzq
import Derived.Test.YtlfocagdjjgmmaaGreatDrTryzq
import Derived.Test.YtlfocagdjjgmmaaGreatFiLq
namespace Go.Abs
open Go.Proofs
set_option linter.unusedVariables false
set_option linter.unusedSimpArgs false
set_option maxRecDepth 100000
set_option maxHeartbeats 8000000
theorem firsts_join {g : Gra} {a b : List Int} (h : ∀ k ∈ a, Nul g k) : setOf (g.firsts a ++ g.firsts b) = g.firsts (a ++ b) :=
  rises_unique _ _ (setOf_rises _) (g.firsts_rises _) fun x => by
    rw [mem_setOf, List.mem_append, g.mem_firsts, g.mem_firsts, g.mem_firsts, Fst.append_iff]
    constructor
    · rintro (⟨h1, h2⟩ | ⟨h1, h2⟩)
      · exact ⟨h1, .inl h2⟩
      · exact ⟨h1, .inr ⟨h, h2⟩⟩
    · rintro ⟨h1, h2 | h2⟩
      · exact .inl ⟨h1, h2⟩
      · exact .inr ⟨h1, h2.2⟩
theorem firsts_left {g : Gra} {a b : List Int} (h : ¬ ∀ k ∈ a, Nul g k) : g.firsts (a ++ b) = g.firsts a :=
  rises_unique _ _ (g.firsts_rises _) (g.firsts_rises _) fun x => by
    rw [g.mem_firsts, g.mem_firsts, Fst.append_iff]
    constructor
    · rintro ⟨h1, h2 | h2⟩
      · exact ⟨h1, h2⟩
      · exact absurd h2.1 h
    · rintro ⟨h1, h2⟩
      exact ⟨h1, .inl h2⟩
open Classical in
theorem nul_join {g : Gra} {a b : List Int} : decide (∀ k ∈ a ++ b, Nul g k) = (decide (∀ k ∈ a, Nul g k) && decide (∀ k ∈ b, Nul g k)) := by
  rw [Bool.eq_iff_iff, Bool.and_eq_true, decide_eq_true_eq, decide_eq_true_eq, decide_eq_true_eq]
  constructor
  · exact fun h => ⟨fun k hk => h k (List.mem_append_left _ hk), fun k hk => h k (List.mem_append_right _ hk)⟩
  · rintro ⟨h1, h2⟩ k hk
    rcases List.mem_append.1 hk with hk | hk
    · exact h1 k hk
    · exact h2 k hk
open Classical in
theorem lawJoins (g : Gra) (a b : List Int) (ha : a.length < 4611686018427387904) (hb : b.length < 4611686018427387904) : Ok Tryz.prog 8 [g.av, .fv (.lst 1 (ints a)), .fv (.lst 1 (ints b))] [] (.ret (.fv (.bool true))) [] := by
  have h7 := ok24 g
  have hila := ints_length a
  have hilb := ints_length b
  have hw : IntKind.wrap .i64 ((a.length : Int) + (b.length : Int)) = ((a.length + b.length : Nat) : Int) := by rw [wrap_small (by omega) (by omega)]; omega
  refine ok_start (k := 76) (n0 := 0) (rs := [.tmp 6]) mix Tryz.func8 rfl rfl rfl rfl rfl rfl rfl ?_
  simp -implicitDefEqProofs only [awp_draw _ _ Tryzdr8_7, Gra.av,
    evx, evy, ofValue, ofCell, List.range, List.range.loop, Array.size, Nat.reduceAdd, Nat.reduceSub, Nat.reduceEqDiff, List.replicate, if_true, if_false, ↓reduceIte, reduceCtorEq, elB, evParts, Int.reduceToNat, Int.reduceLE, Int.reduceLT, Int.reduceEq, Nat.reduceMul, Nat.reduceLeDiff, Nat.reduceLT, ty3, ty4, ty9, ty28, ty48, ty22, ty23, ty24, ty25, ty27, ty55]
  refine callK_ret _ _ _ _ (call_pure (okWakes15) (fun _ => rfl) (fun _ => rfl)) (ok_nil _ _) ?_
  cases hl : g.longB 60 with
  | true =>
    rw [hl] at h7
    simp -implicitDefEqProofs only [awp_draw _ _ Tryzdr8_7,
    evx, evy, ofValue, ofCell, List.range, List.range.loop, Array.size, Nat.reduceAdd, Nat.reduceSub, Nat.reduceEqDiff, List.replicate, if_true, if_false, ↓reduceIte, reduceCtorEq, elB, evParts, Int.reduceToNat, Int.reduceLE, Int.reduceLT, Int.reduceEq, Nat.reduceMul, Nat.reduceLeDiff, Nat.reduceLT, ty3, ty4, ty9, ty28, ty48, ty22, ty23, ty24, ty25, ty27, ty55]
    refine callK_ret _ _ _ _ (call_pure (h7) (fun _ => rfl) (fun _ => rfl)) (ok_nil _ _) ?_
    simp -implicitDefEqProofs only [awp_draw _ _ Tryzdr8_7,
    evx, evy, ofValue, ofCell, List.range, List.range.loop, Array.size, Nat.reduceAdd, Nat.reduceSub, Nat.reduceEqDiff, List.replicate, if_true, if_false, ↓reduceIte, reduceCtorEq, elB, evParts, Int.reduceToNat, Int.reduceLE, Int.reduceLT, Int.reduceEq, Nat.reduceMul, Nat.reduceLeDiff, Nat.reduceLT, ty3, ty4, ty9, ty28, ty48, ty22, ty23, ty24, ty25, ty27, ty55]
    exact le_flat rfl
  | false =>
    rw [hl] at h7
    have hg := (small_of hl).up (m := 100) (by omega)
    have hs := ok26 g hg
    by_cases ht : (40 : Int) < ((a.length + b.length : Nat) : Int)
    · simp -implicitDefEqProofs only [awp_draw _ _ Tryzdr8_7,
    evx, evy, ofValue, ofCell, List.range, List.range.loop, Array.size, Nat.reduceAdd, Nat.reduceSub, Nat.reduceEqDiff, List.replicate, if_true, if_false, ↓reduceIte, reduceCtorEq, elB, evParts, Int.reduceToNat, Int.reduceLE, Int.reduceLT, Int.reduceEq, Nat.reduceMul, Nat.reduceLeDiff, Nat.reduceLT, ty3, ty4, ty9, ty28, ty48, ty22, ty23, ty24, ty25, ty27, ty55]
      refine callK_ret _ _ _ _ (call_pure (h7) (fun _ => rfl) (fun _ => rfl)) (ok_nil _ _) ?_
      simp -implicitDefEqProofs only [awp_draw _ _ Tryzdr8_7, hila, hilb, hw, lit_true ht,
    evx, evy, ofValue, ofCell, List.range, List.range.loop, Array.size, Nat.reduceAdd, Nat.reduceSub, Nat.reduceEqDiff, List.replicate, if_true, if_false, ↓reduceIte, reduceCtorEq, elB, evParts, Int.reduceToNat, Int.reduceLE, Int.reduceLT, Int.reduceEq, Nat.reduceMul, Nat.reduceLeDiff, Nat.reduceLT, ty3, ty4, ty9, ty28, ty48, ty22, ty23, ty24, ty25, ty27, ty55]
      exact le_flat rfl
    have hsa := ok29 g hg a (by omega)
    have hsb := ok29 g hg b (by omega)
    cases hsd : g.sound with
    | false =>
      rw [hsd] at hs
      simp -implicitDefEqProofs only [awp_draw _ _ Tryzdr8_7,
    evx, evy, ofValue, ofCell, List.range, List.range.loop, Array.size, Nat.reduceAdd, Nat.reduceSub, Nat.reduceEqDiff, List.replicate, if_true, if_false, ↓reduceIte, reduceCtorEq, elB, evParts, Int.reduceToNat, Int.reduceLE, Int.reduceLT, Int.reduceEq, Nat.reduceMul, Nat.reduceLeDiff, Nat.reduceLT, ty3, ty4, ty9, ty28, ty48, ty22, ty23, ty24, ty25, ty27, ty55]
      refine callK_ret _ _ _ _ (call_pure (h7) (fun _ => rfl) (fun _ => rfl)) (ok_nil _ _) ?_
      simp -implicitDefEqProofs only [awp_draw _ _ Tryzdr8_7, hila, hilb, hw, lit_false ht,
    evx, evy, ofValue, ofCell, List.range, List.range.loop, Array.size, Nat.reduceAdd, Nat.reduceSub, Nat.reduceEqDiff, List.replicate, if_true, if_false, ↓reduceIte, reduceCtorEq, elB, evParts, Int.reduceToNat, Int.reduceLE, Int.reduceLT, Int.reduceEq, Nat.reduceMul, Nat.reduceLeDiff, Nat.reduceLT, ty3, ty4, ty9, ty28, ty48, ty22, ty23, ty24, ty25, ty27, ty55]
      refine callK_ret _ _ _ _ (call_pure (hs) (fun _ => rfl) (fun _ => rfl)) (ok_nil _ _) ?_
      simp -implicitDefEqProofs only [awp_draw _ _ Tryzdr8_7,
    evx, evy, ofValue, ofCell, List.range, List.range.loop, Array.size, Nat.reduceAdd, Nat.reduceSub, Nat.reduceEqDiff, List.replicate, if_true, if_false, ↓reduceIte, reduceCtorEq, elB, evParts, Int.reduceToNat, Int.reduceLE, Int.reduceLT, Int.reduceEq, Nat.reduceMul, Nat.reduceLeDiff, Nat.reduceLT, ty3, ty4, ty9, ty28, ty48, ty22, ty23, ty24, ty25, ty27, ty55]
      exact le_flat rfl
    | true =>
      rw [hsd] at hs
      cases hya : g.symsB a with
      | false =>
        rw [hya] at hsa
        simp -implicitDefEqProofs only [awp_draw _ _ Tryzdr8_7,
    evx, evy, ofValue, ofCell, List.range, List.range.loop, Array.size, Nat.reduceAdd, Nat.reduceSub, Nat.reduceEqDiff, List.replicate, if_true, if_false, ↓reduceIte, reduceCtorEq, elB, evParts, Int.reduceToNat, Int.reduceLE, Int.reduceLT, Int.reduceEq, Nat.reduceMul, Nat.reduceLeDiff, Nat.reduceLT, ty3, ty4, ty9, ty28, ty48, ty22, ty23, ty24, ty25, ty27, ty55]
        refine callK_ret _ _ _ _ (call_pure (h7) (fun _ => rfl) (fun _ => rfl)) (ok_nil _ _) ?_
        simp -implicitDefEqProofs only [awp_draw _ _ Tryzdr8_7, hila, hilb, hw, lit_false ht,
    evx, evy, ofValue, ofCell, List.range, List.range.loop, Array.size, Nat.reduceAdd, Nat.reduceSub, Nat.reduceEqDiff, List.replicate, if_true, if_false, ↓reduceIte, reduceCtorEq, elB, evParts, Int.reduceToNat, Int.reduceLE, Int.reduceLT, Int.reduceEq, Nat.reduceMul, Nat.reduceLeDiff, Nat.reduceLT, ty3, ty4, ty9, ty28, ty48, ty22, ty23, ty24, ty25, ty27, ty55]
        refine callK_ret _ _ _ _ (call_pure (hs) (fun _ => rfl) (fun _ => rfl)) (ok_nil _ _) ?_
        simp -implicitDefEqProofs only [awp_draw _ _ Tryzdr8_7,
    evx, evy, ofValue, ofCell, List.range, List.range.loop, Array.size, Nat.reduceAdd, Nat.reduceSub, Nat.reduceEqDiff, List.replicate, if_true, if_false, ↓reduceIte, reduceCtorEq, elB, evParts, Int.reduceToNat, Int.reduceLE, Int.reduceLT, Int.reduceEq, Nat.reduceMul, Nat.reduceLeDiff, Nat.reduceLT, ty3, ty4, ty9, ty28, ty48, ty22, ty23, ty24, ty25, ty27, ty55]
        refine callK_ret _ _ _ _ (call_pure (hsa) (fun _ => rfl) (fun _ => rfl)) (ok_nil _ _) ?_
        simp -implicitDefEqProofs only [awp_draw _ _ Tryzdr8_7,
    evx, evy, ofValue, ofCell, List.range, List.range.loop, Array.size, Nat.reduceAdd, Nat.reduceSub, Nat.reduceEqDiff, List.replicate, if_true, if_false, ↓reduceIte, reduceCtorEq, elB, evParts, Int.reduceToNat, Int.reduceLE, Int.reduceLT, Int.reduceEq, Nat.reduceMul, Nat.reduceLeDiff, Nat.reduceLT, ty3, ty4, ty9, ty28, ty48, ty22, ty23, ty24, ty25, ty27, ty55]
        exact le_flat rfl
      | true =>
        rw [hya] at hsa
        cases hyb : g.symsB b with
        | false =>
          rw [hyb] at hsb
          simp -implicitDefEqProofs only [awp_draw _ _ Tryzdr8_7,
    evx, evy, ofValue, ofCell, List.range, List.range.loop, Array.size, Nat.reduceAdd, Nat.reduceSub, Nat.reduceEqDiff, List.replicate, if_true, if_false, ↓reduceIte, reduceCtorEq, elB, evParts, Int.reduceToNat, Int.reduceLE, Int.reduceLT, Int.reduceEq, Nat.reduceMul, Nat.reduceLeDiff, Nat.reduceLT, ty3, ty4, ty9, ty28, ty48, ty22, ty23, ty24, ty25, ty27, ty55]
          refine callK_ret _ _ _ _ (call_pure (h7) (fun _ => rfl) (fun _ => rfl)) (ok_nil _ _) ?_
          simp -implicitDefEqProofs only [awp_draw _ _ Tryzdr8_7, hila, hilb, hw, lit_false ht,
    evx, evy, ofValue, ofCell, List.range, List.range.loop, Array.size, Nat.reduceAdd, Nat.reduceSub, Nat.reduceEqDiff, List.replicate, if_true, if_false, ↓reduceIte, reduceCtorEq, elB, evParts, Int.reduceToNat, Int.reduceLE, Int.reduceLT, Int.reduceEq, Nat.reduceMul, Nat.reduceLeDiff, Nat.reduceLT, ty3, ty4, ty9, ty28, ty48, ty22, ty23, ty24, ty25, ty27, ty55]
          refine callK_ret _ _ _ _ (call_pure (hs) (fun _ => rfl) (fun _ => rfl)) (ok_nil _ _) ?_
          simp -implicitDefEqProofs only [awp_draw _ _ Tryzdr8_7,
    evx, evy, ofValue, ofCell, List.range, List.range.loop, Array.size, Nat.reduceAdd, Nat.reduceSub, Nat.reduceEqDiff, List.replicate, if_true, if_false, ↓reduceIte, reduceCtorEq, elB, evParts, Int.reduceToNat, Int.reduceLE, Int.reduceLT, Int.reduceEq, Nat.reduceMul, Nat.reduceLeDiff, Nat.reduceLT, ty3, ty4, ty9, ty28, ty48, ty22, ty23, ty24, ty25, ty27, ty55]
          refine callK_ret _ _ _ _ (call_pure (hsa) (fun _ => rfl) (fun _ => rfl)) (ok_nil _ _) ?_
          simp -implicitDefEqProofs only [awp_draw _ _ Tryzdr8_7,
    evx, evy, ofValue, ofCell, List.range, List.range.loop, Array.size, Nat.reduceAdd, Nat.reduceSub, Nat.reduceEqDiff, List.replicate, if_true, if_false, ↓reduceIte, reduceCtorEq, elB, evParts, Int.reduceToNat, Int.reduceLE, Int.reduceLT, Int.reduceEq, Nat.reduceMul, Nat.reduceLeDiff, Nat.reduceLT, ty3, ty4, ty9, ty28, ty48, ty22, ty23, ty24, ty25, ty27, ty55]
          refine callK_ret _ _ _ _ (call_pure (hsb) (fun _ => rfl) (fun _ => rfl)) (ok_nil _ _) ?_
          simp -implicitDefEqProofs only [awp_draw _ _ Tryzdr8_7,
    evx, evy, ofValue, ofCell, List.range, List.range.loop, Array.size, Nat.reduceAdd, Nat.reduceSub, Nat.reduceEqDiff, List.replicate, if_true, if_false, ↓reduceIte, reduceCtorEq, elB, evParts, Int.reduceToNat, Int.reduceLE, Int.reduceLT, Int.reduceEq, Nat.reduceMul, Nat.reduceLeDiff, Nat.reduceLT, ty3, ty4, ty9, ty28, ty48, ty22, ty23, ty24, ty25, ty27, ty55]
          exact le_flat rfl
        | true =>
          rw [hyb] at hsb
          have hso := g.sound_iff hsd
          have htl := hso.terms_le
          have hyab : g.symsB (a ++ b) = true := by
            rw [symsB_iff] at hya hyb ⊢
            intro n hn
            rcases List.mem_append.1 hn with hn | hn
            · exact hya n hn
            · exact hyb n hn
          have hva := ok28 g hg hsd a (by omega) hya
          have hvb := ok28 g hg hsd b (by omega) hyb
          have hvab := ok28 g hg hsd (a ++ b) (by rw [List.length_append]; omega) hyab
          rw [nul_join] at hvab
          have hfa := g.firsts_length a
          have hfb := g.firsts_length b
          have hfab := g.firsts_length (a ++ b)
          have hj := @firsts_join g a b
          have hk := @firsts_left g a b
          have hun := ok34 (g.firsts a) (g.firsts b) (by omega) (by omega)
          have s1 := ok14 (g.firsts (a ++ b)) (g.firsts (a ++ b)) (by omega) (by omega)
          rw [cmpL_self] at s1
          generalize decide (∀ k ∈ b, Nul g k) = nb at hvb hvab
          have hlab := ints_length (a ++ b)
          rw [List.length_append] at hlab
          have htk : List.take a.length (ints a) = ints a := by rw [← hila, List.take_length]
          have e5 : ((nb == nb) : Bool) = true := by simp
          by_cases hna : ∀ k ∈ a, Nul g k
          · rw [decide_eq_true hna] at hva hvab
            rw [hj hna] at hun
            rw [Bool.true_and] at hvab
            generalize g.firsts (a ++ b) = lab at hvab hun s1
            generalize g.firsts a = la at hva hun
            generalize g.firsts b = lb at hvb hun
            simp -implicitDefEqProofs only [awp_draw _ _ Tryzdr8_7,
    evx, evy, ofValue, ofCell, List.range, List.range.loop, Array.size, Nat.reduceAdd, Nat.reduceSub, Nat.reduceEqDiff, List.replicate, if_true, if_false, ↓reduceIte, reduceCtorEq, elB, evParts, Int.reduceToNat, Int.reduceLE, Int.reduceLT, Int.reduceEq, Nat.reduceMul, Nat.reduceLeDiff, Nat.reduceLT, ty3, ty4, ty9, ty28, ty48, ty22, ty23, ty24, ty25, ty27, ty55]
            refine callK_ret _ _ _ _ (call_pure (h7) (fun _ => rfl) (fun _ => rfl)) (ok_nil _ _) ?_
            simp -implicitDefEqProofs only [awp_draw _ _ Tryzdr8_7, hila, hilb, hw, lit_false ht,
    evx, evy, ofValue, ofCell, List.range, List.range.loop, Array.size, Nat.reduceAdd, Nat.reduceSub, Nat.reduceEqDiff, List.replicate, if_true, if_false, ↓reduceIte, reduceCtorEq, elB, evParts, Int.reduceToNat, Int.reduceLE, Int.reduceLT, Int.reduceEq, Nat.reduceMul, Nat.reduceLeDiff, Nat.reduceLT, ty3, ty4, ty9, ty28, ty48, ty22, ty23, ty24, ty25, ty27, ty55]
            refine callK_ret _ _ _ _ (call_pure (hs) (fun _ => rfl) (fun _ => rfl)) (ok_nil _ _) ?_
            simp -implicitDefEqProofs only [awp_draw _ _ Tryzdr8_7,
    evx, evy, ofValue, ofCell, List.range, List.range.loop, Array.size, Nat.reduceAdd, Nat.reduceSub, Nat.reduceEqDiff, List.replicate, if_true, if_false, ↓reduceIte, reduceCtorEq, elB, evParts, Int.reduceToNat, Int.reduceLE, Int.reduceLT, Int.reduceEq, Nat.reduceMul, Nat.reduceLeDiff, Nat.reduceLT, ty3, ty4, ty9, ty28, ty48, ty22, ty23, ty24, ty25, ty27, ty55]
            refine callK_ret _ _ _ _ (call_pure (hsa) (fun _ => rfl) (fun _ => rfl)) (ok_nil _ _) ?_
            simp -implicitDefEqProofs only [awp_draw _ _ Tryzdr8_7,
    evx, evy, ofValue, ofCell, List.range, List.range.loop, Array.size, Nat.reduceAdd, Nat.reduceSub, Nat.reduceEqDiff, List.replicate, if_true, if_false, ↓reduceIte, reduceCtorEq, elB, evParts, Int.reduceToNat, Int.reduceLE, Int.reduceLT, Int.reduceEq, Nat.reduceMul, Nat.reduceLeDiff, Nat.reduceLT, ty3, ty4, ty9, ty28, ty48, ty22, ty23, ty24, ty25, ty27, ty55]
            refine callK_ret _ _ _ _ (call_pure (hsb) (fun _ => rfl) (fun _ => rfl)) (ok_nil _ _) ?_
            simp -implicitDefEqProofs only [awp_draw _ _ Tryzdr8_7,
    evx, evy, ofValue, ofCell, List.range, List.range.loop, Array.size, Nat.reduceAdd, Nat.reduceSub, Nat.reduceEqDiff, List.replicate, if_true, if_false, ↓reduceIte, reduceCtorEq, elB, evParts, Int.reduceToNat, Int.reduceLE, Int.reduceLT, Int.reduceEq, Nat.reduceMul, Nat.reduceLeDiff, Nat.reduceLT, ty3, ty4, ty9, ty28, ty48, ty22, ty23, ty24, ty25, ty27, ty55]
            refine callK_ret _ _ _ _ (call_pure (hva) (fun _ => rfl) (fun _ => rfl)) (ok_nil _ _) ?_
            simp -implicitDefEqProofs only [awp_draw _ _ Tryzdr8_7,
    evx, evy, ofValue, ofCell, List.range, List.range.loop, Array.size, Nat.reduceAdd, Nat.reduceSub, Nat.reduceEqDiff, List.replicate, if_true, if_false, ↓reduceIte, reduceCtorEq, elB, evParts, Int.reduceToNat, Int.reduceLE, Int.reduceLT, Int.reduceEq, Nat.reduceMul, Nat.reduceLeDiff, Nat.reduceLT, ty3, ty4, ty9, ty28, ty48, ty22, ty23, ty24, ty25, ty27, ty55]
            refine callK_ret _ _ _ _ (call_pure (hvb) (fun _ => rfl) (fun _ => rfl)) (ok_nil _ _) ?_
            simp -implicitDefEqProofs only [awp_draw _ _ Tryzdr8_7, hila, hilb, htk,
    evx, evy, ofValue, ofCell, List.range, List.range.loop, Array.size, Nat.reduceAdd, Nat.reduceSub, Nat.reduceEqDiff, List.replicate, if_true, if_false, ↓reduceIte, reduceCtorEq, elB, evParts, Int.reduceToNat, Int.reduceLE, Int.reduceLT, Int.reduceEq, Nat.reduceMul, Nat.reduceLeDiff, Nat.reduceLT, ty3, ty4, ty9, ty28, ty48, ty22, ty23, ty24, ty25, ty27, ty55]
            refine ⟨by omega, by kernel_rfl, ⟨by omega, by omega⟩, by kernel_rfl, ?_⟩
            refine callK_ret _ _ _ _ (call_freeze (args' := [g.av, .fv (.lst 1 (ints (a ++ b)))]) [3] (fun i hi => by simp at hi; subst hi; exact ⟨_, _, rfl⟩) (by simp [subAny, subA, subL, frzSub, Gra.av, ints_append, hila, hilb, List.take_of_length_le]) rfl
              (call_pure hvab (fun _ => rfl) (fun _ => rfl)) [3] (by simp) (by simp) (fun i hi hl => by
                match i, hi, hl with
                | 0, _, _ => simp [freezeSt, killAll, subBlk, subAny, subA]
                | 1, _, _ => simp [freezeSt, killAll, subBlk, subAny, subA]
                | 2, _, _ => simp [freezeSt, killAll, subBlk, subAny, subA]
                | 3, hi, _ => exact absurd (by simp) hi
                | i + 4, _, hl => simp at hl; omega)) (by kernel_rfl) ?_
            simp -implicitDefEqProofs only [awp_draw _ _ Tryzdr8_7, subAny, subA, subL, backSub, back, putBack, subBlk, Option.getD_some, List.map_cons, List.map_nil, Nat.not_lt_zero, Nat.sub_zero, Nat.add_zero, List.length_map, freezeSt, frzSub, killAll, List.contains_cons, List.contains_nil, Nat.reduceBEq, Bool.or_false,
    evx, evy, ofValue, ofCell, List.range, List.range.loop, Array.size, Nat.reduceAdd, Nat.reduceSub, Nat.reduceEqDiff, List.replicate, if_true, if_false, ↓reduceIte, reduceCtorEq, elB, evParts, Int.reduceToNat, Int.reduceLE, Int.reduceLT, Int.reduceEq, Nat.reduceMul, Nat.reduceLeDiff, Nat.reduceLT, ty3, ty4, ty9, ty28, ty48, ty22, ty23, ty24, ty25, ty27, ty55]
            refine callK_ret _ _ _ _ (call_pure (hun) (fun _ => rfl) (fun _ => rfl)) (ok_nil _ _) ?_
            simp -implicitDefEqProofs only [awp_draw _ _ Tryzdr8_7,
    evx, evy, ofValue, ofCell, List.range, List.range.loop, Array.size, Nat.reduceAdd, Nat.reduceSub, Nat.reduceEqDiff, List.replicate, if_true, if_false, ↓reduceIte, reduceCtorEq, elB, evParts, Int.reduceToNat, Int.reduceLE, Int.reduceLT, Int.reduceEq, Nat.reduceMul, Nat.reduceLeDiff, Nat.reduceLT, ty3, ty4, ty9, ty28, ty48, ty22, ty23, ty24, ty25, ty27, ty55]
            refine callK_ret _ _ _ _ (call_pure (s1) (fun _ => rfl) (fun _ => rfl)) (ok_nil _ _) ?_
            simp -implicitDefEqProofs only [awp_draw _ _ Tryzdr8_7, eqlB2, e5,
    evx, evy, ofValue, ofCell, List.range, List.range.loop, Array.size, Nat.reduceAdd, Nat.reduceSub, Nat.reduceEqDiff, List.replicate, if_true, if_false, ↓reduceIte, reduceCtorEq, elB, evParts, Int.reduceToNat, Int.reduceLE, Int.reduceLT, Int.reduceEq, Nat.reduceMul, Nat.reduceLeDiff, Nat.reduceLT, ty3, ty4, ty9, ty28, ty48, ty22, ty23, ty24, ty25, ty27, ty55]
            cases nb <;> exact le_flat rfl
          · rw [decide_eq_false hna] at hva hvab
            rw [Bool.false_and] at hvab
            rw [hk hna] at hvab s1
            generalize g.firsts a = la at hva hvab s1
            generalize g.firsts b = lb at hvb
            simp -implicitDefEqProofs only [awp_draw _ _ Tryzdr8_7,
    evx, evy, ofValue, ofCell, List.range, List.range.loop, Array.size, Nat.reduceAdd, Nat.reduceSub, Nat.reduceEqDiff, List.replicate, if_true, if_false, ↓reduceIte, reduceCtorEq, elB, evParts, Int.reduceToNat, Int.reduceLE, Int.reduceLT, Int.reduceEq, Nat.reduceMul, Nat.reduceLeDiff, Nat.reduceLT, ty3, ty4, ty9, ty28, ty48, ty22, ty23, ty24, ty25, ty27, ty55]
            refine callK_ret _ _ _ _ (call_pure (h7) (fun _ => rfl) (fun _ => rfl)) (ok_nil _ _) ?_
            simp -implicitDefEqProofs only [awp_draw _ _ Tryzdr8_7, hila, hilb, hw, lit_false ht,
    evx, evy, ofValue, ofCell, List.range, List.range.loop, Array.size, Nat.reduceAdd, Nat.reduceSub, Nat.reduceEqDiff, List.replicate, if_true, if_false, ↓reduceIte, reduceCtorEq, elB, evParts, Int.reduceToNat, Int.reduceLE, Int.reduceLT, Int.reduceEq, Nat.reduceMul, Nat.reduceLeDiff, Nat.reduceLT, ty3, ty4, ty9, ty28, ty48, ty22, ty23, ty24, ty25, ty27, ty55]
            refine callK_ret _ _ _ _ (call_pure (hs) (fun _ => rfl) (fun _ => rfl)) (ok_nil _ _) ?_
            simp -implicitDefEqProofs only [awp_draw _ _ Tryzdr8_7,
    evx, evy, ofValue, ofCell, List.range, List.range.loop, Array.size, Nat.reduceAdd, Nat.reduceSub, Nat.reduceEqDiff, List.replicate, if_true, if_false, ↓reduceIte, reduceCtorEq, elB, evParts, Int.reduceToNat, Int.reduceLE, Int.reduceLT, Int.reduceEq, Nat.reduceMul, Nat.reduceLeDiff, Nat.reduceLT, ty3, ty4, ty9, ty28, ty48, ty22, ty23, ty24, ty25, ty27, ty55]
            refine callK_ret _ _ _ _ (call_pure (hsa) (fun _ => rfl) (fun _ => rfl)) (ok_nil _ _) ?_
            simp -implicitDefEqProofs only [awp_draw _ _ Tryzdr8_7,
    evx, evy, ofValue, ofCell, List.range, List.range.loop, Array.size, Nat.reduceAdd, Nat.reduceSub, Nat.reduceEqDiff, List.replicate, if_true, if_false, ↓reduceIte, reduceCtorEq, elB, evParts, Int.reduceToNat, Int.reduceLE, Int.reduceLT, Int.reduceEq, Nat.reduceMul, Nat.reduceLeDiff, Nat.reduceLT, ty3, ty4, ty9, ty28, ty48, ty22, ty23, ty24, ty25, ty27, ty55]
            refine callK_ret _ _ _ _ (call_pure (hsb) (fun _ => rfl) (fun _ => rfl)) (ok_nil _ _) ?_
            simp -implicitDefEqProofs only [awp_draw _ _ Tryzdr8_7,
    evx, evy, ofValue, ofCell, List.range, List.range.loop, Array.size, Nat.reduceAdd, Nat.reduceSub, Nat.reduceEqDiff, List.replicate, if_true, if_false, ↓reduceIte, reduceCtorEq, elB, evParts, Int.reduceToNat, Int.reduceLE, Int.reduceLT, Int.reduceEq, Nat.reduceMul, Nat.reduceLeDiff, Nat.reduceLT, ty3, ty4, ty9, ty28, ty48, ty22, ty23, ty24, ty25, ty27, ty55]
            refine callK_ret _ _ _ _ (call_pure (hva) (fun _ => rfl) (fun _ => rfl)) (ok_nil _ _) ?_
            simp -implicitDefEqProofs only [awp_draw _ _ Tryzdr8_7,
    evx, evy, ofValue, ofCell, List.range, List.range.loop, Array.size, Nat.reduceAdd, Nat.reduceSub, Nat.reduceEqDiff, List.replicate, if_true, if_false, ↓reduceIte, reduceCtorEq, elB, evParts, Int.reduceToNat, Int.reduceLE, Int.reduceLT, Int.reduceEq, Nat.reduceMul, Nat.reduceLeDiff, Nat.reduceLT, ty3, ty4, ty9, ty28, ty48, ty22, ty23, ty24, ty25, ty27, ty55]
            refine callK_ret _ _ _ _ (call_pure (hvb) (fun _ => rfl) (fun _ => rfl)) (ok_nil _ _) ?_
            simp -implicitDefEqProofs only [awp_draw _ _ Tryzdr8_7, hila, hilb, htk,
    evx, evy, ofValue, ofCell, List.range, List.range.loop, Array.size, Nat.reduceAdd, Nat.reduceSub, Nat.reduceEqDiff, List.replicate, if_true, if_false, ↓reduceIte, reduceCtorEq, elB, evParts, Int.reduceToNat, Int.reduceLE, Int.reduceLT, Int.reduceEq, Nat.reduceMul, Nat.reduceLeDiff, Nat.reduceLT, ty3, ty4, ty9, ty28, ty48, ty22, ty23, ty24, ty25, ty27, ty55]
            refine ⟨by omega, by kernel_rfl, ⟨by omega, by omega⟩, by kernel_rfl, ?_⟩
            refine callK_ret _ _ _ _ (call_freeze (args' := [g.av, .fv (.lst 1 (ints (a ++ b)))]) [3] (fun i hi => by simp at hi; subst hi; exact ⟨_, _, rfl⟩) (by simp [subAny, subA, subL, frzSub, Gra.av, ints_append, hila, hilb, List.take_of_length_le]) rfl
              (call_pure hvab (fun _ => rfl) (fun _ => rfl)) [3] (by simp) (by simp) (fun i hi hl => by
                match i, hi, hl with
                | 0, _, _ => simp [freezeSt, killAll, subBlk, subAny, subA]
                | 1, _, _ => simp [freezeSt, killAll, subBlk, subAny, subA]
                | 2, _, _ => simp [freezeSt, killAll, subBlk, subAny, subA]
                | 3, hi, _ => exact absurd (by simp) hi
                | i + 4, _, hl => simp at hl; omega)) (by kernel_rfl) ?_
            simp -implicitDefEqProofs only [awp_draw _ _ Tryzdr8_7, subAny, subA, subL, backSub, back, putBack, subBlk, Option.getD_some, List.map_cons, List.map_nil, Nat.not_lt_zero, Nat.sub_zero, Nat.add_zero, List.length_map, freezeSt, frzSub, killAll, List.contains_cons, List.contains_nil, Nat.reduceBEq, Bool.or_false,
    evx, evy, ofValue, ofCell, List.range, List.range.loop, Array.size, Nat.reduceAdd, Nat.reduceSub, Nat.reduceEqDiff, List.replicate, if_true, if_false, ↓reduceIte, reduceCtorEq, elB, evParts, Int.reduceToNat, Int.reduceLE, Int.reduceLT, Int.reduceEq, Nat.reduceMul, Nat.reduceLeDiff, Nat.reduceLT, ty3, ty4, ty9, ty28, ty48, ty22, ty23, ty24, ty25, ty27, ty55]
            refine callK_ret _ _ _ _ (call_pure (s1) (fun _ => rfl) (fun _ => rfl)) (ok_nil _ _) ?_
            simp -implicitDefEqProofs only [awp_draw _ _ Tryzdr8_7, eqlB2,
    evx, evy, ofValue, ofCell, List.range, List.range.loop, Array.size, Nat.reduceAdd, Nat.reduceSub, Nat.reduceEqDiff, List.replicate, if_true, if_false, ↓reduceIte, reduceCtorEq, elB, evParts, Int.reduceToNat, Int.reduceLE, Int.reduceLT, Int.reduceEq, Nat.reduceMul, Nat.reduceLeDiff, Nat.reduceLT, ty3, ty4, ty9, ty28, ty48, ty22, ty23, ty24, ty25, ty27, ty55]
            exact le_flat rfl
theorem those_one {g : Gra} {s : Int} (hs : (g.terms : Int) < s) {o : List Int} (hr : o.Pairwise (· < ·)) (hm : ∀ x, x ∈ o ↔ ∃ p ∈ g.prods, p.left = s ∧ x ∈ g.firsts p.right) : o = g.firsts [s] :=
  rises_unique _ _ hr (g.firsts_rises _) fun x => by
    rw [hm, g.mem_firsts, Fst.nont hs]
    constructor
    · rintro ⟨p, hp, e, hx⟩
      rw [g.mem_firsts] at hx
      exact ⟨hx.1, p, hp, e, hx.2⟩
    · rintro ⟨h1, p, hp, e, h2⟩
      exact ⟨p, hp, e, (g.mem_firsts _ _).2 ⟨h1, h2⟩⟩
/-- What the first productions of a symbol begin with. -/
noncomputable def prodsF (g : Gra) (s : Int) (l : List Prd) : List Int := l.foldl (fun o p => if p.left = s then setOf (o ++ g.firsts p.right) else o) []
theorem prodsF_succ {g : Gra} {s : Int} {l : List Prd} {i : Nat} (h : i < l.length) : prodsF g s (l.take (i + 1)) = if l[i].left = s then setOf (prodsF g s (l.take i) ++ g.firsts l[i].right) else prodsF g s (l.take i) := by
  unfold prodsF
  rw [List.take_add_one, List.getElem?_eq_getElem h, List.foldl_append]
  rfl
theorem prodsF_facts {g : Gra} {s : Int} : ∀ (i : Nat) (l : List Prd), i ≤ l.length → (prodsF g s (l.take i)).Pairwise (· < ·) ∧ ∀ x, x ∈ prodsF g s (l.take i) ↔ ∃ p ∈ l.take i, p.left = s ∧ x ∈ g.firsts p.right
  | 0, l, _ => by simp [prodsF]
  | i + 1, l, h => by
    obtain ⟨h1, h2⟩ := prodsF_facts i l (by omega)
    rw [prodsF_succ (by omega)]
    have ht := List.take_succ_eq_append_getElem (show i < l.length by omega)
    split
    · rename_i e
      refine ⟨setOf_rises _, fun x => ?_⟩
      rw [mem_setOf, List.mem_append, h2, ht]
      constructor
      · rintro (⟨p, hp, e1, e2⟩ | hx)
        · exact ⟨p, List.mem_append_left _ hp, e1, e2⟩
        · exact ⟨_, List.mem_append_right _ (by simp), e, hx⟩
      · rintro ⟨p, hp, e1, e2⟩
        rcases List.mem_append.1 hp with hp | hp
        · exact .inl ⟨p, hp, e1, e2⟩
        · rw [List.mem_singleton] at hp; subst hp; exact .inr e2
    · rename_i e
      refine ⟨h1, fun x => ?_⟩
      rw [h2, ht]
      constructor
      · rintro ⟨p, hp, e1, e2⟩
        exact ⟨p, List.mem_append_left _ hp, e1, e2⟩
      · rintro ⟨p, hp, e1, e2⟩
        rcases List.mem_append.1 hp with hp | hp
        · exact ⟨p, hp, e1, e2⟩
        · rw [List.mem_singleton] at hp; subst hp; exact absurd e1 e
open Classical in
noncomputable def nulP (g : Gra) (s : Int) (p : Prd) : Bool := decide (p.left = s) && decide (∀ k ∈ p.right, Nul g k)
open Classical in
theorem nul_any {g : Gra} {s : Int} : g.prods.any (nulP g s) = decide (∀ k ∈ [s], Nul g k) := by
  rw [Bool.eq_iff_iff, List.any_eq_true, decide_eq_true_eq]
  constructor
  · rintro ⟨p, hp, h⟩ k hk
    simp only [nulP, Bool.and_eq_true, decide_eq_true_eq] at h
    rw [List.mem_singleton] at hk
    subst hk
    exact Nul.iff.2 ⟨p, hp, h.1, h.2⟩
  · intro h
    obtain ⟨p, hp, e, h2⟩ := Nul.iff.1 (h s (by simp))
    exact ⟨p, hp, by simp only [nulP, Bool.and_eq_true, decide_eq_true_eq]; exact ⟨e, h2⟩⟩
theorem any_take_succ2 {α : Type} (p : α → Bool) (l : List α) {i : Nat} (h : i < l.length) : (l.take (i + 1)).any p = ((l.take i).any p || p l[i]) := by
  rw [List.take_succ_eq_append_getElem h, List.any_append]
  simp
open Classical in
theorem lawProds (g : Gra) : Ok Tryz.prog 9 [g.av] [] (.ret (.fv (.bool true))) [] := by
  have h7 := ok24 g
  refine ok_start (k := 76) (n0 := 0) (rs := [.tmp 2]) mix Tryz.func9 rfl rfl rfl rfl rfl rfl rfl ?_
  simp -implicitDefEqProofs only [Gra.av,
    evx, evy, ofValue, ofCell, List.range, List.range.loop, Array.size, Nat.reduceAdd, Nat.reduceSub, Nat.reduceEqDiff, List.replicate, if_true, if_false, ↓reduceIte, reduceCtorEq, elB, evParts, Int.reduceToNat, Int.reduceLE, Int.reduceLT, Int.reduceEq, Nat.reduceMul, Nat.reduceLeDiff, Nat.reduceLT, ty3, ty4, ty9, ty28, ty48, ty22, ty23, ty24, ty25, ty27, ty55]
  refine callK_ret _ _ _ _ (call_pure (okWakes15) (fun _ => rfl) (fun _ => rfl)) (ok_nil _ _) ?_
  cases hl : g.longB 60 with
  | true =>
    rw [hl] at h7
    simp -implicitDefEqProofs only [evx, evy, ofValue, ofCell, List.range, List.range.loop, Array.size, Nat.reduceAdd, Nat.reduceSub, Nat.reduceEqDiff, List.replicate, if_true, if_false, ↓reduceIte, reduceCtorEq, elB, evParts, Int.reduceToNat, Int.reduceLE, Int.reduceLT, Int.reduceEq, Nat.reduceMul, Nat.reduceLeDiff, Nat.reduceLT, ty3, ty4, ty9, ty28, ty48, ty22, ty23, ty24, ty25, ty27, ty55]
    refine callK_ret _ _ _ _ (call_pure (h7) (fun _ => rfl) (fun _ => rfl)) (ok_nil _ _) ?_
    simp -implicitDefEqProofs only [evx, evy, ofValue, ofCell, List.range, List.range.loop, Array.size, Nat.reduceAdd, Nat.reduceSub, Nat.reduceEqDiff, List.replicate, if_true, if_false, ↓reduceIte, reduceCtorEq, elB, evParts, Int.reduceToNat, Int.reduceLE, Int.reduceLT, Int.reduceEq, Nat.reduceMul, Nat.reduceLeDiff, Nat.reduceLT, ty3, ty4, ty9, ty28, ty48, ty22, ty23, ty24, ty25, ty27, ty55]
    exact le_flat rfl
  | false =>
    rw [hl] at h7
    have hg := (small_of hl).up (m := 100) (by omega)
    have hs := ok26 g hg
    have hterms := ok35 g hg.nrules
    cases hsd : g.sound with
    | false =>
      rw [hsd] at hs
      simp -implicitDefEqProofs only [evx, evy, ofValue, ofCell, List.range, List.range.loop, Array.size, Nat.reduceAdd, Nat.reduceSub, Nat.reduceEqDiff, List.replicate, if_true, if_false, ↓reduceIte, reduceCtorEq, elB, evParts, Int.reduceToNat, Int.reduceLE, Int.reduceLT, Int.reduceEq, Nat.reduceMul, Nat.reduceLeDiff, Nat.reduceLT, ty3, ty4, ty9, ty28, ty48, ty22, ty23, ty24, ty25, ty27, ty55]
      refine callK_ret _ _ _ _ (call_pure (h7) (fun _ => rfl) (fun _ => rfl)) (ok_nil _ _) ?_
      simp -implicitDefEqProofs only [evx, evy, ofValue, ofCell, List.range, List.range.loop, Array.size, Nat.reduceAdd, Nat.reduceSub, Nat.reduceEqDiff, List.replicate, if_true, if_false, ↓reduceIte, reduceCtorEq, elB, evParts, Int.reduceToNat, Int.reduceLE, Int.reduceLT, Int.reduceEq, Nat.reduceMul, Nat.reduceLeDiff, Nat.reduceLT, ty3, ty4, ty9, ty28, ty48, ty22, ty23, ty24, ty25, ty27, ty55]
      refine callK_ret _ _ _ _ (call_pure (hs) (fun _ => rfl) (fun _ => rfl)) (ok_nil _ _) ?_
      simp -implicitDefEqProofs only [evx, evy, ofValue, ofCell, List.range, List.range.loop, Array.size, Nat.reduceAdd, Nat.reduceSub, Nat.reduceEqDiff, List.replicate, if_true, if_false, ↓reduceIte, reduceCtorEq, elB, evParts, Int.reduceToNat, Int.reduceLE, Int.reduceLT, Int.reduceEq, Nat.reduceMul, Nat.reduceLeDiff, Nat.reduceLT, ty3, ty4, ty9, ty28, ty48, ty22, ty23, ty24, ty25, ty27, ty55]
      exact le_flat rfl
    | true =>
      rw [hsd] at hs
      have hso := g.sound_iff hsd
      have htl := hso.terms_le
      have hnn := hso.nnonts
      have hnp := hso.nprods
      simp -implicitDefEqProofs only [evx, evy, ofValue, ofCell, List.range, List.range.loop, Array.size, Nat.reduceAdd, Nat.reduceSub, Nat.reduceEqDiff, List.replicate, if_true, if_false, ↓reduceIte, reduceCtorEq, elB, evParts, Int.reduceToNat, Int.reduceLE, Int.reduceLT, Int.reduceEq, Nat.reduceMul, Nat.reduceLeDiff, Nat.reduceLT, ty3, ty4, ty9, ty28, ty48, ty22, ty23, ty24, ty25, ty27, ty55]
      refine callK_ret _ _ _ _ (call_pure (h7) (fun _ => rfl) (fun _ => rfl)) (ok_nil _ _) ?_
      simp -implicitDefEqProofs only [evx, evy, ofValue, ofCell, List.range, List.range.loop, Array.size, Nat.reduceAdd, Nat.reduceSub, Nat.reduceEqDiff, List.replicate, if_true, if_false, ↓reduceIte, reduceCtorEq, elB, evParts, Int.reduceToNat, Int.reduceLE, Int.reduceLT, Int.reduceEq, Nat.reduceMul, Nat.reduceLeDiff, Nat.reduceLT, ty3, ty4, ty9, ty28, ty48, ty22, ty23, ty24, ty25, ty27, ty55]
      refine callK_ret _ _ _ _ (call_pure (hs) (fun _ => rfl) (fun _ => rfl)) (ok_nil _ _) ?_
      simp -implicitDefEqProofs only [evx, evy, ofValue, ofCell, List.range, List.range.loop, Array.size, Nat.reduceAdd, Nat.reduceSub, Nat.reduceEqDiff, List.replicate, if_true, if_false, ↓reduceIte, reduceCtorEq, elB, evParts, Int.reduceToNat, Int.reduceLE, Int.reduceLT, Int.reduceEq, Nat.reduceMul, Nat.reduceLeDiff, Nat.reduceLT, ty3, ty4, ty9, ty28, ty48, ty22, ty23, ty24, ty25, ty27, ty55]
      refine callK_ret _ _ _ _ (call_pure (hterms) (fun _ => rfl) (fun _ => rfl)) (ok_nil _ _) ?_
      simp -implicitDefEqProofs only [wsucc g.terms (by omega),
    evx, evy, ofValue, ofCell, List.range, List.range.loop, Array.size, Nat.reduceAdd, Nat.reduceSub, Nat.reduceEqDiff, List.replicate, if_true, if_false, ↓reduceIte, reduceCtorEq, elB, evParts, Int.reduceToNat, Int.reduceLE, Int.reduceLT, Int.reduceEq, Nat.reduceMul, Nat.reduceLeDiff, Nat.reduceLT, ty3, ty4, ty9, ty28, ty48, ty22, ty23, ty24, ty25, ty27, ty55]
      refine loop_rule (fun k : Nat => ⟨[.any, .ptr 0 0 0 0, .any, .fv (.int .i64 g.terms), .fv (.int .i64 ((g.terms + 1 + k : Nat) : Int)), .any, .any, .any, .any, .any, .any, .any, .any, .any, .any, .any, .any, .any, .any, .any, .any, .any, .any, .any, .any, .any, .any, .any, .any, .any, .any, .any, .any, .any, .any, .any, .any, .any, .any, .any, .any, .any, .any, .any, .any, .any, .any, .any, .any, .any, .any, .any, .any, .any, .any, .any, .any, .any, .any, .any, .any, .any, .any, .any, .any, .any, .any, .any, .any, .any, .any, .any, .any, .any, .any, .any, .any], [.box g.cells], []⟩)
        (fun k => k ≤ g.nonts.length) (fun k => g.nonts.length - k) 0 (le_wk (by simp [wk, Gra.cells])) (by omega) (fun k hk s1 hs1 => ?_)
      by_cases hkl : k < g.nonts.length
      · have hle : (((g.terms + 1 + k : Nat) : Int) ≤ ((g.terms + g.nonts.length : Nat) : Int)) = True := by simp only [eq_iff_iff, iff_true]; omega
        obtain ⟨sy, hsy⟩ : ∃ sy : Nat, sy = g.terms + 1 + k := ⟨_, rfl⟩
        have hsyl : (sy : Int) ≤ (g.all : Int) := by unfold Gra.all; omega
        have hone : g.symsB [(sy : Int)] = true := symsB_iff.2 fun n hn => by rw [List.mem_singleton] at hn; subst hn; omega
        have hv := ok28 g hg hsd [(sy : Int)] (by simp) hone
        rw [← hsy] at hle ⊢
        rw [show ints [(sy : Int)] = [[.int .i64 (sy : Int)]] from rfl] at hv
        have hna := @nul_any g (sy : Int)
        rw [← hna] at hv
        have hfl := g.firsts_length [(sy : Int)]
        have hso1 := @those_one g (sy : Int) (by omega)
        generalize g.firsts [(sy : Int)] = lf at hv hfl hso1
        generalize hnu : g.prods.any (nulP g (sy : Int)) = nu at hv
        simp -implicitDefEqProofs only [Gra.cells, List.length_map, wsum g.terms g.nonts.length (by omega), hle,
    evx, evy, ofValue, ofCell, List.range, List.range.loop, Array.size, Nat.reduceAdd, Nat.reduceSub, Nat.reduceEqDiff, List.replicate, if_true, if_false, ↓reduceIte, reduceCtorEq, elB, evParts, Int.reduceToNat, Int.reduceLE, Int.reduceLT, Int.reduceEq, Nat.reduceMul, Nat.reduceLeDiff, Nat.reduceLT, ty3, ty4, ty9, ty28, ty48, ty22, ty23, ty24, ty25, ty27, ty55]
        refine callK_ret _ _ _ _ (call_freeze (args' := [g.av, .fv (.lst 1 [[.int .i64 (sy : Int)]])]) [1] (fun i hi => by simp at hi; subst hi; exact ⟨_, _, rfl⟩) (by simp [subAny, subA, subL, frzSub, Gra.av]) rfl
          (call_pure hv (fun _ => rfl) (fun _ => rfl)) [1] (by simp) (by simp) (fun i hi hl => by
            match i, hi, hl with
            | 0, _, _ => simp [freezeSt, killAll, subBlk, subAny, subA]
            | 1, hi, _ => exact absurd (by simp) hi
            | i + 2, _, hl => simp at hl; omega)) (ok_none _ _) ?_
        simp -implicitDefEqProofs only [subAny, subA, subL, backSub, back, putBack, subBlk, Option.getD_some, List.map_cons, List.map_nil, Nat.not_lt_zero, Nat.sub_zero, Nat.add_zero, List.length_map, freezeSt, frzSub, killAll, List.contains_cons, List.contains_nil, Nat.reduceBEq, Bool.or_false, Gra.cells, List.length_map,
    evx, evy, ofValue, ofCell, List.range, List.range.loop, Array.size, Nat.reduceAdd, Nat.reduceSub, Nat.reduceEqDiff, List.replicate, if_true, if_false, ↓reduceIte, reduceCtorEq, elB, evParts, Int.reduceToNat, Int.reduceLE, Int.reduceLT, Int.reduceEq, Nat.reduceMul, Nat.reduceLeDiff, Nat.reduceLT, ty3, ty4, ty9, ty28, ty48, ty22, ty23, ty24, ty25, ty27, ty55]
        refine loop_rule (fun i : Nat => ⟨[.any, .ptr 0 0 0 0, .any, .fv (.int .i64 g.terms), .fv (.int .i64 (sy : Int)), .fv (.lst 1 (ints lf)), .fv (.bool nu), .fv (.lst 1 (ints (prodsF g sy (g.prods.take i)))), .fv (.bool ((g.prods.take i).any (nulP g sy))), .any, .any, .any, .any, .any, .any, .any, .any, .any, .any, .any, .any, .any, .any, .any, .any, .any, .any, .any, .any, .any, .any, .any, .any, .any, .any, .any, .any, .any, .any, .any, .any, .any, .any, .fv (.lst 3 (g.prods.map Prd.row)), .fv (.int .i64 g.prods.length), .fv (.int .i64 i), .any, .any, .any, .any, .any, .any, .any, .any, .any, .any, .any, .any, .any, .any, .any, .any, .any, .any, .any, .any, .any, .any, .any, .any, .any, .any, .any, .any, .any, .any, .any], [.box g.cells], []⟩)
          (fun i => i ≤ g.prods.length) (fun i => g.prods.length - i) 0 (Le.trans (le_nils 7 1 rfl) (le_pk [0] rfl (by simp) (by simp) (by simp [subBlk, subAny, subA, mkSub, idx, Gra.cells]) (by simp [wk, subAny, subA, mkSub, idx, prodsF, ints]))) (by omega) (fun i hi s2 hs2 => ?_)
        obtain ⟨hpr1, hpr2⟩ := prodsF_facts (g := g) (s := (sy : Int)) i g.prods hi
        have hpl : (prodsF g sy (g.prods.take i)).length ≤ g.terms := rises_len (a := 0) hpr1 fun x hx => by
          obtain ⟨p, _, _, h2⟩ := (hpr2 x).1 hx
          have := (g.mem_firsts _ _).1 h2
          omega
        by_cases hilt : i < g.prods.length
        · have hrow := rows_at Prd.row g.prods i hilt
          have hpr := hso.prods _ (List.getElem_mem hilt)
          have hps := prodsF_succ (g := g) (s := (sy : Int)) hilt
          have han := any_take_succ2 (nulP g (sy : Int)) g.prods hilt
          generalize g.prods[i] = p at hrow hpr hps han
          have hwi : IntKind.wrap .i64 ((i : Int) + 1) = ((i + 1 : Nat) : Int) := wsucc i (by omega)
          by_cases hpn : p.left = (sy : Int)
          · have hpt : (p.left = (sy : Int)) = True := by simpa using hpn
            rw [if_pos hpn] at hps
            have hvp := ok28 g hg hsd p.right (by omega) (symsB_iff.2 hpr.2.2.2.2.2)
            have hnp2 : nulP g (sy : Int) p = decide (∀ k ∈ p.right, Nul g k) := by unfold nulP; rw [decide_eq_true hpn, Bool.true_and]
            rw [← hnp2] at hvp
            generalize nulP g (sy : Int) p = np at hvp han
            have hflp := g.firsts_length p.right
            have hun := ok34 (prodsF g sy (g.prods.take i)) (g.firsts p.right) (by omega) (by omega)
            rw [← hps] at hun
            cases hb : (g.prods.take i).any (nulP g (sy : Int)) with
            | true =>
              rw [hb, Bool.true_or] at han
              simp -implicitDefEqProofs only [Gra.cells, List.length_map, stB_boxA, splice_all, List.all_cons, List.all_nil, lt_true hilt, hrow, Prd.row, hpt,
    evx, evy, ofValue, ofCell, List.range, List.range.loop, Array.size, Nat.reduceAdd, Nat.reduceSub, Nat.reduceEqDiff, List.replicate, if_true, if_false, ↓reduceIte, reduceCtorEq, elB, evParts, Int.reduceToNat, Int.reduceLE, Int.reduceLT, Int.reduceEq, Nat.reduceMul, Nat.reduceLeDiff, Nat.reduceLT, ty3, ty4, ty9, ty28, ty48, ty22, ty23, ty24, ty25, ty27, ty55]
              refine callK_ret _ _ _ _ (call_pure (hvp) (fun _ => rfl) (fun _ => rfl)) (ok_nil _ _) ?_
              simp -implicitDefEqProofs only [evx, evy, ofValue, ofCell, List.range, List.range.loop, Array.size, Nat.reduceAdd, Nat.reduceSub, Nat.reduceEqDiff, List.replicate, if_true, if_false, ↓reduceIte, reduceCtorEq, elB, evParts, Int.reduceToNat, Int.reduceLE, Int.reduceLT, Int.reduceEq, Nat.reduceMul, Nat.reduceLeDiff, Nat.reduceLT, ty3, ty4, ty9, ty28, ty48, ty22, ty23, ty24, ty25, ty27, ty55]
              refine callK_ret _ _ _ _ (call_pure (hun) (fun _ => rfl) (fun _ => rfl)) (ok_nil _ _) ?_
              simp -implicitDefEqProofs only [hwi,
    evx, evy, ofValue, ofCell, List.range, List.range.loop, Array.size, Nat.reduceAdd, Nat.reduceSub, Nat.reduceEqDiff, List.replicate, if_true, if_false, ↓reduceIte, reduceCtorEq, elB, evParts, Int.reduceToNat, Int.reduceLE, Int.reduceLT, Int.reduceEq, Nat.reduceMul, Nat.reduceLeDiff, Nat.reduceLT, ty3, ty4, ty9, ty28, ty48, ty22, ty23, ty24, ty25, ty27, ty55]
              exact back_intro hs2 (i + 1) (le_pk [0] rfl (by simp) (by simp) (by simp [subBlk, subAny, subA, mkSub, idx, Gra.cells]) (by simp [wk, subAny, subA, mkSub, idx, han])) (by omega) (by omega)
            | false =>
              rw [hb, Bool.false_or] at han
              simp -implicitDefEqProofs only [Gra.cells, List.length_map, stB_boxA, splice_all, List.all_cons, List.all_nil, lt_true hilt, hrow, Prd.row, hpt,
    evx, evy, ofValue, ofCell, List.range, List.range.loop, Array.size, Nat.reduceAdd, Nat.reduceSub, Nat.reduceEqDiff, List.replicate, if_true, if_false, ↓reduceIte, reduceCtorEq, elB, evParts, Int.reduceToNat, Int.reduceLE, Int.reduceLT, Int.reduceEq, Nat.reduceMul, Nat.reduceLeDiff, Nat.reduceLT, ty3, ty4, ty9, ty28, ty48, ty22, ty23, ty24, ty25, ty27, ty55]
              refine callK_ret _ _ _ _ (call_pure (hvp) (fun _ => rfl) (fun _ => rfl)) (ok_nil _ _) ?_
              simp -implicitDefEqProofs only [evx, evy, ofValue, ofCell, List.range, List.range.loop, Array.size, Nat.reduceAdd, Nat.reduceSub, Nat.reduceEqDiff, List.replicate, if_true, if_false, ↓reduceIte, reduceCtorEq, elB, evParts, Int.reduceToNat, Int.reduceLE, Int.reduceLT, Int.reduceEq, Nat.reduceMul, Nat.reduceLeDiff, Nat.reduceLT, ty3, ty4, ty9, ty28, ty48, ty22, ty23, ty24, ty25, ty27, ty55]
              refine callK_ret _ _ _ _ (call_pure (hun) (fun _ => rfl) (fun _ => rfl)) (ok_nil _ _) ?_
              simp -implicitDefEqProofs only [hwi,
    evx, evy, ofValue, ofCell, List.range, List.range.loop, Array.size, Nat.reduceAdd, Nat.reduceSub, Nat.reduceEqDiff, List.replicate, if_true, if_false, ↓reduceIte, reduceCtorEq, elB, evParts, Int.reduceToNat, Int.reduceLE, Int.reduceLT, Int.reduceEq, Nat.reduceMul, Nat.reduceLeDiff, Nat.reduceLT, ty3, ty4, ty9, ty28, ty48, ty22, ty23, ty24, ty25, ty27, ty55]
              exact back_intro hs2 (i + 1) (le_pk [0] rfl (by simp) (by simp) (by simp [subBlk, subAny, subA, mkSub, idx, Gra.cells]) (by simp [wk, subAny, subA, mkSub, idx, han])) (by omega) (by omega)
          · have hpt : (p.left = (sy : Int)) = False := by simpa using hpn
            rw [if_neg hpn] at hps
            have hnp2 : nulP g (sy : Int) p = false := by unfold nulP; rw [decide_eq_false hpn, Bool.false_and]
            rw [hnp2, Bool.or_false] at han
            simp -implicitDefEqProofs only [Gra.cells, List.length_map, stB_boxA, splice_all, List.all_cons, List.all_nil, lt_true hilt, hrow, Prd.row, hpt, hwi,
    evx, evy, ofValue, ofCell, List.range, List.range.loop, Array.size, Nat.reduceAdd, Nat.reduceSub, Nat.reduceEqDiff, List.replicate, if_true, if_false, ↓reduceIte, reduceCtorEq, elB, evParts, Int.reduceToNat, Int.reduceLE, Int.reduceLT, Int.reduceEq, Nat.reduceMul, Nat.reduceLeDiff, Nat.reduceLT, ty3, ty4, ty9, ty28, ty48, ty22, ty23, ty24, ty25, ty27, ty55]
            exact back_intro hs2 (i + 1) (le_pk [0] rfl (by simp) (by simp) (by simp [subBlk, subAny, subA, mkSub, idx, Gra.cells]) (by simp [wk, subAny, subA, mkSub, idx, han, hps])) (by omega) (by omega)
        · obtain rfl : i = g.prods.length := by omega
          rw [List.take_length] at hpr1 hpr2 hpl ⊢
          have heq := hso1 hpr1 hpr2
          rw [heq, hnu]
          have s1 := ok14 lf lf (by omega) (by omega)
          rw [cmpL_self] at s1
          have e5 : ((nu != nu) : Bool) = false := by simp
          simp -implicitDefEqProofs only [lt_false hilt,
    evx, evy, ofValue, ofCell, List.range, List.range.loop, Array.size, Nat.reduceAdd, Nat.reduceSub, Nat.reduceEqDiff, List.replicate, if_true, if_false, ↓reduceIte, reduceCtorEq, elB, evParts, Int.reduceToNat, Int.reduceLE, Int.reduceLT, Int.reduceEq, Nat.reduceMul, Nat.reduceLeDiff, Nat.reduceLT, ty3, ty4, ty9, ty28, ty48, ty22, ty23, ty24, ty25, ty27, ty55]
          refine callK_ret _ _ _ _ (call_pure (s1) (fun _ => rfl) (fun _ => rfl)) (ok_nil _ _) ?_
          simp -implicitDefEqProofs only [neqB2, e5, wsucc sy (by omega),
    evx, evy, ofValue, ofCell, List.range, List.range.loop, Array.size, Nat.reduceAdd, Nat.reduceSub, Nat.reduceEqDiff, List.replicate, if_true, if_false, ↓reduceIte, reduceCtorEq, elB, evParts, Int.reduceToNat, Int.reduceLE, Int.reduceLT, Int.reduceEq, Nat.reduceMul, Nat.reduceLeDiff, Nat.reduceLT, ty3, ty4, ty9, ty28, ty48, ty22, ty23, ty24, ty25, ty27, ty55]
          exact back_intro hs1 (k + 1) (le_wk (by simp [wk, Gra.cells]; omega)) (by omega) (by omega)
      · obtain rfl : k = g.nonts.length := by omega
        have hle : (((g.terms + 1 + g.nonts.length : Nat) : Int) ≤ ((g.terms + g.nonts.length : Nat) : Int)) = False := by simp only [eq_iff_iff, iff_false]; omega
        simp -implicitDefEqProofs only [Gra.cells, List.length_map, wsum g.terms g.nonts.length (by omega), hle,
    evx, evy, ofValue, ofCell, List.range, List.range.loop, Array.size, Nat.reduceAdd, Nat.reduceSub, Nat.reduceEqDiff, List.replicate, if_true, if_false, ↓reduceIte, reduceCtorEq, elB, evParts, Int.reduceToNat, Int.reduceLE, Int.reduceLT, Int.reduceEq, Nat.reduceMul, Nat.reduceLeDiff, Nat.reduceLT, ty3, ty4, ty9, ty28, ty48, ty22, ty23, ty24, ty25, ty27, ty55]
        exact le_flat rfl
end Go.Abs
