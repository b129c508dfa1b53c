/- What is reached: the program's answer. -/
import Derived.Test.YtckpaaeilbgiiaaGreatTyTryz
import Derived.Test.YtckpaaeilbgiiaaGreatDrTryz
import Derived.Test.YtckpaaeilbgiiaaGreatCkO
namespace Go.Abs
open Go.Proofs
set_option linter.unusedVariables false
set_option linter.unusedSimpArgs false
set_option maxRecDepth 100000
set_option maxHeartbeats 4000000
theorem stB_func (dd : TypeDesc) (b : Nat) (z : Option (List FV)) (h : List Blk) (cs : List AV) (id es r off : Nat) (f : FuncId) (caps : List AV) (hk : r * es + off < cs.length) :
    stB ⟨dd, 1, b, z⟩ h (some (.box cs)) id es r off (.func f caps) = some (.undef, h.set id (.box (cs.set (r * es + off) (.func f caps))), [id]) := by
  have hr : rowOf (.func f caps) = none := rfl
  simp only [stB, if_true, hr, stBx, cellsA, Option.bind_some]
  rw [if_pos ⟨rfl, by omega, rfl⟩, splice_one, if_pos hk]
  rfl
theorem those_none {g : Gra} {Q : Int → Prop} (h : g.nonts.length = 0) : g.those Q = [] := by
  have := g.those_length Q
  exact List.eq_nil_of_length_eq_zero (by omega)
theorem ok24 (g : Gra) (hg : Small g 100) (hsd : g.sound = true) (hne : g.nonts ≠ []) : Ok Tryz.prog 24 [g.av, .fv (.int .i64 g.terms)] [] (.ret (.fv (.lst 1 (ints (g.those (Reach g)))))) [] := by
  have hso := g.sound_iff hsd
  have hnn := hso.nnonts
  obtain ⟨hs1, hs2⟩ := hso.start.2 hne
  have hmk := okMark hg hso (g.nonts.length + 1) [] g.start ⟨by simp, by simp⟩ hs2 (by simp)
  have hinv := markF_inv hso (g.nonts.length + 1) [] g.start ⟨by simp, by simp⟩ hs2 (by simp)
  have hmem := markF_mem hso hne
  generalize markF g (g.nonts.length + 1) [] g.start = o at hmk hinv hmem
  have hno : ¬ o = [] := fun e => by
    have := (hmem g.start).2 (.start hs1)
    rw [e] at this
    simp at this
  have hst := sorted_those (g := g) (Q := Reach g) hinv.1.nd (fun n => by rw [hmem n]; exact ⟨fun h => ⟨hso.reach h, h⟩, fun h => h.2⟩)
  have hol := hinv.1.len
  have hil := ints_length o
  have hsort := ok27 o (by omega)
  rw [hst] at hsort
  have htl2 : (g.those (Reach g)).length = o.length := by rw [← hst]; exact sorted_length o
  have htl3 := ints_length (g.those (Reach g))
  refine ok_start (k := 13) (n0 := 0) (rs := [.tmp 4]) mix Tryz.func24 rfl rfl rfl rfl rfl rfl rfl ?_
  simp -implicitDefEqProofs only [Gra.av, stB_func, isAggF,
    evx, evy, ofValue, ofCell, List.range, List.range.loop, Array.size, Nat.reduceAdd, Nat.reduceSub, Nat.reduceEqDiff, List.replicate, if_true, if_false, ↓reduceIte, reduceCtorEq, elB, evParts, Int.reduceToNat, Int.reduceLE, Int.reduceLT, Int.reduceEq, Nat.reduceMul, Nat.reduceLeDiff, Nat.reduceLT, ty3, ty4, ty9, ty22, ty23, ty24, ty25, ty27, ty35, ty40, ty44, ty46, ty55, ty96]
  have hv := ok_virt (h := [.box [.fv (.int .i64 g.terms)], .box [.fv .nils], .box g.cells, .box [markFn]]) 1 1 0 [.fv .nils] rfl rfl hmk
  refine callK_ret _ _ _ _ (call_lent [1, 2, 0, 3] hv rfl rfl (by simp) (by simp [Blk.live])) (ok_none _ _) ?_
  unfold markOut
  rw [if_neg hno]
  unfold markNew
  simp -implicitDefEqProofs only [subAny, subA, subL, backSub, back, putBack, subBlk, Option.getD_some, List.map_cons, List.map_nil, Nat.not_lt_zero, Nat.sub_zero, Nat.add_zero, List.length_map,
    evx, evy, ofValue, ofCell, List.range, List.range.loop, Array.size, Nat.reduceAdd, Nat.reduceSub, Nat.reduceEqDiff, List.replicate, if_true, if_false, ↓reduceIte, reduceCtorEq, elB, evParts, Int.reduceToNat, Int.reduceLE, Int.reduceLT, Int.reduceEq, Nat.reduceMul, Nat.reduceLeDiff, Nat.reduceLT, ty3, ty4, ty9, ty22, ty23, ty24, ty25, ty27, ty35, ty40, ty44, ty46, ty55, ty96]
  refine callK_ret _ _ _ _ (call_lent [5] hsort rfl rfl (by simp) (by simp [Blk.live])) (ok_none _ _) ?_
  simp -implicitDefEqProofs only [subAny, subA, subL, backSub, back, putBack, subBlk, Option.getD_some, List.map_cons, List.map_nil, Nat.not_lt_zero, Nat.sub_zero, Nat.add_zero, List.length_map,
    evx, evy, ofValue, ofCell, List.range, List.range.loop, Array.size, Nat.reduceAdd, Nat.reduceSub, Nat.reduceEqDiff, List.replicate, if_true, if_false, ↓reduceIte, reduceCtorEq, elB, evParts, Int.reduceToNat, Int.reduceLE, Int.reduceLT, Int.reduceEq, Nat.reduceMul, Nat.reduceLeDiff, Nat.reduceLT, ty3, ty4, ty9, ty22, ty23, ty24, ty25, ty27, ty35, ty40, ty44, ty46, ty55, ty96]
  refine le_lst (rows := ints (g.those (Reach g))) rfl (by omega) ?_
  rw [List.drop_zero, ← htl2, ← htl3, List.take_length]
open Classical in
noncomputable def reachL (g : Gra) : List Int := if g.sound = true then g.those (Reach g) else []
open Classical in
noncomputable def endL (g : Gra) : List Int := if g.sound = true then g.those (Ended g) else []
theorem ok10 (g : Gra) (hg : Small g 100) : Ok Tryz.prog 10 [g.av] [] (.ret (.fv (.lst 1 (ints (reachL g))))) [] := by
  have hs := ok19 g hg
  have hterms := ok21 g hg.nrules
  refine ok_start (k := 15) (n0 := 0) (rs := [.tmp 2]) mix Tryz.func10 rfl rfl rfl rfl rfl rfl rfl ?_
  cases hsd : g.sound with
  | false =>
    rw [hsd] at hs
    have e : reachL g = [] := by unfold reachL; rw [if_neg (by simp [hsd])]
    rw [e]
    simp -implicitDefEqProofs only [awp_draw _ _ Tryzdr10_3, Gra.av,
    evx, evy, ofValue, ofCell, List.range, List.range.loop, Array.size, Nat.reduceAdd, Nat.reduceSub, Nat.reduceEqDiff, List.replicate, if_true, if_false, ↓reduceIte, reduceCtorEq, elB, evParts, Int.reduceToNat, Int.reduceLE, Int.reduceLT, Int.reduceEq, Nat.reduceMul, Nat.reduceLeDiff, Nat.reduceLT, ty3, ty4, ty9, ty22, ty23, ty24, ty25, ty27, ty35, ty40, ty44, ty46, ty55, ty96]
    refine callK_ret _ _ _ _ (call_pure (hs) (fun _ => rfl) (fun _ => rfl)) (ok_nil _ _) ?_
    simp -implicitDefEqProofs only [awp_draw _ _ Tryzdr10_3,
    evx, evy, ofValue, ofCell, List.range, List.range.loop, Array.size, Nat.reduceAdd, Nat.reduceSub, Nat.reduceEqDiff, List.replicate, if_true, if_false, ↓reduceIte, reduceCtorEq, elB, evParts, Int.reduceToNat, Int.reduceLE, Int.reduceLT, Int.reduceEq, Nat.reduceMul, Nat.reduceLeDiff, Nat.reduceLT, ty3, ty4, ty9, ty22, ty23, ty24, ty25, ty27, ty35, ty40, ty44, ty46, ty55, ty96]
    exact Le.trans (le_nils 0 1 rfl) (le_to [] [] rfl (by simp) (by simp) (by simp) (by simp) rfl)
  | true =>
    rw [hsd] at hs
    have e : reachL g = g.those (Reach g) := by unfold reachL; rw [if_pos hsd]
    rw [e]
    by_cases n0 : g.nonts.length = 0
    · have n0t : ((g.nonts.length : Int) = 0) = True := by simpa using n0
      rw [those_none n0]
      simp -implicitDefEqProofs only [awp_draw _ _ Tryzdr10_3, Gra.av,
    evx, evy, ofValue, ofCell, List.range, List.range.loop, Array.size, Nat.reduceAdd, Nat.reduceSub, Nat.reduceEqDiff, List.replicate, if_true, if_false, ↓reduceIte, reduceCtorEq, elB, evParts, Int.reduceToNat, Int.reduceLE, Int.reduceLT, Int.reduceEq, Nat.reduceMul, Nat.reduceLeDiff, Nat.reduceLT, ty3, ty4, ty9, ty22, ty23, ty24, ty25, ty27, ty35, ty40, ty44, ty46, ty55, ty96]
      refine callK_ret _ _ _ _ (call_pure (hs) (fun _ => rfl) (fun _ => rfl)) (ok_nil _ _) ?_
      simp -implicitDefEqProofs only [awp_draw _ _ Tryzdr10_3, Gra.cells, List.length_map, n0t,
    evx, evy, ofValue, ofCell, List.range, List.range.loop, Array.size, Nat.reduceAdd, Nat.reduceSub, Nat.reduceEqDiff, List.replicate, if_true, if_false, ↓reduceIte, reduceCtorEq, elB, evParts, Int.reduceToNat, Int.reduceLE, Int.reduceLT, Int.reduceEq, Nat.reduceMul, Nat.reduceLeDiff, Nat.reduceLT, ty3, ty4, ty9, ty22, ty23, ty24, ty25, ty27, ty35, ty40, ty44, ty46, ty55, ty96]
      exact Le.trans (le_nils 0 1 rfl) (le_to [] [] rfl (by simp) (by simp) (by simp) (by simp) rfl)
    · have n0t : ((g.nonts.length : Int) = 0) = False := by simpa using n0
      have h24 := ok24 g hg hsd (fun e => n0 (by rw [e]; rfl))
      simp -implicitDefEqProofs only [awp_draw _ _ Tryzdr10_3, Gra.av,
    evx, evy, ofValue, ofCell, List.range, List.range.loop, Array.size, Nat.reduceAdd, Nat.reduceSub, Nat.reduceEqDiff, List.replicate, if_true, if_false, ↓reduceIte, reduceCtorEq, elB, evParts, Int.reduceToNat, Int.reduceLE, Int.reduceLT, Int.reduceEq, Nat.reduceMul, Nat.reduceLeDiff, Nat.reduceLT, ty3, ty4, ty9, ty22, ty23, ty24, ty25, ty27, ty35, ty40, ty44, ty46, ty55, ty96]
      refine callK_ret _ _ _ _ (call_pure (hs) (fun _ => rfl) (fun _ => rfl)) (ok_nil _ _) ?_
      simp -implicitDefEqProofs only [awp_draw _ _ Tryzdr10_3, Gra.cells, List.length_map, n0t,
    evx, evy, ofValue, ofCell, List.range, List.range.loop, Array.size, Nat.reduceAdd, Nat.reduceSub, Nat.reduceEqDiff, List.replicate, if_true, if_false, ↓reduceIte, reduceCtorEq, elB, evParts, Int.reduceToNat, Int.reduceLE, Int.reduceLT, Int.reduceEq, Nat.reduceMul, Nat.reduceLeDiff, Nat.reduceLT, ty3, ty4, ty9, ty22, ty23, ty24, ty25, ty27, ty35, ty40, ty44, ty46, ty55, ty96]
      refine callK_ret _ _ _ _ (call_pure (hterms) (fun _ => rfl) (fun _ => rfl)) (ok_nil _ _) ?_
      simp -implicitDefEqProofs only [awp_draw _ _ Tryzdr10_3,
    evx, evy, ofValue, ofCell, List.range, List.range.loop, Array.size, Nat.reduceAdd, Nat.reduceSub, Nat.reduceEqDiff, List.replicate, if_true, if_false, ↓reduceIte, reduceCtorEq, elB, evParts, Int.reduceToNat, Int.reduceLE, Int.reduceLT, Int.reduceEq, Nat.reduceMul, Nat.reduceLeDiff, Nat.reduceLT, ty3, ty4, ty9, ty22, ty23, ty24, ty25, ty27, ty35, ty40, ty44, ty46, ty55, ty96]
      refine callK_ret _ _ _ _ (call_pure (h24) (fun _ => rfl) (fun _ => rfl)) (ok_nil _ _) ?_
      simp -implicitDefEqProofs only [awp_draw _ _ Tryzdr10_3,
    evx, evy, ofValue, ofCell, List.range, List.range.loop, Array.size, Nat.reduceAdd, Nat.reduceSub, Nat.reduceEqDiff, List.replicate, if_true, if_false, ↓reduceIte, reduceCtorEq, elB, evParts, Int.reduceToNat, Int.reduceLE, Int.reduceLT, Int.reduceEq, Nat.reduceMul, Nat.reduceLeDiff, Nat.reduceLT, ty3, ty4, ty9, ty22, ty23, ty24, ty25, ty27, ty35, ty40, ty44, ty46, ty55, ty96]
      exact le_to [] [] rfl (by simp) (by simp) (by simp) (by simp) rfl
theorem ok11_all (g : Gra) (hg : Small g 100) : Ok Tryz.prog 11 [g.av] [] (.ret (.fv (.lst 1 (ints (endL g))))) [] := by
  cases hsd : g.sound with
  | true =>
    have e : endL g = g.those (Ended g) := by unfold endL; rw [if_pos hsd]
    rw [e]
    exact ok11 g hg hsd
  | false =>
    have e : endL g = [] := by unfold endL; rw [if_neg (by simp [hsd])]
    rw [e]
    have hs := ok19 g hg
    rw [hsd] at hs
    refine ok_start (k := 42) (n0 := 0) (rs := [.tmp 2]) mix Tryz.func11 rfl rfl rfl rfl rfl rfl rfl ?_
    simp -implicitDefEqProofs only [Gra.av,
    evx, evy, ofValue, ofCell, List.range, List.range.loop, Array.size, Nat.reduceAdd, Nat.reduceSub, Nat.reduceEqDiff, List.replicate, if_true, if_false, ↓reduceIte, reduceCtorEq, elB, evParts, Int.reduceToNat, Int.reduceLE, Int.reduceLT, Int.reduceEq, Nat.reduceMul, Nat.reduceLeDiff, Nat.reduceLT, ty3, ty4, ty9, ty22, ty23, ty24, ty25, ty27, ty35, ty40, ty44, ty46, ty55, ty96]
    refine callK_ret _ _ _ _ (call_pure (hs) (fun _ => rfl) (fun _ => rfl)) (ok_nil _ _) ?_
    simp -implicitDefEqProofs only [evx, evy, ofValue, ofCell, List.range, List.range.loop, Array.size, Nat.reduceAdd, Nat.reduceSub, Nat.reduceEqDiff, List.replicate, if_true, if_false, ↓reduceIte, reduceCtorEq, elB, evParts, Int.reduceToNat, Int.reduceLE, Int.reduceLT, Int.reduceEq, Nat.reduceMul, Nat.reduceLeDiff, Nat.reduceLT, ty3, ty4, ty9, ty22, ty23, ty24, ty25, ty27, ty35, ty40, ty44, ty46, ty55, ty96]
    exact Le.trans (le_nils 0 1 rfl) (le_to [] [] rfl (by simp) (by simp) (by simp) (by simp) rfl)
end Go.Abs
