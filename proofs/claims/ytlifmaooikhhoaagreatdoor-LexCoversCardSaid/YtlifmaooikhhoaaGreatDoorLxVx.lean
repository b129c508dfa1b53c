/- The example's automaton; the example; the laws LexOne, LexAll. -/
import Derived.Test.YtlifmaooikhhoaaGreatDoorTyTryzx
import Derived.Test.YtlifmaooikhhoaaGreatDoorDrTryzx
import Derived.Test.YtlifmaooikhhoaaGreatDoorLxOx
import Derived.Test.YtlifmaooikhhoaaGreatDoorLxPx
import Derived.Test.YtlifmaooikhhoaaGreatDoorLxU10x
namespace Go.Abs
open Go.Proofs
set_option linter.unusedVariables false
set_option linter.unusedSimpArgs false
set_option maxRecDepth 100000
set_option maxHeartbeats 4000000
def strRow (p : Bs × List Cel) : List FV := [.str p.1]
def celRow (p : Bs × List Cel) : List FV := [.lst 5 (p.2.map Cel.row)]
theorem cel_snoc (l : List (Bs × List Cel)) (i : Nat) (h : i < l.length) : (l.take i).map celRow ++ [[.lst 5 (l[i].2.map Cel.row)]] = (l.take (i + 1)).map celRow := by
  rw [List.take_succ_eq_append_getElem h, List.map_append]
  rfl
theorem ok39 (l : List (Bs × List Cel)) (hl : l.length ≤ 100) (hp : ∀ p ∈ l, Ok Tryz.prog 37 [.fv (.str p.1)] [] (.ret (.tuple [.fv (.lst 5 (p.2.map Cel.row)), .fv (.int .i64 0), .fv (.int .i64 0)])) [])
    (d : Aut) (hb : Ok Tryz.prog 38 [.fv (rulesF (l.map Prod.snd))] [] (.ret (.tuple [d.av, .fv (.int .i64 0)])) []) : Ok Tryz.prog 39 [.fv (.lst 1 (l.map strRow))] [] (.ret d.av) [] := by
  have hrf : rulesF (l.map Prod.snd) = .lst 1 (l.map celRow) := by unfold rulesF; rw [List.map_map]; rfl
  rw [hrf] at hb
  unfold Aut.av at hb ⊢
  generalize d.next.map nRow = X at hb ⊢
  generalize d.acc.map iRow = Y at hb ⊢
  refine ok_start (k := 33) (n0 := 0) (rs := [.cell 2 25]) mix Tryz.func39 rfl rfl rfl rfl rfl rfl rfl ?_
  simp -implicitDefEqProofs only [List.length_map,
    evx, evy, ofValue, ofCell, List.range, List.range.loop, Array.size, Nat.reduceAdd, Nat.reduceSub, Nat.reduceEqDiff, List.replicate, if_true, if_false, ↓reduceIte, reduceCtorEq, elB, evParts, Int.reduceToNat, Int.reduceLE, Int.reduceLT, Int.reduceEq, Nat.reduceMul, Nat.reduceLeDiff, Nat.reduceLT, ty3, ty4, ty9, ty23, ty22, ty25, ty5, ty35, ty31, ty47, ty38, ty43, ty127, ty82, ty77]
  refine loop_rule (fun i : Nat => ⟨[.any, .any, .ptr 0 0 0 0, .ref 1 1 0 i, .any, .any, .any, .any, .any, .any, .any, .fv (.lst 1 (l.map strRow)), .fv (.int .i64 l.length), .fv (.int .i64 i), .any, .any, .any, .any, .any, .any, .any, .any, .any, .any, .any, .any, .any, .any, .any, .any, .any, .any, .any, .any], [.box [.fv .nils, .fv .nils], .plain 1 ((l.take i).map celRow)], []⟩)
    (fun i => i ≤ l.length) (fun i => l.length - i) 0 (Le.trans (le_virt 3 1 rfl) (le_wk (by simp [wk]))) (by simp) (fun i hi st hst => ?_)
  have htl : ((l.take i).map celRow).length = i := by rw [List.length_map, List.length_take]; omega
  by_cases hlt : i < l.length
  · have hr := rows_at strRow l i hlt
    have hpi := hp _ (List.getElem_mem hlt)
    have hsn := cel_snoc l i hlt
    generalize l[i] = p at hr hpi hsn
    have tk1 : List.take i ((l.take i).map celRow) = (l.take i).map celRow := List.take_of_length_le (by omega)
    simp -implicitDefEqProofs only [List.length_map, lt_true hlt, hr, strRow,
    evx, evy, ofValue, ofCell, List.range, List.range.loop, Array.size, Nat.reduceAdd, Nat.reduceSub, Nat.reduceEqDiff, List.replicate, if_true, if_false, ↓reduceIte, reduceCtorEq, elB, evParts, Int.reduceToNat, Int.reduceLE, Int.reduceLT, Int.reduceEq, Nat.reduceMul, Nat.reduceLeDiff, Nat.reduceLT, ty3, ty4, ty9, ty23, ty22, ty25, ty5, ty35, ty31, ty47, ty38, ty43, ty127, ty82, ty77]
    refine callK_ret _ _ _ _ (call_pure (hpi) (fun _ => rfl) (fun _ => rfl)) (ok_nil _ _) ?_
    simp -implicitDefEqProofs only [htl, le_true (Nat.le_refl i), wsucc i (by omega),
    evx, evy, ofValue, ofCell, List.range, List.range.loop, Array.size, Nat.reduceAdd, Nat.reduceSub, Nat.reduceEqDiff, List.replicate, if_true, if_false, ↓reduceIte, reduceCtorEq, elB, evParts, Int.reduceToNat, Int.reduceLE, Int.reduceLT, Int.reduceEq, Nat.reduceMul, Nat.reduceLeDiff, Nat.reduceLT, ty3, ty4, ty9, ty23, ty22, ty25, ty5, ty35, ty31, ty47, ty38, ty43, ty127, ty82, ty77]
    refine ⟨by omega, ?_⟩
    refine back_intro hst (i + 1) (le_pk [0, 3] rfl (by simp) (by simp) ?_ ?_) (by omega) (by omega)
    · simp [subBlk, subAny, subA, mkSub, idx, ← hsn, List.take_take]
    · simp [wk, subAny, subA, mkSub, idx]
  · obtain rfl : i = l.length := by omega
    rw [List.take_length]
    simp -implicitDefEqProofs only [lt_false hlt,
    evx, evy, ofValue, ofCell, List.range, List.range.loop, Array.size, Nat.reduceAdd, Nat.reduceSub, Nat.reduceEqDiff, List.replicate, if_true, if_false, ↓reduceIte, reduceCtorEq, elB, evParts, Int.reduceToNat, Int.reduceLE, Int.reduceLT, Int.reduceEq, Nat.reduceMul, Nat.reduceLeDiff, Nat.reduceLT, ty3, ty4, ty9, ty23, ty22, ty25, ty5, ty35, ty31, ty47, ty38, ty43, ty127, ty82, ty77]
    refine callK_ret _ _ _ _ (call_freeze (args' := [.fv (.lst 1 (l.map celRow))]) [1] (fun i hi => by simp at hi; subst hi; exact ⟨_, _, rfl⟩) (by simp [subAny, subA, subL, frzSub]; exact List.take_of_length_le (by simp)) rfl
        (call_pure hb (fun _ => rfl) (fun _ => rfl)) [1] (by simp) (by simp) (fun i hi hl => by
          match i, hi, hl with
          | 0, _, _ => simp [freezeSt, killAll, subBlk, subAny, subA]
          | 1, hi, _ => exact absurd (by simp) hi
          | i + 2, _, hl => simp at hl; omega)) (by kernel_rfl) ?_
    simp -implicitDefEqProofs only [subAny, subA, subL, backSub, back, putBack, subBlk, Option.getD_some, List.map_cons, List.map_nil, Nat.not_lt_zero, Nat.sub_zero, Nat.add_zero, List.length_map, freezeSt, frzSub, killAll, List.contains_cons, List.contains_nil, Nat.reduceBEq, Bool.or_false, stB_boxA, splice_all, List.all_cons, List.all_nil, Bool.and_self,
    evx, evy, ofValue, ofCell, List.range, List.range.loop, Array.size, Nat.reduceAdd, Nat.reduceSub, Nat.reduceEqDiff, List.replicate, if_true, if_false, ↓reduceIte, reduceCtorEq, elB, evParts, Int.reduceToNat, Int.reduceLE, Int.reduceLT, Int.reduceEq, Nat.reduceMul, Nat.reduceLeDiff, Nat.reduceLT, ty3, ty4, ty9, ty23, ty22, ty25, ty5, ty35, ty31, ty47, ty38, ty43, ty127, ty82, ty77]
    exact le_sf (by simp [subAny, subA, subL])
theorem built10 : Ok Tryz.prog 39 [.fv (.lst 1 [[.str [97]], [.str [97, 98]], [.str [98, 43]]])] [] (.ret d10.av) [] :=
  ok39 [([97], [cA]), ([97, 98], [cA, cB, ⟨3, 0, 0, 0, 0⟩]), ([98, 43], [cB, ⟨6, 0, 0, 0, 0⟩])] (by decide) (fun p hp => by
    simp only [List.mem_cons, List.not_mem_nil, or_false] at hp
    rcases hp with rfl | rfl | rfl
    · exact parseA
    · exact parseAB
    · exact parseBp) d10 build10
def toks10 : List Tok := [⟨1, 0, 2, 3⟩, ⟨2, 2, 1, 4⟩, ⟨0, 3, 1, 5⟩]
instance : DecidableEq Tok := fun x y => decidable_of_iff (x.rule = y.rule ∧ x.at_ = y.at_ ∧ x.len = y.len ∧ x.seen = y.seen) (by cases x; cases y; simp)
theorem all10 : d10.all [97, 98, 98, 97] = (toks10, -1) := by decide +kernel
theorem bsE_tok3 (b : Nat) (dd : TypeDesc) (z1 z2 z3 : FV) (x1 y1 w1 x2 y2 w2 x3 y3 w3 : FV) (h : List Blk) : bsE (some ⟨dd, 3, b, some [z1, z2, z3]⟩) 3 h (some [(0, .agg [.fv x1, .fv y1, .fv w1]), (1, .agg [.fv x2, .fv y2, .fv w2]), (2, .agg [.fv x3, .fv y3, .fv w3])]) = some (.ref h.length 3 0 3, h ++ [.plain 3 [[x1, y1, w1], [x2, y2, w2], [x3, y3, w3]]], []) :=
  bsE_rows b dd 3 [z1, z2, z3] 3 h [[x1, y1, w1], [x2, y2, w2], [x3, y3, w3]] _ rfl (by omega) rfl (by omega) (by simp) rfl
theorem okWakes10 : Ok Tryz.prog 19 [] [] (.ret (.fv (.bool true))) [] := by
  have hb := built10
  have hall := ok20 d10 (by decide) [97, 98, 98, 97] (by decide)
  rw [all10] at hall
  have hs := ok22 (toks10.map Tok.tk) (toks10.map Tok.tk) (by decide) (by decide)
  rw [decide_eq_true rfl] at hs
  unfold Aut.av at hb hall
  generalize d10.next.map nRow = X at hb hall
  generalize d10.acc.map iRow = Y at hb hall
  simp only [toks10, List.map_cons, List.map_nil, tokRow, Tok.tk, Tk.row] at hs hall
  refine ok_start (k := 19) (n0 := 0) (rs := [.tmp 0]) mix Tryz.func19 rfl rfl rfl rfl rfl rfl rfl ?_
  simp -implicitDefEqProofs only [evx, evy, ofValue, ofCell, List.range, List.range.loop, Array.size, Nat.reduceAdd, Nat.reduceSub, Nat.reduceEqDiff, List.replicate, if_true, if_false, ↓reduceIte, reduceCtorEq, elB, evParts, Int.reduceToNat, Int.reduceLE, Int.reduceLT, Int.reduceEq, Nat.reduceMul, Nat.reduceLeDiff, Nat.reduceLT, ty3, ty4, ty9, ty23, ty22, ty25, ty5, ty35, ty31, ty47, ty38, ty43, ty127, ty82, ty77]
  refine callK_ret _ _ _ _ (call_frz [0] (fun i hi => by simp at hi; subst hi; exact ⟨_, _, rfl⟩) rfl rfl (call_pure hb (fun _ => rfl) (fun _ => rfl))) (by kernel_rfl) ?_
  simp -implicitDefEqProofs only [freezeSt, frzSub, killAll, List.contains_cons, List.contains_nil, Nat.reduceBEq, Bool.or_false, subAny, subA, subL, backSub, back, putBack, subBlk, Option.getD_some, List.map_cons, List.map_nil, Nat.not_lt_zero, Nat.sub_zero, Nat.add_zero, List.length_map,
    evx, evy, ofValue, ofCell, List.range, List.range.loop, Array.size, Nat.reduceAdd, Nat.reduceSub, Nat.reduceEqDiff, List.replicate, if_true, if_false, ↓reduceIte, reduceCtorEq, elB, evParts, Int.reduceToNat, Int.reduceLE, Int.reduceLT, Int.reduceEq, Nat.reduceMul, Nat.reduceLeDiff, Nat.reduceLT, ty3, ty4, ty9, ty23, ty22, ty25, ty5, ty35, ty31, ty47, ty38, ty43, ty127, ty82, ty77]
  refine callK_ret _ _ _ _ (call_pure (hall) (fun _ => rfl) (fun _ => rfl)) (ok_nil _ _) ?_
  simp -implicitDefEqProofs only [bsE_tok3,
    evx, evy, ofValue, ofCell, List.range, List.range.loop, Array.size, Nat.reduceAdd, Nat.reduceSub, Nat.reduceEqDiff, List.replicate, if_true, if_false, ↓reduceIte, reduceCtorEq, elB, evParts, Int.reduceToNat, Int.reduceLE, Int.reduceLT, Int.reduceEq, Nat.reduceMul, Nat.reduceLeDiff, Nat.reduceLT, ty3, ty4, ty9, ty23, ty22, ty25, ty5, ty35, ty31, ty47, ty38, ty43, ty127, ty82, ty77]
  refine callK_ret _ _ _ _ (call_frz [1] (fun i hi => by simp at hi; subst hi; exact ⟨_, _, rfl⟩) rfl rfl (call_pure hs (fun _ => rfl) (fun _ => rfl))) (by kernel_rfl) ?_
  simp -implicitDefEqProofs only [freezeSt, frzSub, killAll, List.contains_cons, List.contains_nil, Nat.reduceBEq, Bool.or_false, subAny, subA, subL, backSub, back, putBack, subBlk, Option.getD_some, List.map_cons, List.map_nil, Nat.not_lt_zero, Nat.sub_zero, Nat.add_zero, List.length_map,
    evx, evy, ofValue, ofCell, List.range, List.range.loop, Array.size, Nat.reduceAdd, Nat.reduceSub, Nat.reduceEqDiff, List.replicate, if_true, if_false, ↓reduceIte, reduceCtorEq, elB, evParts, Int.reduceToNat, Int.reduceLE, Int.reduceLT, Int.reduceEq, Nat.reduceMul, Nat.reduceLeDiff, Nat.reduceLT, ty3, ty4, ty9, ty23, ty22, ty25, ty5, ty35, ty31, ty47, ty38, ty43, ty127, ty82, ty77]
  exact le_flat rfl
end Go.Abs
