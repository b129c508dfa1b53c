/- The example of the edits; the laws RelexCuts, RelexOther. -/
import Derived.Test.YtlifmaooikhhoaaGreatDoorTyTryzx
import Derived.Test.YtlifmaooikhhoaaGreatDoorDrTryzx
import Derived.Test.YtlifmaooikhhoaaGreatDoorLyFx
import Derived.Test.YtlifmaooikhhoaaGreatDoorLyGx
import Derived.Test.YtlifmaooikhhoaaGreatDoorLxPx
import Derived.Test.YtlifmaooikhhoaaGreatDoorLxT23fx
namespace Go.Abs
open Go.Proofs
set_option linter.unusedVariables false
set_option linter.unusedSimpArgs false
set_option maxRecDepth 100000
set_option maxHeartbeats 8000000
def strRow (p : Bs × List Cel) : List FV := [.str p.1]
def celRow (p : Bs × List Cel) : List FV := [.lst 5 (p.2.map Cel.row)]
theorem cel_snoc (l : List (Bs × List Cel)) (i : Nat) (h : i < l.length) : (l.take i).map celRow ++ [[.lst 5 (l[i].2.map Cel.row)]] = (l.take (i + 1)).map celRow := by
  rw [List.take_succ_eq_append_getElem h, List.map_append]
  rfl
theorem ok43 (l : List (Bs × List Cel)) (hl : l.length ≤ 100) (hp : ∀ p ∈ l, Ok Tryz.prog 37 [.fv (.str p.1)] [] (.ret (.tuple [.fv (.lst 5 (p.2.map Cel.row)), .fv (.int .i64 0), .fv (.int .i64 0)])) [])
    (d : Aut) (hb : Ok Tryz.prog 38 [.fv (rulesF (l.map Prod.snd))] [] (.ret (.tuple [d.av, .fv (.int .i64 0)])) []) : Ok Tryz.prog 43 [.fv (.lst 1 (l.map strRow))] [] (.ret d.av) [] := by
  have hrf : rulesF (l.map Prod.snd) = .lst 1 (l.map celRow) := by unfold rulesF; rw [List.map_map]; rfl
  rw [hrf] at hb
  unfold Aut.av at hb ⊢
  generalize d.next.map nRow = X at hb ⊢
  generalize d.acc.map iRow = Y at hb ⊢
  refine ok_start (k := 33) (n0 := 0) (rs := [.cell 2 25]) mix Tryz.func43 rfl rfl rfl rfl rfl rfl rfl ?_
  simp -implicitDefEqProofs only [List.length_map,
    evx, evy, ofValue, ofCell, List.range, List.range.loop, Array.size, Nat.reduceAdd, Nat.reduceSub, Nat.reduceEqDiff, List.replicate, if_true, if_false, ↓reduceIte, reduceCtorEq, elB, evParts, Int.reduceToNat, Int.reduceLE, Int.reduceLT, Int.reduceEq, Nat.reduceMul, Nat.reduceLeDiff, Nat.reduceLT, ty3, ty4, ty9, ty23, ty22, ty25, ty5, ty35, ty31, ty47, ty38, ty43, ty127, ty82, ty77, ty55, ty52, ty60, ty63]
  refine loop_rule (fun i : Nat => ⟨[.any, .any, .ptr 0 0 0 0, .ref 1 1 0 i, .any, .any, .any, .any, .any, .any, .any, .fv (.lst 1 (l.map strRow)), .fv (.int .i64 l.length), .fv (.int .i64 i), .any, .any, .any, .any, .any, .any, .any, .any, .any, .any, .any, .any, .any, .any, .any, .any, .any, .any, .any, .any], [.box [.fv .nils, .fv .nils], .plain 1 ((l.take i).map celRow)], []⟩)
    (fun i => i ≤ l.length) (fun i => l.length - i) 0 (Le.trans (le_virt 3 1 rfl) (le_wk (by simp [wk]))) (by simp) (fun i hi st hst => ?_)
  have htl : ((l.take i).map celRow).length = i := by rw [List.length_map, List.length_take]; omega
  by_cases hlt : i < l.length
  · have hr := rows_at strRow l i hlt
    have hpi := hp _ (List.getElem_mem hlt)
    have hsn := cel_snoc l i hlt
    generalize l[i] = p at hr hpi hsn
    have tk1 : List.take i ((l.take i).map celRow) = (l.take i).map celRow := List.take_of_length_le (by omega)
    simp -implicitDefEqProofs only [List.length_map, lt_true hlt, hr, strRow,
    evx, evy, ofValue, ofCell, List.range, List.range.loop, Array.size, Nat.reduceAdd, Nat.reduceSub, Nat.reduceEqDiff, List.replicate, if_true, if_false, ↓reduceIte, reduceCtorEq, elB, evParts, Int.reduceToNat, Int.reduceLE, Int.reduceLT, Int.reduceEq, Nat.reduceMul, Nat.reduceLeDiff, Nat.reduceLT, ty3, ty4, ty9, ty23, ty22, ty25, ty5, ty35, ty31, ty47, ty38, ty43, ty127, ty82, ty77, ty55, ty52, ty60, ty63]
    refine callK_ret _ _ _ _ (call_pure (hpi) (fun _ => rfl) (fun _ => rfl)) (ok_nil _ _) ?_
    simp -implicitDefEqProofs only [htl, le_true (Nat.le_refl i), wsucc i (by omega),
    evx, evy, ofValue, ofCell, List.range, List.range.loop, Array.size, Nat.reduceAdd, Nat.reduceSub, Nat.reduceEqDiff, List.replicate, if_true, if_false, ↓reduceIte, reduceCtorEq, elB, evParts, Int.reduceToNat, Int.reduceLE, Int.reduceLT, Int.reduceEq, Nat.reduceMul, Nat.reduceLeDiff, Nat.reduceLT, ty3, ty4, ty9, ty23, ty22, ty25, ty5, ty35, ty31, ty47, ty38, ty43, ty127, ty82, ty77, ty55, ty52, ty60, ty63]
    refine ⟨by omega, ?_⟩
    refine back_intro hst (i + 1) (le_pk [0, 3] rfl (by simp) (by simp) ?_ ?_) (by omega) (by omega)
    · simp [subBlk, subAny, subA, mkSub, idx, ← hsn, List.take_take]
    · simp [wk, subAny, subA, mkSub, idx]
  · obtain rfl : i = l.length := by omega
    rw [List.take_length]
    simp -implicitDefEqProofs only [lt_false hlt,
    evx, evy, ofValue, ofCell, List.range, List.range.loop, Array.size, Nat.reduceAdd, Nat.reduceSub, Nat.reduceEqDiff, List.replicate, if_true, if_false, ↓reduceIte, reduceCtorEq, elB, evParts, Int.reduceToNat, Int.reduceLE, Int.reduceLT, Int.reduceEq, Nat.reduceMul, Nat.reduceLeDiff, Nat.reduceLT, ty3, ty4, ty9, ty23, ty22, ty25, ty5, ty35, ty31, ty47, ty38, ty43, ty127, ty82, ty77, ty55, ty52, ty60, ty63]
    refine callK_ret _ _ _ _ (call_freeze (args' := [.fv (.lst 1 (l.map celRow))]) [1] (fun i hi => by simp at hi; subst hi; exact ⟨_, _, rfl⟩) (by simp [subAny, subA, subL, frzSub]; exact List.take_of_length_le (by simp)) rfl
        (call_pure hb (fun _ => rfl) (fun _ => rfl)) [1] (by simp) (by simp) (fun i hi hl => by
          match i, hi, hl with
          | 0, _, _ => simp [freezeSt, killAll, subBlk, subAny, subA]
          | 1, hi, _ => exact absurd (by simp) hi
          | i + 2, _, hl => simp at hl; omega)) (by kernel_rfl) ?_
    simp -implicitDefEqProofs only [subAny, subA, subL, backSub, back, putBack, subBlk, Option.getD_some, List.map_cons, List.map_nil, Nat.not_lt_zero, Nat.sub_zero, Nat.add_zero, List.length_map, freezeSt, frzSub, killAll, List.contains_cons, List.contains_nil, Nat.reduceBEq, Bool.or_false, stB_boxA, splice_all, List.all_cons, List.all_nil, Bool.and_self,
    evx, evy, ofValue, ofCell, List.range, List.range.loop, Array.size, Nat.reduceAdd, Nat.reduceSub, Nat.reduceEqDiff, List.replicate, if_true, if_false, ↓reduceIte, reduceCtorEq, elB, evParts, Int.reduceToNat, Int.reduceLE, Int.reduceLT, Int.reduceEq, Nat.reduceMul, Nat.reduceLeDiff, Nat.reduceLT, ty3, ty4, ty9, ty23, ty22, ty25, ty5, ty35, ty31, ty47, ty38, ty43, ty127, ty82, ty77, ty55, ty52, ty60, ty63]
    exact le_sf (by simp [subAny, subA, subL])
theorem built23 : Ok Tryz.prog 43 [.fv (.lst 1 [[.str [97, 43]], [.str [98, 43]]])] [] (.ret d23.av) [] :=
  ok43 [([97, 43], [cA, ⟨6, 0, 0, 0, 0⟩]), ([98, 43], [cB, ⟨6, 0, 0, 0, 0⟩])] (by decide) (fun p hp => by
    simp only [List.mem_cons, List.not_mem_nil, or_false] at hp
    rcases hp with rfl | rfl
    · exact parseAp
    · exact parseBp) d23 build23
instance : DecidableEq Tok := fun x y => decidable_of_iff (x.rule = y.rule ∧ x.at_ = y.at_ ∧ x.len = y.len ∧ x.seen = y.seen) (by cases x; cases y; simp)
def toks23 : List Tok := [⟨0, 0, 2, 3⟩, ⟨1, 2, 2, 5⟩, ⟨0, 4, 1, 6⟩]
def toks23b : List Tok := [⟨0, 0, 2, 3⟩, ⟨1, 2, 2, 5⟩, ⟨0, 4, 2, 7⟩]
theorem all23 : d23.all [97, 97, 98, 98, 97] = (toks23, -1) := by decide +kernel
theorem edit23 : d23.editO [97, 97, 98, 98, 97] (knw (toks23, -1)) ⟨4, 0, [97]⟩ = ((toks23b, -1), 2, 0) := by decide +kernel
theorem okWakes23 : Ok Tryz.prog 27 [] [] (.ret (.fv (.bool true))) [] := by
  have hb := built23
  have hcut := ok31 d23 (by decide) [97, 97, 98, 98, 97] (by decide)
  rw [all23] at hcut
  have hed := ok32 d23 (by decide) [97, 97, 98, 98, 97] (by decide) (knw (toks23, -1)) (by decide) (by decide) ⟨4, 0, [97]⟩ (by decide)
  rw [edit23, ← lexed_knw] at hed
  have zt : decide ((⟨0, 4, 2⟩ : Tk) = ⟨0, 4, 2⟩) = true := rfl
  unfold Aut.av at hb hcut hed
  generalize d23.next.map nRow = X at hb hcut hed
  generalize d23.acc.map iRow = Y at hb hcut hed
  simp only [toks23, toks23b, lexedA, List.map_cons, List.map_nil, tokRow, seenRow, Edt.av] at hcut hed
  refine ok_start (k := 44) (n0 := 0) (rs := [.tmp 0]) mix Tryz.func27 rfl rfl rfl rfl rfl rfl rfl ?_
  simp -implicitDefEqProofs only [evx, evy, ofValue, ofCell, List.range, List.range.loop, Array.size, Nat.reduceAdd, Nat.reduceSub, Nat.reduceEqDiff, List.replicate, if_true, if_false, ↓reduceIte, reduceCtorEq, elB, evParts, Int.reduceToNat, Int.reduceLE, Int.reduceLT, Int.reduceEq, Nat.reduceMul, Nat.reduceLeDiff, Nat.reduceLT, ty3, ty4, ty9, ty23, ty22, ty25, ty5, ty35, ty31, ty47, ty38, ty43, ty127, ty82, ty77, ty55, ty52, ty60, ty63]
  refine callK_ret _ _ _ _ (call_frz [0] (fun i hi => by simp at hi; subst hi; exact ⟨_, _, rfl⟩) rfl rfl (call_pure hb (fun _ => rfl) (fun _ => rfl))) (by kernel_rfl) ?_
  simp -implicitDefEqProofs only [freezeSt, frzSub, killAll, List.contains_cons, List.contains_nil, Nat.reduceBEq, Bool.or_false, subAny, subA, subL, backSub, back, putBack, subBlk, Option.getD_some, List.map_cons, List.map_nil, Nat.not_lt_zero, Nat.sub_zero, Nat.add_zero, List.length_map, stB_boxA, splice_all, List.all_cons, List.all_nil, Bool.and_self,
    evx, evy, ofValue, ofCell, List.range, List.range.loop, Array.size, Nat.reduceAdd, Nat.reduceSub, Nat.reduceEqDiff, List.replicate, if_true, if_false, ↓reduceIte, reduceCtorEq, elB, evParts, Int.reduceToNat, Int.reduceLE, Int.reduceLT, Int.reduceEq, Nat.reduceMul, Nat.reduceLeDiff, Nat.reduceLT, ty3, ty4, ty9, ty23, ty22, ty25, ty5, ty35, ty31, ty47, ty38, ty43, ty127, ty82, ty77, ty55, ty52, ty60, ty63]
  refine callK_ret _ _ _ _ (call_pure (hcut) (fun _ => rfl) (fun _ => rfl)) (ok_nil _ _) ?_
  simp -implicitDefEqProofs only [stB_boxA, splice_all, List.all_cons, List.all_nil, Bool.and_self,
    evx, evy, ofValue, ofCell, List.range, List.range.loop, Array.size, Nat.reduceAdd, Nat.reduceSub, Nat.reduceEqDiff, List.replicate, if_true, if_false, ↓reduceIte, reduceCtorEq, elB, evParts, Int.reduceToNat, Int.reduceLE, Int.reduceLT, Int.reduceEq, Nat.reduceMul, Nat.reduceLeDiff, Nat.reduceLT, ty3, ty4, ty9, ty23, ty22, ty25, ty5, ty35, ty31, ty47, ty38, ty43, ty127, ty82, ty77, ty55, ty52, ty60, ty63]
  refine callK_ret _ _ _ _ (call_pure (hed) (fun _ => rfl) (fun _ => rfl)) (ok_nil _ _) ?_
  simp -implicitDefEqProofs only [stB_boxA, splice_all, List.all_cons, List.all_nil, Bool.and_self, eql_tok, zt,
    evx, evy, ofValue, ofCell, List.range, List.range.loop, Array.size, Nat.reduceAdd, Nat.reduceSub, Nat.reduceEqDiff, List.replicate, if_true, if_false, ↓reduceIte, reduceCtorEq, elB, evParts, Int.reduceToNat, Int.reduceLE, Int.reduceLT, Int.reduceEq, Nat.reduceMul, Nat.reduceLeDiff, Nat.reduceLT, ty3, ty4, ty9, ty23, ty22, ty25, ty5, ty35, ty31, ty47, ty38, ty43, ty127, ty82, ty77, ty55, ty52, ty60, ty63]
  exact le_flat rfl
end Go.Abs
