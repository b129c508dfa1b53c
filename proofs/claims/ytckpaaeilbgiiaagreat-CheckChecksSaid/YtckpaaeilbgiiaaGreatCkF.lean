/- Names of a grammar: the program's answer and the document's. -/
import Derived.Test.YtckpaaeilbgiiaaGreatTyTryz
import Derived.Test.YtckpaaeilbgiiaaGreatDrTryz
import Derived.Test.YtckpaaeilbgiiaaGreatAbsTree
import Derived.Test.YtckpaaeilbgiiaaGreatCkE
namespace Go.Abs
open Go.Proofs
set_option linter.unusedVariables false
set_option linter.unusedSimpArgs false
set_option maxRecDepth 100000
set_option maxHeartbeats 1000000
theorem nodupN_iff : ∀ (l : List Bs), nodupN l = true ↔ l.Nodup
  | [] => by simp [nodupN]
  | s :: l => by simp [nodupN, nodupN_iff l]
theorem nodup_step {l : List Bs} {i : Nat} (hi : i < l.length) (h : (l.take i).Nodup) (hn : l[i] ∉ l.take i) : (l.take (i + 1)).Nodup := by
  rw [List.take_add_one, List.getElem?_eq_getElem hi]
  rw [List.nodup_append]
  refine ⟨h, by simp, fun a ha b hb e => ?_⟩
  simp at hb
  subst hb
  exact hn (e ▸ ha)
theorem nodup_bad {l : List Bs} {i : Nat} (hi : i < l.length) (hn : l[i] ∈ l.take i) : nodupN l = false := by
  cases h : nodupN l with
  | false => rfl
  | true =>
    rw [nodupN_iff] at h
    rw [← List.take_append_drop i l, List.nodup_append] at h
    refine absurd rfl (h.2.2 _ hn l[i] ?_)
    rw [List.drop_eq_getElem_cons hi]
    exact List.mem_cons_self
theorem namesB_rule {g : Gra} {i : Nat} (hi : i < g.rules.length) (h : rightB g.rules[i].re = false) : g.namesB = false := by
  unfold Gra.namesB
  have : (g.rules.all fun r => rightB r.re) = false := by
    rw [List.all_eq_false]
    exact ⟨_, List.getElem_mem hi, by simp [h]⟩
  rw [this]; rfl
theorem namesB_named {g : Gra} {i : Nat} (hi : i < g.names.length) (h : namedB g.names[i] = false) : g.namesB = false := by
  unfold Gra.namesB
  have : g.names.all namedB = false := by
    rw [List.all_eq_false]
    exact ⟨_, List.getElem_mem hi, by simp [h]⟩
  rw [this]; simp
theorem namesB_dup {g : Gra} {i : Nat} (hi : i < g.names.length) (h : g.names[i] ∈ g.names.take i) : g.namesB = false := by
  unfold Gra.namesB
  rw [nodup_bad hi h]; simp
theorem namesB_ok {g : Gra} (h1 : (g.rules.all fun r => rightB r.re) = true) (h2 : g.names.all namedB = true) (h3 : g.names.Nodup) : g.namesB = true := by
  unfold Gra.namesB
  rw [h1, h2, (nodupN_iff _).2 h3]; rfl
def nRows (l : List Rul) : List (List FV) := (l.map Rul.name).map sRow
theorem nRows_length (l : List Rul) : (nRows l).length = l.length := by simp [nRows]
theorem nRows_succ {l : List Rul} {i : Nat} (hi : i < l.length) : nRows (l.take (i + 1)) = nRows (l.take i) ++ [[.str l[i].name]] := by
  rw [nRows, nRows, List.take_add_one, List.getElem?_eq_getElem hi, List.map_append, List.map_append]
  rfl
theorem all_succ {α : Type} (p : α → Bool) {l : List α} {i : Nat} (hi : i < l.length) (h : (l.take i).all p = true) (h2 : p l[i] = true) : (l.take (i + 1)).all p = true := by
  rw [List.take_add_one, List.getElem?_eq_getElem hi, List.all_append, h]
  simp [h2]
theorem names_length (g : Gra) : g.names.length = g.rules.length + g.nonts.length := by simp [Gra.names]
theorem names_rows (g : Gra) : nRows g.rules ++ g.nonts.map sRow = g.names.map sRow := by simp [nRows, Gra.names]
theorem ok37 (g : Gra) (hs : g.rules.length ≤ 40) (hs2 : g.nonts.length ≤ 40) (hn : ∀ s ∈ g.names, s.length ≤ 4000) : Ok Tryz.prog 37 [g.av] [] (.ret (.fv (.bool g.namesB))) [] := by
  refine ok_start (k := 46) (n0 := 0) (rs := [.tmp 2]) mix Tryz.func37 rfl rfl rfl rfl rfl rfl rfl ?_
  have hnl := names_length g
  simp -implicitDefEqProofs only [Gra.av, List.length_map,
    evx, evy, ofValue, ofCell, List.range, List.range.loop, Array.size, Nat.reduceAdd, Nat.reduceSub, Nat.reduceEqDiff, List.replicate, if_true, if_false, ↓reduceIte, reduceCtorEq, elB, evParts, Int.reduceToNat, Int.reduceLE, Int.reduceLT, Int.reduceEq, Nat.reduceMul, Nat.reduceLeDiff, Nat.reduceLT, ty3, ty4, ty9, ty22, ty23, ty24, ty25, ty27, ty35, ty40, ty44, ty46, ty55]
  refine loop_rule (fun i : Nat => ⟨[.any, .ptr 0 0 0 0, .any, .ref 1 1 0 i, .any, .any, .any, .any, .any, .fv (.lst 3 (g.rules.map Rul.row)), .fv (.int .i64 g.rules.length), .fv (.int .i64 i), .any, .any, .any, .any, .any, .any, .any, .any, .any, .any, .any, .any, .any, .any, .any, .any, .any, .any, .any, .any, .any, .any, .any, .any, .any, .any, .any, .any, .any, .any, .any, .any, .any, .any, .any], [.box g.cells, .plain 1 (nRows (g.rules.take i))], []⟩)
    (fun i => i ≤ g.rules.length ∧ ((g.rules.take i).all fun r => rightB r.re) = true) (fun i => g.rules.length - i) 0 (Le.trans (le_virt 3 1 rfl) (le_wk (by simp [wk]))) (by simp) (fun i hi s hs3 => ?_)
  obtain ⟨hi, hall⟩ := hi
  have hrl : (nRows (g.rules.take i)).length = i := by rw [nRows_length, List.length_take]; omega
  have htk : List.take i (nRows (g.rules.take i)) = nRows (g.rules.take i) := List.take_of_length_le (by omega)
  by_cases hlt : i < g.rules.length
  · have hr := rows_at Rul.row g.rules i hlt
    have hbad := @namesB_rule g i hlt
    have hgood := all_succ (fun r => rightB r.re) hlt hall
    have hsucc := nRows_succ hlt
    have h40 := ok40 g.rules[i].re
    generalize g.rules[i] = r at hr hbad hgood hsucc h40
    cases hrb : rightB r.re with
    | false =>
      rw [hrb] at h40
      simp -implicitDefEqProofs only [stB_boxA, splice_all, List.all_cons, List.all_nil, List.length_map, lt_true hlt, hr, Rul.row,
    evx, evy, ofValue, ofCell, List.range, List.range.loop, Array.size, Nat.reduceAdd, Nat.reduceSub, Nat.reduceEqDiff, List.replicate, if_true, if_false, ↓reduceIte, reduceCtorEq, elB, evParts, Int.reduceToNat, Int.reduceLE, Int.reduceLT, Int.reduceEq, Nat.reduceMul, Nat.reduceLeDiff, Nat.reduceLT, ty3, ty4, ty9, ty22, ty23, ty24, ty25, ty27, ty35, ty40, ty44, ty46, ty55]
      refine callK_ret _ _ _ _ (call_pure (h40) (fun _ => rfl) (fun _ => rfl)) (ok_nil _ _) ?_
      simp -implicitDefEqProofs only [evx, evy, ofValue, ofCell, List.range, List.range.loop, Array.size, Nat.reduceAdd, Nat.reduceSub, Nat.reduceEqDiff, List.replicate, if_true, if_false, ↓reduceIte, reduceCtorEq, elB, evParts, Int.reduceToNat, Int.reduceLE, Int.reduceLT, Int.reduceEq, Nat.reduceMul, Nat.reduceLeDiff, Nat.reduceLT, ty3, ty4, ty9, ty22, ty23, ty24, ty25, ty27, ty35, ty40, ty44, ty46, ty55]
      rw [hbad hrb]
      exact le_flat rfl
    | true =>
      rw [hrb] at h40
      simp -implicitDefEqProofs only [stB_boxA, splice_all, List.all_cons, List.all_nil, List.length_map, lt_true hlt, hr, Rul.row,
    evx, evy, ofValue, ofCell, List.range, List.range.loop, Array.size, Nat.reduceAdd, Nat.reduceSub, Nat.reduceEqDiff, List.replicate, if_true, if_false, ↓reduceIte, reduceCtorEq, elB, evParts, Int.reduceToNat, Int.reduceLE, Int.reduceLT, Int.reduceEq, Nat.reduceMul, Nat.reduceLeDiff, Nat.reduceLT, ty3, ty4, ty9, ty22, ty23, ty24, ty25, ty27, ty35, ty40, ty44, ty46, ty55]
      refine callK_ret _ _ _ _ (call_pure (h40) (fun _ => rfl) (fun _ => rfl)) (ok_nil _ _) ?_
      simp -implicitDefEqProofs only [List.length_map, wsucc i (by omega),
    evx, evy, ofValue, ofCell, List.range, List.range.loop, Array.size, Nat.reduceAdd, Nat.reduceSub, Nat.reduceEqDiff, List.replicate, if_true, if_false, ↓reduceIte, reduceCtorEq, elB, evParts, Int.reduceToNat, Int.reduceLE, Int.reduceLT, Int.reduceEq, Nat.reduceMul, Nat.reduceLeDiff, Nat.reduceLT, ty3, ty4, ty9, ty22, ty23, ty24, ty25, ty27, ty35, ty40, ty44, ty46, ty55]
      refine ⟨⟨by omega, by omega⟩, back_intro hs3 (i + 1) (le_pk [0, 4] rfl (by simp) (by simp) ?_ ?_) ⟨by omega, hgood hrb⟩ (by omega)⟩
      · rw [htk, hsucc]
        simp [subBlk, subAny, subA, Gra.cells]
      · simp [wk, subAny, subA, mkSub, idx]
  · obtain rfl : i = g.rules.length := by omega
    rw [List.take_length] at hall htk hrl
    have hnr := names_rows g
    simp -implicitDefEqProofs only [Gra.cells, List.length_map, List.take_length, lt_false hlt, htk, hnr,
    evx, evy, ofValue, ofCell, List.range, List.range.loop, Array.size, Nat.reduceAdd, Nat.reduceSub, Nat.reduceEqDiff, List.replicate, if_true, if_false, ↓reduceIte, reduceCtorEq, elB, evParts, Int.reduceToNat, Int.reduceLE, Int.reduceLT, Int.reduceEq, Nat.reduceMul, Nat.reduceLeDiff, Nat.reduceLT, ty3, ty4, ty9, ty22, ty23, ty24, ty25, ty27, ty35, ty40, ty44, ty46, ty55]
    refine ⟨⟨by omega, by omega⟩, ?_⟩
    refine loop_rule (fun i : Nat => ⟨[.any, .any, .any, .ref 0 1 0 g.names.length, .any, .any, .any, .any, .any, .any, .any, .any, .any, .any, .any, .any, .any, .any, .any, .any, .any, .any, .any, .any, .any, .any, .any, .any, .any, .ref 0 1 0 g.names.length, .fv (.int .i64 g.names.length), .fv (.int .i64 i), .any, .any, .any, .any, .any, .any, .any, .any, .any, .any, .any, .any, .any, .any, .any], [.plain 1 (g.names.map sRow)], []⟩)
      (fun i => i ≤ g.names.length ∧ (g.names.take i).all namedB = true ∧ (g.names.take i).Nodup) (fun i => g.names.length - i) 0 (le_pk [2] rfl (by simp) (by simp) ?_ ?_) (by simp) (fun i hi s hs3 => ?_)
    · simp [subBlk]
    · rw [hnl]; simp [wk, subAny, subA, mkSub, idx]
    obtain ⟨hi, hnd, hdup⟩ := hi
    by_cases hlt2 : i < g.names.length
    · have hr := rows_at sRow g.names i hlt2
      have hb1 := @namesB_named g i hlt2
      have hb2 := @namesB_dup g i hlt2
      have hg1 := all_succ namedB hlt2 hnd
      have hg2 := nodup_step hlt2 hdup
      have h64 := ok64 g.names[i] (hn _ (List.getElem_mem hlt2))
      have h65 := ok65 (g.names.take i) g.names[i] (by rw [List.length_take]; omega)
      rw [List.map_take] at h65
      generalize g.names[i] = x at hr hb1 hb2 hg1 hg2 h64 h65
      cases hnx : namedB x with
      | false =>
        rw [hnx] at h64
        simp -implicitDefEqProofs only [List.length_map, lt_true hlt2, hr, sRow,
    evx, evy, ofValue, ofCell, List.range, List.range.loop, Array.size, Nat.reduceAdd, Nat.reduceSub, Nat.reduceEqDiff, List.replicate, if_true, if_false, ↓reduceIte, reduceCtorEq, elB, evParts, Int.reduceToNat, Int.reduceLE, Int.reduceLT, Int.reduceEq, Nat.reduceMul, Nat.reduceLeDiff, Nat.reduceLT, ty3, ty4, ty9, ty22, ty23, ty24, ty25, ty27, ty35, ty40, ty44, ty46, ty55]
        refine callK_ret _ _ _ _ (call_pure (h64) (fun _ => rfl) (fun _ => rfl)) (ok_nil _ _) ?_
        simp -implicitDefEqProofs only [evx, evy, ofValue, ofCell, List.range, List.range.loop, Array.size, Nat.reduceAdd, Nat.reduceSub, Nat.reduceEqDiff, List.replicate, if_true, if_false, ↓reduceIte, reduceCtorEq, elB, evParts, Int.reduceToNat, Int.reduceLE, Int.reduceLT, Int.reduceEq, Nat.reduceMul, Nat.reduceLeDiff, Nat.reduceLT, ty3, ty4, ty9, ty22, ty23, ty24, ty25, ty27, ty35, ty40, ty44, ty46, ty55]
        rw [hb1 hnx]
        exact le_flat rfl
      | true =>
        rw [hnx] at h64
        simp -implicitDefEqProofs only [List.length_map, lt_true hlt2, hr, sRow,
    evx, evy, ofValue, ofCell, List.range, List.range.loop, Array.size, Nat.reduceAdd, Nat.reduceSub, Nat.reduceEqDiff, List.replicate, if_true, if_false, ↓reduceIte, reduceCtorEq, elB, evParts, Int.reduceToNat, Int.reduceLE, Int.reduceLT, Int.reduceEq, Nat.reduceMul, Nat.reduceLeDiff, Nat.reduceLT, ty3, ty4, ty9, ty22, ty23, ty24, ty25, ty27, ty35, ty40, ty44, ty46, ty55]
        refine callK_ret _ _ _ _ (call_pure (h64) (fun _ => rfl) (fun _ => rfl)) (ok_nil _ _) ?_
        simp -implicitDefEqProofs only [List.length_map, le_true hi, Nat.sub_zero,
    evx, evy, ofValue, ofCell, List.range, List.range.loop, Array.size, Nat.reduceAdd, Nat.reduceSub, Nat.reduceEqDiff, List.replicate, if_true, if_false, ↓reduceIte, reduceCtorEq, elB, evParts, Int.reduceToNat, Int.reduceLE, Int.reduceLT, Int.reduceEq, Nat.reduceMul, Nat.reduceLeDiff, Nat.reduceLT, ty3, ty4, ty9, ty22, ty23, ty24, ty25, ty27, ty35, ty40, ty44, ty46, ty55]
        refine ⟨⟨by omega, trivial⟩, ?_⟩
        refine callK_ret _ _ _ _ (call_look [0] h65 ?_ (fun k hk => by simp at hk; subst hk; exact ⟨_, _, rfl⟩) rfl) (ok_nil _ _) ?_
        · simp [subAny, subA, mkSub, idx, hi]
        cases hc : (g.names.take i).contains x with
        | true =>
          simp -implicitDefEqProofs only [evx, evy, ofValue, ofCell, List.range, List.range.loop, Array.size, Nat.reduceAdd, Nat.reduceSub, Nat.reduceEqDiff, List.replicate, if_true, if_false, ↓reduceIte, reduceCtorEq, elB, evParts, Int.reduceToNat, Int.reduceLE, Int.reduceLT, Int.reduceEq, Nat.reduceMul, Nat.reduceLeDiff, Nat.reduceLT, ty3, ty4, ty9, ty22, ty23, ty24, ty25, ty27, ty35, ty40, ty44, ty46, ty55]
          rw [hb2 (by simpa using hc)]
          exact le_flat rfl
        | false =>
          simp -implicitDefEqProofs only [wsucc i (by omega),
    evx, evy, ofValue, ofCell, List.range, List.range.loop, Array.size, Nat.reduceAdd, Nat.reduceSub, Nat.reduceEqDiff, List.replicate, if_true, if_false, ↓reduceIte, reduceCtorEq, elB, evParts, Int.reduceToNat, Int.reduceLE, Int.reduceLT, Int.reduceEq, Nat.reduceMul, Nat.reduceLeDiff, Nat.reduceLT, ty3, ty4, ty9, ty22, ty23, ty24, ty25, ty27, ty35, ty40, ty44, ty46, ty55]
          refine back_intro hs3 (i + 1) (le_wk (by simp [wk])) ⟨by omega, hg1 hnx, hg2 (by simpa using hc)⟩ (by omega)
    · obtain rfl : i = g.names.length := by omega
      rw [List.take_length] at hnd hdup
      simp -implicitDefEqProofs only [lt_false hlt2,
    evx, evy, ofValue, ofCell, List.range, List.range.loop, Array.size, Nat.reduceAdd, Nat.reduceSub, Nat.reduceEqDiff, List.replicate, if_true, if_false, ↓reduceIte, reduceCtorEq, elB, evParts, Int.reduceToNat, Int.reduceLE, Int.reduceLT, Int.reduceEq, Nat.reduceMul, Nat.reduceLeDiff, Nat.reduceLT, ty3, ty4, ty9, ty22, ty23, ty24, ty25, ty27, ty35, ty40, ty44, ty46, ty55]
      rw [namesB_ok hall hnd hdup]
      exact le_flat rfl
end Go.Abs
