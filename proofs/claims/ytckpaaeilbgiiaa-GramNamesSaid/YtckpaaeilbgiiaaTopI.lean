/- Names of symbols: the document's; a grammar of its own. -/
import Derived.Test.YtckpaaeilbgiiaaTyTry
import Derived.Test.YtckpaaeilbgiiaaDrTry
import Derived.Test.YtckpaaeilbgiiaaAbsZ
import Derived.Test.YtckpaaeilbgiiaaTopH
namespace Go.Abs
open Go.Proofs
set_option linter.unusedVariables false
set_option linter.unusedSimpArgs false
set_option maxRecDepth 100000
set_option maxHeartbeats 1000000


def nameRows (g : Gra) (i : Nat) : List (List FV) := ([36] :: termNames (g.rules.take i)).map sRow
theorem nameRows_length (g : Gra) (i : Nat) : (nameRows g i).length = cntT (g.rules.take i) + 1 := by simp [nameRows, termNames_length]
theorem ok10 (g : Gra) (hs : g.rules.length ≤ 40) (hs2 : g.nonts.length ≤ 40) (sym : Int) (hsym : I64 sym) : Ok Try.prog 10 [g.av, .fv (.int .i64 sym)] [] (.ret (.fv (.str (nameOf g sym)))) [] := by
  refine ok_start (k := 47) (n0 := 0) (rs := [.tmp 4]) mix Try.func10 rfl rfl rfl rfl rfl rfl rfl ?_
  simp -implicitDefEqProofs only [Gra.av,
    evx, true_and, Option.map_none, ofValue, ofCell, Option.map_some, List.range, List.range.loop, Array.size, List.length_cons, List.length_nil, List.size_toArray, Nat.reduceAdd, Nat.reduceSub, Nat.reduceEqDiff, List.getElem?_toArray, List.getElem?_cons_zero, List.getElem?_cons_succ, List.replicate, List.cons_append, List.nil_append, List.append_nil, List.set_cons_zero, List.set_cons_succ, List.getD_cons_zero, List.getD_cons_succ, decide_not, ne_eq, if_true, if_false, eq_self, ↓reduceIte, reduceCtorEq, splice_one, map_ite, elB, bind_ite, ite_ite, evParts, Option.bind_some, Option.some.injEq, Int.reduceToNat, Int.reduceLE, Int.reduceLT, Int.reduceEq, Nat.reduceMul, Nat.reduceLeDiff, Nat.reduceLT, List.drop_zero, List.take_succ_cons, List.take_zero, List.drop_succ_cons, List.take_nil, List.map_cons, List.map_nil, List.length_append, ty3, ty4, ty9, ty22, ty23, ty24, ty25, ty27, ty38, ty40, ty41, ty43, ty95]
  refine loop_rule (fun i : Nat => ⟨[.any, .fv (.int .i64 sym), .ptr 0 0 0 0, .any, .any, .ref 1 1 0 (cntT (g.rules.take i) + 1), .fv (.int .i64 i), .any, .any, .any, .any, .any, .any, .any, .any, .any, .any, .any, .any, .any, .any, .any, .any, .any, .any, .any, .any, .any, .any, .any, .any, .any, .any, .any, .any, .any, .any, .any, .any, .any, .any, .any, .any, .any, .any, .any, .any, .any, .any], [.box g.cells, .plain 1 (nameRows g i)], []⟩)
    (fun i => i ≤ g.rules.length) (fun i => g.rules.length - i) 0 (le_pk [0, 2] rfl (by simp) (by simp) ?_ ?_) (by simp) (fun i hi s hs3 => ?_)
  · simp [subBlk, subAny, subA, Gra.cells, nameRows, termNames, sRow]
  · simp [wk, subAny, subA, mkSub, idx, cntT]
  have hle := cntT_take_le g.rules i
  have hnl := nameRows_length g i
  by_cases hlt : i < g.rules.length
  · have hr := rows_at Rul.row g.rules i hlt
    have hy := cntT_yes hlt
    have hn := cntT_no hlt
    have ty := termNames_take_yes hlt
    have tn := termNames_take_no hlt
    generalize g.rules[i] = r at hr hy hn ty tn
    cases hsk : r.skip with
    | false =>
      simp -implicitDefEqProofs only [Gra.cells, List.length_map, lt_true hlt, hr, Rul.row, hsk, wsucc i (by omega),
    evx, true_and, Option.map_none, ofValue, ofCell, Option.map_some, List.range, List.range.loop, Array.size, List.length_cons, List.length_nil, List.size_toArray, Nat.reduceAdd, Nat.reduceSub, Nat.reduceEqDiff, List.getElem?_toArray, List.getElem?_cons_zero, List.getElem?_cons_succ, List.replicate, List.cons_append, List.nil_append, List.append_nil, List.set_cons_zero, List.set_cons_succ, List.getD_cons_zero, List.getD_cons_succ, decide_not, ne_eq, if_true, if_false, eq_self, ↓reduceIte, reduceCtorEq, splice_one, map_ite, elB, bind_ite, ite_ite, evParts, Option.bind_some, Option.some.injEq, Int.reduceToNat, Int.reduceLE, Int.reduceLT, Int.reduceEq, Nat.reduceMul, Nat.reduceLeDiff, Nat.reduceLT, List.drop_zero, List.take_succ_cons, List.take_zero, List.drop_succ_cons, List.take_nil, List.map_cons, List.map_nil, List.length_append, ty3, ty4, ty9, ty22, ty23, ty24, ty25, ty27, ty38, ty40, ty41, ty43, ty95]
      refine ⟨⟨by omega, by omega⟩, back_intro hs3 (i + 1) (le_pk [0, 3] rfl (by simp) (by simp) ?_ ?_) (by omega) (by omega)⟩
      · have e : List.take (cntT (g.rules.take i) + 1) (nameRows g i) ++ [[FV.str r.name]] = nameRows g (i + 1) := by
          rw [← hnl, List.take_length, nameRows, nameRows, ty hsk]
          simp [sRow]
        rw [e]
        simp [subBlk, subAny, subA, Gra.cells]
      · simp [wk, subAny, subA, mkSub, idx, hy hsk]
    | true =>
      simp -implicitDefEqProofs only [Gra.cells, List.length_map, lt_true hlt, hr, Rul.row, hsk, wsucc i (by omega),
    evx, true_and, Option.map_none, ofValue, ofCell, Option.map_some, List.range, List.range.loop, Array.size, List.length_cons, List.length_nil, List.size_toArray, Nat.reduceAdd, Nat.reduceSub, Nat.reduceEqDiff, List.getElem?_toArray, List.getElem?_cons_zero, List.getElem?_cons_succ, List.replicate, List.cons_append, List.nil_append, List.append_nil, List.set_cons_zero, List.set_cons_succ, List.getD_cons_zero, List.getD_cons_succ, decide_not, ne_eq, if_true, if_false, eq_self, ↓reduceIte, reduceCtorEq, splice_one, map_ite, elB, bind_ite, ite_ite, evParts, Option.bind_some, Option.some.injEq, Int.reduceToNat, Int.reduceLE, Int.reduceLT, Int.reduceEq, Nat.reduceMul, Nat.reduceLeDiff, Nat.reduceLT, List.drop_zero, List.take_succ_cons, List.take_zero, List.drop_succ_cons, List.take_nil, List.map_cons, List.map_nil, List.length_append, ty3, ty4, ty9, ty22, ty23, ty24, ty25, ty27, ty38, ty40, ty41, ty43, ty95]
      have e : nameRows g (i + 1) = nameRows g i := by rw [nameRows, nameRows, tn hsk]
      refine back_intro hs3 (i + 1) (le_pk [0, 1] rfl (by simp) (by simp) ?_ ?_) (by omega) (by omega)
      · rw [e]
        simp [subBlk, subAny, subA, Gra.cells]
      · simp [wk, subAny, subA, mkSub, idx, hn hsk]
  · have hie : i = g.rules.length := by omega
    subst hie
    have hct : cntT (g.rules.take g.rules.length) = g.terms := by rw [List.take_length]; rfl
    have hfull : List.take (g.terms + 1) (nameRows g g.rules.length) ++ g.nonts.map sRow = g.allNames.map sRow := by
      rw [hct] at hnl
      rw [← hnl, List.take_length, nameRows, List.take_length, Gra.allNames]
      simp
    have hal := allNames_length g
    have hall : g.all = g.terms + g.nonts.length := rfl
    have htl := cntT_le g.rules
    rw [← terms_eq] at htl
    rw [hct] at hnl
    by_cases h1 : sym < 0
    · have h1f : (sym < 0) = True := by simpa using h1
      simp -implicitDefEqProofs only [Gra.cells, List.length_map, lt_false hlt, hct, h1f,
    evx, true_and, Option.map_none, ofValue, ofCell, Option.map_some, List.range, List.range.loop, Array.size, List.length_cons, List.length_nil, List.size_toArray, Nat.reduceAdd, Nat.reduceSub, Nat.reduceEqDiff, List.getElem?_toArray, List.getElem?_cons_zero, List.getElem?_cons_succ, List.replicate, List.cons_append, List.nil_append, List.append_nil, List.set_cons_zero, List.set_cons_succ, List.getD_cons_zero, List.getD_cons_succ, decide_not, ne_eq, if_true, if_false, eq_self, ↓reduceIte, reduceCtorEq, splice_one, map_ite, elB, bind_ite, ite_ite, evParts, Option.bind_some, Option.some.injEq, Int.reduceToNat, Int.reduceLE, Int.reduceLT, Int.reduceEq, Nat.reduceMul, Nat.reduceLeDiff, Nat.reduceLT, List.drop_zero, List.take_succ_cons, List.take_zero, List.drop_succ_cons, List.take_nil, List.map_cons, List.map_nil, List.length_append, ty3, ty4, ty9, ty22, ty23, ty24, ty25, ty27, ty38, ty40, ty41, ty43, ty95]
      refine ⟨⟨by omega, by omega⟩, ?_⟩
      rw [nameOf_out (.inl h1)]
      exact le_flat rfl
    · have h1f : (sym < 0) = False := by simpa using h1
      obtain ⟨k, rfl⟩ : ∃ k : Nat, sym = k := ⟨sym.toNat, by omega⟩
      by_cases h2 : ((g.terms + 1 + g.nonts.length : Nat) : Int) ≤ (k : Int)
      · have h2f : (((g.terms + 1 + g.nonts.length : Nat) : Int) ≤ (k : Int)) = True := by simp; omega
        simp -implicitDefEqProofs only [Gra.cells, List.length_map, lt_false hlt, hct, h1f, h2f,
    evx, true_and, Option.map_none, ofValue, ofCell, Option.map_some, List.range, List.range.loop, Array.size, List.length_cons, List.length_nil, List.size_toArray, Nat.reduceAdd, Nat.reduceSub, Nat.reduceEqDiff, List.getElem?_toArray, List.getElem?_cons_zero, List.getElem?_cons_succ, List.replicate, List.cons_append, List.nil_append, List.append_nil, List.set_cons_zero, List.set_cons_succ, List.getD_cons_zero, List.getD_cons_succ, decide_not, ne_eq, if_true, if_false, eq_self, ↓reduceIte, reduceCtorEq, splice_one, map_ite, elB, bind_ite, ite_ite, evParts, Option.bind_some, Option.some.injEq, Int.reduceToNat, Int.reduceLE, Int.reduceLT, Int.reduceEq, Nat.reduceMul, Nat.reduceLeDiff, Nat.reduceLT, List.drop_zero, List.take_succ_cons, List.take_zero, List.drop_succ_cons, List.take_nil, List.map_cons, List.map_nil, List.length_append, ty3, ty4, ty9, ty22, ty23, ty24, ty25, ty27, ty38, ty40, ty41, ty43, ty95]
        refine ⟨⟨by omega, by omega⟩, ?_⟩
        rw [nameOf_out (.inr (by omega))]
        exact le_flat rfl
      · have h2f : (((g.terms + 1 + g.nonts.length : Nat) : Int) ≤ (k : Int)) = False := by simp; omega
        have h3 : ((k : Int) < ((g.terms + 1 + g.nonts.length : Nat) : Int)) = True := by simp; omega
        have hkl : k < g.allNames.length := by omega
        have hget : (g.allNames.map sRow)[k]? = some [.str (nameOf g k)] := by
          rw [List.getElem?_map, List.getElem?_eq_getElem hkl, nameOf, if_pos (by omega), Int.toNat_natCast, List.getElem?_eq_getElem hkl]
          rfl
        simp -implicitDefEqProofs only [Gra.cells, List.length_map, lt_false hlt, hct, h1f, h2f, h3, hfull, hget, Nat.zero_add,
    evx, true_and, Option.map_none, ofValue, ofCell, Option.map_some, List.range, List.range.loop, Array.size, List.length_cons, List.length_nil, List.size_toArray, Nat.reduceAdd, Nat.reduceSub, Nat.reduceEqDiff, List.getElem?_toArray, List.getElem?_cons_zero, List.getElem?_cons_succ, List.replicate, List.cons_append, List.nil_append, List.append_nil, List.set_cons_zero, List.set_cons_succ, List.getD_cons_zero, List.getD_cons_succ, decide_not, ne_eq, if_true, if_false, eq_self, ↓reduceIte, reduceCtorEq, splice_one, map_ite, elB, bind_ite, ite_ite, evParts, Option.bind_some, Option.some.injEq, Int.reduceToNat, Int.reduceLE, Int.reduceLT, Int.reduceEq, Nat.reduceMul, Nat.reduceLeDiff, Nat.reduceLT, List.drop_zero, List.take_succ_cons, List.take_zero, List.drop_succ_cons, List.take_nil, List.map_cons, List.map_nil, List.length_append, ty3, ty4, ty9, ty22, ty23, ty24, ty25, ty27, ty38, ty40, ty41, ty43, ty95]
        refine ⟨⟨by omega, by omega⟩, ?_⟩
        exact le_flat rfl
end Go.Abs
