/- Does a rule fit the empty text: the program's answer. -/
import Derived.Test.YtckpaaeilbgiiaaGreatTyTryz
import Derived.Test.YtckpaaeilbgiiaaGreatDrTryz
import Derived.Test.YtckpaaeilbgiiaaGreatAbsTree
import Derived.Test.YtckpaaeilbgiiaaGreatCkE
namespace Go.Abs
open Go.Proofs
set_option linter.unusedVariables false
set_option linter.unusedSimpArgs false
set_option maxRecDepth 100000
set_option maxHeartbeats 4000000
def bRow (b : Bool) : List FV := [.bool b]
/-- One cell, over what the operands ahead of it do; the last one stands last. -/
def stepS (op : Int) (st : List Bool) : List Bool :=
  if op = 1 then st ++ [false] else if op = 2 then st ++ [true] else if op = 5 ∨ op = 7 then st.set (st.length - 1) true
  else if op = 3 then st.take (st.length - 2) ++ [st.getD (st.length - 2) false && st.getD (st.length - 1) false]
  else if op = 4 then st.take (st.length - 2) ++ [st.getD (st.length - 2) false || st.getD (st.length - 1) false] else st
def evalS : List Cel → List Bool → List Bool
  | [], st => st
  | c :: r, st => evalS r (stepS c.op st)
def nullB (l : List Cel) : Bool := rightB l && (evalS l []).getD 0 false
theorem op_cases {op : Int} (h0 : 0 ≤ wantsI op) : op = 1 ∨ op = 2 ∨ op = 3 ∨ op = 4 ∨ op = 5 ∨ op = 6 ∨ op = 7 := by
  apply Classical.byContradiction
  intro hc
  have : wantsI op = -1 := by unfold wantsI; rw [if_neg (by omega), if_neg (by omega), if_neg (by omega)]
  omega
theorem w1 : wantsI 1 = 0 := by decide
theorem w2 : wantsI 2 = 0 := by decide
theorem w3 : wantsI 3 = 2 := by decide
theorem w4 : wantsI 4 = 2 := by decide
theorem w5 : wantsI 5 = 1 := by decide
theorem w6 : wantsI 6 = 1 := by decide
theorem w7 : wantsI 7 = 1 := by decide
theorem stepS_len {op : Int} {st : List Bool} (h0 : 0 ≤ wantsI op) (h : wantsI op ≤ (st.length : Int)) : ((stepS op st).length : Int) = (st.length : Int) + 1 - wantsI op := by
  rcases op_cases h0 with rfl | rfl | rfl | rfl | rfl | rfl | rfl
  · rw [w1]; simp [stepS]
  · rw [w2]; simp [stepS]
  · rw [w3] at h ⊢; simp [stepS]; omega
  · rw [w4] at h ⊢; simp [stepS]; omega
  · rw [w5] at h ⊢; simp [stepS]
  · rw [w6] at h ⊢; simp [stepS]
  · rw [w7] at h ⊢; simp [stepS]
theorem rightB_get {l : List Cel} (h : rightB l = true) : l.length ≤ 60 ∧ rightG l 0 = some 1 := by
  unfold rightB at h
  simp only [Bool.and_eq_true, decide_eq_true_eq] at h
  refine ⟨h.1.2, ?_⟩
  have h2 := h.2
  split at h2
  · rename_i n hn
    simp at h2
    rw [hn, h2]
  · cases h2
theorem rightG_next {c : Cel} {r : List Cel} {n : Int} (h : rightG (c :: r) n = some 1) : 0 ≤ wantsI c.op ∧ wantsI c.op ≤ n ∧ rightG r (n + 1 - wantsI c.op) = some 1 := by
  rw [rightG] at h
  split at h
  · cases h
  · rename_i hc
    exact ⟨by omega, by omega, h⟩
theorem bRows_len (st : List Bool) : (st.map bRow).length = st.length := List.length_map _
theorem ok20 (l : List Cel) : Ok Tryz.prog 20 [.fv (.lst 5 (l.map Cel.row))] [] (.ret (.fv (.bool (nullB l)))) [] := by
  have h40 := ok40 l
  refine ok_start (k := 80) (n0 := 0) (rs := [.tmp 2]) mix Tryz.func20 rfl rfl rfl rfl rfl rfl rfl ?_
  cases hrb : rightB l with
  | false =>
    rw [hrb] at h40
    have e : nullB l = false := by unfold nullB; rw [hrb]; rfl
    rw [e]
    simp -implicitDefEqProofs only [awp_draw _ _ Tryzdr20_17, awp_draw _ _ Tryzdr20_19,
    evx, evy, ofValue, ofCell, List.range, List.range.loop, Array.size, Nat.reduceAdd, Nat.reduceSub, Nat.reduceEqDiff, List.replicate, if_true, if_false, ↓reduceIte, reduceCtorEq, elB, evParts, Int.reduceToNat, Int.reduceLE, Int.reduceLT, Int.reduceEq, Nat.reduceMul, Nat.reduceLeDiff, Nat.reduceLT, ty3, ty4, ty9, ty5, ty89, ty44, ty93, ty91, ty88]
    refine callK_ret _ _ _ _ (call_pure (h40) (fun _ => rfl) (fun _ => rfl)) (ok_nil _ _) ?_
    simp -implicitDefEqProofs only [awp_draw _ _ Tryzdr20_17, awp_draw _ _ Tryzdr20_19,
    evx, evy, ofValue, ofCell, List.range, List.range.loop, Array.size, Nat.reduceAdd, Nat.reduceSub, Nat.reduceEqDiff, List.replicate, if_true, if_false, ↓reduceIte, reduceCtorEq, elB, evParts, Int.reduceToNat, Int.reduceLE, Int.reduceLT, Int.reduceEq, Nat.reduceMul, Nat.reduceLeDiff, Nat.reduceLT, ty3, ty4, ty9, ty5, ty89, ty44, ty93, ty91, ty88]
    exact le_flat rfl
  | true =>
    rw [hrb] at h40
    obtain ⟨h60, hg0⟩ := rightB_get hrb
    simp -implicitDefEqProofs only [awp_draw _ _ Tryzdr20_17, awp_draw _ _ Tryzdr20_19,
    evx, evy, ofValue, ofCell, List.range, List.range.loop, Array.size, Nat.reduceAdd, Nat.reduceSub, Nat.reduceEqDiff, List.replicate, if_true, if_false, ↓reduceIte, reduceCtorEq, elB, evParts, Int.reduceToNat, Int.reduceLE, Int.reduceLT, Int.reduceEq, Nat.reduceMul, Nat.reduceLeDiff, Nat.reduceLT, ty3, ty4, ty9, ty5, ty89, ty44, ty93, ty91, ty88]
    refine callK_ret _ _ _ _ (call_pure (h40) (fun _ => rfl) (fun _ => rfl)) (ok_nil _ _) ?_
    simp -implicitDefEqProofs only [awp_draw _ _ Tryzdr20_17, awp_draw _ _ Tryzdr20_19, List.length_map,
    evx, evy, ofValue, ofCell, List.range, List.range.loop, Array.size, Nat.reduceAdd, Nat.reduceSub, Nat.reduceEqDiff, List.replicate, if_true, if_false, ↓reduceIte, reduceCtorEq, elB, evParts, Int.reduceToNat, Int.reduceLE, Int.reduceLT, Int.reduceEq, Nat.reduceMul, Nat.reduceLeDiff, Nat.reduceLT, ty3, ty4, ty9, ty5, ty89, ty44, ty93, ty91, ty88]
    refine loop_rule (fun x : Nat × List Bool => ⟨[.any, .any, .any, .ref 0 1 0 x.2.length, .any, .any, .any, .any, .any, .any, .fv (.lst 5 (l.map Cel.row)), .fv (.int .i64 l.length), .fv (.int .i64 x.1), .any, .any, .any, .any, .any, .any, .any, .any, .any, .any, .any, .any, .any, .any, .any, .any, .any, .any, .any, .any, .any, .any, .any, .any, .any, .any, .any, .any, .any, .any, .any, .any, .any, .any, .any, .any, .any, .any, .any, .any, .any, .any, .any, .any, .any, .any, .any, .any, .any, .any, .any, .any, .any, .any, .any, .any, .any, .any, .any, .any, .any, .any, .any, .any, .any, .any, .any, .any], [.plain 1 (x.2.map bRow)], []⟩)
      (fun x => x.1 ≤ l.length ∧ rightG (l.drop x.1) x.2.length = some 1 ∧ evalS l [] = evalS (l.drop x.1) x.2 ∧ x.2.length ≤ x.1) (fun x => l.length - x.1) (0, []) (Le.trans (le_virt 3 1 rfl) (le_wk (by simp [wk]))) ⟨by omega, hg0, rfl, by simp⟩ (fun x hx s hs => ?_)
    obtain ⟨i, st⟩ := x
    obtain ⟨hi, hg, he, hsl⟩ := hx
    simp only at hi hg he hsl hs ⊢
    have hbl := bRows_len st
    have htk : List.take st.length (st.map bRow) = st.map bRow := by rw [← hbl, List.take_length]
    by_cases hlt : i < l.length
    · have hr := rows_at Cel.row l i hlt
      rw [List.drop_eq_getElem_cons hlt] at hg he
      generalize l[i] = c at hr hg he
      obtain ⟨hw0, hw1, hg2⟩ := rightG_next hg
      have hsl2 := stepS_len hw0 hw1
      rw [← hsl2] at hg2
      have he2 : evalS l [] = evalS (l.drop (i + 1)) (stepS c.op st) := he
      have hle : (stepS c.op st).length ≤ i + 1 := by omega
      by_cases h1 : c.op = 1
      · have h1t : (c.op = 1) = True := by simpa using h1
        have es : stepS c.op st = st ++ [false] := by unfold stepS; rw [if_pos h1]
        simp -implicitDefEqProofs only [awp_draw _ _ Tryzdr20_17, awp_draw _ _ Tryzdr20_19, stB_boxA, splice_all, List.all_cons, List.all_nil, List.length_map, lt_true hlt, hr, Cel.row, h1t, wsucc i (by omega), htk,
    evx, evy, ofValue, ofCell, List.range, List.range.loop, Array.size, Nat.reduceAdd, Nat.reduceSub, Nat.reduceEqDiff, List.replicate, if_true, if_false, ↓reduceIte, reduceCtorEq, elB, evParts, Int.reduceToNat, Int.reduceLE, Int.reduceLT, Int.reduceEq, Nat.reduceMul, Nat.reduceLeDiff, Nat.reduceLT, ty3, ty4, ty9, ty5, ty89, ty44, ty93, ty91, ty88]
        refine ⟨⟨by omega, by omega⟩, back_intro hs (i + 1, stepS c.op st) (le_pk [3] rfl (by simp) (by simp) ?_ ?_) ⟨by simp only; omega, hg2, he2, hle⟩ (by simp only; omega)⟩
        · rw [es]; simp [subBlk, bRow]
        · rw [es]; simp [wk, subAny, subA, mkSub, idx]
      have h1t : (c.op = 1) = False := by simpa using h1
      by_cases h2 : c.op = 2
      · have h2t : (c.op = 2) = True := by simpa using h2
        have es : stepS c.op st = st ++ [true] := by unfold stepS; rw [if_neg h1, if_pos h2]
        simp -implicitDefEqProofs only [awp_draw _ _ Tryzdr20_17, awp_draw _ _ Tryzdr20_19, stB_boxA, splice_all, List.all_cons, List.all_nil, List.length_map, lt_true hlt, hr, Cel.row, h1t, h2t, wsucc i (by omega), htk,
    evx, evy, ofValue, ofCell, List.range, List.range.loop, Array.size, Nat.reduceAdd, Nat.reduceSub, Nat.reduceEqDiff, List.replicate, if_true, if_false, ↓reduceIte, reduceCtorEq, elB, evParts, Int.reduceToNat, Int.reduceLE, Int.reduceLT, Int.reduceEq, Nat.reduceMul, Nat.reduceLeDiff, Nat.reduceLT, ty3, ty4, ty9, ty5, ty89, ty44, ty93, ty91, ty88]
        refine ⟨⟨by omega, by omega⟩, back_intro hs (i + 1, stepS c.op st) (le_pk [3] rfl (by simp) (by simp) ?_ ?_) ⟨by simp only; omega, hg2, he2, hle⟩ (by simp only; omega)⟩
        · rw [es]; simp [subBlk, bRow]
        · rw [es]; simp [wk, subAny, subA, mkSub, idx]
      have h2t : (c.op = 2) = False := by simpa using h2
      rcases op_cases hw0 with h | h | h | h | h | h | h
      · exact absurd h h1
      · exact absurd h h2
      · have hw := hw1
        rw [h, w3] at hw
        have f5 : (c.op = 5) = False := by simp [h]
        have f7 : (c.op = 7) = False := by simp [h]
        have f3 : (c.op = 3) = True := by simp [h]
        have f4 : (c.op = 4) = False := by simp [h]
        have es : stepS c.op st = st.take (st.length - 2) ++ [st.getD (st.length - 2) false && st.getD (st.length - 1) false] := by unfold stepS; rw [if_neg (by omega), if_neg (by omega), if_neg (by omega), if_pos h]
        have hwa : IntKind.wrap .i64 ((st.length : Int) - 2) = ((st.length - 2 : Nat) : Int) := by rw [wrap_small (by omega) (by omega)]; omega
        have hwb : IntKind.wrap .i64 ((st.length : Int) - 1) = ((st.length - 1 : Nat) : Int) := by rw [wrap_small (by omega) (by omega)]; omega
        have ra := rows_at bRow st (st.length - 2) (by omega)
        have rb := rows_at bRow st (st.length - 1) (by omega)
        have ga : st.getD (st.length - 2) false = st[st.length - 2] := by rw [List.getD_eq_getElem?_getD, List.getElem?_eq_getElem (by omega)]; rfl
        have gb : st.getD (st.length - 1) false = st[st.length - 1] := by rw [List.getD_eq_getElem?_getD, List.getElem?_eq_getElem (by omega)]; rfl
        rw [ga, gb] at es
        generalize st[st.length - 2] = a at ra es
        generalize st[st.length - 1] = b at rb es
        have hla : (((st.length - 2 : Nat) : Int) < (st.length : Int)) = True := lt_true (by omega)
        have hlb : (((st.length - 1 : Nat) : Int) < (st.length : Int)) = True := lt_true (by omega)
        have hnl : ((stepS c.op st).length) = st.length - 2 + 1 := by rw [es]; simp
        cases a with
        | true =>
          simp -implicitDefEqProofs only [awp_draw _ _ Tryzdr20_17, awp_draw _ _ Tryzdr20_19, stB_boxA, splice_all, List.all_cons, List.all_nil, List.length_map, lt_true hlt, hr, Cel.row, h1t, h2t, f5, f7, f3, f4, hwa, hwb, ra, rb, hla, hlb, bRow, Nat.sub_zero, Nat.zero_add, le_true (by omega : st.length - 2 ≤ st.length), wsucc i (by omega),
    evx, evy, ofValue, ofCell, List.range, List.range.loop, Array.size, Nat.reduceAdd, Nat.reduceSub, Nat.reduceEqDiff, List.replicate, if_true, if_false, ↓reduceIte, reduceCtorEq, elB, evParts, Int.reduceToNat, Int.reduceLE, Int.reduceLT, Int.reduceEq, Nat.reduceMul, Nat.reduceLeDiff, Nat.reduceLT, ty3, ty4, ty9, ty5, ty89, ty44, ty93, ty91, ty88]
          refine ⟨⟨by omega, trivial⟩, by omega, by kernel_rfl, back_intro hs (i + 1, stepS c.op st) (le_pk [3] rfl (by simp) (by simp) ?_ ?_) ⟨by simp only; omega, hg2, he2, hle⟩ (by simp only; omega)⟩
          · rw [es]; simp [subBlk, bRow]
          · rw [hnl]; simp [wk, subAny, subA, mkSub, idx]
        | false =>
          simp -implicitDefEqProofs only [awp_draw _ _ Tryzdr20_17, awp_draw _ _ Tryzdr20_19, stB_boxA, splice_all, List.all_cons, List.all_nil, List.length_map, lt_true hlt, hr, Cel.row, h1t, h2t, f5, f7, f3, f4, hwa, hwb, ra, rb, hla, hlb, bRow, Nat.sub_zero, Nat.zero_add, le_true (by omega : st.length - 2 ≤ st.length), wsucc i (by omega),
    evx, evy, ofValue, ofCell, List.range, List.range.loop, Array.size, Nat.reduceAdd, Nat.reduceSub, Nat.reduceEqDiff, List.replicate, if_true, if_false, ↓reduceIte, reduceCtorEq, elB, evParts, Int.reduceToNat, Int.reduceLE, Int.reduceLT, Int.reduceEq, Nat.reduceMul, Nat.reduceLeDiff, Nat.reduceLT, ty3, ty4, ty9, ty5, ty89, ty44, ty93, ty91, ty88]
          refine ⟨⟨by omega, trivial⟩, by omega, by kernel_rfl, back_intro hs (i + 1, stepS c.op st) (le_pk [3] rfl (by simp) (by simp) ?_ ?_) ⟨by simp only; omega, hg2, he2, hle⟩ (by simp only; omega)⟩
          · rw [es]; simp [subBlk, bRow]
          · rw [hnl]; simp [wk, subAny, subA, mkSub, idx]
      · have hw := hw1
        rw [h, w4] at hw
        have f5 : (c.op = 5) = False := by simp [h]
        have f7 : (c.op = 7) = False := by simp [h]
        have f3 : (c.op = 3) = False := by simp [h]
        have f4 : (c.op = 4) = True := by simp [h]
        have es : stepS c.op st = st.take (st.length - 2) ++ [st.getD (st.length - 2) false || st.getD (st.length - 1) false] := by unfold stepS; rw [if_neg (by omega), if_neg (by omega), if_neg (by omega), if_neg (by omega), if_pos h]
        have hwa : IntKind.wrap .i64 ((st.length : Int) - 2) = ((st.length - 2 : Nat) : Int) := by rw [wrap_small (by omega) (by omega)]; omega
        have hwb : IntKind.wrap .i64 ((st.length : Int) - 1) = ((st.length - 1 : Nat) : Int) := by rw [wrap_small (by omega) (by omega)]; omega
        have ra := rows_at bRow st (st.length - 2) (by omega)
        have rb := rows_at bRow st (st.length - 1) (by omega)
        have ga : st.getD (st.length - 2) false = st[st.length - 2] := by rw [List.getD_eq_getElem?_getD, List.getElem?_eq_getElem (by omega)]; rfl
        have gb : st.getD (st.length - 1) false = st[st.length - 1] := by rw [List.getD_eq_getElem?_getD, List.getElem?_eq_getElem (by omega)]; rfl
        rw [ga, gb] at es
        generalize st[st.length - 2] = a at ra es
        generalize st[st.length - 1] = b at rb es
        have hla : (((st.length - 2 : Nat) : Int) < (st.length : Int)) = True := lt_true (by omega)
        have hlb : (((st.length - 1 : Nat) : Int) < (st.length : Int)) = True := lt_true (by omega)
        have hnl : ((stepS c.op st).length) = st.length - 2 + 1 := by rw [es]; simp
        cases a with
        | true =>
          simp -implicitDefEqProofs only [awp_draw _ _ Tryzdr20_17, awp_draw _ _ Tryzdr20_19, stB_boxA, splice_all, List.all_cons, List.all_nil, List.length_map, lt_true hlt, hr, Cel.row, h1t, h2t, f5, f7, f3, f4, hwa, hwb, ra, rb, hla, hlb, bRow, Nat.sub_zero, Nat.zero_add, le_true (by omega : st.length - 2 ≤ st.length), wsucc i (by omega),
    evx, evy, ofValue, ofCell, List.range, List.range.loop, Array.size, Nat.reduceAdd, Nat.reduceSub, Nat.reduceEqDiff, List.replicate, if_true, if_false, ↓reduceIte, reduceCtorEq, elB, evParts, Int.reduceToNat, Int.reduceLE, Int.reduceLT, Int.reduceEq, Nat.reduceMul, Nat.reduceLeDiff, Nat.reduceLT, ty3, ty4, ty9, ty5, ty89, ty44, ty93, ty91, ty88]
          refine ⟨⟨by omega, trivial⟩, by omega, by kernel_rfl, back_intro hs (i + 1, stepS c.op st) (le_pk [3] rfl (by simp) (by simp) ?_ ?_) ⟨by simp only; omega, hg2, he2, hle⟩ (by simp only; omega)⟩
          · rw [es]; simp [subBlk, bRow]
          · rw [hnl]; simp [wk, subAny, subA, mkSub, idx]
        | false =>
          simp -implicitDefEqProofs only [awp_draw _ _ Tryzdr20_17, awp_draw _ _ Tryzdr20_19, stB_boxA, splice_all, List.all_cons, List.all_nil, List.length_map, lt_true hlt, hr, Cel.row, h1t, h2t, f5, f7, f3, f4, hwa, hwb, ra, rb, hla, hlb, bRow, Nat.sub_zero, Nat.zero_add, le_true (by omega : st.length - 2 ≤ st.length), wsucc i (by omega),
    evx, evy, ofValue, ofCell, List.range, List.range.loop, Array.size, Nat.reduceAdd, Nat.reduceSub, Nat.reduceEqDiff, List.replicate, if_true, if_false, ↓reduceIte, reduceCtorEq, elB, evParts, Int.reduceToNat, Int.reduceLE, Int.reduceLT, Int.reduceEq, Nat.reduceMul, Nat.reduceLeDiff, Nat.reduceLT, ty3, ty4, ty9, ty5, ty89, ty44, ty93, ty91, ty88]
          refine ⟨⟨by omega, trivial⟩, by omega, by kernel_rfl, back_intro hs (i + 1, stepS c.op st) (le_pk [3] rfl (by simp) (by simp) ?_ ?_) ⟨by simp only; omega, hg2, he2, hle⟩ (by simp only; omega)⟩
          · rw [es]; simp [subBlk, bRow]
          · rw [hnl]; simp [wk, subAny, subA, mkSub, idx]
      · have hw := hw1
        rw [h, w5] at hw
        have f5 : (c.op = 5) = True := by simp [h]
        have f7 : (c.op = 7) = False := by simp [h]
        have es : stepS c.op st = st.set (st.length - 1) true := by unfold stepS; rw [if_neg (by omega), if_neg (by omega), if_pos (by omega)]
        have hwb : IntKind.wrap .i64 ((st.length : Int) - 1) = ((st.length - 1 : Nat) : Int) := by rw [wrap_small (by omega) (by omega)]; omega
        have rb := rows_at bRow st (st.length - 1) (by omega)
        have hlb : (((st.length - 1 : Nat) : Int) < (st.length : Int)) = True := lt_true (by omega)
        have hnl : ((stepS c.op st).length) = st.length := by rw [es]; simp
        have hms : (st.map bRow).set (st.length - 1) [.bool true] = (st.set (st.length - 1) true).map bRow := by rw [List.map_set]; rfl
        simp -implicitDefEqProofs only [awp_draw _ _ Tryzdr20_17, awp_draw _ _ Tryzdr20_19, stB_boxA, splice_all, List.all_cons, List.all_nil, List.length_map, lt_true hlt, hr, Cel.row, h1t, h2t, f5, f7, hwb, rb, hlb, bRow, Nat.zero_add, wsucc i (by omega),
    evx, evy, ofValue, ofCell, List.range, List.range.loop, Array.size, Nat.reduceAdd, Nat.reduceSub, Nat.reduceEqDiff, List.replicate, if_true, if_false, ↓reduceIte, reduceCtorEq, elB, evParts, Int.reduceToNat, Int.reduceLE, Int.reduceLT, Int.reduceEq, Nat.reduceMul, Nat.reduceLeDiff, Nat.reduceLT, ty3, ty4, ty9, ty5, ty89, ty44, ty93, ty91, ty88]
        refine back_intro hs (i + 1, stepS c.op st) (le_pk [0] rfl (by simp) (by simp) ?_ ?_) ⟨by simp only; omega, hg2, he2, hle⟩ (by simp only; omega)
        · rw [es, ← hms]; simp [subBlk, bRow]
        · rw [hnl]; simp [wk, subAny, subA, mkSub, idx]
      · have hw := hw1
        rw [h, w6] at hw
        have f5 : (c.op = 5) = False := by simp [h]
        have f7 : (c.op = 7) = False := by simp [h]
        have f3 : (c.op = 3) = False := by simp [h]
        have f4 : (c.op = 4) = False := by simp [h]
        have es : stepS c.op st = st := by unfold stepS; rw [if_neg (by omega), if_neg (by omega), if_neg (by omega), if_neg (by omega), if_neg (by omega)]
        simp -implicitDefEqProofs only [awp_draw _ _ Tryzdr20_17, awp_draw _ _ Tryzdr20_19, stB_boxA, splice_all, List.all_cons, List.all_nil, List.length_map, lt_true hlt, hr, Cel.row, h1t, h2t, f5, f7, f3, f4, wsucc i (by omega),
    evx, evy, ofValue, ofCell, List.range, List.range.loop, Array.size, Nat.reduceAdd, Nat.reduceSub, Nat.reduceEqDiff, List.replicate, if_true, if_false, ↓reduceIte, reduceCtorEq, elB, evParts, Int.reduceToNat, Int.reduceLE, Int.reduceLT, Int.reduceEq, Nat.reduceMul, Nat.reduceLeDiff, Nat.reduceLT, ty3, ty4, ty9, ty5, ty89, ty44, ty93, ty91, ty88]
        refine back_intro hs (i + 1, stepS c.op st) (le_pk [0] rfl (by simp) (by simp) ?_ ?_) ⟨by simp only; omega, hg2, he2, hle⟩ (by simp only; omega)
        · rw [es]; simp [subBlk]
        · rw [es]; simp [wk, subAny, subA, mkSub, idx]
      · have hw := hw1
        rw [h, w7] at hw
        have f5 : (c.op = 5) = False := by simp [h]
        have f7 : (c.op = 7) = True := by simp [h]
        have es : stepS c.op st = st.set (st.length - 1) true := by unfold stepS; rw [if_neg (by omega), if_neg (by omega), if_pos (by omega)]
        have hwb : IntKind.wrap .i64 ((st.length : Int) - 1) = ((st.length - 1 : Nat) : Int) := by rw [wrap_small (by omega) (by omega)]; omega
        have rb := rows_at bRow st (st.length - 1) (by omega)
        have hlb : (((st.length - 1 : Nat) : Int) < (st.length : Int)) = True := lt_true (by omega)
        have hnl : ((stepS c.op st).length) = st.length := by rw [es]; simp
        have hms : (st.map bRow).set (st.length - 1) [.bool true] = (st.set (st.length - 1) true).map bRow := by rw [List.map_set]; rfl
        simp -implicitDefEqProofs only [awp_draw _ _ Tryzdr20_17, awp_draw _ _ Tryzdr20_19, stB_boxA, splice_all, List.all_cons, List.all_nil, List.length_map, lt_true hlt, hr, Cel.row, h1t, h2t, f5, f7, hwb, rb, hlb, bRow, Nat.zero_add, wsucc i (by omega),
    evx, evy, ofValue, ofCell, List.range, List.range.loop, Array.size, Nat.reduceAdd, Nat.reduceSub, Nat.reduceEqDiff, List.replicate, if_true, if_false, ↓reduceIte, reduceCtorEq, elB, evParts, Int.reduceToNat, Int.reduceLE, Int.reduceLT, Int.reduceEq, Nat.reduceMul, Nat.reduceLeDiff, Nat.reduceLT, ty3, ty4, ty9, ty5, ty89, ty44, ty93, ty91, ty88]
        refine back_intro hs (i + 1, stepS c.op st) (le_pk [0] rfl (by simp) (by simp) ?_ ?_) ⟨by simp only; omega, hg2, he2, hle⟩ (by simp only; omega)
        · rw [es, ← hms]; simp [subBlk, bRow]
        · rw [hnl]; simp [wk, subAny, subA, mkSub, idx]
    · obtain rfl : i = l.length := by omega
      rw [List.drop_length] at hg he
      have hn1 : st.length = 1 := by
        rw [rightG] at hg
        simp at hg
        omega
      obtain ⟨b, rfl⟩ : ∃ b, st = [b] := by
        match st, hn1 with
        | [b], _ => exact ⟨b, rfl⟩
      have e : nullB l = b := by unfold nullB; rw [hrb, he]; simp [evalS]
      rw [e]
      simp -implicitDefEqProofs only [awp_draw _ _ Tryzdr20_17, awp_draw _ _ Tryzdr20_19, lt_false hlt, bRow,
    evx, evy, ofValue, ofCell, List.range, List.range.loop, Array.size, Nat.reduceAdd, Nat.reduceSub, Nat.reduceEqDiff, List.replicate, if_true, if_false, ↓reduceIte, reduceCtorEq, elB, evParts, Int.reduceToNat, Int.reduceLE, Int.reduceLT, Int.reduceEq, Nat.reduceMul, Nat.reduceLeDiff, Nat.reduceLT, ty3, ty4, ty9, ty5, ty89, ty44, ty93, ty91, ty88]
      exact ⟨by simp, le_flat rfl⟩
end Go.Abs
