/- Names of symbols: the program's and the document's. -/
import Derived.Test.YtckpaaeilbgiiaaGreatTyTryz
import Derived.Test.YtckpaaeilbgiiaaGreatDrTryz
import Derived.Test.YtckpaaeilbgiiaaGreatAbsTree
import Derived.Test.YtckpaaeilbgiiaaGreatTopD
namespace Go.Abs
open Go.Proofs
set_option linter.unusedVariables false
set_option linter.unusedSimpArgs false
set_option maxRecDepth 100000
set_option maxHeartbeats 1000000
theorem wrap_small {n : Int} (h1 : -9223372036854775808 ≤ n) (h2 : n ≤ 9223372036854775807) : IntKind.wrap .i64 n = n := by
  simp only [IntKind.wrap, IntKind.signed, IntKind.bits]
  simp
  omega
theorem wsucc (n : Nat) (h : n < 4611686018427387904) : IntKind.wrap .i64 ((n : Int) + 1) = ((n + 1 : Nat) : Int) := wrap_small (by omega) (by omega)
def isF : AV → Bool
  | .fv _ | .any | .undef => true
  | _ => false
/-- Slots are forgotten; no block is wanted any more. -/
theorem le_none {t t' : List AV} {h : List Blk} (hw : wk t t') (hf : t'.all isF = true) : Le 0 ⟨t, h, []⟩ ⟨t', [], []⟩ := by
  refine Le.trans (le_wk hw) (le_to [] [] rfl List.nodup_nil (fun i hi => by simp at hi) (fun i hi => by simp at hi) (fun i hi => by simp at hi) ?_)
  have : t'.map (subAny (mkSub [] [] h)) = t' := by
    rw [List.all_eq_true] at hf
    clear hw
    induction t' with
    | nil => rfl
    | cons x t' ih =>
      rw [List.map_cons, ih fun y hy => hf y (List.mem_cons_of_mem _ hy)]
      have hx := hf x (by simp)
      cases x <;> simp [isF] at hx <;> rfl
  simp only [subSt, this, List.map_nil]
theorem rows_at {α : Type} (f : α → List FV) (l : List α) (i : Nat) (h : i < l.length) : (l.map f)[i]? = some (f l[i]) := by
  rw [List.getElem?_map, List.getElem?_eq_getElem h]; rfl
theorem lt_true {i n : Nat} (h : i < n) : ((i : Int) < (n : Int)) = True := by simp; omega
theorem lt_false {i n : Nat} (h : ¬ i < n) : ((i : Int) < (n : Int)) = False := by simp; omega
theorem ok21 (g : Gra) (hs : g.rules.length ≤ 40) : Ok Tryz.prog 21 [g.av] [] (.ret (.fv (.int .i64 g.terms))) [] := by
  refine ok_start (k := 19) (n0 := 0) (rs := [.tmp 2]) mix Tryz.func21 rfl rfl rfl rfl rfl rfl rfl ?_
  simp -implicitDefEqProofs only [Gra.av, List.length_map,
    evx, evy, ofValue, ofCell, List.range, List.range.loop, Array.size, Nat.reduceAdd, Nat.reduceSub, Nat.reduceEqDiff, List.replicate, if_true, if_false, ↓reduceIte, reduceCtorEq, elB, evParts, Int.reduceToNat, Int.reduceLE, Int.reduceLT, Int.reduceEq, Nat.reduceMul, Nat.reduceLeDiff, Nat.reduceLT, ty3, ty4, ty9, ty22, ty23, ty24, ty25, ty27, ty35, ty40, ty44, ty46, ty55]
  refine loop_rule (fun i : Nat => ⟨[.any, .any, .any, .fv (.int .i64 (cntT (g.rules.take i))), .any, .any, .any, .fv (.lst 3 (g.rules.map Rul.row)), .fv (.int .i64 g.rules.length), .fv (.int .i64 i), .any, .any, .any, .any, .any, .any, .any, .any, .any, .any], [], []⟩)
    (fun i => i ≤ g.rules.length) (fun i => g.rules.length - i) 0 (le_none (by simp [wk, cntT]) rfl) (by simp) (fun i hi s hs2 => ?_)
  by_cases hlt : i < g.rules.length
  · have hr := rows_at Rul.row g.rules i hlt
    have hle := cntT_take_le g.rules i
    have hy := cntT_yes hlt
    have hn := cntT_no hlt
    generalize g.rules[i] = r at hr hy hn
    cases hsk : r.skip with
    | false =>
      simp -implicitDefEqProofs only [stB_boxA, splice_all, List.all_cons, List.all_nil, lt_true hlt, hr, Rul.row, hsk, wsucc i (by omega), wsucc _ (Nat.lt_of_le_of_lt hle (by omega : i < 4611686018427387904)),
    evx, evy, ofValue, ofCell, List.range, List.range.loop, Array.size, Nat.reduceAdd, Nat.reduceSub, Nat.reduceEqDiff, List.replicate, if_true, if_false, ↓reduceIte, reduceCtorEq, elB, evParts, Int.reduceToNat, Int.reduceLE, Int.reduceLT, Int.reduceEq, Nat.reduceMul, Nat.reduceLeDiff, Nat.reduceLT, ty3, ty4, ty9, ty22, ty23, ty24, ty25, ty27, ty35, ty40, ty44, ty46, ty55]
      refine back_intro hs2 (i + 1) (le_none ?_ rfl) (by omega) (by omega)
      simp [wk, hy hsk]
    | true =>
      simp -implicitDefEqProofs only [stB_boxA, splice_all, List.all_cons, List.all_nil, lt_true hlt, hr, Rul.row, hsk, wsucc i (by omega),
    evx, evy, ofValue, ofCell, List.range, List.range.loop, Array.size, Nat.reduceAdd, Nat.reduceSub, Nat.reduceEqDiff, List.replicate, if_true, if_false, ↓reduceIte, reduceCtorEq, elB, evParts, Int.reduceToNat, Int.reduceLE, Int.reduceLT, Int.reduceEq, Nat.reduceMul, Nat.reduceLeDiff, Nat.reduceLT, ty3, ty4, ty9, ty22, ty23, ty24, ty25, ty27, ty35, ty40, ty44, ty46, ty55]
      refine back_intro hs2 (i + 1) (le_none ?_ rfl) (by omega) (by omega)
      simp [wk, hn hsk]
  · have hie : i = g.rules.length := by omega
    subst hie
    simp -implicitDefEqProofs only [lt_false hlt, List.take_length,
    evx, evy, ofValue, ofCell, List.range, List.range.loop, Array.size, Nat.reduceAdd, Nat.reduceSub, Nat.reduceEqDiff, List.replicate, if_true, if_false, ↓reduceIte, reduceCtorEq, elB, evParts, Int.reduceToNat, Int.reduceLE, Int.reduceLT, Int.reduceEq, Nat.reduceMul, Nat.reduceLeDiff, Nat.reduceLT, ty3, ty4, ty9, ty22, ty23, ty24, ty25, ty27, ty35, ty40, ty44, ty46, ty55]
    exact Le.refl _ _

/-- Slots are forgotten; of the blocks the first one is wanted alone. -/
def isF1 : AV → Bool
  | .fv _ | .any | .undef => true
  | .ptr 0 _ _ _ => true
  | _ => false
theorem le_one {t t' : List AV} {b : Blk} {h : List Blk} (hw : wk t t') (hf : t'.all isF1 = true) (hb : subBlk (mkSub [0] [] (b :: h)) b = b) : Le 0 ⟨t, b :: h, []⟩ ⟨t', [b], []⟩ := by
  refine Le.trans (le_wk hw) (le_to [0] [] rfl (by simp) (fun i hi => by simp at hi; subst hi; simp) (fun i hi => by simp at hi) (fun i hi => by simp at hi) ?_)
  have : t'.map (subAny (mkSub [0] [] (b :: h))) = t' := by
    rw [List.all_eq_true] at hf
    clear hw
    induction t' with
    | nil => rfl
    | cons x t' ih =>
      rw [List.map_cons, ih fun y hy => hf y (List.mem_cons_of_mem _ hy)]
      have hx := hf x (by simp)
      cases x with
      | fv _ => rfl
      | any => rfl
      | undef => rfl
      | ptr id es r off =>
        cases id with
        | zero => rfl
        | succ id => simp [isF1] at hx
      | _ => simp [isF1] at hx
  simp only [subSt, this, List.map_cons, List.map_nil, List.getD_cons_zero, hb]
def Gra.cells (g : Gra) : List AV := [.fv (.lst 3 (g.rules.map Rul.row)), .fv (.lst 1 (g.nonts.map sRow)), .fv (.lst 2 (g.levels.map Lev.row)), .fv (.lst 3 (g.prods.map Prd.row)), .fv (.int .i64 g.start)]
theorem ok16 (g : Gra) (hs : g.rules.length ≤ 40) : Ok Tryz.prog 16 [g.av] [] (.ret (.fv (.int .i64 g.terms))) [] := by
  refine ok_start (k := 21) (n0 := 0) (rs := [.tmp 2]) mix Tryz.func16 rfl rfl rfl rfl rfl rfl rfl ?_
  simp -implicitDefEqProofs only [Gra.av,
    evx, evy, ofValue, ofCell, List.range, List.range.loop, Array.size, Nat.reduceAdd, Nat.reduceSub, Nat.reduceEqDiff, List.replicate, if_true, if_false, ↓reduceIte, reduceCtorEq, elB, evParts, Int.reduceToNat, Int.reduceLE, Int.reduceLT, Int.reduceEq, Nat.reduceMul, Nat.reduceLeDiff, Nat.reduceLT, ty3, ty4, ty9, ty22, ty23, ty24, ty25, ty27, ty35, ty40, ty44, ty46, ty55]
  refine loop_rule (fun i : Nat => ⟨[.any, .ptr 0 0 0 0, .any, .fv (.int .i64 (cntT (g.rules.take i))), .fv (.int .i64 i), .any, .any, .any, .any, .any, .any, .any, .any, .any, .any, .any, .any, .any, .any, .any, .any, .any], [.box g.cells], []⟩)
    (fun i => i ≤ g.rules.length) (fun i => g.rules.length - i) 0 (le_wk (by simp [wk, cntT])) (by simp) (fun i hi s hs2 => ?_)
  by_cases hlt : i < g.rules.length
  · have hr := rows_at Rul.row g.rules i hlt
    have hle := cntT_take_le g.rules i
    have hy := cntT_yes hlt
    have hn := cntT_no hlt
    generalize g.rules[i] = r at hr hy hn
    cases hsk : r.skip with
    | false =>
      simp -implicitDefEqProofs only [Gra.cells, List.length_map, lt_true hlt, hr, Rul.row, hsk, wsucc i (by omega), wsucc _ (Nat.lt_of_le_of_lt hle (by omega : i < 4611686018427387904)),
    evx, evy, ofValue, ofCell, List.range, List.range.loop, Array.size, Nat.reduceAdd, Nat.reduceSub, Nat.reduceEqDiff, List.replicate, if_true, if_false, ↓reduceIte, reduceCtorEq, elB, evParts, Int.reduceToNat, Int.reduceLE, Int.reduceLT, Int.reduceEq, Nat.reduceMul, Nat.reduceLeDiff, Nat.reduceLT, ty3, ty4, ty9, ty22, ty23, ty24, ty25, ty27, ty35, ty40, ty44, ty46, ty55]
      refine back_intro hs2 (i + 1) (le_wk ?_) (by omega) (by omega)
      simp [wk, hy hsk]
    | true =>
      simp -implicitDefEqProofs only [Gra.cells, List.length_map, lt_true hlt, hr, Rul.row, hsk, wsucc i (by omega),
    evx, evy, ofValue, ofCell, List.range, List.range.loop, Array.size, Nat.reduceAdd, Nat.reduceSub, Nat.reduceEqDiff, List.replicate, if_true, if_false, ↓reduceIte, reduceCtorEq, elB, evParts, Int.reduceToNat, Int.reduceLE, Int.reduceLT, Int.reduceEq, Nat.reduceMul, Nat.reduceLeDiff, Nat.reduceLT, ty3, ty4, ty9, ty22, ty23, ty24, ty25, ty27, ty35, ty40, ty44, ty46, ty55]
      refine back_intro hs2 (i + 1) (le_wk ?_) (by omega) (by omega)
      simp [wk, hn hsk]
  · have hie : i = g.rules.length := by omega
    subst hie
    simp -implicitDefEqProofs only [Gra.cells, List.length_map, lt_false hlt, List.take_length,
    evx, evy, ofValue, ofCell, List.range, List.range.loop, Array.size, Nat.reduceAdd, Nat.reduceSub, Nat.reduceEqDiff, List.replicate, if_true, if_false, ↓reduceIte, reduceCtorEq, elB, evParts, Int.reduceToNat, Int.reduceLE, Int.reduceLT, Int.reduceEq, Nat.reduceMul, Nat.reduceLeDiff, Nat.reduceLT, ty3, ty4, ty9, ty22, ty23, ty24, ty25, ty27, ty35, ty40, ty44, ty46, ty55]
    exact le_flat rfl
theorem ok88 (g : Gra) (hs : g.rules.length ≤ 40) (hs2 : g.nonts.length ≤ 40) (sym : Int) (hsym : I64 sym) : Ok Tryz.prog 88 [g.av, .fv (.int .i64 sym)] [] (.ret (.fv (.str (nameOf g sym)))) [] := by
  refine ok_start (k := 51) (n0 := 0) (rs := [.tmp 4]) mix Tryz.func88 rfl rfl rfl rfl rfl rfl rfl ?_
  by_cases h0 : sym = 0
  · subst h0
    simp -implicitDefEqProofs only [Gra.av,
    evx, evy, ofValue, ofCell, List.range, List.range.loop, Array.size, Nat.reduceAdd, Nat.reduceSub, Nat.reduceEqDiff, List.replicate, if_true, if_false, ↓reduceIte, reduceCtorEq, elB, evParts, Int.reduceToNat, Int.reduceLE, Int.reduceLT, Int.reduceEq, Nat.reduceMul, Nat.reduceLeDiff, Nat.reduceLT, ty3, ty4, ty9, ty22, ty23, ty24, ty25, ty27, ty35, ty40, ty44, ty46, ty55]
    exact le_flat rfl
  have h0f : (sym = 0) = False := by simpa using h0
  simp -implicitDefEqProofs only [Gra.av, List.length_map, h0f,
    evx, evy, ofValue, ofCell, List.range, List.range.loop, Array.size, Nat.reduceAdd, Nat.reduceSub, Nat.reduceEqDiff, List.replicate, if_true, if_false, ↓reduceIte, reduceCtorEq, elB, evParts, Int.reduceToNat, Int.reduceLE, Int.reduceLT, Int.reduceEq, Nat.reduceMul, Nat.reduceLeDiff, Nat.reduceLT, ty3, ty4, ty9, ty22, ty23, ty24, ty25, ty27, ty35, ty40, ty44, ty46, ty55]
  refine loop_rule (fun i : Nat => ⟨[.any, .fv (.int .i64 sym), .ptr 0 0 0 0, .any, .any, .fv (.int .i64 (cntT (g.rules.take i))), .any, .any, .any, .any, .any, .fv (.lst 3 (g.rules.map Rul.row)), .fv (.int .i64 g.rules.length), .fv (.int .i64 i), .any, .any, .any, .any, .any, .any, .any, .any, .any, .any, .any, .any, .any, .any, .any, .any, .any, .any, .any, .any, .any, .any, .any, .any, .any, .any, .any, .any, .any, .any, .any, .any, .any, .any, .any, .any, .any, .any, .any], [.box g.cells], []⟩)
    (fun i => i ≤ g.rules.length ∧ ¬ (1 ≤ sym ∧ sym ≤ (cntT (g.rules.take i) : Int))) (fun i => g.rules.length - i) 0 (le_wk (by simp [wk, cntT])) (by simp [cntT]; omega) (fun i hi s hs3 => ?_)
  obtain ⟨hi, hno⟩ := hi
  by_cases hlt : i < g.rules.length
  · have hr := rows_at Rul.row g.rules i hlt
    have hle := cntT_take_le g.rules i
    have hy := cntT_yes hlt
    have hn := cntT_no hlt
    have hnm := fun h1 h2 => nameOf_term (g := g) (sym := sym) hlt h1 h2
    generalize g.rules[i] = r at hr hy hn hnm
    cases hsk : r.skip with
    | false =>
      by_cases he : ((cntT (g.rules.take i) + 1 : Nat) : Int) = sym
      · have hef : (((cntT (g.rules.take i) + 1 : Nat) : Int) = sym) = True := by simpa using he
        simp -implicitDefEqProofs only [stB_boxA, splice_all, List.all_cons, List.all_nil, lt_true hlt, hr, Rul.row, hsk, wsucc _ (Nat.lt_of_le_of_lt hle (by omega : i < 4611686018427387904)), hef,
    evx, evy, ofValue, ofCell, List.range, List.range.loop, Array.size, Nat.reduceAdd, Nat.reduceSub, Nat.reduceEqDiff, List.replicate, if_true, if_false, ↓reduceIte, reduceCtorEq, elB, evParts, Int.reduceToNat, Int.reduceLE, Int.reduceLT, Int.reduceEq, Nat.reduceMul, Nat.reduceLeDiff, Nat.reduceLT, ty3, ty4, ty9, ty22, ty23, ty24, ty25, ty27, ty35, ty40, ty44, ty46, ty55]
        rw [hnm hsk (by omega)]
        exact le_flat rfl
      · have hef : (((cntT (g.rules.take i) + 1 : Nat) : Int) = sym) = False := by simpa using he
        simp -implicitDefEqProofs only [stB_boxA, splice_all, List.all_cons, List.all_nil, lt_true hlt, hr, Rul.row, hsk, wsucc i (by omega), wsucc _ (Nat.lt_of_le_of_lt hle (by omega : i < 4611686018427387904)), hef,
    evx, evy, ofValue, ofCell, List.range, List.range.loop, Array.size, Nat.reduceAdd, Nat.reduceSub, Nat.reduceEqDiff, List.replicate, if_true, if_false, ↓reduceIte, reduceCtorEq, elB, evParts, Int.reduceToNat, Int.reduceLE, Int.reduceLT, Int.reduceEq, Nat.reduceMul, Nat.reduceLeDiff, Nat.reduceLT, ty3, ty4, ty9, ty22, ty23, ty24, ty25, ty27, ty35, ty40, ty44, ty46, ty55]
        refine back_intro hs3 (i + 1) (le_one ?_ rfl rfl) ⟨by omega, by rw [hy hsk]; omega⟩ (by omega)
        simp [wk, hy hsk]
    | true =>
      simp -implicitDefEqProofs only [stB_boxA, splice_all, List.all_cons, List.all_nil, lt_true hlt, hr, Rul.row, hsk, wsucc i (by omega),
    evx, evy, ofValue, ofCell, List.range, List.range.loop, Array.size, Nat.reduceAdd, Nat.reduceSub, Nat.reduceEqDiff, List.replicate, if_true, if_false, ↓reduceIte, reduceCtorEq, elB, evParts, Int.reduceToNat, Int.reduceLE, Int.reduceLT, Int.reduceEq, Nat.reduceMul, Nat.reduceLeDiff, Nat.reduceLT, ty3, ty4, ty9, ty22, ty23, ty24, ty25, ty27, ty35, ty40, ty44, ty46, ty55]
      refine back_intro hs3 (i + 1) (le_one ?_ rfl rfl) ⟨by omega, by rw [hn hsk]; omega⟩ (by omega)
      simp [wk, hn hsk]
  · have hie : i = g.rules.length := by omega
    subst hie
    rw [List.take_length] at hno
    have hte : cntT g.rules = g.terms := rfl
    have hall : g.all = g.terms + g.nonts.length := rfl
    have htl := cntT_le g.rules
    have hwa : IntKind.wrap .i64 ((cntT g.rules : Int) + g.nonts.length) = (cntT g.rules : Int) + g.nonts.length := wrap_small (by omega) (by omega)
    by_cases h1 : sym ≤ (cntT g.rules : Int)
    · have h1f : (sym ≤ (cntT g.rules : Int)) = True := by simpa using h1
      simp -implicitDefEqProofs only [lt_false hlt, List.take_length, h1f,
    evx, evy, ofValue, ofCell, List.range, List.range.loop, Array.size, Nat.reduceAdd, Nat.reduceSub, Nat.reduceEqDiff, List.replicate, if_true, if_false, ↓reduceIte, reduceCtorEq, elB, evParts, Int.reduceToNat, Int.reduceLE, Int.reduceLT, Int.reduceEq, Nat.reduceMul, Nat.reduceLeDiff, Nat.reduceLT, ty3, ty4, ty9, ty22, ty23, ty24, ty25, ty27, ty35, ty40, ty44, ty46, ty55]
      rw [nameOf_out (.inl (by omega))]
      exact le_flat rfl
    · have h1f : (sym ≤ (cntT g.rules : Int)) = False := by simpa using h1
      by_cases h2 : (cntT g.rules : Int) + g.nonts.length < sym
      · have h2f : ((cntT g.rules : Int) + g.nonts.length < sym) = True := by simpa using h2
        simp -implicitDefEqProofs only [Gra.cells, List.length_map, lt_false hlt, List.take_length, h1f, hwa, h2f,
    evx, evy, ofValue, ofCell, List.range, List.range.loop, Array.size, Nat.reduceAdd, Nat.reduceSub, Nat.reduceEqDiff, List.replicate, if_true, if_false, ↓reduceIte, reduceCtorEq, elB, evParts, Int.reduceToNat, Int.reduceLE, Int.reduceLT, Int.reduceEq, Nat.reduceMul, Nat.reduceLeDiff, Nat.reduceLT, ty3, ty4, ty9, ty22, ty23, ty24, ty25, ty27, ty35, ty40, ty44, ty46, ty55]
        rw [nameOf_out (.inr (by omega))]
        exact le_flat rfl
      · have h2f : ((cntT g.rules : Int) + g.nonts.length < sym) = False := by simpa using h2
        obtain ⟨k, hk⟩ : ∃ k : Nat, sym = (cntT g.rules : Int) + 1 + k := ⟨(sym - cntT g.rules - 1).toNat, by omega⟩
        have hkl : k < g.nonts.length := by omega
        have hw1 : IntKind.wrap .i64 (sym - (cntT g.rules : Int)) = ((k + 1 : Nat) : Int) := by rw [wrap_small (by omega) (by omega)]; omega
        have hw2 : IntKind.wrap .i64 (((k + 1 : Nat) : Int) - 1) = (k : Int) := by rw [wrap_small (by omega) (by omega)]; omega
        have hrn := rows_at sRow g.nonts k hkl
        simp -implicitDefEqProofs only [Gra.cells, List.length_map, lt_false hlt, List.take_length, h1f, hwa, h2f, hw1, hw2, hrn, sRow,
    evx, evy, ofValue, ofCell, List.range, List.range.loop, Array.size, Nat.reduceAdd, Nat.reduceSub, Nat.reduceEqDiff, List.replicate, if_true, if_false, ↓reduceIte, reduceCtorEq, elB, evParts, Int.reduceToNat, Int.reduceLE, Int.reduceLT, Int.reduceEq, Nat.reduceMul, Nat.reduceLeDiff, Nat.reduceLT, ty3, ty4, ty9, ty22, ty23, ty24, ty25, ty27, ty35, ty40, ty44, ty46, ty55]
        rw [nameOf_nont hkl (by rw [← hte]; omega)]
        exact le_flat rfl
end Go.Abs
