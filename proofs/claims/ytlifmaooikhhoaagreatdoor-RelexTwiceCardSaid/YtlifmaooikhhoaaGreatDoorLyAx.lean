/- What is known of a text: alike or not; edits. -/
import Derived.Test.YtlifmaooikhhoaaGreatDoorTyTryzx
import Derived.Test.YtlifmaooikhhoaaGreatDoorDrTryzx
import Derived.Test.YtlifmaooikhhoaaGreatDoorLxMx
namespace Go.Abs
open Go.Proofs
set_option linter.unusedVariables false
set_option linter.unusedSimpArgs false
set_option maxRecDepth 100000
set_option maxHeartbeats 4000000
theorem ok61 (a b : List Tk) (ha : a.length ≤ 4000000) (hb : b.length ≤ 4000000) : Ok Tryz.prog 61 [.fv (.lst 3 (a.map Tk.row)), .fv (.lst 3 (b.map Tk.row))] [] (.ret (.fv (.bool (decide (a = b))))) [] := by
  refine ok_start (k := 24) (n0 := 0) (rs := [.tmp 4]) mix Tryz.func61 rfl rfl rfl rfl rfl rfl rfl ?_
  by_cases hl : a.length = b.length
  · have hlt : ((a.length : Int) = (b.length : Int)) = True := eq_true (by omega)
    simp -implicitDefEqProofs only [awp_draw _ _ Tryzdr61_6, List.length_map, hlt,
    evx, evy, ofValue, ofCell, List.range, List.range.loop, Array.size, Nat.reduceAdd, Nat.reduceSub, Nat.reduceEqDiff, List.replicate, if_true, if_false, ↓reduceIte, reduceCtorEq, elB, evParts, Int.reduceToNat, Int.reduceLE, Int.reduceLT, Int.reduceEq, Nat.reduceMul, Nat.reduceLeDiff, Nat.reduceLT, ty3, ty4, ty9, ty23, ty22, ty25, ty5, ty35, ty31, ty38, ty43, ty55, ty52, ty99]
    refine loop_rule (fun i : Nat => ⟨[.fv (.lst 3 (a.map Tk.row)), .fv (.lst 3 (b.map Tk.row)), .any, .any, .any, .any, .any, .any, .any, .any, .any, .any, .fv (.int .i64 b.length), .fv (.int .i64 i), .any, .any, .any, .any, .any, .any, .any, .any, .any, .any, .any, .any], [], []⟩)
      (fun i => i ≤ a.length ∧ a.take i = b.take i) (fun i => a.length - i) 0 (le_wk (by simp [wk, hl])) (by simp) (fun i hi s hs => ?_)
    obtain ⟨hi, he⟩ := hi
    by_cases hlti : i < a.length
    · have hra := rows_at Tk.row a i hlti
      have hib : i < b.length := by omega
      have hrb := rows_at Tk.row b i hib
      have hca : a.take (i + 1) = a.take i ++ [a[i]] := List.take_succ_eq_append_getElem hlti
      have hcb : b.take (i + 1) = b.take i ++ [b[i]] := List.take_succ_eq_append_getElem hib
      have hne : a[i] ≠ b[i] → ¬ a = b := fun h e => h (by subst e; rfl)
      generalize a[i] = x at hra hca hne
      generalize b[i] = y at hrb hcb hne
      obtain ⟨x1, x2, x3⟩ := x
      obtain ⟨y1, y2, y3⟩ := y
      by_cases hxy : (⟨x1, x2, x3⟩ : Tk) = ⟨y1, y2, y3⟩
      · have hd : decide ((⟨x1, x2, x3⟩ : Tk) = ⟨y1, y2, y3⟩) = true := decide_eq_true hxy
        simp -implicitDefEqProofs only [awp_draw _ _ Tryzdr61_6, List.length_map, lt_true hib, hra, hrb, Tk.row, neq_tok, hd, wsucc i (by omega),
    evx, evy, ofValue, ofCell, List.range, List.range.loop, Array.size, Nat.reduceAdd, Nat.reduceSub, Nat.reduceEqDiff, List.replicate, if_true, if_false, ↓reduceIte, reduceCtorEq, elB, evParts, Int.reduceToNat, Int.reduceLE, Int.reduceLT, Int.reduceEq, Nat.reduceMul, Nat.reduceLeDiff, Nat.reduceLT, ty3, ty4, ty9, ty23, ty22, ty25, ty5, ty35, ty31, ty38, ty43, ty55, ty52, ty99]
        exact back_intro hs (i + 1) (le_wk (by simp [wk])) ⟨by omega, by rw [hca, hcb, he, hxy]⟩ (by omega)
      · have hd : decide ((⟨x1, x2, x3⟩ : Tk) = ⟨y1, y2, y3⟩) = false := decide_eq_false hxy
        simp -implicitDefEqProofs only [awp_draw _ _ Tryzdr61_6, List.length_map, lt_true hib, hra, hrb, Tk.row, neq_tok, hd,
    evx, evy, ofValue, ofCell, List.range, List.range.loop, Array.size, Nat.reduceAdd, Nat.reduceSub, Nat.reduceEqDiff, List.replicate, if_true, if_false, ↓reduceIte, reduceCtorEq, elB, evParts, Int.reduceToNat, Int.reduceLE, Int.reduceLT, Int.reduceEq, Nat.reduceMul, Nat.reduceLeDiff, Nat.reduceLT, ty3, ty4, ty9, ty23, ty22, ty25, ty5, ty35, ty31, ty38, ty43, ty55, ty52, ty99]
        rw [decide_eq_false (hne hxy)]
        exact le_flat rfl
    · obtain rfl : i = a.length := by omega
      have hnb : ¬ a.length < b.length := by omega
      simp -implicitDefEqProofs only [awp_draw _ _ Tryzdr61_6, List.length_map, lt_false hnb,
    evx, evy, ofValue, ofCell, List.range, List.range.loop, Array.size, Nat.reduceAdd, Nat.reduceSub, Nat.reduceEqDiff, List.replicate, if_true, if_false, ↓reduceIte, reduceCtorEq, elB, evParts, Int.reduceToNat, Int.reduceLE, Int.reduceLT, Int.reduceEq, Nat.reduceMul, Nat.reduceLeDiff, Nat.reduceLT, ty3, ty4, ty9, ty23, ty22, ty25, ty5, ty35, ty31, ty38, ty43, ty55, ty52, ty99]
      have : a = b := by
        rw [List.take_length, hl, List.take_length] at he
        exact he
      rw [decide_eq_true this]
      exact le_flat rfl
  · have hlt : ((a.length : Int) = (b.length : Int)) = False := eq_false (by omega)
    simp -implicitDefEqProofs only [awp_draw _ _ Tryzdr61_6, List.length_map, hlt,
    evx, evy, ofValue, ofCell, List.range, List.range.loop, Array.size, Nat.reduceAdd, Nat.reduceSub, Nat.reduceEqDiff, List.replicate, if_true, if_false, ↓reduceIte, reduceCtorEq, elB, evParts, Int.reduceToNat, Int.reduceLE, Int.reduceLT, Int.reduceEq, Nat.reduceMul, Nat.reduceLeDiff, Nat.reduceLT, ty3, ty4, ty9, ty23, ty22, ty25, ty5, ty35, ty31, ty38, ty43, ty55, ty52, ty99]
    rw [decide_eq_false (fun e : a = b => hl (by rw [e]))]
    exact le_flat rfl
theorem ok62 (a b : List Int) (ha : a.length ≤ 4000000) (hb : b.length ≤ 4000000) : Ok Tryz.prog 62 [.fv (.lst 1 (a.map iRow)), .fv (.lst 1 (b.map iRow))] [] (.ret (.fv (.bool (decide (a = b))))) [] := by
  refine ok_start (k := 24) (n0 := 0) (rs := [.tmp 4]) mix Tryz.func62 rfl rfl rfl rfl rfl rfl rfl ?_
  by_cases hl : a.length = b.length
  · have hlt : ((a.length : Int) = (b.length : Int)) = True := eq_true (by omega)
    simp -implicitDefEqProofs only [awp_draw _ _ Tryzdr62_6, List.length_map, hlt,
    evx, evy, ofValue, ofCell, List.range, List.range.loop, Array.size, Nat.reduceAdd, Nat.reduceSub, Nat.reduceEqDiff, List.replicate, if_true, if_false, ↓reduceIte, reduceCtorEq, elB, evParts, Int.reduceToNat, Int.reduceLE, Int.reduceLT, Int.reduceEq, Nat.reduceMul, Nat.reduceLeDiff, Nat.reduceLT, ty3, ty4, ty9, ty23, ty22, ty25, ty5, ty35, ty31, ty38, ty43, ty55, ty52, ty99]
    refine loop_rule (fun i : Nat => ⟨[.fv (.lst 1 (a.map iRow)), .fv (.lst 1 (b.map iRow)), .any, .any, .any, .any, .any, .any, .any, .any, .any, .any, .fv (.int .i64 b.length), .fv (.int .i64 i), .any, .any, .any, .any, .any, .any, .any, .any, .any, .any, .any, .any], [], []⟩)
      (fun i => i ≤ a.length ∧ a.take i = b.take i) (fun i => a.length - i) 0 (le_wk (by simp [wk, hl])) (by simp) (fun i hi s hs => ?_)
    obtain ⟨hi, he⟩ := hi
    by_cases hlti : i < a.length
    · have hra := rows_at iRow a i hlti
      have hib : i < b.length := by omega
      have hrb := rows_at iRow b i hib
      have hca : a.take (i + 1) = a.take i ++ [a[i]] := List.take_succ_eq_append_getElem hlti
      have hcb : b.take (i + 1) = b.take i ++ [b[i]] := List.take_succ_eq_append_getElem hib
      have hne : a[i] ≠ b[i] → ¬ a = b := fun h e => h (by subst e; rfl)
      generalize a[i] = x at hra hca hne
      generalize b[i] = y at hrb hcb hne
      by_cases hxy : x = y
      · have hd : (x = y) = True := eq_true hxy
        simp -implicitDefEqProofs only [awp_draw _ _ Tryzdr62_6, List.length_map, lt_true hib, hra, hrb, iRow, hd, wsucc i (by omega),
    evx, evy, ofValue, ofCell, List.range, List.range.loop, Array.size, Nat.reduceAdd, Nat.reduceSub, Nat.reduceEqDiff, List.replicate, if_true, if_false, ↓reduceIte, reduceCtorEq, elB, evParts, Int.reduceToNat, Int.reduceLE, Int.reduceLT, Int.reduceEq, Nat.reduceMul, Nat.reduceLeDiff, Nat.reduceLT, ty3, ty4, ty9, ty23, ty22, ty25, ty5, ty35, ty31, ty38, ty43, ty55, ty52, ty99]
        exact back_intro hs (i + 1) (le_wk (by simp [wk])) ⟨by omega, by rw [hca, hcb, he, hxy]⟩ (by omega)
      · have hd : (x = y) = False := eq_false hxy
        simp -implicitDefEqProofs only [awp_draw _ _ Tryzdr62_6, List.length_map, lt_true hib, hra, hrb, iRow, hd,
    evx, evy, ofValue, ofCell, List.range, List.range.loop, Array.size, Nat.reduceAdd, Nat.reduceSub, Nat.reduceEqDiff, List.replicate, if_true, if_false, ↓reduceIte, reduceCtorEq, elB, evParts, Int.reduceToNat, Int.reduceLE, Int.reduceLT, Int.reduceEq, Nat.reduceMul, Nat.reduceLeDiff, Nat.reduceLT, ty3, ty4, ty9, ty23, ty22, ty25, ty5, ty35, ty31, ty38, ty43, ty55, ty52, ty99]
        rw [decide_eq_false (hne hxy)]
        exact le_flat rfl
    · obtain rfl : i = a.length := by omega
      have hnb : ¬ a.length < b.length := by omega
      simp -implicitDefEqProofs only [awp_draw _ _ Tryzdr62_6, List.length_map, lt_false hnb,
    evx, evy, ofValue, ofCell, List.range, List.range.loop, Array.size, Nat.reduceAdd, Nat.reduceSub, Nat.reduceEqDiff, List.replicate, if_true, if_false, ↓reduceIte, reduceCtorEq, elB, evParts, Int.reduceToNat, Int.reduceLE, Int.reduceLT, Int.reduceEq, Nat.reduceMul, Nat.reduceLeDiff, Nat.reduceLT, ty3, ty4, ty9, ty23, ty22, ty25, ty5, ty35, ty31, ty38, ty43, ty55, ty52, ty99]
      have : a = b := by
        rw [List.take_length, hl, List.take_length] at he
        exact he
      rw [decide_eq_true this]
      exact le_flat rfl
  · have hlt : ((a.length : Int) = (b.length : Int)) = False := eq_false (by omega)
    simp -implicitDefEqProofs only [awp_draw _ _ Tryzdr62_6, List.length_map, hlt,
    evx, evy, ofValue, ofCell, List.range, List.range.loop, Array.size, Nat.reduceAdd, Nat.reduceSub, Nat.reduceEqDiff, List.replicate, if_true, if_false, ↓reduceIte, reduceCtorEq, elB, evParts, Int.reduceToNat, Int.reduceLE, Int.reduceLT, Int.reduceEq, Nat.reduceMul, Nat.reduceLeDiff, Nat.reduceLT, ty3, ty4, ty9, ty23, ty22, ty25, ty5, ty35, ty31, ty38, ty43, ty55, ty52, ty99]
    rw [decide_eq_false (fun e : a = b => hl (by rw [e]))]
    exact le_flat rfl
/-- What is known of a text, or said to be. -/
structure Knw where
  toks : List Tk
  seen : List Int
  at_ : Int
instance : DecidableEq Knw := fun x y => decidable_of_iff (x.at_ = y.at_ ∧ x.toks = y.toks ∧ x.seen = y.seen) (by
  cases x; cases y; simp
  constructor
  · rintro ⟨a, b, c⟩; exact ⟨b, c, a⟩
  · rintro ⟨a, b, c⟩; exact ⟨c, a, b⟩)
def Knw.av (k : Knw) : AV := .agg [.fv (.lst 3 (k.toks.map Tk.row)), .fv (.lst 1 (k.seen.map iRow)), .fv (.int .i64 k.at_)]
def knw (x : List Tok × Int) : Knw := ⟨x.1.map Tok.tk, x.1.map fun t => (t.seen : Int), x.2⟩
theorem lexed_knw (x : List Tok × Int) : lexedA x = (knw x).av := by
  unfold lexedA knw Knw.av
  simp only [tokRow_map, seenRow_map]
theorem knw_eq (a b : Knw) : decide (a = b) = (decide (a.at_ = b.at_) && (decide (a.toks = b.toks) && decide (a.seen = b.seen))) := by
  rw [← Bool.decide_and, ← Bool.decide_and]
  congr 1
  cases a; cases b; simp
  constructor
  · rintro ⟨a, b, c⟩; exact ⟨c, a, b⟩
  · rintro ⟨a, b, c⟩; exact ⟨b, c, a⟩
theorem ok44 (a b : Knw) (ha : a.toks.length ≤ 4000000) (hb : b.toks.length ≤ 4000000) (ha2 : a.seen.length ≤ 4000000) (hb2 : b.seen.length ≤ 4000000) : Ok Tryz.prog 44 [a.av, b.av] [] (.ret (.fv (.bool (decide (a = b))))) [] := by
  have h1 := ok61 a.toks b.toks ha hb
  have h2 := ok62 a.seen b.seen ha2 hb2
  rw [knw_eq]
  refine ok_start (k := 22) (n0 := 0) (rs := [.tmp 4]) mix Tryz.func44 rfl rfl rfl rfl rfl rfl rfl ?_
  by_cases c1 : a.at_ = b.at_
  · have c1t : (a.at_ = b.at_) = True := eq_true c1
    rw [decide_eq_true c1]
    simp -implicitDefEqProofs only [Knw.av, c1t,
    evx, evy, ofValue, ofCell, List.range, List.range.loop, Array.size, Nat.reduceAdd, Nat.reduceSub, Nat.reduceEqDiff, List.replicate, if_true, if_false, ↓reduceIte, reduceCtorEq, elB, evParts, Int.reduceToNat, Int.reduceLE, Int.reduceLT, Int.reduceEq, Nat.reduceMul, Nat.reduceLeDiff, Nat.reduceLT, ty3, ty4, ty9, ty23, ty22, ty25, ty5, ty35, ty31, ty38, ty43, ty55, ty52, ty99]
    refine callK_ret _ _ _ _ (call_pure (h1) (fun _ => rfl) (fun _ => rfl)) (ok_nil _ _) ?_
    by_cases c2 : a.toks = b.toks
    · rw [decide_eq_true c2]
      simp -implicitDefEqProofs only [evx, evy, ofValue, ofCell, List.range, List.range.loop, Array.size, Nat.reduceAdd, Nat.reduceSub, Nat.reduceEqDiff, List.replicate, if_true, if_false, ↓reduceIte, reduceCtorEq, elB, evParts, Int.reduceToNat, Int.reduceLE, Int.reduceLT, Int.reduceEq, Nat.reduceMul, Nat.reduceLeDiff, Nat.reduceLT, ty3, ty4, ty9, ty23, ty22, ty25, ty5, ty35, ty31, ty38, ty43, ty55, ty52, ty99]
      refine callK_ret _ _ _ _ (call_pure (h2) (fun _ => rfl) (fun _ => rfl)) (ok_nil _ _) ?_
      simp -implicitDefEqProofs only [evx, evy, ofValue, ofCell, List.range, List.range.loop, Array.size, Nat.reduceAdd, Nat.reduceSub, Nat.reduceEqDiff, List.replicate, if_true, if_false, ↓reduceIte, reduceCtorEq, elB, evParts, Int.reduceToNat, Int.reduceLE, Int.reduceLT, Int.reduceEq, Nat.reduceMul, Nat.reduceLeDiff, Nat.reduceLT, ty3, ty4, ty9, ty23, ty22, ty25, ty5, ty35, ty31, ty38, ty43, ty55, ty52, ty99]
      exact le_flat rfl
    · rw [decide_eq_false c2]
      simp -implicitDefEqProofs only [evx, evy, ofValue, ofCell, List.range, List.range.loop, Array.size, Nat.reduceAdd, Nat.reduceSub, Nat.reduceEqDiff, List.replicate, if_true, if_false, ↓reduceIte, reduceCtorEq, elB, evParts, Int.reduceToNat, Int.reduceLE, Int.reduceLT, Int.reduceEq, Nat.reduceMul, Nat.reduceLeDiff, Nat.reduceLT, ty3, ty4, ty9, ty23, ty22, ty25, ty5, ty35, ty31, ty38, ty43, ty55, ty52, ty99]
      exact le_flat rfl
  · have c1t : (a.at_ = b.at_) = False := eq_false c1
    rw [decide_eq_false c1]
    simp -implicitDefEqProofs only [Knw.av, c1t,
    evx, evy, ofValue, ofCell, List.range, List.range.loop, Array.size, Nat.reduceAdd, Nat.reduceSub, Nat.reduceEqDiff, List.replicate, if_true, if_false, ↓reduceIte, reduceCtorEq, elB, evParts, Int.reduceToNat, Int.reduceLE, Int.reduceLT, Int.reduceEq, Nat.reduceMul, Nat.reduceLeDiff, Nat.reduceLT, ty3, ty4, ty9, ty23, ty22, ty25, ty5, ty35, ty31, ty38, ty43, ty55, ty52, ty99]
    exact le_flat rfl
theorem cmpI_zero {x y : Int} (h : cmpI x y = 0) : x = y := by
  unfold cmpI at h
  by_cases h1 : x < y
  · rw [if_pos h1] at h; omega
  · rw [if_neg h1] at h
    by_cases h2 : y < x
    · rw [if_pos h2] at h; omega
    · omega
theorem cmpL_zero : ∀ {a b : List Int}, cmpL a b = 0 ↔ a = b
  | [], [] => by simp [cmpL]
  | [], y :: b => by simp [cmpL]
  | x :: a, [] => by simp [cmpL]
  | x :: a, y :: b => by
    rw [cmpL]
    by_cases h : cmpI x y = 0
    · have hxy : x = y := cmpI_zero h
      rw [if_pos h, cmpL_zero, hxy]
      simp
    · rw [if_neg h]
      constructor
      · intro h2; exact absurd h2 h
      · intro h2
        obtain ⟨rfl, rfl⟩ := List.cons.inj h2
        exact absurd (by simp [cmpI]) h
theorem ok29 (a b : Knw) (ha : a.toks.length ≤ 4000000) (hb : b.toks.length ≤ 4000000) (ha2 : a.seen.length ≤ 4000000) (hb2 : b.seen.length ≤ 4000000) : Ok Tryz.prog 29 [a.av, b.av] [] (.ret (.fv (.bool (decide (a = b))))) [] := by
  have h1 := ok22 a.toks b.toks ha hb
  have h2 := ok23 a.seen b.seen (by omega) (by omega)
  rw [← ints_row, ← ints_row, decide_eq_decide.2 cmpL_zero] at h2
  rw [knw_eq]
  refine ok_start (k := 22) (n0 := 0) (rs := [.tmp 4]) mix Tryz.func29 rfl rfl rfl rfl rfl rfl rfl ?_
  by_cases c1 : a.at_ = b.at_
  · have c1t : (a.at_ = b.at_) = True := eq_true c1
    rw [decide_eq_true c1]
    simp -implicitDefEqProofs only [Knw.av, c1t,
    evx, evy, ofValue, ofCell, List.range, List.range.loop, Array.size, Nat.reduceAdd, Nat.reduceSub, Nat.reduceEqDiff, List.replicate, if_true, if_false, ↓reduceIte, reduceCtorEq, elB, evParts, Int.reduceToNat, Int.reduceLE, Int.reduceLT, Int.reduceEq, Nat.reduceMul, Nat.reduceLeDiff, Nat.reduceLT, ty3, ty4, ty9, ty23, ty22, ty25, ty5, ty35, ty31, ty38, ty43, ty55, ty52, ty99]
    refine callK_ret _ _ _ _ (call_pure (h1) (fun _ => rfl) (fun _ => rfl)) (ok_nil _ _) ?_
    by_cases c2 : a.toks = b.toks
    · rw [decide_eq_true c2]
      simp -implicitDefEqProofs only [evx, evy, ofValue, ofCell, List.range, List.range.loop, Array.size, Nat.reduceAdd, Nat.reduceSub, Nat.reduceEqDiff, List.replicate, if_true, if_false, ↓reduceIte, reduceCtorEq, elB, evParts, Int.reduceToNat, Int.reduceLE, Int.reduceLT, Int.reduceEq, Nat.reduceMul, Nat.reduceLeDiff, Nat.reduceLT, ty3, ty4, ty9, ty23, ty22, ty25, ty5, ty35, ty31, ty38, ty43, ty55, ty52, ty99]
      refine callK_ret _ _ _ _ (call_pure (h2) (fun _ => rfl) (fun _ => rfl)) (ok_nil _ _) ?_
      simp -implicitDefEqProofs only [evx, evy, ofValue, ofCell, List.range, List.range.loop, Array.size, Nat.reduceAdd, Nat.reduceSub, Nat.reduceEqDiff, List.replicate, if_true, if_false, ↓reduceIte, reduceCtorEq, elB, evParts, Int.reduceToNat, Int.reduceLE, Int.reduceLT, Int.reduceEq, Nat.reduceMul, Nat.reduceLeDiff, Nat.reduceLT, ty3, ty4, ty9, ty23, ty22, ty25, ty5, ty35, ty31, ty38, ty43, ty55, ty52, ty99]
      exact le_flat rfl
    · rw [decide_eq_false c2]
      simp -implicitDefEqProofs only [evx, evy, ofValue, ofCell, List.range, List.range.loop, Array.size, Nat.reduceAdd, Nat.reduceSub, Nat.reduceEqDiff, List.replicate, if_true, if_false, ↓reduceIte, reduceCtorEq, elB, evParts, Int.reduceToNat, Int.reduceLE, Int.reduceLT, Int.reduceEq, Nat.reduceMul, Nat.reduceLeDiff, Nat.reduceLT, ty3, ty4, ty9, ty23, ty22, ty25, ty5, ty35, ty31, ty38, ty43, ty55, ty52, ty99]
      exact le_flat rfl
  · have c1t : (a.at_ = b.at_) = False := eq_false c1
    rw [decide_eq_false c1]
    simp -implicitDefEqProofs only [Knw.av, c1t,
    evx, evy, ofValue, ofCell, List.range, List.range.loop, Array.size, Nat.reduceAdd, Nat.reduceSub, Nat.reduceEqDiff, List.replicate, if_true, if_false, ↓reduceIte, reduceCtorEq, elB, evParts, Int.reduceToNat, Int.reduceLE, Int.reduceLT, Int.reduceEq, Nat.reduceMul, Nat.reduceLeDiff, Nat.reduceLT, ty3, ty4, ty9, ty23, ty22, ty25, ty5, ty35, ty31, ty38, ty43, ty55, ty52, ty99]
    exact le_flat rfl
theorem ok31 (d : Aut) (hn : d.next.length ≤ 100000) (s : Bs) (hs : s.length ≤ 1000000) : Ok Tryz.prog 31 [d.av, .fv (.str s)] [] (.ret (lexedA (d.all s))) [] := by
  have hall := ok20 d hn s hs
  have hseen := ok24 d hn s hs
  unfold lexedA
  refine ok_start (k := 17) (n0 := 0) (rs := [.cell 4 55]) mix Tryz.func31 rfl rfl rfl rfl rfl rfl rfl ?_
  simp -implicitDefEqProofs only [Aut.av, stB_boxA, splice_all, List.all_cons, List.all_nil, Bool.and_self,
    evx, evy, ofValue, ofCell, List.range, List.range.loop, Array.size, Nat.reduceAdd, Nat.reduceSub, Nat.reduceEqDiff, List.replicate, if_true, if_false, ↓reduceIte, reduceCtorEq, elB, evParts, Int.reduceToNat, Int.reduceLE, Int.reduceLT, Int.reduceEq, Nat.reduceMul, Nat.reduceLeDiff, Nat.reduceLT, ty3, ty4, ty9, ty23, ty22, ty25, ty5, ty35, ty31, ty38, ty43, ty55, ty52, ty99]
  refine callK_ret _ _ _ _ (call_pure (hall) (fun _ => rfl) (fun _ => rfl)) (ok_nil _ _) ?_
  simp -implicitDefEqProofs only [Aut.cells,
    evx, evy, ofValue, ofCell, List.range, List.range.loop, Array.size, Nat.reduceAdd, Nat.reduceSub, Nat.reduceEqDiff, List.replicate, if_true, if_false, ↓reduceIte, reduceCtorEq, elB, evParts, Int.reduceToNat, Int.reduceLE, Int.reduceLT, Int.reduceEq, Nat.reduceMul, Nat.reduceLeDiff, Nat.reduceLT, ty3, ty4, ty9, ty23, ty22, ty25, ty5, ty35, ty31, ty38, ty43, ty55, ty52, ty99]
  refine callK_ret _ _ _ _ (call_pure (hseen) (fun _ => rfl) (fun _ => rfl)) (ok_nil _ _) ?_
  simp -implicitDefEqProofs only [stB_boxA, splice_all, List.all_cons, List.all_nil, Bool.and_self,
    evx, evy, ofValue, ofCell, List.range, List.range.loop, Array.size, Nat.reduceAdd, Nat.reduceSub, Nat.reduceEqDiff, List.replicate, if_true, if_false, ↓reduceIte, reduceCtorEq, elB, evParts, Int.reduceToNat, Int.reduceLE, Int.reduceLT, Int.reduceEq, Nat.reduceMul, Nat.reduceLeDiff, Nat.reduceLT, ty3, ty4, ty9, ty23, ty22, ty25, ty5, ty35, ty31, ty38, ty43, ty55, ty52, ty99]
  exact le_sf (by simp [subAny, subA, subL])
theorem ok30 (k : Knw) : Ok Tryz.prog 30 [k.av] [] (.ret k.av) [] := by
  unfold Knw.av
  refine ok_start (k := 9) (n0 := 0) (rs := [.cell 2 38]) mix Tryz.func30 rfl rfl rfl rfl rfl rfl rfl ?_
  simp -implicitDefEqProofs only [stB_boxA, splice_all, List.all_cons, List.all_nil, Bool.and_self,
    evx, evy, ofValue, ofCell, List.range, List.range.loop, Array.size, Nat.reduceAdd, Nat.reduceSub, Nat.reduceEqDiff, List.replicate, if_true, if_false, ↓reduceIte, reduceCtorEq, elB, evParts, Int.reduceToNat, Int.reduceLE, Int.reduceLT, Int.reduceEq, Nat.reduceMul, Nat.reduceLeDiff, Nat.reduceLT, ty3, ty4, ty9, ty23, ty22, ty25, ty5, ty35, ty31, ty38, ty43, ty55, ty52, ty99]
  exact le_sf (by simp [subAny, subA, subL])
def heavyB (d : Aut) (s : Bs) (e : Edt) : Bool := decide (100 < s.length) || (decide (100 < e.text.length) || decide (60 < d.next.length))
theorem ok28 (d : Aut) (s : Bs) (e : Edt) : Ok Tryz.prog 28 [d.av, .fv (.str s), e.av] [] (.ret (.fv (.bool (heavyB d s e)))) [] := by
  unfold heavyB
  refine ok_start (k := 19) (n0 := 0) (rs := [.tmp 6]) mix Tryz.func28 rfl rfl rfl rfl rfl rfl rfl ?_
  by_cases c1 : 100 < s.length
  · rw [decide_eq_true c1]
    simp -implicitDefEqProofs only [Aut.av, Edt.av, List.length_map, lit_true (show (100 : Int) < (s.length : Int) by omega),
    evx, evy, ofValue, ofCell, List.range, List.range.loop, Array.size, Nat.reduceAdd, Nat.reduceSub, Nat.reduceEqDiff, List.replicate, if_true, if_false, ↓reduceIte, reduceCtorEq, elB, evParts, Int.reduceToNat, Int.reduceLE, Int.reduceLT, Int.reduceEq, Nat.reduceMul, Nat.reduceLeDiff, Nat.reduceLT, ty3, ty4, ty9, ty23, ty22, ty25, ty5, ty35, ty31, ty38, ty43, ty55, ty52, ty99]
    exact le_flat rfl
  · rw [decide_eq_false c1]
    by_cases c2 : 100 < e.text.length
    · rw [decide_eq_true c2]
      simp -implicitDefEqProofs only [Aut.av, Edt.av, List.length_map, lit_false (show ¬ (100 : Int) < (s.length : Int) by omega), lit_true (show (100 : Int) < (e.text.length : Int) by omega),
    evx, evy, ofValue, ofCell, List.range, List.range.loop, Array.size, Nat.reduceAdd, Nat.reduceSub, Nat.reduceEqDiff, List.replicate, if_true, if_false, ↓reduceIte, reduceCtorEq, elB, evParts, Int.reduceToNat, Int.reduceLE, Int.reduceLT, Int.reduceEq, Nat.reduceMul, Nat.reduceLeDiff, Nat.reduceLT, ty3, ty4, ty9, ty23, ty22, ty25, ty5, ty35, ty31, ty38, ty43, ty55, ty52, ty99]
      exact le_flat rfl
    · rw [decide_eq_false c2]
      by_cases c3 : 60 < d.next.length
      · rw [decide_eq_true c3]
        simp -implicitDefEqProofs only [Aut.av, Edt.av, List.length_map, lit_false (show ¬ (100 : Int) < (s.length : Int) by omega), lit_false (show ¬ (100 : Int) < (e.text.length : Int) by omega), lit_true (show (60 : Int) < (d.next.length : Int) by omega),
    evx, evy, ofValue, ofCell, List.range, List.range.loop, Array.size, Nat.reduceAdd, Nat.reduceSub, Nat.reduceEqDiff, List.replicate, if_true, if_false, ↓reduceIte, reduceCtorEq, elB, evParts, Int.reduceToNat, Int.reduceLE, Int.reduceLT, Int.reduceEq, Nat.reduceMul, Nat.reduceLeDiff, Nat.reduceLT, ty3, ty4, ty9, ty23, ty22, ty25, ty5, ty35, ty31, ty38, ty43, ty55, ty52, ty99]
        exact le_flat rfl
      · rw [decide_eq_false c3]
        simp -implicitDefEqProofs only [Aut.av, Edt.av, List.length_map, lit_false (show ¬ (100 : Int) < (s.length : Int) by omega), lit_false (show ¬ (100 : Int) < (e.text.length : Int) by omega), lit_false (show ¬ (60 : Int) < (d.next.length : Int) by omega),
    evx, evy, ofValue, ofCell, List.range, List.range.loop, Array.size, Nat.reduceAdd, Nat.reduceSub, Nat.reduceEqDiff, List.replicate, if_true, if_false, ↓reduceIte, reduceCtorEq, elB, evParts, Int.reduceToNat, Int.reduceLE, Int.reduceLT, Int.reduceEq, Nat.reduceMul, Nat.reduceLeDiff, Nat.reduceLT, ty3, ty4, ty9, ty23, ty22, ty25, ty5, ty35, ty31, ty38, ty43, ty55, ty52, ty99]
        exact le_flat rfl
end Go.Abs
/- Edits: whether they fit, what they do. -/
namespace Go.Abs
open Go.Proofs
set_option linter.unusedVariables false
set_option linter.unusedSimpArgs false
set_option maxRecDepth 100000
set_option maxHeartbeats 4000000
theorem bin_sadd {P : Program} {T : TypeId} {one : Bool} (a b : Bs) : binA P .add T one (.fv (.str a)) (.fv (.str b)) = if (a.length + b.length : Nat) ≤ 9223372036854775807 then some (.fv (.str (a ++ b))) else none := by
  simp only [binA, strA]
  split <;> rfl
theorem Edt.nofit {s : Bs} {e : Edt} (h : (0 ≤ e.at_ ∧ 0 ≤ e.len ∧ e.at_ ≤ s.length ∧ e.len ≤ s.length - e.at_) → False) : e.fitsB s = false := by
  cases hb : e.fitsB s with
  | false => rfl
  | true => exact (h (Edt.fits_iff.1 hb)).elim
theorem ok63 (s : Bs) (hs : s.length ≤ 1000000) (e : Edt) : Ok Tryz.prog 63 [.fv (.str s), e.av] [] (.ret (.fv (.bool (e.fitsB s)))) [] := by
  refine ok_start (k := 28) (n0 := 0) (rs := [.tmp 4]) mix Tryz.func63 rfl rfl rfl rfl rfl rfl rfl ?_
  by_cases c1 : 0 ≤ e.at_
  · have c1t : (0 ≤ e.at_) = True := eq_true c1
    by_cases c2 : 0 ≤ e.len
    · have c2t : (0 ≤ e.len) = True := eq_true c2
      by_cases c3 : e.at_ ≤ (s.length : Int)
      · have c3t : (e.at_ ≤ (s.length : Int)) = True := eq_true c3
        have hw : IntKind.wrap .i64 ((s.length : Int) - e.at_) = (s.length : Int) - e.at_ := wrap_small (by omega) (by omega)
        by_cases c4 : e.len ≤ (s.length : Int) - e.at_
        · have c4t : (e.len ≤ (s.length : Int) - e.at_) = True := eq_true c4
          rw [show e.fitsB s = true from Edt.fits_iff.2 ⟨c1, c2, c3, c4⟩]
          simp -implicitDefEqProofs only [Edt.av, c1t, c2t, c3t, hw, c4t,
    evx, evy, ofValue, ofCell, List.range, List.range.loop, Array.size, Nat.reduceAdd, Nat.reduceSub, Nat.reduceEqDiff, List.replicate, if_true, if_false, ↓reduceIte, reduceCtorEq, elB, evParts, Int.reduceToNat, Int.reduceLE, Int.reduceLT, Int.reduceEq, Nat.reduceMul, Nat.reduceLeDiff, Nat.reduceLT, ty3, ty4, ty9, ty23, ty5, ty35, ty31, ty38, ty43, ty55, ty52, ty99]
          exact le_flat rfl
        · have c4t : (e.len ≤ (s.length : Int) - e.at_) = False := eq_false c4
          rw [show e.fitsB s = false from by simpa using fun h => c4 (Edt.fits_iff.1 h).2.2.2]
          simp -implicitDefEqProofs only [Edt.av, c1t, c2t, c3t, hw, c4t,
    evx, evy, ofValue, ofCell, List.range, List.range.loop, Array.size, Nat.reduceAdd, Nat.reduceSub, Nat.reduceEqDiff, List.replicate, if_true, if_false, ↓reduceIte, reduceCtorEq, elB, evParts, Int.reduceToNat, Int.reduceLE, Int.reduceLT, Int.reduceEq, Nat.reduceMul, Nat.reduceLeDiff, Nat.reduceLT, ty3, ty4, ty9, ty23, ty5, ty35, ty31, ty38, ty43, ty55, ty52, ty99]
          exact le_flat rfl
      · have c3t : (e.at_ ≤ (s.length : Int)) = False := eq_false c3
        rw [show e.fitsB s = false from by simpa using fun h => c3 (Edt.fits_iff.1 h).2.2.1]
        simp -implicitDefEqProofs only [Edt.av, c1t, c2t, c3t,
    evx, evy, ofValue, ofCell, List.range, List.range.loop, Array.size, Nat.reduceAdd, Nat.reduceSub, Nat.reduceEqDiff, List.replicate, if_true, if_false, ↓reduceIte, reduceCtorEq, elB, evParts, Int.reduceToNat, Int.reduceLE, Int.reduceLT, Int.reduceEq, Nat.reduceMul, Nat.reduceLeDiff, Nat.reduceLT, ty3, ty4, ty9, ty23, ty5, ty35, ty31, ty38, ty43, ty55, ty52, ty99]
        exact le_flat rfl
    · have c2t : (0 ≤ e.len) = False := eq_false c2
      rw [show e.fitsB s = false from by simpa using fun h => c2 (Edt.fits_iff.1 h).2.1]
      simp -implicitDefEqProofs only [Edt.av, c1t, c2t,
    evx, evy, ofValue, ofCell, List.range, List.range.loop, Array.size, Nat.reduceAdd, Nat.reduceSub, Nat.reduceEqDiff, List.replicate, if_true, if_false, ↓reduceIte, reduceCtorEq, elB, evParts, Int.reduceToNat, Int.reduceLE, Int.reduceLT, Int.reduceEq, Nat.reduceMul, Nat.reduceLeDiff, Nat.reduceLT, ty3, ty4, ty9, ty23, ty5, ty35, ty31, ty38, ty43, ty55, ty52, ty99]
      exact le_flat rfl
  · have c1t : (0 ≤ e.at_) = False := eq_false c1
    rw [show e.fitsB s = false from by simpa using fun h => c1 (Edt.fits_iff.1 h).1]
    simp -implicitDefEqProofs only [Edt.av, c1t,
    evx, evy, ofValue, ofCell, List.range, List.range.loop, Array.size, Nat.reduceAdd, Nat.reduceSub, Nat.reduceEqDiff, List.replicate, if_true, if_false, ↓reduceIte, reduceCtorEq, elB, evParts, Int.reduceToNat, Int.reduceLE, Int.reduceLT, Int.reduceEq, Nat.reduceMul, Nat.reduceLeDiff, Nat.reduceLT, ty3, ty4, ty9, ty23, ty5, ty35, ty31, ty38, ty43, ty55, ty52, ty99]
    exact le_flat rfl
theorem ok50 (s : Bs) (hs : s.length ≤ 1000000) (e : Edt) : Ok Tryz.prog 50 [.fv (.str s), e.av] [] (.ret (.fv (.bool (e.fitsB s)))) [] := by
  refine ok_start (k := 26) (n0 := 0) (rs := [.tmp 4]) mix Tryz.func50 rfl rfl rfl rfl rfl rfl rfl ?_
  by_cases c1 : e.at_ < 0
  · have c1t : (e.at_ < 0) = True := eq_true c1
    rw [show e.fitsB s = false from Edt.nofit fun h => by omega]
    simp -implicitDefEqProofs only [Edt.av, c1t,
    evx, evy, ofValue, ofCell, List.range, List.range.loop, Array.size, Nat.reduceAdd, Nat.reduceSub, Nat.reduceEqDiff, List.replicate, if_true, if_false, ↓reduceIte, reduceCtorEq, elB, evParts, Int.reduceToNat, Int.reduceLE, Int.reduceLT, Int.reduceEq, Nat.reduceMul, Nat.reduceLeDiff, Nat.reduceLT, ty3, ty4, ty9, ty23, ty5, ty35, ty31, ty38, ty43, ty55, ty52, ty99]
    exact le_flat rfl
  have c1t : (e.at_ < 0) = False := eq_false c1
  by_cases c2 : e.len < 0
  · have c2t : (e.len < 0) = True := eq_true c2
    rw [show e.fitsB s = false from Edt.nofit fun h => by omega]
    simp -implicitDefEqProofs only [Edt.av, c1t, c2t,
    evx, evy, ofValue, ofCell, List.range, List.range.loop, Array.size, Nat.reduceAdd, Nat.reduceSub, Nat.reduceEqDiff, List.replicate, if_true, if_false, ↓reduceIte, reduceCtorEq, elB, evParts, Int.reduceToNat, Int.reduceLE, Int.reduceLT, Int.reduceEq, Nat.reduceMul, Nat.reduceLeDiff, Nat.reduceLT, ty3, ty4, ty9, ty23, ty5, ty35, ty31, ty38, ty43, ty55, ty52, ty99]
    exact le_flat rfl
  have c2t : (e.len < 0) = False := eq_false c2
  by_cases c3 : (s.length : Int) < e.at_
  · have c3t : ((s.length : Int) < e.at_) = True := eq_true c3
    rw [show e.fitsB s = false from Edt.nofit fun h => by omega]
    simp -implicitDefEqProofs only [Edt.av, c1t, c2t, c3t,
    evx, evy, ofValue, ofCell, List.range, List.range.loop, Array.size, Nat.reduceAdd, Nat.reduceSub, Nat.reduceEqDiff, List.replicate, if_true, if_false, ↓reduceIte, reduceCtorEq, elB, evParts, Int.reduceToNat, Int.reduceLE, Int.reduceLT, Int.reduceEq, Nat.reduceMul, Nat.reduceLeDiff, Nat.reduceLT, ty3, ty4, ty9, ty23, ty5, ty35, ty31, ty38, ty43, ty55, ty52, ty99]
    exact le_flat rfl
  have c3t : ((s.length : Int) < e.at_) = False := eq_false c3
  have hw : IntKind.wrap .i64 ((s.length : Int) - e.at_) = (s.length : Int) - e.at_ := wrap_small (by omega) (by omega)
  by_cases c4 : e.len ≤ (s.length : Int) - e.at_
  · have c4t : (e.len ≤ (s.length : Int) - e.at_) = True := eq_true c4
    rw [show e.fitsB s = true from Edt.fits_iff.2 ⟨by omega, by omega, by omega, c4⟩]
    simp -implicitDefEqProofs only [Edt.av, c1t, c2t, c3t, hw, c4t,
    evx, evy, ofValue, ofCell, List.range, List.range.loop, Array.size, Nat.reduceAdd, Nat.reduceSub, Nat.reduceEqDiff, List.replicate, if_true, if_false, ↓reduceIte, reduceCtorEq, elB, evParts, Int.reduceToNat, Int.reduceLE, Int.reduceLT, Int.reduceEq, Nat.reduceMul, Nat.reduceLeDiff, Nat.reduceLT, ty3, ty4, ty9, ty23, ty5, ty35, ty31, ty38, ty43, ty55, ty52, ty99]
    exact le_flat rfl
  · have c4t : (e.len ≤ (s.length : Int) - e.at_) = False := eq_false c4
    rw [show e.fitsB s = false from by simpa using fun h => c4 (Edt.fits_iff.1 h).2.2.2]
    simp -implicitDefEqProofs only [Edt.av, c1t, c2t, c3t, hw, c4t,
    evx, evy, ofValue, ofCell, List.range, List.range.loop, Array.size, Nat.reduceAdd, Nat.reduceSub, Nat.reduceEqDiff, List.replicate, if_true, if_false, ↓reduceIte, reduceCtorEq, elB, evParts, Int.reduceToNat, Int.reduceLE, Int.reduceLT, Int.reduceEq, Nat.reduceMul, Nat.reduceLeDiff, Nat.reduceLT, ty3, ty4, ty9, ty23, ty5, ty35, ty31, ty38, ty43, ty55, ty52, ty99]
    exact le_flat rfl
theorem applyE_no {s : Bs} {e : Edt} (h : e.fitsB s = false) : applyE s e = ([], 2) := by unfold applyE; rw [h]; rfl
theorem applyE_full {s : Bs} {e : Edt} (h : e.fitsB s = true) (h2 : e.fullB s = true) : applyE s e = ([], 3) := by unfold applyE; rw [h, h2]; rfl
theorem applyE_ok {s : Bs} {e : Edt} (h : e.fitsB s = true) (h2 : e.fullB s = false) : applyE s e = (e.done s, 0) := by unfold applyE; rw [h, h2]; rfl
theorem ok45 (s : Bs) (hs : s.length ≤ 1000000) (e : Edt) (he : e.text.length ≤ 1000000) : Ok Tryz.prog 45 [.fv (.str s), e.av] [] (.ret (.tuple [.fv (.str (applyE s e).1), .fv (.int .i64 (applyE s e).2)])) [] := by
  have hf := ok63 s hs e
  refine ok_start (k := 41) (n0 := 0) (rs := [.tmp 4, .tmp 5]) mix Tryz.func45 rfl rfl rfl rfl rfl rfl rfl ?_
  simp -implicitDefEqProofs only [awp_draw _ _ Tryzdr45_5, Edt.av,
    evx, evy, ofValue, ofCell, List.range, List.range.loop, Array.size, Nat.reduceAdd, Nat.reduceSub, Nat.reduceEqDiff, List.replicate, if_true, if_false, ↓reduceIte, reduceCtorEq, elB, evParts, Int.reduceToNat, Int.reduceLE, Int.reduceLT, Int.reduceEq, Nat.reduceMul, Nat.reduceLeDiff, Nat.reduceLT, ty3, ty4, ty9, ty23, ty5, ty35, ty31, ty38, ty43, ty55, ty52, ty99]
  cases hb : e.fitsB s with
  | false =>
    rw [hb] at hf
    rw [applyE_no hb]
    refine callK_ret _ _ _ _ (call_pure (hf) (fun _ => rfl) (fun _ => rfl)) (ok_nil _ _) ?_
    simp -implicitDefEqProofs only [awp_draw _ _ Tryzdr45_5,
    evx, evy, ofValue, ofCell, List.range, List.range.loop, Array.size, Nat.reduceAdd, Nat.reduceSub, Nat.reduceEqDiff, List.replicate, if_true, if_false, ↓reduceIte, reduceCtorEq, elB, evParts, Int.reduceToNat, Int.reduceLE, Int.reduceLT, Int.reduceEq, Nat.reduceMul, Nat.reduceLeDiff, Nat.reduceLT, ty3, ty4, ty9, ty23, ty5, ty35, ty31, ty38, ty43, ty55, ty52, ty99]
    exact le_sf (by simp [subAny, subA, subL])
  | true =>
    rw [hb] at hf
    obtain ⟨h1, h2, h3, h4⟩ := Edt.fits_iff.1 hb
    refine callK_ret _ _ _ _ (call_pure (hf) (fun _ => rfl) (fun _ => rfl)) (ok_nil _ _) ?_
    by_cases c1 : (4000 : Int) < (e.text.length : Int)
    · rw [applyE_full hb (by unfold Edt.fullB; rw [decide_eq_true (by omega)]; rfl)]
      simp -implicitDefEqProofs only [awp_draw _ _ Tryzdr45_5, lit_true c1,
    evx, evy, ofValue, ofCell, List.range, List.range.loop, Array.size, Nat.reduceAdd, Nat.reduceSub, Nat.reduceEqDiff, List.replicate, if_true, if_false, ↓reduceIte, reduceCtorEq, elB, evParts, Int.reduceToNat, Int.reduceLE, Int.reduceLT, Int.reduceEq, Nat.reduceMul, Nat.reduceLeDiff, Nat.reduceLT, ty3, ty4, ty9, ty23, ty5, ty35, ty31, ty38, ty43, ty55, ty52, ty99]
      exact le_sf (by simp [subAny, subA, subL])
    have w1 : IntKind.wrap .i64 ((s.length : Int) - e.len) = (s.length : Int) - e.len := wrap_small (by omega) (by omega)
    have w2 : IntKind.wrap .i64 ((s.length : Int) - e.len + (e.text.length : Int)) = (s.length : Int) - e.len + (e.text.length : Int) := wrap_small (by omega) (by omega)
    by_cases c2 : (4000 : Int) < (s.length : Int) - e.len + (e.text.length : Int)
    · have c2t : ((4000 : Int) < (s.length : Int) - e.len + (e.text.length : Int)) = True := eq_true c2
      rw [applyE_full hb (by unfold Edt.fullB; rw [decide_eq_true (p := 4000 < (s.length : Int) - e.len + e.text.length) c2]; simp)]
      simp -implicitDefEqProofs only [awp_draw _ _ Tryzdr45_5, lit_false c1, w1, w2, c2t,
    evx, evy, ofValue, ofCell, List.range, List.range.loop, Array.size, Nat.reduceAdd, Nat.reduceSub, Nat.reduceEqDiff, List.replicate, if_true, if_false, ↓reduceIte, reduceCtorEq, elB, evParts, Int.reduceToNat, Int.reduceLE, Int.reduceLT, Int.reduceEq, Nat.reduceMul, Nat.reduceLeDiff, Nat.reduceLT, ty3, ty4, ty9, ty23, ty5, ty35, ty31, ty38, ty43, ty55, ty52, ty99]
      exact le_sf (by simp [subAny, subA, subL])
    · have c2t : ((4000 : Int) < (s.length : Int) - e.len + (e.text.length : Int)) = False := eq_false c2
      rw [applyE_ok hb (by unfold Edt.fullB; rw [decide_eq_false (p := 4000 < (s.length : Int) - e.len + e.text.length) c2, decide_eq_false (by omega)]; rfl)]
      have w3 : IntKind.wrap .i64 (e.at_ + e.len) = e.at_ + e.len := wrap_small (by omega) (by omega)
      have b1 : (0 ≤ e.at_) = True := eq_true h1
      have b2 : (0 ≤ e.at_ + e.len) = True := eq_true (by omega)
      have b3 : (e.at_.toNat ≤ s.length) = True := eq_true (by omega)
      have b4 : ((e.at_ + e.len).toNat ≤ s.length) = True := eq_true (by omega)
      have b5 : (0 ≤ e.at_.toNat) = True := eq_true (by omega)
      have l1 : (s.take e.at_.toNat).length = e.at_.toNat := by rw [List.length_take]; omega
      have l2 : (s.drop (e.at_ + e.len).toNat).length = s.length - (e.at_ + e.len).toNat := List.length_drop
      have l3 : (s.take s.length) = s := List.take_length
      have a1 : (e.at_.toNat + e.text.length ≤ 9223372036854775807) = True := eq_true (by omega)
      have a2 : (e.at_.toNat + e.text.length + (s.length - (e.at_ + e.len).toNat) ≤ 9223372036854775807) = True := eq_true (by omega)
      have e9 : e.done s = s.take e.at_.toNat ++ e.text ++ s.drop (e.at_ + e.len).toNat := by unfold Edt.done; rw [show e.at_.toNat + e.len.toNat = (e.at_ + e.len).toNat by omega]
      rw [e9]
      simp -implicitDefEqProofs only [awp_draw _ _ Tryzdr45_5, lit_false c1, w1, w2, c2t, w3, b1, b2, b3, b4, b5, l1, l2, l3, a1, a2, bin_sadd, Nat.le_refl, List.length_append,
    evx, evy, ofValue, ofCell, List.range, List.range.loop, Array.size, Nat.reduceAdd, Nat.reduceSub, Nat.reduceEqDiff, List.replicate, if_true, if_false, ↓reduceIte, reduceCtorEq, elB, evParts, Int.reduceToNat, Int.reduceLE, Int.reduceLT, Int.reduceEq, Nat.reduceMul, Nat.reduceLeDiff, Nat.reduceLT, ty3, ty4, ty9, ty23, ty5, ty35, ty31, ty38, ty43, ty55, ty52, ty99]
      exact le_sf (by simp [subAny, subA, subL])
theorem byte_row (c : UInt8) : UInt8.ofNat (c.toNat : Int).toNat = c := by
  simp
theorem rowsBytes_map : ∀ l : Bs, rowsBytes (l.map fun b => [FV.int .u8 b.toNat]) = some l
  | [] => rfl
  | c :: l => by
    rw [List.map_cons, rowsBytes, rowsBytes_map l, Option.map_some, byte_row]
theorem src_ref1 {e : TypeId} {a b : Nat} {z : Option (List FV)} {h : List Blk} {id n : Nat} {rows : List (List FV)} (hid : h[id]? = some (.plain 1 rows)) (hn : n = rows.length) : srcRows ⟨.slice e, a, b, z⟩ 1 h (.ref id 1 0 n) = some rows := by
  subst hn
  simp [srcRows, hid]
def bRow (c : UInt8) : List FV := [.int .u8 c.toNat]
theorem take_snocB (s : Bs) (i : Nat) (h : i < s.length) : (s.take i).map bRow ++ [[.int .u8 s[i].toNat]] = (s.take (i + 1)).map bRow := by
  rw [List.take_succ_eq_append_getElem h, List.map_append]
  rfl
theorem ok35 (s : Bs) (hs : s.length ≤ 1000000) (e : Edt) (he : e.text.length ≤ 1000000) : Ok Tryz.prog 35 [.fv (.str s), e.av] [] (.ret (.tuple [.fv (.str (applyE s e).1), .fv (.int .i64 (applyE s e).2)])) [] := by
  have hf := ok50 s hs e
  refine ok_start (k := 62) (n0 := 0) (rs := [.tmp 4, .tmp 5]) mix Tryz.func35 rfl rfl rfl rfl rfl rfl rfl ?_
  simp -implicitDefEqProofs only [Edt.av,
    evx, evy, ofValue, ofCell, List.range, List.range.loop, Array.size, Nat.reduceAdd, Nat.reduceSub, Nat.reduceEqDiff, List.replicate, if_true, if_false, ↓reduceIte, reduceCtorEq, elB, evParts, Int.reduceToNat, Int.reduceLE, Int.reduceLT, Int.reduceEq, Nat.reduceMul, Nat.reduceLeDiff, Nat.reduceLT, ty3, ty4, ty9, ty23, ty5, ty35, ty31, ty38, ty43, ty55, ty52, ty99]
  cases hb : e.fitsB s with
  | false =>
    rw [hb] at hf
    rw [applyE_no hb]
    refine callK_ret _ _ _ _ (call_pure (hf) (fun _ => rfl) (fun _ => rfl)) (ok_nil _ _) ?_
    simp -implicitDefEqProofs only [evx, evy, ofValue, ofCell, List.range, List.range.loop, Array.size, Nat.reduceAdd, Nat.reduceSub, Nat.reduceEqDiff, List.replicate, if_true, if_false, ↓reduceIte, reduceCtorEq, elB, evParts, Int.reduceToNat, Int.reduceLE, Int.reduceLT, Int.reduceEq, Nat.reduceMul, Nat.reduceLeDiff, Nat.reduceLT, ty3, ty4, ty9, ty23, ty5, ty35, ty31, ty38, ty43, ty55, ty52, ty99]
    exact le_sf (by simp [subAny, subA, subL])
  | true =>
    rw [hb] at hf
    obtain ⟨h1, h2, h3, h4⟩ := Edt.fits_iff.1 hb
    refine callK_ret _ _ _ _ (call_pure (hf) (fun _ => rfl) (fun _ => rfl)) (ok_nil _ _) ?_
    by_cases c1 : (4000 : Int) < (e.text.length : Int)
    · rw [applyE_full hb (by unfold Edt.fullB; rw [decide_eq_true (by omega)]; rfl)]
      simp -implicitDefEqProofs only [lit_true c1,
    evx, evy, ofValue, ofCell, List.range, List.range.loop, Array.size, Nat.reduceAdd, Nat.reduceSub, Nat.reduceEqDiff, List.replicate, if_true, if_false, ↓reduceIte, reduceCtorEq, elB, evParts, Int.reduceToNat, Int.reduceLE, Int.reduceLT, Int.reduceEq, Nat.reduceMul, Nat.reduceLeDiff, Nat.reduceLT, ty3, ty4, ty9, ty23, ty5, ty35, ty31, ty38, ty43, ty55, ty52, ty99]
      exact le_sf (by simp [subAny, subA, subL])
    have w1 : IntKind.wrap .i64 ((s.length : Int) - e.len) = (s.length : Int) - e.len := wrap_small (by omega) (by omega)
    have w2 : IntKind.wrap .i64 ((s.length : Int) - e.len + (e.text.length : Int)) = (s.length : Int) - e.len + (e.text.length : Int) := wrap_small (by omega) (by omega)
    by_cases c2 : (4000 : Int) < (s.length : Int) - e.len + (e.text.length : Int)
    · have c2t : ((4000 : Int) < (s.length : Int) - e.len + (e.text.length : Int)) = True := eq_true c2
      rw [applyE_full hb (by unfold Edt.fullB; rw [decide_eq_true (p := 4000 < (s.length : Int) - e.len + e.text.length) c2]; simp)]
      simp -implicitDefEqProofs only [lit_false c1, w1, w2, c2t,
    evx, evy, ofValue, ofCell, List.range, List.range.loop, Array.size, Nat.reduceAdd, Nat.reduceSub, Nat.reduceEqDiff, List.replicate, if_true, if_false, ↓reduceIte, reduceCtorEq, elB, evParts, Int.reduceToNat, Int.reduceLE, Int.reduceLT, Int.reduceEq, Nat.reduceMul, Nat.reduceLeDiff, Nat.reduceLT, ty3, ty4, ty9, ty23, ty5, ty35, ty31, ty38, ty43, ty55, ty52, ty99]
      exact le_sf (by simp [subAny, subA, subL])
    · have c2t : ((4000 : Int) < (s.length : Int) - e.len + (e.text.length : Int)) = False := eq_false c2
      rw [applyE_ok hb (by unfold Edt.fullB; rw [decide_eq_false (p := 4000 < (s.length : Int) - e.len + e.text.length) c2, decide_eq_false (by omega)]; rfl)]
      obtain ⟨n, hn⟩ : ∃ n : Nat, e.at_ = n := ⟨e.at_.toNat, by omega⟩
      obtain ⟨m, hm⟩ : ∃ m : Nat, e.len = m := ⟨e.len.toNat, by omega⟩
      rw [hn] at h3 h4
      rw [hm] at h4
      have e9 : e.done s = s.take n ++ e.text ++ s.drop (n + m) := by unfold Edt.done; rw [hn, hm]; rfl
      rw [e9, hn, hm]
      rw [hm] at w1 w2 c2t
      simp -implicitDefEqProofs only [lit_false c1, w1, w2, c2t,
    evx, evy, ofValue, ofCell, List.range, List.range.loop, Array.size, Nat.reduceAdd, Nat.reduceSub, Nat.reduceEqDiff, List.replicate, if_true, if_false, ↓reduceIte, reduceCtorEq, elB, evParts, Int.reduceToNat, Int.reduceLE, Int.reduceLT, Int.reduceEq, Nat.reduceMul, Nat.reduceLeDiff, Nat.reduceLT, ty3, ty4, ty9, ty23, ty5, ty35, ty31, ty38, ty43, ty55, ty52, ty99]
      refine loop_rule (fun i : Nat => ⟨[.fv (.str s), .any, .any, .ptr 0 0 0 0, .any, .any, .ref 1 1 0 i, .fv (.int .i64 i), .any, .any, .any, .any, .any, .any, .any, .any, .any, .any, .any, .any, .any, .any, .any, .any, .any, .any, .any, .any, .any, .any, .any, .any, .any, .any, .any, .any, .any, .any, .any, .any, .any, .any, .any, .any, .any, .any, .any, .any, .any, .any, .any, .any, .any, .any, .any, .any, .any, .any, .any, .any, .any, .any, .any, .any], [.box [.fv (.int .i64 n), .fv (.int .i64 m), .fv (.str e.text)], .plain 1 ((s.take i).map bRow)], []⟩)
        (fun i => i ≤ n) (fun i => n - i) 0 (Le.trans (le_virt 6 1 rfl) (le_wk (by simp [wk]))) (by simp) (fun i hi st hst => ?_)
      have htl : ((s.take i).map bRow).length = i := by rw [List.length_map, List.length_take]; omega
      by_cases hlt : i < n
      · have hix := idx_str (s := s) (n := i) (by omega)
        have hsn := take_snocB s i (by omega)
        generalize s[i] = c at hix hsn
        simp -implicitDefEqProofs only [lt_true hlt, hix, htl, le_true (Nat.le_refl i), wsucc i (by omega),
    evx, evy, ofValue, ofCell, List.range, List.range.loop, Array.size, Nat.reduceAdd, Nat.reduceSub, Nat.reduceEqDiff, List.replicate, if_true, if_false, ↓reduceIte, reduceCtorEq, elB, evParts, Int.reduceToNat, Int.reduceLE, Int.reduceLT, Int.reduceEq, Nat.reduceMul, Nat.reduceLeDiff, Nat.reduceLT, ty3, ty4, ty9, ty23, ty5, ty35, ty31, ty38, ty43, ty55, ty52, ty99]
        refine ⟨by omega, ?_⟩
        refine back_intro hst (i + 1) (le_pk [0, 3] rfl (by simp) (by simp) ?_ ?_) (by omega) (by omega)
        · simp [subBlk, subAny, subA, mkSub, idx, ← hsn, List.take_take]
        · simp [wk, subAny, subA, mkSub, idx]
      · obtain rfl : i = n := by omega
        have wnm : IntKind.wrap .i64 ((i : Int) + (m : Int)) = ((i + m : Nat) : Int) := wsum i m (by omega)
        have hrow0 : (s.take i).map bRow ++ (e.text.map fun b => [FV.int .u8 b.toNat]) = (s.take i ++ e.text).map bRow := by rw [List.map_append]; rfl
        have hl0 : (s.take i).length = i := by rw [List.length_take]; omega
        simp -implicitDefEqProofs only [lt_false hlt, htl, le_true (Nat.le_refl i), wnm, List.length_map,
    evx, evy, ofValue, ofCell, List.range, List.range.loop, Array.size, Nat.reduceAdd, Nat.reduceSub, Nat.reduceEqDiff, List.replicate, if_true, if_false, ↓reduceIte, reduceCtorEq, elB, evParts, Int.reduceToNat, Int.reduceLE, Int.reduceLT, Int.reduceEq, Nat.reduceMul, Nat.reduceLeDiff, Nat.reduceLT, ty3, ty4, ty9, ty23, ty5, ty35, ty31, ty38, ty43, ty55, ty52, ty99]
        refine ⟨by omega, ?_⟩
        refine loop_rule (fun j : Nat => ⟨[.fv (.str s), .any, .any, .any, .any, .any, .ref 1 1 0 (i + e.text.length + j), .any, .fv (.int .i64 ((i + m + j : Nat) : Int)), .any, .any, .any, .any, .any, .any, .any, .any, .any, .any, .any, .any, .any, .any, .any, .any, .any, .any, .any, .any, .any, .any, .any, .any, .any, .any, .any, .any, .any, .any, .any, .any, .any, .any, .any, .any, .any, .any, .any, .any, .any, .any, .any, .any, .any, .any, .any, .any, .any, .any, .any, .any, .any, .any, .any], [.box [.fv (.int .i64 i), .fv (.int .i64 m), .fv (.str e.text)], .plain 1 ((s.take i ++ e.text ++ (s.drop (i + m)).take j).map bRow)], []⟩)
          (fun j => i + m + j ≤ s.length) (fun j => s.length - (i + m + j)) 0 (le_pk [0, 2] rfl (by simp) (by simp) ?_ ?_) (by omega) (fun j hj st2 hst2 => ?_)
        · simp [subBlk, subAny, subA, mkSub, idx, bRow, List.take_take]
        · simp [wk, subAny, subA, mkSub, idx]
        have hdl : (s.drop (i + m)).length = s.length - (i + m) := List.length_drop
        have htl2 : ((s.take i ++ e.text ++ (s.drop (i + m)).take j).map bRow).length = i + e.text.length + j := by
          rw [List.length_map, List.length_append, List.length_append, hl0, List.length_take, hdl]; omega
        by_cases hlt2 : i + m + j < s.length
        · have hix := idx_str (s := s) (n := i + m + j) hlt2
          have hsn : (s.take i ++ e.text ++ (s.drop (i + m)).take j).map bRow ++ [[.int .u8 s[i + m + j].toNat]] = (s.take i ++ e.text ++ (s.drop (i + m)).take (j + 1)).map bRow := by
            rw [List.take_succ_eq_append_getElem (i := j) (l := s.drop (i + m)) (by omega), List.getElem_drop, ← List.append_assoc, List.map_append (l₂ := [s[i + m + j]])]
            rfl
          generalize s[i + m + j] = c at hix hsn
          have tk2 : List.take (i + e.text.length + j) ((s.take i ++ e.text ++ (s.drop (i + m)).take j).map bRow) = (s.take i ++ e.text ++ (s.drop (i + m)).take j).map bRow := List.take_of_length_le (by omega)
          generalize (s.take i ++ e.text ++ (s.drop (i + m)).take j).map bRow = R at htl2 hsn tk2
          simp -implicitDefEqProofs only [lt_true hlt2, hix, htl2, le_true (Nat.le_refl (i + e.text.length + j)), wsucc (i + m + j) (by omega),
    evx, evy, ofValue, ofCell, List.range, List.range.loop, Array.size, Nat.reduceAdd, Nat.reduceSub, Nat.reduceEqDiff, List.replicate, if_true, if_false, ↓reduceIte, reduceCtorEq, elB, evParts, Int.reduceToNat, Int.reduceLE, Int.reduceLT, Int.reduceEq, Nat.reduceMul, Nat.reduceLeDiff, Nat.reduceLT, ty3, ty4, ty9, ty23, ty5, ty35, ty31, ty38, ty43, ty55, ty52, ty99]
          refine ⟨by omega, ?_⟩
          refine back_intro hst2 (j + 1) (le_pk [0, 3] rfl (by simp) (by simp) ?_ ?_) (by omega) (by omega)
          · rw [← hsn]
            simp [subBlk, subAny, subA, mkSub, idx, tk2]
          · simp [wk, subAny, subA, mkSub, idx]
            omega
        · have hje : j = s.length - (i + m) := by omega
          have e11 : (s.drop (i + m)).take j = s.drop (i + m) := List.take_of_length_le (by omega)
          rw [e11] at htl2 ⊢
          have e12 : ((s.take i ++ e.text ++ s.drop (i + m)).map bRow) = (s.take i ++ e.text ++ s.drop (i + m)).map fun b => [FV.int .u8 b.toNat] := rfl
          generalize s.take i ++ e.text ++ s.drop (i + m) = T at htl2 e12
          simp -implicitDefEqProofs only [lt_false hlt2, convT_bytes,
    evx, evy, ofValue, ofCell, List.range, List.range.loop, Array.size, Nat.reduceAdd, Nat.reduceSub, Nat.reduceEqDiff, List.replicate, if_true, if_false, ↓reduceIte, reduceCtorEq, elB, evParts, Int.reduceToNat, Int.reduceLE, Int.reduceLT, Int.reduceEq, Nat.reduceMul, Nat.reduceLeDiff, Nat.reduceLT, ty3, ty4, ty9, ty23, ty5, ty35, ty31, ty38, ty43, ty55, ty52, ty99]
          refine cvK_eff (eff_bytesq ty99 ty9 ty5 (v := .ref 1 1 0 (i + e.text.length + j)) rfl (ys := T.map fun b => [FV.int .u8 b.toNat]) (src_ref1 rfl (by rw [← htl2, e12])) (rowsBytes_map T)) (by kernel_rfl) ?_
          simp -implicitDefEqProofs only [evx, evy, ofValue, ofCell, List.range, List.range.loop, Array.size, Nat.reduceAdd, Nat.reduceSub, Nat.reduceEqDiff, List.replicate, if_true, if_false, ↓reduceIte, reduceCtorEq, elB, evParts, Int.reduceToNat, Int.reduceLE, Int.reduceLT, Int.reduceEq, Nat.reduceMul, Nat.reduceLeDiff, Nat.reduceLT, ty3, ty4, ty9, ty23, ty5, ty35, ty31, ty38, ty43, ty55, ty52, ty99]
          exact le_sf (by simp [subAny, subA, subL])
end Go.Abs
