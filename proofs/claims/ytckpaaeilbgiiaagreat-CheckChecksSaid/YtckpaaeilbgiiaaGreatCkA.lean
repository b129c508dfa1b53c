/- Words: bytes that stand in a text; letters, blanks. -/
import Derived.Test.YtckpaaeilbgiiaaGreatTyTryz
import Derived.Test.YtckpaaeilbgiiaaGreatDrTryz
import Derived.Test.YtckpaaeilbgiiaaGreatAbsTree
import Derived.Test.YtckpaaeilbgiiaaGreatTopG
import Derived.Test.YtckpaaeilbgiiaaGreatTopA
import Derived.Test.YtckpaaeilbgiiaaGreatTopW
namespace Go.Abs
open Go.Proofs
set_option linter.unusedVariables false
set_option linter.unusedSimpArgs false
set_option maxRecDepth 100000
set_option maxHeartbeats 1000000
def isB (o : Option (AOut × List Blk)) (b : Bool) : Bool := match o with
  | some (.ret (.fv (.bool c)), []) => c == b
  | _ => false
theorem isB_eq {o : Option (AOut × List Blk)} {b : Bool} (h : isB o b = true) : o = some (.ret (.fv (.bool b)), []) := by
  unfold isB at h
  split at h
  · simp at h; subst h; rfl
  · cases h
/-- A function of one byte, tried at each. -/
theorem of_bytes {f : FuncId} {r : UInt8 → Bool} (h : ((List.range 256).all fun n => isB (goFn Tryz.prog exts hooks 1000 60 f [.fv (.int .u8 (n : Int))] []) (r (UInt8.ofNat n))) = true) (c : UInt8) :
    Ok Tryz.prog f [.fv (.int .u8 (c.toNat : Int))] [] (.ret (.fv (.bool (r c)))) [] := by
  have h1 := List.all_eq_true.1 h c.toNat (List.mem_range.2 (UInt8.toNat_lt c))
  have h2 := isB_eq h1
  rw [show UInt8.ofNat c.toNat = c from by simp] at h2
  exact reckoned h2
theorem ok83 (c : UInt8) : Ok Tryz.prog 83 [.fv (.int .u8 (c.toNat : Int))] [] (.ret (.fv (.bool (letterB c)))) [] := of_bytes (by kernel_rfl) c
theorem ok81 (c : UInt8) : Ok Tryz.prog 81 [.fv (.int .u8 (c.toNat : Int))] [] (.ret (.fv (.bool (letterB c)))) [] := of_bytes (by kernel_rfl) c
theorem ok96 (s : Bs) (c : UInt8) : Ok Tryz.prog 96 [.fv (.str s), .fv (.int .u8 (c.toNat : Int))] [] (.ret (.fv (.int .i64 (idxB c.toNat s 0)))) [] := by
  refine ok_start (k := 6) (n0 := 0) (rs := [.tmp 4]) mix Tryz.func96 rfl rfl rfl rfl rfl rfl rfl ?_
  simp -implicitDefEqProofs only [evx, evy, ofValue, ofCell, List.range, List.range.loop, Array.size, Nat.reduceAdd, Nat.reduceSub, Nat.reduceEqDiff, List.replicate, if_true, if_false, ↓reduceIte, reduceCtorEq, elB, evParts, Int.reduceToNat, Int.reduceLE, Int.reduceLT, Int.reduceEq, Nat.reduceMul, Nat.reduceLeDiff, Nat.reduceLT, ty3, ty4, ty9, ty5]
  refine callK_ret _ _ _ _ (ext_call (exts_ok 103 .idxByte rfl) (v := .fv (.int .i64 (idxB c.toNat s 0))) (h' := []) (W := []) ?_) (ok_nil _ _) ?_
  · have := UInt8.toNat_lt c
    simp only [extF]
    rw [if_pos (by omega)]
    simp
  simp -implicitDefEqProofs only [evx, evy, ofValue, ofCell, List.range, List.range.loop, Array.size, Nat.reduceAdd, Nat.reduceSub, Nat.reduceEqDiff, List.replicate, if_true, if_false, ↓reduceIte, reduceCtorEq, elB, evParts, Int.reduceToNat, Int.reduceLE, Int.reduceLT, Int.reduceEq, Nat.reduceMul, Nat.reduceLeDiff, Nat.reduceLT, ty3, ty4, ty9, ty5]
  exact le_flat rfl
theorem ok82 (s : Bs) (c : UInt8) : Ok Tryz.prog 82 [.fv (.str s), .fv (.int .u8 (c.toNat : Int))] [] (.ret (.fv (.int .i64 (idxB c.toNat s 0)))) [] := by
  refine ok_start (k := 6) (n0 := 0) (rs := [.tmp 4]) mix Tryz.func82 rfl rfl rfl rfl rfl rfl rfl ?_
  simp -implicitDefEqProofs only [evx, evy, ofValue, ofCell, List.range, List.range.loop, Array.size, Nat.reduceAdd, Nat.reduceSub, Nat.reduceEqDiff, List.replicate, if_true, if_false, ↓reduceIte, reduceCtorEq, elB, evParts, Int.reduceToNat, Int.reduceLE, Int.reduceLT, Int.reduceEq, Nat.reduceMul, Nat.reduceLeDiff, Nat.reduceLT, ty3, ty4, ty9, ty5]
  refine callK_ret _ _ _ _ (call_pure (ok96 s c) (fun _ => rfl) (fun _ => rfl)) (ok_nil _ _) ?_
  simp -implicitDefEqProofs only [evx, evy, ofValue, ofCell, List.range, List.range.loop, Array.size, Nat.reduceAdd, Nat.reduceSub, Nat.reduceEqDiff, List.replicate, if_true, if_false, ↓reduceIte, reduceCtorEq, elB, evParts, Int.reduceToNat, Int.reduceLE, Int.reduceLT, Int.reduceEq, Nat.reduceMul, Nat.reduceLeDiff, Nat.reduceLT, ty3, ty4, ty9, ty5]
  exact le_flat rfl
theorem drop_cons {s : Bs} {n : Nat} (h : n < s.length) : s.drop n = s[n] :: s.drop (n + 1) := List.drop_eq_getElem_cons h
theorem idx_str {s : Bs} {n : Nat} (h : n < s.length) : s[n]? = some s[n] := List.getElem?_eq_getElem h
theorem blank_ix (c : UInt8) : (0 ≤ idxB c.toNat [9, 10, 13, 32] 0) = (isBl c = true) := by
  have h : ∀ n, n < 256 → decide (0 ≤ idxB n [9, 10, 13, 32] 0) = (n == 9 || n == 10 || n == 13 || n == 32) := fun n hn => by
    have : ((List.range 256).all fun n => decide (0 ≤ idxB n [9, 10, 13, 32] 0) == (n == 9 || n == 10 || n == 13 || n == 32)) = true := by kernel_rfl
    simpa using List.all_eq_true.1 this n (List.mem_range.2 hn)
  have := h c.toNat (UInt8.toNat_lt c)
  unfold isBl
  rw [← this]
  simp
theorem ok49 (s : Bs) (hs : s.length ≤ 4000) : Ok Tryz.prog 49 [.fv (.str s)] [] (.ret (.fv (.int .i64 (blankN s)))) [] := by
  refine ok_start (k := 34) (n0 := 0) (rs := [.tmp 2]) mix Tryz.func49 rfl rfl rfl rfl rfl rfl rfl ?_
  simp -implicitDefEqProofs only [evx, evy, ofValue, ofCell, List.range, List.range.loop, Array.size, Nat.reduceAdd, Nat.reduceSub, Nat.reduceEqDiff, List.replicate, if_true, if_false, ↓reduceIte, reduceCtorEq, elB, evParts, Int.reduceToNat, Int.reduceLE, Int.reduceLT, Int.reduceEq, Nat.reduceMul, Nat.reduceLeDiff, Nat.reduceLT, ty3, ty4, ty9, ty5]
  refine loop_rule (fun n : Nat => ⟨[.fv (.str s), .any, .any, .fv (.int .i64 n), .any, .any, .any, .any, .any, .any, .any, .any, .any, .any, .any, .any, .any, .any, .any, .any, .any, .any, .any, .any, .any, .any, .any, .any, .any, .any, .any, .any, .any, .any, .any], [], []⟩)
    (fun n => n ≤ s.length ∧ blankN s = n + blankG false (s.drop n)) (fun n => s.length - n) 0 (le_wk (by simp [wk])) (by simp [blankN]) (fun n hn st hst => ?_)
  obtain ⟨hn, hb⟩ := hn
  by_cases hlt : n < s.length
  · have hix := idx_str hlt
    rw [drop_cons hlt] at hb
    have h22 := ok82 [9, 10, 13, 32] s[n]
    have hbl := blank_ix s[n]
    generalize hc : s[n] = c at hix hb h22 hbl
    simp -implicitDefEqProofs only [lt_true hlt, hix,
    evx, evy, ofValue, ofCell, List.range, List.range.loop, Array.size, Nat.reduceAdd, Nat.reduceSub, Nat.reduceEqDiff, List.replicate, if_true, if_false, ↓reduceIte, reduceCtorEq, elB, evParts, Int.reduceToNat, Int.reduceLE, Int.reduceLT, Int.reduceEq, Nat.reduceMul, Nat.reduceLeDiff, Nat.reduceLT, ty3, ty4, ty9, ty5]
    refine callK_ret _ _ _ _ (call_pure (h22) (fun _ => rfl) (fun _ => rfl)) (ok_nil _ _) ?_
    cases hisb : isBl c with
    | true =>
      have hbt : (0 ≤ idxB c.toNat [9, 10, 13, 32] 0) = True := by rw [hbl]; simp [hisb]
      simp -implicitDefEqProofs only [hbt, wsucc n (by omega),
    evx, evy, ofValue, ofCell, List.range, List.range.loop, Array.size, Nat.reduceAdd, Nat.reduceSub, Nat.reduceEqDiff, List.replicate, if_true, if_false, ↓reduceIte, reduceCtorEq, elB, evParts, Int.reduceToNat, Int.reduceLE, Int.reduceLT, Int.reduceEq, Nat.reduceMul, Nat.reduceLeDiff, Nat.reduceLT, ty3, ty4, ty9, ty5]
      refine back_intro hst (n + 1) (le_none (by simp [wk]) rfl) ⟨by omega, ?_⟩ (by omega)
      rw [hb, blankG, if_pos hisb]; omega
    | false =>
      have hbf : (0 ≤ idxB c.toNat [9, 10, 13, 32] 0) = False := by rw [hbl]; simp [hisb]
      by_cases h35 : c.toNat = 35
      · have h35t : ((c.toNat : Int) = 35) = True := by simpa using (by omega : (c.toNat : Int) = 35)
        simp -implicitDefEqProofs only [hbf, hix, h35t,
    evx, evy, ofValue, ofCell, List.range, List.range.loop, Array.size, Nat.reduceAdd, Nat.reduceSub, Nat.reduceEqDiff, List.replicate, if_true, if_false, ↓reduceIte, reduceCtorEq, elB, evParts, Int.reduceToNat, Int.reduceLE, Int.reduceLT, Int.reduceEq, Nat.reduceMul, Nat.reduceLeDiff, Nat.reduceLT, ty3, ty4, ty9, ty5]
        have hb2 : blankN s = n + 1 + blankG true (s.drop (n + 1)) := by
          rw [hb, blankG, if_neg (by simp [hisb]), if_pos (by simpa using h35)]; omega
        refine loop_rule (fun k : Nat => ⟨[.fv (.str s), .any, .any, .fv (.int .i64 k), .any, .any, .any, .any, .any, .any, .any, .any, .any, .any, .any, .any, .any, .any, .any, .any, .any, .any, .any, .any, .any, .any, .any, .any, .any, .any, .any, .any, .any, .any, .any], [], []⟩)
          (fun k => k ≤ s.length ∧ n ≤ k ∧ (n < k → blankN s = k + blankG true (s.drop k))) (fun k => s.length - k) n (le_none (by simp [wk]) rfl) ⟨by omega, by omega, by omega⟩ (fun k hk st2 hst2 => ?_)
        obtain ⟨hk, hnk, hkb⟩ := hk
        by_cases hklt : k < s.length
        · have hix2 := idx_str hklt
          have hdc := drop_cons hklt
          have hkn : k = n → s[k] = c := fun e => by subst e; exact hc
          generalize s[k] = d at hix2 hdc hkn
          by_cases h10 : d.toNat = 10
          · have h10t : ((d.toNat : Int) ≠ 10) = False := by simpa using (by omega : (d.toNat : Int) = 10)
            have hlt2 : n < k := by
              rcases Nat.lt_or_ge n k with h | h
              · exact h
              · have := hkn (by omega); subst this; omega
            simp -implicitDefEqProofs only [lt_true hklt, hix2, h10t,
    evx, evy, ofValue, ofCell, List.range, List.range.loop, Array.size, Nat.reduceAdd, Nat.reduceSub, Nat.reduceEqDiff, List.replicate, if_true, if_false, ↓reduceIte, reduceCtorEq, elB, evParts, Int.reduceToNat, Int.reduceLE, Int.reduceLT, Int.reduceEq, Nat.reduceMul, Nat.reduceLeDiff, Nat.reduceLT, ty3, ty4, ty9, ty5]
            refine back_intro hst k (le_none (by simp [wk]) rfl) ⟨by omega, ?_⟩ (by omega)
            rw [hkb hlt2, hdc, blankG, blankG, if_pos (by simpa using h10), if_pos (by simp [isBl, h10])]
          · have h10t : ((d.toNat : Int) ≠ 10) = True := by simpa using (by omega : ¬ (d.toNat : Int) = 10)
            simp -implicitDefEqProofs only [lt_true hklt, hix2, h10t, wsucc k (by omega),
    evx, evy, ofValue, ofCell, List.range, List.range.loop, Array.size, Nat.reduceAdd, Nat.reduceSub, Nat.reduceEqDiff, List.replicate, if_true, if_false, ↓reduceIte, reduceCtorEq, elB, evParts, Int.reduceToNat, Int.reduceLE, Int.reduceLT, Int.reduceEq, Nat.reduceMul, Nat.reduceLeDiff, Nat.reduceLT, ty3, ty4, ty9, ty5]
            refine back_intro hst2 (k + 1) (le_none (by simp [wk]) rfl) ⟨by omega, by omega, fun _ => ?_⟩ (by omega)
            rcases Nat.lt_or_ge n k with h | h
            · rw [hkb h, hdc, blankG, if_neg (by simpa using h10)]; omega
            · obtain rfl : k = n := by omega
              exact hb2
        · obtain rfl : k = s.length := by omega
          simp -implicitDefEqProofs only [lt_false hklt,
    evx, evy, ofValue, ofCell, List.range, List.range.loop, Array.size, Nat.reduceAdd, Nat.reduceSub, Nat.reduceEqDiff, List.replicate, if_true, if_false, ↓reduceIte, reduceCtorEq, elB, evParts, Int.reduceToNat, Int.reduceLE, Int.reduceLT, Int.reduceEq, Nat.reduceMul, Nat.reduceLeDiff, Nat.reduceLT, ty3, ty4, ty9, ty5]
          refine back_intro hst s.length (le_none (by simp [wk]) rfl) ⟨by omega, ?_⟩ (by omega)
          rw [hkb hlt]
          simp [blankG]
      · have h35f : ((c.toNat : Int) = 35) = False := by simpa using (by omega : ¬ (c.toNat : Int) = 35)
        simp -implicitDefEqProofs only [hbf, hix, h35f,
    evx, evy, ofValue, ofCell, List.range, List.range.loop, Array.size, Nat.reduceAdd, Nat.reduceSub, Nat.reduceEqDiff, List.replicate, if_true, if_false, ↓reduceIte, reduceCtorEq, elB, evParts, Int.reduceToNat, Int.reduceLE, Int.reduceLT, Int.reduceEq, Nat.reduceMul, Nat.reduceLeDiff, Nat.reduceLT, ty3, ty4, ty9, ty5]
        rw [hb, blankG, if_neg (by simp [hisb]), if_neg (by simpa using h35)]
        exact le_flat rfl
  · obtain rfl : n = s.length := by omega
    simp -implicitDefEqProofs only [lt_false hlt,
    evx, evy, ofValue, ofCell, List.range, List.range.loop, Array.size, Nat.reduceAdd, Nat.reduceSub, Nat.reduceEqDiff, List.replicate, if_true, if_false, ↓reduceIte, reduceCtorEq, elB, evParts, Int.reduceToNat, Int.reduceLE, Int.reduceLT, Int.reduceEq, Nat.reduceMul, Nat.reduceLeDiff, Nat.reduceLT, ty3, ty4, ty9, ty5]
    rw [hb]
    simp [blankG]
    exact le_flat rfl
end Go.Abs
