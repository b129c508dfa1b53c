/- Lists of numbers: order, sets, what stands in them. -/
import Derived.Test.YtlfocagdjjgmmaaGreatTyTryzq
import Derived.Test.YtlfocagdjjgmmaaGreatDrTryzq
import Derived.Test.YtlfocagdjjgmmaaGreatAbsZ
import Derived.Test.YtlfocagdjjgmmaaGreatSetsM
import Derived.Test.YtlfocagdjjgmmaaGreatTopGq
import Derived.Test.YtlfocagdjjgmmaaGreatAbsU
namespace Go.Abs
open Go.Proofs
set_option linter.unusedVariables false
set_option linter.unusedSimpArgs false
set_option maxRecDepth 100000
set_option maxHeartbeats 1000000
def ints (l : List Int) : List (List FV) := l.map fun n => [.int .i64 n]
theorem ints_length (l : List Int) : (ints l).length = l.length := by simp [ints]
theorem ints_get (l : List Int) (i : Nat) (h : i < l.length) : (ints l)[i]? = some [.int .i64 l[i]] := by simp [ints, h]
def cmpI (x y : Int) : Int := if x < y then -1 else if y < x then 1 else 0
def cmpL : List Int → List Int → Int
  | [], [] => 0
  | [], _ :: _ => -1
  | _ :: _, [] => 1
  | x :: a, y :: b => if cmpI x y = 0 then cmpL a b else cmpI x y
theorem cmpL_step (a b : List Int) (i : Nat) (ha : i < a.length) (hb : i < b.length) : cmpL (a.drop i) (b.drop i) = if cmpI a[i] b[i] = 0 then cmpL (a.drop (i + 1)) (b.drop (i + 1)) else cmpI a[i] b[i] := by
  rw [List.drop_eq_getElem_cons ha, List.drop_eq_getElem_cons hb, cmpL]
theorem ok43 (a b : List Int) (ha : a.length < 4611686018427387904) (hb : b.length < 4611686018427387904) :
    Ok Tryz.prog 43 [.fv (.lst 1 (ints a)), .fv (.lst 1 (ints b))] [] (.ret (.fv (.int .i64 (cmpL a b)))) [] := by
  refine ok_start (k := 44) (n0 := 0) (rs := [.tmp 4]) mix Tryz.func43 rfl rfl rfl rfl rfl rfl rfl ?_
  simp -implicitDefEqProofs only [len_lst 28 ty28 rfl,
    evv, ofValue, ofCell, List.range, List.range.loop, Array.size, Nat.reduceAdd, Nat.reduceSub, Nat.reduceEqDiff, List.replicate, if_true, if_false, ↓reduceIte, reduceCtorEq]
  refine loop_rule (fun i : Nat => ⟨[.fv (.lst 1 (ints a)), .fv (.lst 1 (ints b)), .any, .any, .fv (.int .i64 0), .fv (.int .i64 i), .any, .any, .any, .any, .any, .any, .any, .any, .any, .any, .any, .any, .any, .any, .any, .any, .any, .any, .any, .any, .any, .any, .any, .any, .any, .any, .any, .any, .any, .any, .any, .any, .any, .any, .any, .any, .any, .any, .any, .any], [], []⟩)
    (fun i => i ≤ a.length ∧ i ≤ b.length ∧ cmpL a b = cmpL (a.drop i) (b.drop i)) (fun i => a.length - i) 0 (le_wk (by simp [wk])) (by simp) (fun i hp s hs => ?_)
  obtain ⟨h1, h2, h3⟩ := hp
  have hla := ints_length a
  have hlb := ints_length b
  by_cases hia : i < a.length
  · have hc : ((i : Int) < ((ints a).length : Int)) = True := by simp; omega
    have hra : (ints a)[(i : Int).toNat]? = some [.int .i64 a[i]] := ints_get a i hia
    by_cases hib : i < b.length
    · have hc2 : ((i : Int) < ((ints b).length : Int)) = True := by simp; omega
      have hrb : (ints b)[(i : Int).toNat]? = some [.int .i64 b[i]] := ints_get b i hib
      have hw : IntKind.wrap .i64 ((i : Int) + 1) = ((i + 1 : Nat) : Int) := wrap_small (by omega) (by omega)
      simp -implicitDefEqProofs only [awp_draw _ _ Tryzdr43_4, awp_draw _ _ Tryzdr43_6, len_lst 28 ty28 rfl, hc, hc2, hw, idx_lst 28 ty28 rfl ty3 1 rfl (ints a) i _ hra (by omega), ld_fptr 3 ty3 rfl, idx_lst 28 ty28 rfl ty3 1 rfl (ints b) i _ hrb (by omega),
    evv, ofValue, ofCell, List.range, List.range.loop, Array.size, Nat.reduceAdd, Nat.reduceSub, Nat.reduceEqDiff, List.replicate, if_true, if_false, ↓reduceIte, reduceCtorEq]
      have hs3 := cmpL_step a b i hia hib
      by_cases hz : a[i] < b[i]
      · have hk : cmpI a[i] b[i] = -1 := by simp [cmpI, hz]
        rw [if_pos hz, h3, hs3, hk]
        exact Le.refl _ _
      · rw [if_neg hz]
        by_cases hy : b[i] < a[i]
        · have hk : cmpI a[i] b[i] = 1 := by simp [cmpI, hz, hy]
          rw [if_pos hy, h3, hs3, hk]
          exact Le.refl _ _
        · have hk : cmpI a[i] b[i] = 0 := by simp [cmpI, hz, hy]
          rw [if_neg hy]
          exact back_intro hs (i + 1) (le_wk (by simp [wk])) ⟨by omega, by omega, by rw [h3, hs3, if_pos hk]⟩ (by omega)
    · have hc2 : ((i : Int) < ((ints b).length : Int)) = False := by simp; omega
      have hc3 : (((ints a).length : Int) < ((ints b).length : Int)) = False := by simp; omega
      have hc4 : (((ints b).length : Int) < ((ints a).length : Int)) = True := by simp; omega
      simp -implicitDefEqProofs only [len_lst 28 ty28 rfl, hc, hc2, hc3, hc4,
    evv, ofValue, ofCell, List.range, List.range.loop, Array.size, Nat.reduceAdd, Nat.reduceSub, Nat.reduceEqDiff, List.replicate, if_true, if_false, ↓reduceIte, reduceCtorEq]
      rw [h3, List.drop_eq_getElem_cons hia, List.drop_eq_nil_of_le (Nat.le_of_not_lt hib)]
      exact Le.refl _ _
  · have hc : ((i : Int) < ((ints a).length : Int)) = False := by simp; omega
    have hc4 : (((ints b).length : Int) < ((ints a).length : Int)) = False := by simp; omega
    rw [List.drop_eq_nil_of_le (Nat.le_of_not_lt hia)] at h3
    by_cases hib : i < b.length
    · have hc2 : (((ints a).length : Int) < ((ints b).length : Int)) = True := by simp; omega
      simp -implicitDefEqProofs only [len_lst 28 ty28 rfl, hc, hc2,
    evv, ofValue, ofCell, List.range, List.range.loop, Array.size, Nat.reduceAdd, Nat.reduceSub, Nat.reduceEqDiff, List.replicate, if_true, if_false, ↓reduceIte, reduceCtorEq]
      rw [h3, List.drop_eq_getElem_cons hib]
      exact Le.refl _ _
    · have hc2 : (((ints a).length : Int) < ((ints b).length : Int)) = False := by simp; omega
      simp -implicitDefEqProofs only [len_lst 28 ty28 rfl, hc, hc2, hc4,
    evv, ofValue, ofCell, List.range, List.range.loop, Array.size, Nat.reduceAdd, Nat.reduceSub, Nat.reduceEqDiff, List.replicate, if_true, if_false, ↓reduceIte, reduceCtorEq]
      rw [h3, List.drop_eq_nil_of_le (Nat.le_of_not_lt hib)]
      exact Le.refl _ _
theorem ok14 (a b : List Int) (ha : a.length < 4611686018427387904) (hb : b.length < 4611686018427387904) :
    Ok Tryz.prog 14 [.fv (.lst 1 (ints a)), .fv (.lst 1 (ints b))] [] (.ret (.fv (.bool (decide (cmpL a b = 0))))) [] := by
  refine ok_start (k := 7) (n0 := 0) (rs := [.tmp 4]) mix Tryz.func14 rfl rfl rfl rfl rfl rfl rfl ?_
  simp -implicitDefEqProofs only [evv, ofValue, ofCell, List.range, List.range.loop, Array.size, Nat.reduceAdd, Nat.reduceSub, Nat.reduceEqDiff, List.replicate, if_true, if_false, ↓reduceIte, reduceCtorEq]
  refine callK_ret _ _ _ _ (call_pure (ok43 a b ha hb) (fun _ => rfl) (fun _ => rfl)) (ok_nil _ _) ?_
  simp -implicitDefEqProofs only [evv, ofValue, ofCell, List.range, List.range.loop, Array.size, Nat.reduceAdd, Nat.reduceSub, Nat.reduceEqDiff, List.replicate, if_true, if_false, ↓reduceIte, reduceCtorEq]
  exact Le.refl _ _
theorem el3 : elOk ⟨.int .i64, 1, 8, some [.int .i64 0]⟩ := by simp [elOk]
theorem ints_append (a b : List Int) : ints (a ++ b) = ints a ++ ints b := by simp [ints]
end Go.Abs
