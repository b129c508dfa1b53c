/- Sorting numbers: the library's contract lifted. -/
import Derived.Test.YtnhghoonlmoinaaGreatTyTryzi
import Derived.Test.YtnhghoonlmoinaaGreatDrTryzi
import Derived.Test.YtnhghoonlmoinaaGreatAbsZ
import Derived.Test.YtnhghoonlmoinaaGreatTopA
import Derived.Test.YtnhghoonlmoinaaGreatTopGi
import Derived.Test.YtnhghoonlmoinaaGreatCkLayi
import Derived.Test.YtnhghoonlmoinaaGreatAbsU
namespace Go.Abs
set_option linter.unusedSectionVars false
variable [Kn]
open Go.Proofs
set_option linter.unusedVariables false
set_option linter.unusedSimpArgs false
set_option maxRecDepth 100000
set_option maxHeartbeats 1000000
end Go.Abs
/- Lists of numbers: the library's and the program's. -/
namespace Go.Abs
set_option linter.unusedSectionVars false
variable [Kn]
open Go.Proofs
set_option linter.unusedVariables false
set_option linter.unusedSimpArgs false
set_option maxRecDepth 100000
set_option maxHeartbeats 1000000
theorem wrapn (n : Nat) (h : n < 4611686018427387904) : IntKind.wrap .i64 (n : Int) = n := wrap_small (by omega) (by omega)
theorem ok73 (n : Nat) (hn : n < 1048576) : Ok Tryz.prog 73 [.fv .nils,.fv (.int .i64 n)] [] (.ret (.ref 0 1 0 0)) [.plain 1 (List.replicate n [.int .i64 0])] := by
 refine ok_start (k := 25) (n0 := 0) (rs := [.tmp 4]) mix Tryz.func73 rfl rfl rfl rfl rfl rfl rfl ?_
 have hc : ((n : Int) < 0) = False := by simp
 have hw0 : IntKind.wrap .i64 ((0 : Int) - 0) = 0 := by rfl
 have hw1 : IntKind.wrap .i64 ((n : Int) - 0) = n := by rw [Int.sub_zero]; exact wrapn n (by omega)
 by_cases h0 : n = 0
 ·subst h0
  have hc2 : ((0 : Int) < ((0 : Nat) : Int)) = False := by simp
  simp -implicitDefEqProofs only [len_nils 28 ty28 rfl,cap_nils ty28 rfl,hc,hw0,hw1,hc2,
  evv,ofValue,ofCell,List.range,List.range.loop,Array.size,Nat.reduceAdd,Nat.reduceSub,Nat.reduceEqDiff,List.replicate,if_true,if_false,↓reduceIte,reduceCtorEq]
  exact le_virt 0 1 rfl
 ·have hc2 : ((0 : Int) < (n : Int)) = True := by simp; omega
  simp -implicitDefEqProofs only [len_nils 28 ty28 rfl,cap_nils ty28 rfl,hc,hw0,hw1,hc2,
  evv,ofValue,ofCell,List.range,List.range.loop,Array.size,Nat.reduceAdd,Nat.reduceSub,Nat.reduceEqDiff,List.replicate,if_true,if_false,↓reduceIte,reduceCtorEq]
  rw [sl_val ty28 rfl ty3 (v := .fv .nils) rfl (n := 0) (lo := 0) (hi := 0) rfl rfl rfl rfl]
  simp -implicitDefEqProofs only [len_nils 28 ty28 rfl,cap_nils ty28 rfl,
  evv,ofValue,ofCell,List.range,List.range.loop,Array.size,Nat.reduceAdd,Nat.reduceSub,Nat.reduceEqDiff,List.replicate,if_true,if_false,↓reduceIte,reduceCtorEq]
  rw [ap_zeros ty28 rfl ty3 rfl ty3 el3 rfl (by omega) (by simp; omega)]
  simp -implicitDefEqProofs only [len_nils 28 ty28 rfl,
  evv,ofValue,ofCell,List.range,List.range.loop,Array.size,Nat.reduceAdd,Nat.reduceSub,Nat.reduceEqDiff,List.replicate,if_true,if_false,↓reduceIte,reduceCtorEq]
  rw [sl_val ty28 rfl ty3 (v := .ref 0 1 0 n) rfl (n := n) (lo := 0) (hi := 0) rfl rfl rfl rfl]
  simp -implicitDefEqProofs only [evv,ofValue,ofCell,List.range,List.range.loop,Array.size,Nat.reduceAdd,Nat.reduceSub,Nat.reduceEqDiff,List.replicate,if_true,if_false,↓reduceIte,reduceCtorEq]
  exact Le.refl _ _
def rowsOf (ss : List (List Int)) : List (List FV) := ss.map fun l => [.lst 1 (ints l)]
def total (ss : List (List Int)) : Nat := (ss.map List.length).sum
theorem rowsOf_length (ss : List (List Int)) : (rowsOf ss).length = ss.length := by simp [rowsOf]
theorem rowsOf_get (ss : List (List Int)) (i : Nat) (h : i < ss.length) : (rowsOf ss)[i]? = some [.lst 1 (ints ss[i])] := by simp [rowsOf,h]
theorem total_take (ss : List (List Int)) (i : Nat) (h : i < ss.length) : total (ss.take (i + 1)) = total (ss.take i) + ss[i].length := by
 unfold total
 rw [List.take_succ_eq_append_getElem h,List.map_append,List.sum_append]
 simp
theorem total_flatten (ss : List (List Int)) : total ss = ss.flatten.length := by simp [total,List.length_flatten]
theorem total_le (ss : List (List Int)) (i : Nat) : total (ss.take i) ≤ total ss := by
 have h : total ss = total (ss.take i) + total (ss.drop i) := by
  unfold total
  rw [← List.sum_append,← List.map_append,List.take_append_drop]
 omega
theorem ok43 (ss : List (List Int)) (hs : ss.length < 1048576) (ht : total ss < 1048576) : Ok Tryz.prog 43 [.fv (.lst 1 (rowsOf ss))] [] (.ret (.ref 0 1 0 ss.flatten.length)) [.plain 1 (ints ss.flatten)] := by
 refine ok_start (k := 35) (n0 := 0) (rs := [.tmp 2]) mix Tryz.func43 rfl rfl rfl rfl rfl rfl rfl ?_
 simp -implicitDefEqProofs only [len_lst 85 ty85 rfl,
  evv,ofValue,ofCell,List.range,List.range.loop,Array.size,Nat.reduceAdd,Nat.reduceSub,Nat.reduceEqDiff,List.replicate,if_true,if_false,↓reduceIte,reduceCtorEq]
 refine loop_rule (fun i : Nat => ⟨[.fv (.lst 1 (rowsOf ss)),.any,.fv .nils,.fv (.int .i64 (total (ss.take i))),.any,.any,.any,.any,.any,.fv (.lst 1 (rowsOf ss)),.fv (.int .i64 (rowsOf ss).length),.fv (.int .i64 i),.any,.any,.any,.any,.any,.any,.any,.any,.any,.any,.any,.any,.any,.any,.any,.any,.any,.any,.any,.any,.any,.any,.any,.any],[],[]⟩)
  (fun i => i ≤ ss.length) (fun i => ss.length - i) 0 (le_wk (by simp [wk,total])) (by simp) (fun i hp s hrk => ?_)
 have hl := rowsOf_length ss
 by_cases hi : i < ss.length
 ·have hc : ((i : Int) < ((rowsOf ss).length : Int)) = True := by simp; omega
  have hr : (rowsOf ss)[(i : Int).toNat]? = some [.lst 1 (ints ss[i])] := rowsOf_get ss i hi
  have h1 := total_take ss i hi
  have h2 := total_le ss (i + 1)
  have h3 := ints_length ss[i]
  have hw : IntKind.wrap .i64 ((total (ss.take i) : Int) + ((ints ss[i]).length : Int)) = (total (ss.take (i + 1)) : Int) := by rw [wrap_small (by omega) (by omega)]; omega
  have hw2 : IntKind.wrap .i64 ((i : Int) + 1) = ((i + 1 : Nat) : Int) := wrap_small (by omega) (by omega)
  have hneg : ((total (ss.take (i + 1)) : Int) < 0) = False := by simp
  simp -implicitDefEqProofs only [len_lst 28 ty28 rfl,hc,idx_lst 85 ty85 rfl ty28 1 rfl (rowsOf ss) i _ hr (by omega),ld_fptr 28 ty28 rfl,hw,hneg,hw2,
  evv,ofValue,ofCell,List.range,List.range.loop,Array.size,Nat.reduceAdd,Nat.reduceSub,Nat.reduceEqDiff,List.replicate,if_true,if_false,↓reduceIte,reduceCtorEq]
  exact back_intro hrk (i + 1) (le_wk (by simp [wk])) (by omega) (by omega)
 ·have hie : i = ss.length := by omega
  subst hie
  have hc : ((ss.length : Int) < ((rowsOf ss).length : Int)) = False := by simp; omega
  simp -implicitDefEqProofs only [hc,len_lst 85 ty85 rfl,List.take_length,
  evv,ofValue,ofCell,List.range,List.range.loop,Array.size,Nat.reduceAdd,Nat.reduceSub,Nat.reduceEqDiff,List.replicate,if_true,if_false,↓reduceIte,reduceCtorEq]
  refine callK_ret _ _ _ _ (call_lent [] (ok73 (total ss) ht) rfl rfl (by simp) (by simp)) (ok_nil _ _) ?_
  simp -implicitDefEqProofs only [subAny,subA,subL,backSub,back,putBack,subBlk,Option.getD_some,List.map_cons,List.map_nil,Nat.not_lt_zero,Nat.sub_zero,Nat.add_zero,List.length_map,len_lst 85 ty85 rfl,
  evv,ofValue,ofCell,List.range,List.range.loop,Array.size,Nat.reduceAdd,Nat.reduceSub,Nat.reduceEqDiff,List.replicate,if_true,if_false,↓reduceIte,reduceCtorEq]
  refine loop_rule (fun p : Nat × List (List FV) => ⟨[.fv (.lst 1 (rowsOf ss)),.any,.any,.any,.any,.any,.ref 0 1 0 (total (ss.take p.1)),.any,.any,.any,.any,.any,.any,.any,.any,.any,.any,.any,.any,.any,.any,.any,.any,.any,.any,.fv (.lst 1 (rowsOf ss)),.fv (.int .i64 (rowsOf ss).length),.fv (.int .i64 p.1),.any,.any,.any,.any,.any,.any,.any,.any],[.plain 1 p.2],[]⟩)
   (fun p => p.1 ≤ ss.length ∧ (p.1 = 0 ∨ p.2 = ints (ss.take p.1).flatten) ∧ (p.1 = 0 → p.2.length = total ss)) (fun p => ss.length - p.1) (0,List.replicate (total ss) [.int .i64 0]) (le_wk (by simp [wk,total])) (by simp) (fun p hp s hrk => ?_)
  obtain ⟨i,rows⟩ := p
  obtain ⟨h1,h2,h3⟩ := hp
  simp only at h1 h2 h3 hrk ⊢
  by_cases hi : i < ss.length
  ·have hc : ((i : Int) < ((rowsOf ss).length : Int)) = True := by simp; omega
   have hr : (rowsOf ss)[(i : Int).toNat]? = some [.lst 1 (ints ss[i])] := rowsOf_get ss i hi
   have hw2 : IntKind.wrap .i64 ((i : Int) + 1) = ((i + 1 : Nat) : Int) := wrap_small (by omega) (by omega)
   have g1 := total_take ss i hi
   have g2 := total_le ss (i + 1)
   have g3 := ints_length ss[i]
   have g4 : 0 + total (ss.take i) ≤ rows.length := by
    rcases h2 with h2 | h2
    ·rw [h3 h2]; have := total_le ss i; omega
    ·rw [h2,ints_length,← total_flatten]; omega
   have g5 : (rows.drop 0).take (total (ss.take i)) ++ ints ss[i] = ints (ss.take (i + 1)).flatten := by
    rw [List.take_succ_eq_append_getElem hi,List.flatten_append,List.drop_zero]
    rcases h2 with h2 | h2
    ·subst h2; simp [total,ints]
    ·rw [h2,total_flatten,List.take_of_length_le (by rw [ints_length]; omega)]; simp [ints]
   simp -implicitDefEqProofs only [hc,idx_lst 85 ty85 rfl ty28 1 rfl (rowsOf ss) i _ hr (by omega),ld_fptr 28 ty28 rfl,
  evv,ofValue,ofCell,List.range,List.range.loop,Array.size,Nat.reduceAdd,Nat.reduceSub,Nat.reduceEqDiff,List.replicate,if_true,if_false,↓reduceIte,reduceCtorEq]
   rw [ap_rows ty28 rfl ty28 ty3 el3 (by simp) rfl (src_lst rfl _ _) (app_ref (ie := ⟨.int .i64,1,8,some [.int .i64 0]⟩) 0 0 _ rows _ rfl g4 (by simp; omega)),g5]
   simp -implicitDefEqProofs only [hw2,
  evv,ofValue,ofCell,List.range,List.range.loop,Array.size,Nat.reduceAdd,Nat.reduceSub,Nat.reduceEqDiff,List.replicate,if_true,if_false,↓reduceIte,reduceCtorEq]
   refine back_intro hrk (i + 1,ints (ss.take (i + 1)).flatten) (le_sub_wk [1] [] rfl (by simp) (by simp) (by simp) (by simp) ?_ ?_ rfl) ⟨by omega,.inr rfl,fun h => by omega⟩ (by simp only; omega)
   ·simp [subSt,subAny,subA,mkSub,idx,wk,g1,g3]
   ·simp [subSt,mkSub,subBlk]
  ·have hie : i = ss.length := by omega
   subst hie
   have hc : ((ss.length : Int) < ((rowsOf ss).length : Int)) = False := by simp; omega
   have hrows : rows = ints ss.flatten := by
    rcases h2 with h2 | h2
    ·have : ss = [] := List.eq_nil_of_length_eq_zero h2
     subst this
     have := h3 rfl
     simp [total] at this
     simp [this,ints]
    ·simpa using h2
   simp -implicitDefEqProofs only [hc,List.take_length,hrows,total_flatten,
  evv,ofValue,ofCell,List.range,List.range.loop,Array.size,Nat.reduceAdd,Nat.reduceSub,Nat.reduceEqDiff,List.replicate,if_true,if_false,↓reduceIte,reduceCtorEq]
   exact Le.refl _ _
end Go.Abs
