/- Right rules: the program's answer and the document's. -/
import Derived.Test.YtmnbljfbdiodbaaTyTrys
import Derived.Test.YtmnbljfbdiodbaaDrTrys
import Derived.Test.YtmnbljfbdiodbaaAbsZ
import Derived.Test.YtmnbljfbdiodbaaTopWs
namespace Go.Abs
open Go.Proofs
set_option linter.unusedVariables false
set_option linter.unusedSimpArgs false
set_option maxRecDepth 100000
set_option maxHeartbeats 1000000
theorem ok31 (op : Int) : Ok Try.prog 31 [.fv (.int .i64 op)] [] (.ret (.fv (.int .i64 (wantsI op)))) [] := by
 refine ok_start (k := 13) (n0 := 0) (rs := [.tmp 2]) mix Try.func31 rfl rfl rfl rfl rfl rfl rfl ?_
 by_cases h1 : op = 1
 ·subst h1; simp -implicitDefEqProofs only [evx,evy,ofValue,ofCell,List.range,List.range.loop,Array.size,Nat.reduceAdd,Nat.reduceSub,Nat.reduceEqDiff,List.replicate,if_true,if_false,↓reduceIte,reduceCtorEq,elB,evParts,Int.reduceToNat,Int.reduceLE,Int.reduceLT,Int.reduceEq,Nat.reduceMul,Nat.reduceLeDiff,Nat.reduceLT,ty3,ty4,ty9,ty5,ty39,ty22,ty43,ty41]; exact le_flat (v := .fv (.int .i64 0)) rfl
 by_cases h2 : op = 2
 ·subst h2; simp -implicitDefEqProofs only [evx,evy,ofValue,ofCell,List.range,List.range.loop,Array.size,Nat.reduceAdd,Nat.reduceSub,Nat.reduceEqDiff,List.replicate,if_true,if_false,↓reduceIte,reduceCtorEq,elB,evParts,Int.reduceToNat,Int.reduceLE,Int.reduceLT,Int.reduceEq,Nat.reduceMul,Nat.reduceLeDiff,Nat.reduceLT,ty3,ty4,ty9,ty5,ty39,ty22,ty43,ty41]; exact le_flat (v := .fv (.int .i64 0)) rfl
 by_cases h5 : op = 5
 ·subst h5; simp -implicitDefEqProofs only [evx,evy,ofValue,ofCell,List.range,List.range.loop,Array.size,Nat.reduceAdd,Nat.reduceSub,Nat.reduceEqDiff,List.replicate,if_true,if_false,↓reduceIte,reduceCtorEq,elB,evParts,Int.reduceToNat,Int.reduceLE,Int.reduceLT,Int.reduceEq,Nat.reduceMul,Nat.reduceLeDiff,Nat.reduceLT,ty3,ty4,ty9,ty5,ty39,ty22,ty43,ty41]; exact le_flat (v := .fv (.int .i64 1)) rfl
 by_cases h6 : op = 6
 ·subst h6; simp -implicitDefEqProofs only [evx,evy,ofValue,ofCell,List.range,List.range.loop,Array.size,Nat.reduceAdd,Nat.reduceSub,Nat.reduceEqDiff,List.replicate,if_true,if_false,↓reduceIte,reduceCtorEq,elB,evParts,Int.reduceToNat,Int.reduceLE,Int.reduceLT,Int.reduceEq,Nat.reduceMul,Nat.reduceLeDiff,Nat.reduceLT,ty3,ty4,ty9,ty5,ty39,ty22,ty43,ty41]; exact le_flat (v := .fv (.int .i64 1)) rfl
 by_cases h7 : op = 7
 ·subst h7; simp -implicitDefEqProofs only [evx,evy,ofValue,ofCell,List.range,List.range.loop,Array.size,Nat.reduceAdd,Nat.reduceSub,Nat.reduceEqDiff,List.replicate,if_true,if_false,↓reduceIte,reduceCtorEq,elB,evParts,Int.reduceToNat,Int.reduceLE,Int.reduceLT,Int.reduceEq,Nat.reduceMul,Nat.reduceLeDiff,Nat.reduceLT,ty3,ty4,ty9,ty5,ty39,ty22,ty43,ty41]; exact le_flat (v := .fv (.int .i64 1)) rfl
 by_cases h3 : op = 3
 ·subst h3; simp -implicitDefEqProofs only [evx,evy,ofValue,ofCell,List.range,List.range.loop,Array.size,Nat.reduceAdd,Nat.reduceSub,Nat.reduceEqDiff,List.replicate,if_true,if_false,↓reduceIte,reduceCtorEq,elB,evParts,Int.reduceToNat,Int.reduceLE,Int.reduceLT,Int.reduceEq,Nat.reduceMul,Nat.reduceLeDiff,Nat.reduceLT,ty3,ty4,ty9,ty5,ty39,ty22,ty43,ty41]; exact le_flat (v := .fv (.int .i64 2)) rfl
 by_cases h4 : op = 4
 ·subst h4; simp -implicitDefEqProofs only [evx,evy,ofValue,ofCell,List.range,List.range.loop,Array.size,Nat.reduceAdd,Nat.reduceSub,Nat.reduceEqDiff,List.replicate,if_true,if_false,↓reduceIte,reduceCtorEq,elB,evParts,Int.reduceToNat,Int.reduceLE,Int.reduceLT,Int.reduceEq,Nat.reduceMul,Nat.reduceLeDiff,Nat.reduceLT,ty3,ty4,ty9,ty5,ty39,ty22,ty43,ty41]; exact le_flat (v := .fv (.int .i64 2)) rfl
 rw [show wantsI op = -1 from by unfold wantsI; rw [if_neg (by omega),if_neg (by omega),if_neg (by omega)]]
 simp -implicitDefEqProofs only [h1,h2,h3,h4,h5,h6,h7,
  evx,evy,ofValue,ofCell,List.range,List.range.loop,Array.size,Nat.reduceAdd,Nat.reduceSub,Nat.reduceEqDiff,List.replicate,if_true,if_false,↓reduceIte,reduceCtorEq,elB,evParts,Int.reduceToNat,Int.reduceLE,Int.reduceLT,Int.reduceEq,Nat.reduceMul,Nat.reduceLeDiff,Nat.reduceLT,ty3,ty4,ty9,ty5,ty39,ty22,ty43,ty41]
 exact le_flat rfl
theorem ok16 (op : Int) : Ok Try.prog 16 [.fv (.int .i64 op)] [] (.ret (.fv (.int .i64 (wantsI op)))) [] := by
 refine ok_start (k := 20) (n0 := 0) (rs := [.tmp 2]) mix Try.func16 rfl rfl rfl rfl rfl rfl rfl ?_
 by_cases h1 : op = 1
 ·subst h1; simp -implicitDefEqProofs only [evx,evy,ofValue,ofCell,List.range,List.range.loop,Array.size,Nat.reduceAdd,Nat.reduceSub,Nat.reduceEqDiff,List.replicate,if_true,if_false,↓reduceIte,reduceCtorEq,elB,evParts,Int.reduceToNat,Int.reduceLE,Int.reduceLT,Int.reduceEq,Nat.reduceMul,Nat.reduceLeDiff,Nat.reduceLT,ty3,ty4,ty9,ty5,ty39,ty22,ty43,ty41]; exact le_flat (v := .fv (.int .i64 0)) rfl
 by_cases h2 : op = 2
 ·subst h2; simp -implicitDefEqProofs only [evx,evy,ofValue,ofCell,List.range,List.range.loop,Array.size,Nat.reduceAdd,Nat.reduceSub,Nat.reduceEqDiff,List.replicate,if_true,if_false,↓reduceIte,reduceCtorEq,elB,evParts,Int.reduceToNat,Int.reduceLE,Int.reduceLT,Int.reduceEq,Nat.reduceMul,Nat.reduceLeDiff,Nat.reduceLT,ty3,ty4,ty9,ty5,ty39,ty22,ty43,ty41]; exact le_flat (v := .fv (.int .i64 0)) rfl
 by_cases h3 : op = 3
 ·subst h3; simp -implicitDefEqProofs only [evx,evy,ofValue,ofCell,List.range,List.range.loop,Array.size,Nat.reduceAdd,Nat.reduceSub,Nat.reduceEqDiff,List.replicate,if_true,if_false,↓reduceIte,reduceCtorEq,elB,evParts,Int.reduceToNat,Int.reduceLE,Int.reduceLT,Int.reduceEq,Nat.reduceMul,Nat.reduceLeDiff,Nat.reduceLT,ty3,ty4,ty9,ty5,ty39,ty22,ty43,ty41]; exact le_flat (v := .fv (.int .i64 2)) rfl
 by_cases h4 : op = 4
 ·subst h4; simp -implicitDefEqProofs only [evx,evy,ofValue,ofCell,List.range,List.range.loop,Array.size,Nat.reduceAdd,Nat.reduceSub,Nat.reduceEqDiff,List.replicate,if_true,if_false,↓reduceIte,reduceCtorEq,elB,evParts,Int.reduceToNat,Int.reduceLE,Int.reduceLT,Int.reduceEq,Nat.reduceMul,Nat.reduceLeDiff,Nat.reduceLT,ty3,ty4,ty9,ty5,ty39,ty22,ty43,ty41]; exact le_flat (v := .fv (.int .i64 2)) rfl
 by_cases h5 : 5 ≤ op
 ·have h5t : (5 ≤ op) = True := by simpa using h5
  by_cases h7 : op ≤ 7
  ·have h7t : (op ≤ 7) = True := by simpa using h7
   rw [show wantsI op = 1 from by unfold wantsI; rw [if_neg (by omega),if_pos (by omega)]]
   simp -implicitDefEqProofs only [h1,h2,h3,h4,h5t,h7t,
  evx,evy,ofValue,ofCell,List.range,List.range.loop,Array.size,Nat.reduceAdd,Nat.reduceSub,Nat.reduceEqDiff,List.replicate,if_true,if_false,↓reduceIte,reduceCtorEq,elB,evParts,Int.reduceToNat,Int.reduceLE,Int.reduceLT,Int.reduceEq,Nat.reduceMul,Nat.reduceLeDiff,Nat.reduceLT,ty3,ty4,ty9,ty5,ty39,ty22,ty43,ty41]
   exact le_flat rfl
  ·have h7t : (op ≤ 7) = False := by simpa using h7
   rw [show wantsI op = -1 from by unfold wantsI; rw [if_neg (by omega),if_neg (by omega),if_neg (by omega)]]
   simp -implicitDefEqProofs only [h1,h2,h3,h4,h5t,h7t,
  evx,evy,ofValue,ofCell,List.range,List.range.loop,Array.size,Nat.reduceAdd,Nat.reduceSub,Nat.reduceEqDiff,List.replicate,if_true,if_false,↓reduceIte,reduceCtorEq,elB,evParts,Int.reduceToNat,Int.reduceLE,Int.reduceLT,Int.reduceEq,Nat.reduceMul,Nat.reduceLeDiff,Nat.reduceLT,ty3,ty4,ty9,ty5,ty39,ty22,ty43,ty41]
   exact le_flat rfl
 ·have h5t : (5 ≤ op) = False := by simpa using h5
  rw [show wantsI op = -1 from by unfold wantsI; rw [if_neg (by omega),if_neg (by omega),if_neg (by omega)]]
  simp -implicitDefEqProofs only [h1,h2,h3,h4,h5t,
  evx,evy,ofValue,ofCell,List.range,List.range.loop,Array.size,Nat.reduceAdd,Nat.reduceSub,Nat.reduceEqDiff,List.replicate,if_true,if_false,↓reduceIte,reduceCtorEq,elB,evParts,Int.reduceToNat,Int.reduceLE,Int.reduceLT,Int.reduceEq,Nat.reduceMul,Nat.reduceLeDiff,Nat.reduceLT,ty3,ty4,ty9,ty5,ty39,ty22,ty43,ty41]
  exact le_flat rfl
theorem aggSet : aggTy Try.prog 41 = some [.int .u64,.int .u64,.int .u64,.int .u64] := by kernel_rfl
theorem eqA_set (a b c d : Int) (one : Bool) : eqA Try.prog 41 one (.agg [.fv (.int .u64 a),.fv (.int .u64 b),.fv (.int .u64 c),.fv (.int .u64 d)]) (.agg [.fv (.int .u64 0),.fv (.int .u64 0),.fv (.int .u64 0),.fv (.int .u64 0)]) = some (a == 0 && b == 0 && c == 0 && d == 0) := by
 have h1 : conf [.int .u64,.int .u64,.int .u64,.int .u64] [.int .u64 a,.int .u64 b,.int .u64 c,.int .u64 d] = true := rfl
 have h2 : conf [.int .u64,.int .u64,.int .u64,.int .u64] [.int .u64 0,.int .u64 0,.int .u64 0,.int .u64 0] = true := rfl
 simp only [eqA,ty41,aggSet,toFs,Option.map_some,isAgg_array,h1,h2,Bool.and_self,if_true,eqR,eqC,Bool.and_true,Bool.and_assoc,beq_self_eq_true,Bool.true_and]
theorem neq_set (x : Cel) (one : Bool) : binA Try.prog .neq 41 one (.agg [.fv (.int .u64 x.a),.fv (.int .u64 x.b),.fv (.int .u64 x.c),.fv (.int .u64 x.d)]) (.agg [.fv (.int .u64 0),.fv (.int .u64 0),.fv (.int .u64 0),.fv (.int .u64 0)]) = some (.fv (.bool (!x.none_))) := by
 simp only [binA,eqA_set,negB,Cel.none_]
theorem eql_set (x : Cel) (one : Bool) : binA Try.prog .eql 41 one (.agg [.fv (.int .u64 x.a),.fv (.int .u64 x.b),.fv (.int .u64 x.c),.fv (.int .u64 x.d)]) (.agg [.fv (.int .u64 0),.fv (.int .u64 0),.fv (.int .u64 0),.fv (.int .u64 0)]) = some (.fv (.bool x.none_)) := by
 simp only [binA,eqA_set,negB,Cel.none_]
theorem neqB_ (x y one : Bool) : binA Try.prog .neq 4 one (.fv (.bool x)) (.fv (.bool y)) = some (.fv (.bool (!(x == y)))) := by
 simp only [binA,eqA,ty4,negB]
theorem eqlB_ (x y one : Bool) : binA Try.prog .eql 4 one (.fv (.bool x)) (.fv (.bool y)) = some (.fv (.bool (x == y))) := by
 simp only [binA,eqA,ty4,negB]
theorem rightB_no {l : List Cel} (h : l.length = 0 ∨ 60 < l.length) : rightB l = false := by
 unfold rightB
 rcases h with h | h
 ·rw [show decide (1 ≤ l.length) = false from decide_eq_false (by omega)]; simp
 ·rw [show decide (l.length ≤ 60) = false from decide_eq_false (by omega)]; simp
theorem rightB_eq {l : List Cel} (h1 : ¬ l.length = 0) (h2 : l.length ≤ 60) : rightB l = (match rightG l 0 with
 | some n => decide (n = 1)
 | none => false) := by
 unfold rightB
 rw [show decide (1 ≤ l.length) = true from decide_eq_true (by omega),show decide (l.length ≤ 60) = true from decide_eq_true (by omega)]
 rfl
theorem wants_le (op : Int) : -1 ≤ wantsI op ∧ wantsI op ≤ 2 := by
 unfold wantsI
 split
 ·omega
 ·split
  ·omega
  ·split <;> omega
theorem rightG_bad {c : Cel} {r : List Cel} {n : Int} (h : wantsI c.op < 0 ∨ n < wantsI c.op ∨ (c.op == 1) = c.none_) : rightG (c :: r) n = none := by rw [rightG,if_pos h]
theorem rightG_good {c : Cel} {r : List Cel} {n : Int} (h : ¬ (wantsI c.op < 0 ∨ n < wantsI c.op ∨ (c.op == 1) = c.none_)) : rightG (c :: r) n = rightG r (n + 1 - wantsI c.op) := by rw [rightG,if_neg h]
theorem ok12 (l : List Cel) : Ok Try.prog 12 [.fv (.lst 5 (l.map Cel.row))] [] (.ret (.fv (.bool (rightB l)))) [] := by
 refine ok_start (k := 47) (n0 := 0) (rs := [.tmp 2]) mix Try.func12 rfl rfl rfl rfl rfl rfl rfl ?_
 by_cases h0 : l.length = 0
 ·have h0t : ((l.length : Int) = 0) = True := by simpa using h0
  simp -implicitDefEqProofs only [awp_draw _ _ Trydr12_8,List.length_map,h0t,
  evx,evy,ofValue,ofCell,List.range,List.range.loop,Array.size,Nat.reduceAdd,Nat.reduceSub,Nat.reduceEqDiff,List.replicate,if_true,if_false,↓reduceIte,reduceCtorEq,elB,evParts,Int.reduceToNat,Int.reduceLE,Int.reduceLT,Int.reduceEq,Nat.reduceMul,Nat.reduceLeDiff,Nat.reduceLT,ty3,ty4,ty9,ty5,ty39,ty22,ty43,ty41]
  rw [rightB_no (.inl h0)]
  exact le_flat rfl
 have h0t : ((l.length : Int) = 0) = False := by simpa using h0
 by_cases h60 : (60 : Int) < (l.length : Int)
 ·simp -implicitDefEqProofs only [awp_draw _ _ Trydr12_8,List.length_map,h0t,lit_true h60,
  evx,evy,ofValue,ofCell,List.range,List.range.loop,Array.size,Nat.reduceAdd,Nat.reduceSub,Nat.reduceEqDiff,List.replicate,if_true,if_false,↓reduceIte,reduceCtorEq,elB,evParts,Int.reduceToNat,Int.reduceLE,Int.reduceLT,Int.reduceEq,Nat.reduceMul,Nat.reduceLeDiff,Nat.reduceLT,ty3,ty4,ty9,ty5,ty39,ty22,ty43,ty41]
  rw [rightB_no (.inr (by omega))]
  exact le_flat rfl
 rw [rightB_eq h0 (by omega)]
 simp -implicitDefEqProofs only [awp_draw _ _ Trydr12_8,List.length_map,h0t,lit_false h60,
  evx,evy,ofValue,ofCell,List.range,List.range.loop,Array.size,Nat.reduceAdd,Nat.reduceSub,Nat.reduceEqDiff,List.replicate,if_true,if_false,↓reduceIte,reduceCtorEq,elB,evParts,Int.reduceToNat,Int.reduceLE,Int.reduceLT,Int.reduceEq,Nat.reduceMul,Nat.reduceLeDiff,Nat.reduceLT,ty3,ty4,ty9,ty5,ty39,ty22,ty43,ty41]
 refine loop_rule (fun x : Nat × Int => ⟨[.any,.any,.any,.fv (.int .i64 x.2),.any,.any,.any,.any,.any,.any,.any,.any,.any,.any,.any,.fv (.lst 5 (l.map Cel.row)),.fv (.int .i64 l.length),.fv (.int .i64 x.1),.any,.any,.any,.any,.any,.any,.any,.any,.any,.any,.any,.any,.any,.any,.any,.any,.any,.any,.any,.any,.any,.any,.any,.any,.any,.any,.any,.any,.any,.any],[],[]⟩)
  (fun x => x.1 ≤ l.length ∧ 0 ≤ x.2 ∧ x.2 ≤ x.1 ∧ rightG l 0 = rightG (l.drop x.1) x.2) (fun x => l.length - x.1) (0,0) (le_none (by simp [wk]) rfl) (by simp) (fun x hx s hs2 => ?_)
 obtain ⟨i,n⟩ := x
 obtain ⟨hi,hn,hni,hg⟩ := hx
 simp only at hi hn hni hg hs2 ⊢
 by_cases hlt : i < l.length
 ·have hr := rows_at Cel.row l i hlt
  rw [List.drop_eq_getElem_cons hlt] at hg
  generalize l[i] = c at hr hg
  have hw := ok31 c.op
  obtain ⟨w1,w2⟩ := wants_le c.op
  have hbad := @rightG_bad c (l.drop (i + 1)) n
  have hgood := @rightG_good c (l.drop (i + 1)) n
  generalize wantsI c.op = W at hw w1 w2 hbad hgood
  simp -implicitDefEqProofs only [awp_draw _ _ Trydr12_8,stB_boxA,splice_all,List.all_cons,List.all_nil,List.length_map,lt_true hlt,hr,Cel.row,
  evx,evy,ofValue,ofCell,List.range,List.range.loop,Array.size,Nat.reduceAdd,Nat.reduceSub,Nat.reduceEqDiff,List.replicate,if_true,if_false,↓reduceIte,reduceCtorEq,elB,evParts,Int.reduceToNat,Int.reduceLE,Int.reduceLT,Int.reduceEq,Nat.reduceMul,Nat.reduceLeDiff,Nat.reduceLT,ty3,ty4,ty9,ty5,ty39,ty22,ty43,ty41]
  refine callK_ret _ _ _ _ (call_pure (hw) (fun _ => rfl) (fun _ => rfl)) (ok_nil _ _) ?_
  by_cases c1 : W < 0
  ·have c1t : (W < 0) = True := by simpa using c1
   simp -implicitDefEqProofs only [awp_draw _ _ Trydr12_8,c1t,
  evx,evy,ofValue,ofCell,List.range,List.range.loop,Array.size,Nat.reduceAdd,Nat.reduceSub,Nat.reduceEqDiff,List.replicate,if_true,if_false,↓reduceIte,reduceCtorEq,elB,evParts,Int.reduceToNat,Int.reduceLE,Int.reduceLT,Int.reduceEq,Nat.reduceMul,Nat.reduceLeDiff,Nat.reduceLT,ty3,ty4,ty9,ty5,ty39,ty22,ty43,ty41]
   rw [hg,hbad (.inl c1)]
   exact le_flat rfl
  have c1t : (W < 0) = False := by simpa using c1
  by_cases c2 : n < W
  ·have c2t : (n < W) = True := by simpa using c2
   simp -implicitDefEqProofs only [awp_draw _ _ Trydr12_8,c1t,c2t,
  evx,evy,ofValue,ofCell,List.range,List.range.loop,Array.size,Nat.reduceAdd,Nat.reduceSub,Nat.reduceEqDiff,List.replicate,if_true,if_false,↓reduceIte,reduceCtorEq,elB,evParts,Int.reduceToNat,Int.reduceLE,Int.reduceLT,Int.reduceEq,Nat.reduceMul,Nat.reduceLeDiff,Nat.reduceLT,ty3,ty4,ty9,ty5,ty39,ty22,ty43,ty41]
   rw [hg,hbad (.inr (.inl c2))]
   exact le_flat rfl
  have c2t : (n < W) = False := by simpa using c2
  have hwr : IntKind.wrap .i64 (n + IntKind.wrap .i64 (1 - W)) = n + 1 - W := by
   rw [wrap_small (n := 1 - W) (by omega) (by omega),wrap_small (by omega) (by omega)]; omega
  by_cases c3 : c.op = 1
  ·have c3t : (c.op = 1) = True := by simpa using c3
   have c3b : (c.op == 1) = true := by simpa using c3
   rw [c3b] at hbad hgood
   cases hnn : c.none_ with
   | true =>
    rw [hnn] at hbad
    simp -implicitDefEqProofs only [awp_draw _ _ Trydr12_8,c1t,c2t,c3t,neq_set,hnn,neqB_,
  evx,evy,ofValue,ofCell,List.range,List.range.loop,Array.size,Nat.reduceAdd,Nat.reduceSub,Nat.reduceEqDiff,List.replicate,if_true,if_false,↓reduceIte,reduceCtorEq,elB,evParts,Int.reduceToNat,Int.reduceLE,Int.reduceLT,Int.reduceEq,Nat.reduceMul,Nat.reduceLeDiff,Nat.reduceLT,ty3,ty4,ty9,ty5,ty39,ty22,ty43,ty41]
    rw [hg,hbad (.inr (.inr rfl))]
    exact le_flat rfl
   | false =>
    rw [hnn] at hgood
    simp -implicitDefEqProofs only [awp_draw _ _ Trydr12_8,c1t,c2t,c3t,neq_set,hnn,neqB_,hwr,wsucc i (by omega),
  evx,evy,ofValue,ofCell,List.range,List.range.loop,Array.size,Nat.reduceAdd,Nat.reduceSub,Nat.reduceEqDiff,List.replicate,if_true,if_false,↓reduceIte,reduceCtorEq,elB,evParts,Int.reduceToNat,Int.reduceLE,Int.reduceLT,Int.reduceEq,Nat.reduceMul,Nat.reduceLeDiff,Nat.reduceLT,ty3,ty4,ty9,ty5,ty39,ty22,ty43,ty41]
    refine back_intro hs2 (i + 1,n + 1 - W) (le_none (by simp [wk]) rfl) ⟨by simp only; omega,by simp only; omega,by simp only; omega,by rw [hg,hgood (by simp; omega)]⟩ (by simp only; omega)
  ·have c3t : (c.op = 1) = False := by simpa using c3
   have c3b : (c.op == 1) = false := by simpa using c3
   rw [c3b] at hbad hgood
   cases hnn : c.none_ with
   | true =>
    rw [hnn] at hgood
    simp -implicitDefEqProofs only [awp_draw _ _ Trydr12_8,c1t,c2t,c3t,neq_set,hnn,neqB_,hwr,wsucc i (by omega),
  evx,evy,ofValue,ofCell,List.range,List.range.loop,Array.size,Nat.reduceAdd,Nat.reduceSub,Nat.reduceEqDiff,List.replicate,if_true,if_false,↓reduceIte,reduceCtorEq,elB,evParts,Int.reduceToNat,Int.reduceLE,Int.reduceLT,Int.reduceEq,Nat.reduceMul,Nat.reduceLeDiff,Nat.reduceLT,ty3,ty4,ty9,ty5,ty39,ty22,ty43,ty41]
    refine back_intro hs2 (i + 1,n + 1 - W) (le_none (by simp [wk]) rfl) ⟨by simp only; omega,by simp only; omega,by simp only; omega,by rw [hg,hgood (by simp; omega)]⟩ (by simp only; omega)
   | false =>
    rw [hnn] at hbad
    simp -implicitDefEqProofs only [awp_draw _ _ Trydr12_8,c1t,c2t,c3t,neq_set,hnn,neqB_,
  evx,evy,ofValue,ofCell,List.range,List.range.loop,Array.size,Nat.reduceAdd,Nat.reduceSub,Nat.reduceEqDiff,List.replicate,if_true,if_false,↓reduceIte,reduceCtorEq,elB,evParts,Int.reduceToNat,Int.reduceLE,Int.reduceLT,Int.reduceEq,Nat.reduceMul,Nat.reduceLeDiff,Nat.reduceLT,ty3,ty4,ty9,ty5,ty39,ty22,ty43,ty41]
    rw [hg,hbad (.inr (.inr rfl))]
    exact le_flat rfl
 ·obtain rfl : i = l.length := by omega
  rw [List.drop_length] at hg
  rw [hg]
  by_cases h1 : n = 1
  ·have h1t : (n = 1) = True := by simpa using h1
   simp -implicitDefEqProofs only [awp_draw _ _ Trydr12_8,lt_false hlt,h1t,rightG,
  evx,evy,ofValue,ofCell,List.range,List.range.loop,Array.size,Nat.reduceAdd,Nat.reduceSub,Nat.reduceEqDiff,List.replicate,if_true,if_false,↓reduceIte,reduceCtorEq,elB,evParts,Int.reduceToNat,Int.reduceLE,Int.reduceLT,Int.reduceEq,Nat.reduceMul,Nat.reduceLeDiff,Nat.reduceLT,ty3,ty4,ty9,ty5,ty39,ty22,ty43,ty41]
   exact le_flat rfl
  ·have h1t : (n = 1) = False := by simpa using h1
   simp -implicitDefEqProofs only [awp_draw _ _ Trydr12_8,lt_false hlt,h1t,rightG,
  evx,evy,ofValue,ofCell,List.range,List.range.loop,Array.size,Nat.reduceAdd,Nat.reduceSub,Nat.reduceEqDiff,List.replicate,if_true,if_false,↓reduceIte,reduceCtorEq,elB,evParts,Int.reduceToNat,Int.reduceLE,Int.reduceLT,Int.reduceEq,Nat.reduceMul,Nat.reduceLeDiff,Nat.reduceLT,ty3,ty4,ty9,ty5,ty39,ty22,ty43,ty41]
   exact le_flat rfl
theorem ok6 (l : List Cel) : Ok Try.prog 6 [.fv (.lst 5 (l.map Cel.row))] [] (.ret (.fv (.bool (rightB l)))) [] := by
 refine ok_start (k := 56) (n0 := 0) (rs := [.tmp 2]) mix Try.func6 rfl rfl rfl rfl rfl rfl rfl ?_
 by_cases h0 : (l.length : Int) < 1
 ·have h0t : ((l.length : Int) < 1) = True := by simpa using h0
  simp -implicitDefEqProofs only [List.length_map,h0t,
  evx,evy,ofValue,ofCell,List.range,List.range.loop,Array.size,Nat.reduceAdd,Nat.reduceSub,Nat.reduceEqDiff,List.replicate,if_true,if_false,↓reduceIte,reduceCtorEq,elB,evParts,Int.reduceToNat,Int.reduceLE,Int.reduceLT,Int.reduceEq,Nat.reduceMul,Nat.reduceLeDiff,Nat.reduceLT,ty3,ty4,ty9,ty5,ty39,ty22,ty43,ty41]
  rw [rightB_no (.inl (by omega))]
  exact le_flat rfl
 have h0t : ((l.length : Int) < 1) = False := by simpa using h0
 by_cases h60 : (60 : Int) < (l.length : Int)
 ·simp -implicitDefEqProofs only [List.length_map,h0t,lit_true h60,
  evx,evy,ofValue,ofCell,List.range,List.range.loop,Array.size,Nat.reduceAdd,Nat.reduceSub,Nat.reduceEqDiff,List.replicate,if_true,if_false,↓reduceIte,reduceCtorEq,elB,evParts,Int.reduceToNat,Int.reduceLE,Int.reduceLT,Int.reduceEq,Nat.reduceMul,Nat.reduceLeDiff,Nat.reduceLT,ty3,ty4,ty9,ty5,ty39,ty22,ty43,ty41]
  rw [rightB_no (.inr (by omega))]
  exact le_flat rfl
 rw [rightB_eq (by omega) (by omega)]
 simp -implicitDefEqProofs only [List.length_map,h0t,lit_false h60,
  evx,evy,ofValue,ofCell,List.range,List.range.loop,Array.size,Nat.reduceAdd,Nat.reduceSub,Nat.reduceEqDiff,List.replicate,if_true,if_false,↓reduceIte,reduceCtorEq,elB,evParts,Int.reduceToNat,Int.reduceLE,Int.reduceLT,Int.reduceEq,Nat.reduceMul,Nat.reduceLeDiff,Nat.reduceLT,ty3,ty4,ty9,ty5,ty39,ty22,ty43,ty41]
 refine loop_rule (fun x : Nat × Int => ⟨[.fv (.lst 5 (l.map Cel.row)),.any,.any,.fv (.int .i64 x.2),.fv (.int .i64 x.1),.any,.any,.any,.any,.any,.any,.any,.any,.any,.any,.any,.any,.any,.any,.any,.any,.any,.any,.any,.any,.any,.any,.any,.any,.any,.any,.any,.any,.any,.any,.any,.any,.any,.any,.any,.any,.any,.any,.any,.any,.any,.any,.any,.any,.any,.any,.any,.any,.any,.any,.any,.any],[],[]⟩)
  (fun x => x.1 ≤ l.length ∧ 0 ≤ x.2 ∧ x.2 ≤ x.1 ∧ rightG l 0 = rightG (l.drop x.1) x.2) (fun x => l.length - x.1) (0,0) (le_none (by simp [wk]) rfl) (by simp) (fun x hx s hs2 => ?_)
 obtain ⟨i,n⟩ := x
 obtain ⟨hi,hn,hni,hg⟩ := hx
 simp only at hi hn hni hg hs2 ⊢
 by_cases hlt : i < l.length
 ·have hr := rows_at Cel.row l i hlt
  rw [List.drop_eq_getElem_cons hlt] at hg
  generalize l[i] = c at hr hg
  have hw := ok16 c.op
  obtain ⟨w1,w2⟩ := wants_le c.op
  have hbad := @rightG_bad c (l.drop (i + 1)) n
  have hgood := @rightG_good c (l.drop (i + 1)) n
  generalize wantsI c.op = W at hw w1 w2 hbad hgood
  simp -implicitDefEqProofs only [List.length_map,lt_true hlt,hr,Cel.row,
  evx,evy,ofValue,ofCell,List.range,List.range.loop,Array.size,Nat.reduceAdd,Nat.reduceSub,Nat.reduceEqDiff,List.replicate,if_true,if_false,↓reduceIte,reduceCtorEq,elB,evParts,Int.reduceToNat,Int.reduceLE,Int.reduceLT,Int.reduceEq,Nat.reduceMul,Nat.reduceLeDiff,Nat.reduceLT,ty3,ty4,ty9,ty5,ty39,ty22,ty43,ty41]
  refine callK_ret _ _ _ _ (call_pure (hw) (fun _ => rfl) (fun _ => rfl)) (ok_nil _ _) ?_
  by_cases c1 : W < 0
  ·have c1t : (W < 0) = True := by simpa using c1
   simp -implicitDefEqProofs only [List.length_map,hr,Cel.row,eql_set,c1t,
  evx,evy,ofValue,ofCell,List.range,List.range.loop,Array.size,Nat.reduceAdd,Nat.reduceSub,Nat.reduceEqDiff,List.replicate,if_true,if_false,↓reduceIte,reduceCtorEq,elB,evParts,Int.reduceToNat,Int.reduceLE,Int.reduceLT,Int.reduceEq,Nat.reduceMul,Nat.reduceLeDiff,Nat.reduceLT,ty3,ty4,ty9,ty5,ty39,ty22,ty43,ty41]
   rw [hg,hbad (.inl c1)]
   exact le_flat rfl
  have c1t : (W < 0) = False := by simpa using c1
  by_cases c2 : n < W
  ·have c2t : (n < W) = True := by simpa using c2
   simp -implicitDefEqProofs only [List.length_map,hr,Cel.row,eql_set,c1t,c2t,
  evx,evy,ofValue,ofCell,List.range,List.range.loop,Array.size,Nat.reduceAdd,Nat.reduceSub,Nat.reduceEqDiff,List.replicate,if_true,if_false,↓reduceIte,reduceCtorEq,elB,evParts,Int.reduceToNat,Int.reduceLE,Int.reduceLT,Int.reduceEq,Nat.reduceMul,Nat.reduceLeDiff,Nat.reduceLT,ty3,ty4,ty9,ty5,ty39,ty22,ty43,ty41]
   rw [hg,hbad (.inr (.inl c2))]
   exact le_flat rfl
  have c2t : (n < W) = False := by simpa using c2
  have hwr : IntKind.wrap .i64 (IntKind.wrap .i64 (n - W) + 1) = n + 1 - W := by
   rw [wrap_small (n := n - W) (by omega) (by omega),wrap_small (by omega) (by omega)]; omega
  by_cases c3 : c.op = 1
  ·have c3t : (c.op = 1) = True := by simpa using c3
   have c3b : (c.op == 1) = true := by simpa using c3
   rw [c3b] at hbad hgood
   cases hnn : c.none_ with
   | true =>
    rw [hnn] at hbad
    simp -implicitDefEqProofs only [List.length_map,hr,Cel.row,eql_set,c1t,c2t,c3t,hnn,eqlB_,
  evx,evy,ofValue,ofCell,List.range,List.range.loop,Array.size,Nat.reduceAdd,Nat.reduceSub,Nat.reduceEqDiff,List.replicate,if_true,if_false,↓reduceIte,reduceCtorEq,elB,evParts,Int.reduceToNat,Int.reduceLE,Int.reduceLT,Int.reduceEq,Nat.reduceMul,Nat.reduceLeDiff,Nat.reduceLT,ty3,ty4,ty9,ty5,ty39,ty22,ty43,ty41]
    rw [hg,hbad (.inr (.inr rfl))]
    exact le_flat rfl
   | false =>
    rw [hnn] at hgood
    simp -implicitDefEqProofs only [List.length_map,hr,Cel.row,eql_set,c1t,c2t,c3t,hnn,eqlB_,hwr,wsucc i (by omega),
  evx,evy,ofValue,ofCell,List.range,List.range.loop,Array.size,Nat.reduceAdd,Nat.reduceSub,Nat.reduceEqDiff,List.replicate,if_true,if_false,↓reduceIte,reduceCtorEq,elB,evParts,Int.reduceToNat,Int.reduceLE,Int.reduceLT,Int.reduceEq,Nat.reduceMul,Nat.reduceLeDiff,Nat.reduceLT,ty3,ty4,ty9,ty5,ty39,ty22,ty43,ty41]
    refine back_intro hs2 (i + 1,n + 1 - W) (le_none (by simp [wk]) rfl) ⟨by simp only; omega,by simp only; omega,by simp only; omega,by rw [hg,hgood (by simp; omega)]⟩ (by simp only; omega)
  ·have c3t : (c.op = 1) = False := by simpa using c3
   have c3b : (c.op == 1) = false := by simpa using c3
   rw [c3b] at hbad hgood
   cases hnn : c.none_ with
   | true =>
    rw [hnn] at hgood
    simp -implicitDefEqProofs only [List.length_map,hr,Cel.row,eql_set,c1t,c2t,c3t,hnn,eqlB_,hwr,wsucc i (by omega),
  evx,evy,ofValue,ofCell,List.range,List.range.loop,Array.size,Nat.reduceAdd,Nat.reduceSub,Nat.reduceEqDiff,List.replicate,if_true,if_false,↓reduceIte,reduceCtorEq,elB,evParts,Int.reduceToNat,Int.reduceLE,Int.reduceLT,Int.reduceEq,Nat.reduceMul,Nat.reduceLeDiff,Nat.reduceLT,ty3,ty4,ty9,ty5,ty39,ty22,ty43,ty41]
    refine back_intro hs2 (i + 1,n + 1 - W) (le_none (by simp [wk]) rfl) ⟨by simp only; omega,by simp only; omega,by simp only; omega,by rw [hg,hgood (by simp; omega)]⟩ (by simp only; omega)
   | false =>
    rw [hnn] at hbad
    simp -implicitDefEqProofs only [List.length_map,hr,Cel.row,eql_set,c1t,c2t,c3t,hnn,eqlB_,
  evx,evy,ofValue,ofCell,List.range,List.range.loop,Array.size,Nat.reduceAdd,Nat.reduceSub,Nat.reduceEqDiff,List.replicate,if_true,if_false,↓reduceIte,reduceCtorEq,elB,evParts,Int.reduceToNat,Int.reduceLE,Int.reduceLT,Int.reduceEq,Nat.reduceMul,Nat.reduceLeDiff,Nat.reduceLT,ty3,ty4,ty9,ty5,ty39,ty22,ty43,ty41]
    rw [hg,hbad (.inr (.inr rfl))]
    exact le_flat rfl
 ·obtain rfl : i = l.length := by omega
  rw [List.drop_length] at hg
  rw [hg]
  by_cases h1 : n = 1
  ·have h1t : (n = 1) = True := by simpa using h1
   simp -implicitDefEqProofs only [List.length_map,lt_false hlt,h1t,rightG,
  evx,evy,ofValue,ofCell,List.range,List.range.loop,Array.size,Nat.reduceAdd,Nat.reduceSub,Nat.reduceEqDiff,List.replicate,if_true,if_false,↓reduceIte,reduceCtorEq,elB,evParts,Int.reduceToNat,Int.reduceLE,Int.reduceLT,Int.reduceEq,Nat.reduceMul,Nat.reduceLeDiff,Nat.reduceLT,ty3,ty4,ty9,ty5,ty39,ty22,ty43,ty41]
   exact le_flat rfl
  ·have h1t : (n = 1) = False := by simpa using h1
   simp -implicitDefEqProofs only [List.length_map,lt_false hlt,h1t,rightG,
  evx,evy,ofValue,ofCell,List.range,List.range.loop,Array.size,Nat.reduceAdd,Nat.reduceSub,Nat.reduceEqDiff,List.replicate,if_true,if_false,↓reduceIte,reduceCtorEq,elB,evParts,Int.reduceToNat,Int.reduceLE,Int.reduceLT,Int.reduceEq,Nat.reduceMul,Nat.reduceLeDiff,Nat.reduceLT,ty3,ty4,ty9,ty5,ty39,ty22,ty43,ty41]
   exact le_flat rfl
end Go.Abs
