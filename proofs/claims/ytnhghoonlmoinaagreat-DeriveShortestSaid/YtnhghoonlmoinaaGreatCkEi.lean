/- Right rules: the program's answer and the document's. -/
import Derived.Test.YtnhghoonlmoinaaGreatTyTryzi
import Derived.Test.YtnhghoonlmoinaaGreatDrTryzi
import Derived.Test.YtnhghoonlmoinaaGreatAbsZ
import Derived.Test.YtnhghoonlmoinaaGreatCkCi
namespace Go.Abs
open Go.Proofs
set_option linter.unusedVariables false
set_option linter.unusedSimpArgs false
set_option maxRecDepth 100000
set_option maxHeartbeats 1000000
theorem ok158 (op : Int) : Ok Tryz.prog 158 [.fv (.int .i64 op)] [] (.ret (.fv (.int .i64 (wantsI op)))) [] := by
 refine ok_start (k := 13) (n0 := 0) (rs := [.tmp 2]) mix Tryz.func158 rfl rfl rfl rfl rfl rfl rfl ?_
 by_cases h1 : op = 1
 ·subst h1; simp -implicitDefEqProofs only [evx,evy,ofValue,ofCell,List.range,List.range.loop,Array.size,Nat.reduceAdd,Nat.reduceSub,Nat.reduceEqDiff,List.replicate,if_true,if_false,↓reduceIte,reduceCtorEq,elB,evParts,Int.reduceToNat,Int.reduceLE,Int.reduceLT,Int.reduceEq,Nat.reduceMul,Nat.reduceLeDiff,Nat.reduceLT,ty3,ty4,ty9,ty5,ty174,ty59,ty178,ty176]; exact le_flat (v := .fv (.int .i64 0)) rfl
 by_cases h2 : op = 2
 ·subst h2; simp -implicitDefEqProofs only [evx,evy,ofValue,ofCell,List.range,List.range.loop,Array.size,Nat.reduceAdd,Nat.reduceSub,Nat.reduceEqDiff,List.replicate,if_true,if_false,↓reduceIte,reduceCtorEq,elB,evParts,Int.reduceToNat,Int.reduceLE,Int.reduceLT,Int.reduceEq,Nat.reduceMul,Nat.reduceLeDiff,Nat.reduceLT,ty3,ty4,ty9,ty5,ty174,ty59,ty178,ty176]; exact le_flat (v := .fv (.int .i64 0)) rfl
 by_cases h5 : op = 5
 ·subst h5; simp -implicitDefEqProofs only [evx,evy,ofValue,ofCell,List.range,List.range.loop,Array.size,Nat.reduceAdd,Nat.reduceSub,Nat.reduceEqDiff,List.replicate,if_true,if_false,↓reduceIte,reduceCtorEq,elB,evParts,Int.reduceToNat,Int.reduceLE,Int.reduceLT,Int.reduceEq,Nat.reduceMul,Nat.reduceLeDiff,Nat.reduceLT,ty3,ty4,ty9,ty5,ty174,ty59,ty178,ty176]; exact le_flat (v := .fv (.int .i64 1)) rfl
 by_cases h6 : op = 6
 ·subst h6; simp -implicitDefEqProofs only [evx,evy,ofValue,ofCell,List.range,List.range.loop,Array.size,Nat.reduceAdd,Nat.reduceSub,Nat.reduceEqDiff,List.replicate,if_true,if_false,↓reduceIte,reduceCtorEq,elB,evParts,Int.reduceToNat,Int.reduceLE,Int.reduceLT,Int.reduceEq,Nat.reduceMul,Nat.reduceLeDiff,Nat.reduceLT,ty3,ty4,ty9,ty5,ty174,ty59,ty178,ty176]; exact le_flat (v := .fv (.int .i64 1)) rfl
 by_cases h7 : op = 7
 ·subst h7; simp -implicitDefEqProofs only [evx,evy,ofValue,ofCell,List.range,List.range.loop,Array.size,Nat.reduceAdd,Nat.reduceSub,Nat.reduceEqDiff,List.replicate,if_true,if_false,↓reduceIte,reduceCtorEq,elB,evParts,Int.reduceToNat,Int.reduceLE,Int.reduceLT,Int.reduceEq,Nat.reduceMul,Nat.reduceLeDiff,Nat.reduceLT,ty3,ty4,ty9,ty5,ty174,ty59,ty178,ty176]; exact le_flat (v := .fv (.int .i64 1)) rfl
 by_cases h3 : op = 3
 ·subst h3; simp -implicitDefEqProofs only [evx,evy,ofValue,ofCell,List.range,List.range.loop,Array.size,Nat.reduceAdd,Nat.reduceSub,Nat.reduceEqDiff,List.replicate,if_true,if_false,↓reduceIte,reduceCtorEq,elB,evParts,Int.reduceToNat,Int.reduceLE,Int.reduceLT,Int.reduceEq,Nat.reduceMul,Nat.reduceLeDiff,Nat.reduceLT,ty3,ty4,ty9,ty5,ty174,ty59,ty178,ty176]; exact le_flat (v := .fv (.int .i64 2)) rfl
 by_cases h4 : op = 4
 ·subst h4; simp -implicitDefEqProofs only [evx,evy,ofValue,ofCell,List.range,List.range.loop,Array.size,Nat.reduceAdd,Nat.reduceSub,Nat.reduceEqDiff,List.replicate,if_true,if_false,↓reduceIte,reduceCtorEq,elB,evParts,Int.reduceToNat,Int.reduceLE,Int.reduceLT,Int.reduceEq,Nat.reduceMul,Nat.reduceLeDiff,Nat.reduceLT,ty3,ty4,ty9,ty5,ty174,ty59,ty178,ty176]; exact le_flat (v := .fv (.int .i64 2)) rfl
 rw [show wantsI op = -1 from by unfold wantsI; rw [if_neg (by omega),if_neg (by omega),if_neg (by omega)]]
 simp -implicitDefEqProofs only [h1,h2,h3,h4,h5,h6,h7,
  evx,evy,ofValue,ofCell,List.range,List.range.loop,Array.size,Nat.reduceAdd,Nat.reduceSub,Nat.reduceEqDiff,List.replicate,if_true,if_false,↓reduceIte,reduceCtorEq,elB,evParts,Int.reduceToNat,Int.reduceLE,Int.reduceLT,Int.reduceEq,Nat.reduceMul,Nat.reduceLeDiff,Nat.reduceLT,ty3,ty4,ty9,ty5,ty174,ty59,ty178,ty176]
 exact le_flat rfl
theorem ok121 (op : Int) : Ok Tryz.prog 121 [.fv (.int .i64 op)] [] (.ret (.fv (.int .i64 (wantsI op)))) [] := by
 refine ok_start (k := 20) (n0 := 0) (rs := [.tmp 2]) mix Tryz.func121 rfl rfl rfl rfl rfl rfl rfl ?_
 by_cases h1 : op = 1
 ·subst h1; simp -implicitDefEqProofs only [evx,evy,ofValue,ofCell,List.range,List.range.loop,Array.size,Nat.reduceAdd,Nat.reduceSub,Nat.reduceEqDiff,List.replicate,if_true,if_false,↓reduceIte,reduceCtorEq,elB,evParts,Int.reduceToNat,Int.reduceLE,Int.reduceLT,Int.reduceEq,Nat.reduceMul,Nat.reduceLeDiff,Nat.reduceLT,ty3,ty4,ty9,ty5,ty174,ty59,ty178,ty176]; exact le_flat (v := .fv (.int .i64 0)) rfl
 by_cases h2 : op = 2
 ·subst h2; simp -implicitDefEqProofs only [evx,evy,ofValue,ofCell,List.range,List.range.loop,Array.size,Nat.reduceAdd,Nat.reduceSub,Nat.reduceEqDiff,List.replicate,if_true,if_false,↓reduceIte,reduceCtorEq,elB,evParts,Int.reduceToNat,Int.reduceLE,Int.reduceLT,Int.reduceEq,Nat.reduceMul,Nat.reduceLeDiff,Nat.reduceLT,ty3,ty4,ty9,ty5,ty174,ty59,ty178,ty176]; exact le_flat (v := .fv (.int .i64 0)) rfl
 by_cases h3 : op = 3
 ·subst h3; simp -implicitDefEqProofs only [evx,evy,ofValue,ofCell,List.range,List.range.loop,Array.size,Nat.reduceAdd,Nat.reduceSub,Nat.reduceEqDiff,List.replicate,if_true,if_false,↓reduceIte,reduceCtorEq,elB,evParts,Int.reduceToNat,Int.reduceLE,Int.reduceLT,Int.reduceEq,Nat.reduceMul,Nat.reduceLeDiff,Nat.reduceLT,ty3,ty4,ty9,ty5,ty174,ty59,ty178,ty176]; exact le_flat (v := .fv (.int .i64 2)) rfl
 by_cases h4 : op = 4
 ·subst h4; simp -implicitDefEqProofs only [evx,evy,ofValue,ofCell,List.range,List.range.loop,Array.size,Nat.reduceAdd,Nat.reduceSub,Nat.reduceEqDiff,List.replicate,if_true,if_false,↓reduceIte,reduceCtorEq,elB,evParts,Int.reduceToNat,Int.reduceLE,Int.reduceLT,Int.reduceEq,Nat.reduceMul,Nat.reduceLeDiff,Nat.reduceLT,ty3,ty4,ty9,ty5,ty174,ty59,ty178,ty176]; exact le_flat (v := .fv (.int .i64 2)) rfl
 by_cases h5 : 5 ≤ op
 ·have h5t : (5 ≤ op) = True := by simpa using h5
  by_cases h7 : op ≤ 7
  ·have h7t : (op ≤ 7) = True := by simpa using h7
   rw [show wantsI op = 1 from by unfold wantsI; rw [if_neg (by omega),if_pos (by omega)]]
   simp -implicitDefEqProofs only [h1,h2,h3,h4,h5t,h7t,
  evx,evy,ofValue,ofCell,List.range,List.range.loop,Array.size,Nat.reduceAdd,Nat.reduceSub,Nat.reduceEqDiff,List.replicate,if_true,if_false,↓reduceIte,reduceCtorEq,elB,evParts,Int.reduceToNat,Int.reduceLE,Int.reduceLT,Int.reduceEq,Nat.reduceMul,Nat.reduceLeDiff,Nat.reduceLT,ty3,ty4,ty9,ty5,ty174,ty59,ty178,ty176]
   exact le_flat rfl
  ·have h7t : (op ≤ 7) = False := by simpa using h7
   rw [show wantsI op = -1 from by unfold wantsI; rw [if_neg (by omega),if_neg (by omega),if_neg (by omega)]]
   simp -implicitDefEqProofs only [h1,h2,h3,h4,h5t,h7t,
  evx,evy,ofValue,ofCell,List.range,List.range.loop,Array.size,Nat.reduceAdd,Nat.reduceSub,Nat.reduceEqDiff,List.replicate,if_true,if_false,↓reduceIte,reduceCtorEq,elB,evParts,Int.reduceToNat,Int.reduceLE,Int.reduceLT,Int.reduceEq,Nat.reduceMul,Nat.reduceLeDiff,Nat.reduceLT,ty3,ty4,ty9,ty5,ty174,ty59,ty178,ty176]
   exact le_flat rfl
 ·have h5t : (5 ≤ op) = False := by simpa using h5
  rw [show wantsI op = -1 from by unfold wantsI; rw [if_neg (by omega),if_neg (by omega),if_neg (by omega)]]
  simp -implicitDefEqProofs only [h1,h2,h3,h4,h5t,
  evx,evy,ofValue,ofCell,List.range,List.range.loop,Array.size,Nat.reduceAdd,Nat.reduceSub,Nat.reduceEqDiff,List.replicate,if_true,if_false,↓reduceIte,reduceCtorEq,elB,evParts,Int.reduceToNat,Int.reduceLE,Int.reduceLT,Int.reduceEq,Nat.reduceMul,Nat.reduceLeDiff,Nat.reduceLT,ty3,ty4,ty9,ty5,ty174,ty59,ty178,ty176]
  exact le_flat rfl
theorem aggSet : aggTy Tryz.prog 176 = some [.int .u64,.int .u64,.int .u64,.int .u64] := by kernel_rfl
theorem eqA_set (a b c d : Int) (one : Bool) : eqA Tryz.prog 176 one (.agg [.fv (.int .u64 a),.fv (.int .u64 b),.fv (.int .u64 c),.fv (.int .u64 d)]) (.agg [.fv (.int .u64 0),.fv (.int .u64 0),.fv (.int .u64 0),.fv (.int .u64 0)]) = some (a == 0 && b == 0 && c == 0 && d == 0) := by
 have h1 : conf [.int .u64,.int .u64,.int .u64,.int .u64] [.int .u64 a,.int .u64 b,.int .u64 c,.int .u64 d] = true := rfl
 have h2 : conf [.int .u64,.int .u64,.int .u64,.int .u64] [.int .u64 0,.int .u64 0,.int .u64 0,.int .u64 0] = true := rfl
 simp only [eqA,ty176,aggSet,toFs,Option.map_some,isAgg_array,h1,h2,Bool.and_self,if_true,eqR,eqC,Bool.and_true,Bool.and_assoc,beq_self_eq_true,Bool.true_and]
theorem neq_set (x : Cel) (one : Bool) : binA Tryz.prog .neq 176 one (.agg [.fv (.int .u64 x.a),.fv (.int .u64 x.b),.fv (.int .u64 x.c),.fv (.int .u64 x.d)]) (.agg [.fv (.int .u64 0),.fv (.int .u64 0),.fv (.int .u64 0),.fv (.int .u64 0)]) = some (.fv (.bool (!x.none_))) := by
 simp only [binA,eqA_set,negB,Cel.none_]
theorem eql_set (x : Cel) (one : Bool) : binA Tryz.prog .eql 176 one (.agg [.fv (.int .u64 x.a),.fv (.int .u64 x.b),.fv (.int .u64 x.c),.fv (.int .u64 x.d)]) (.agg [.fv (.int .u64 0),.fv (.int .u64 0),.fv (.int .u64 0),.fv (.int .u64 0)]) = some (.fv (.bool x.none_)) := by
 simp only [binA,eqA_set,negB,Cel.none_]
theorem neqB_ (x y one : Bool) : binA Tryz.prog .neq 4 one (.fv (.bool x)) (.fv (.bool y)) = some (.fv (.bool (!(x == y)))) := by
 simp only [binA,eqA,ty4,negB]
theorem eqlB_ (x y one : Bool) : binA Tryz.prog .eql 4 one (.fv (.bool x)) (.fv (.bool y)) = some (.fv (.bool (x == y))) := by
 simp only [binA,eqA,ty4,negB]
theorem rightB_no {l : List Cel} (h : l.length = 0 ∨ 60 < l.length) : rightB l = false := by
 unfold rightB
 rcases h with h | h
 ·rw [show decide (1 ≤ l.length) = false from decide_eq_false (by omega)]; simp
 ·rw [show decide (l.length ≤ 60) = false from decide_eq_false (by omega)]; simp
theorem rightB_eq {l : List Cel} (h1 : ¬ l.length = 0) (h2 : l.length ≤ 60) : rightB l = (match rightG l 0 with
 | some n => decide (n = 1)
 | none => false) := by
 unfold rightB
 rw [show decide (1 ≤ l.length) = true from decide_eq_true (by omega),show decide (l.length ≤ 60) = true from decide_eq_true (by omega)]
 rfl
theorem wants_le (op : Int) : -1 ≤ wantsI op ∧ wantsI op ≤ 2 := by
 unfold wantsI
 split
 ·omega
 ·split
  ·omega
  ·split <;> omega
theorem rightG_bad {c : Cel} {r : List Cel} {n : Int} (h : wantsI c.op < 0 ∨ n < wantsI c.op ∨ (c.op == 1) = c.none_) : rightG (c :: r) n = none := by rw [rightG,if_pos h]
theorem rightG_good {c : Cel} {r : List Cel} {n : Int} (h : ¬ (wantsI c.op < 0 ∨ n < wantsI c.op ∨ (c.op == 1) = c.none_)) : rightG (c :: r) n = rightG r (n + 1 - wantsI c.op) := by rw [rightG,if_neg h]
theorem ok135 (l : List Cel) : Ok Tryz.prog 135 [.fv (.lst 5 (l.map Cel.row))] [] (.ret (.fv (.bool (rightB l)))) [] := by
 refine ok_start (k := 47) (n0 := 0) (rs := [.tmp 2]) mix Tryz.func135 rfl rfl rfl rfl rfl rfl rfl ?_
 by_cases h0 : l.length = 0
 ·have h0t : ((l.length : Int) = 0) = True := by simpa using h0
  simp -implicitDefEqProofs only [awp_draw _ _ Tryzdr135_8,List.length_map,h0t,
  evx,evy,ofValue,ofCell,List.range,List.range.loop,Array.size,Nat.reduceAdd,Nat.reduceSub,Nat.reduceEqDiff,List.replicate,if_true,if_false,↓reduceIte,reduceCtorEq,elB,evParts,Int.reduceToNat,Int.reduceLE,Int.reduceLT,Int.reduceEq,Nat.reduceMul,Nat.reduceLeDiff,Nat.reduceLT,ty3,ty4,ty9,ty5,ty174,ty59,ty178,ty176]
  rw [rightB_no (.inl h0)]
  exact le_flat rfl
 have h0t : ((l.length : Int) = 0) = False := by simpa using h0
 by_cases h60 : (60 : Int) < (l.length : Int)
 ·simp -implicitDefEqProofs only [awp_draw _ _ Tryzdr135_8,List.length_map,h0t,lit_true h60,
  evx,evy,ofValue,ofCell,List.range,List.range.loop,Array.size,Nat.reduceAdd,Nat.reduceSub,Nat.reduceEqDiff,List.replicate,if_true,if_false,↓reduceIte,reduceCtorEq,elB,evParts,Int.reduceToNat,Int.reduceLE,Int.reduceLT,Int.reduceEq,Nat.reduceMul,Nat.reduceLeDiff,Nat.reduceLT,ty3,ty4,ty9,ty5,ty174,ty59,ty178,ty176]
  rw [rightB_no (.inr (by omega))]
  exact le_flat rfl
 rw [rightB_eq h0 (by omega)]
 simp -implicitDefEqProofs only [awp_draw _ _ Tryzdr135_8,List.length_map,h0t,lit_false h60,
  evx,evy,ofValue,ofCell,List.range,List.range.loop,Array.size,Nat.reduceAdd,Nat.reduceSub,Nat.reduceEqDiff,List.replicate,if_true,if_false,↓reduceIte,reduceCtorEq,elB,evParts,Int.reduceToNat,Int.reduceLE,Int.reduceLT,Int.reduceEq,Nat.reduceMul,Nat.reduceLeDiff,Nat.reduceLT,ty3,ty4,ty9,ty5,ty174,ty59,ty178,ty176]
 refine loop_rule (fun x : Nat × Int => ⟨[.any,.any,.any,.fv (.int .i64 x.2),.any,.any,.any,.any,.any,.any,.any,.any,.any,.any,.any,.fv (.lst 5 (l.map Cel.row)),.fv (.int .i64 l.length),.fv (.int .i64 x.1),.any,.any,.any,.any,.any,.any,.any,.any,.any,.any,.any,.any,.any,.any,.any,.any,.any,.any,.any,.any,.any,.any,.any,.any,.any,.any,.any,.any,.any,.any],[],[]⟩)
  (fun x => x.1 ≤ l.length ∧ 0 ≤ x.2 ∧ x.2 ≤ x.1 ∧ rightG l 0 = rightG (l.drop x.1) x.2) (fun x => l.length - x.1) (0,0) (le_none (by simp [wk]) rfl) (by simp) (fun x hx s hs2 => ?_)
 obtain ⟨i,n⟩ := x
 obtain ⟨hi,hn,hni,hg⟩ := hx
 simp only at hi hn hni hg hs2 ⊢
 by_cases hlt : i < l.length
 ·have hr := rows_at Cel.row l i hlt
  rw [List.drop_eq_getElem_cons hlt] at hg
  generalize l[i] = c at hr hg
  have hw := ok158 c.op
  obtain ⟨w1,w2⟩ := wants_le c.op
  have hbad := @rightG_bad c (l.drop (i + 1)) n
  have hgood := @rightG_good c (l.drop (i + 1)) n
  generalize wantsI c.op = W at hw w1 w2 hbad hgood
  simp -implicitDefEqProofs only [awp_draw _ _ Tryzdr135_8,stB_boxA,splice_all,List.all_cons,List.all_nil,List.length_map,lt_true hlt,hr,Cel.row,
  evx,evy,ofValue,ofCell,List.range,List.range.loop,Array.size,Nat.reduceAdd,Nat.reduceSub,Nat.reduceEqDiff,List.replicate,if_true,if_false,↓reduceIte,reduceCtorEq,elB,evParts,Int.reduceToNat,Int.reduceLE,Int.reduceLT,Int.reduceEq,Nat.reduceMul,Nat.reduceLeDiff,Nat.reduceLT,ty3,ty4,ty9,ty5,ty174,ty59,ty178,ty176]
  refine callK_ret _ _ _ _ (call_pure (hw) (fun _ => rfl) (fun _ => rfl)) (ok_nil _ _) ?_
  by_cases c1 : W < 0
  ·have c1t : (W < 0) = True := by simpa using c1
   simp -implicitDefEqProofs only [awp_draw _ _ Tryzdr135_8,c1t,
  evx,evy,ofValue,ofCell,List.range,List.range.loop,Array.size,Nat.reduceAdd,Nat.reduceSub,Nat.reduceEqDiff,List.replicate,if_true,if_false,↓reduceIte,reduceCtorEq,elB,evParts,Int.reduceToNat,Int.reduceLE,Int.reduceLT,Int.reduceEq,Nat.reduceMul,Nat.reduceLeDiff,Nat.reduceLT,ty3,ty4,ty9,ty5,ty174,ty59,ty178,ty176]
   rw [hg,hbad (.inl c1)]
   exact le_flat rfl
  have c1t : (W < 0) = False := by simpa using c1
  by_cases c2 : n < W
  ·have c2t : (n < W) = True := by simpa using c2
   simp -implicitDefEqProofs only [awp_draw _ _ Tryzdr135_8,c1t,c2t,
  evx,evy,ofValue,ofCell,List.range,List.range.loop,Array.size,Nat.reduceAdd,Nat.reduceSub,Nat.reduceEqDiff,List.replicate,if_true,if_false,↓reduceIte,reduceCtorEq,elB,evParts,Int.reduceToNat,Int.reduceLE,Int.reduceLT,Int.reduceEq,Nat.reduceMul,Nat.reduceLeDiff,Nat.reduceLT,ty3,ty4,ty9,ty5,ty174,ty59,ty178,ty176]
   rw [hg,hbad (.inr (.inl c2))]
   exact le_flat rfl
  have c2t : (n < W) = False := by simpa using c2
  have hwr : IntKind.wrap .i64 (n + IntKind.wrap .i64 (1 - W)) = n + 1 - W := by
   rw [wrap_small (n := 1 - W) (by omega) (by omega),wrap_small (by omega) (by omega)]; omega
  by_cases c3 : c.op = 1
  ·have c3t : (c.op = 1) = True := by simpa using c3
   have c3b : (c.op == 1) = true := by simpa using c3
   rw [c3b] at hbad hgood
   cases hnn : c.none_ with
   | true =>
    rw [hnn] at hbad
    simp -implicitDefEqProofs only [awp_draw _ _ Tryzdr135_8,c1t,c2t,c3t,neq_set,hnn,neqB_,
  evx,evy,ofValue,ofCell,List.range,List.range.loop,Array.size,Nat.reduceAdd,Nat.reduceSub,Nat.reduceEqDiff,List.replicate,if_true,if_false,↓reduceIte,reduceCtorEq,elB,evParts,Int.reduceToNat,Int.reduceLE,Int.reduceLT,Int.reduceEq,Nat.reduceMul,Nat.reduceLeDiff,Nat.reduceLT,ty3,ty4,ty9,ty5,ty174,ty59,ty178,ty176]
    rw [hg,hbad (.inr (.inr rfl))]
    exact le_flat rfl
   | false =>
    rw [hnn] at hgood
    simp -implicitDefEqProofs only [awp_draw _ _ Tryzdr135_8,c1t,c2t,c3t,neq_set,hnn,neqB_,hwr,wsucc i (by omega),
  evx,evy,ofValue,ofCell,List.range,List.range.loop,Array.size,Nat.reduceAdd,Nat.reduceSub,Nat.reduceEqDiff,List.replicate,if_true,if_false,↓reduceIte,reduceCtorEq,elB,evParts,Int.reduceToNat,Int.reduceLE,Int.reduceLT,Int.reduceEq,Nat.reduceMul,Nat.reduceLeDiff,Nat.reduceLT,ty3,ty4,ty9,ty5,ty174,ty59,ty178,ty176]
    refine back_intro hs2 (i + 1,n + 1 - W) (le_none (by simp [wk]) rfl) ⟨by simp only; omega,by simp only; omega,by simp only; omega,by rw [hg,hgood (by simp; omega)]⟩ (by simp only; omega)
  ·have c3t : (c.op = 1) = False := by simpa using c3
   have c3b : (c.op == 1) = false := by simpa using c3
   rw [c3b] at hbad hgood
   cases hnn : c.none_ with
   | true =>
    rw [hnn] at hgood
    simp -implicitDefEqProofs only [awp_draw _ _ Tryzdr135_8,c1t,c2t,c3t,neq_set,hnn,neqB_,hwr,wsucc i (by omega),
  evx,evy,ofValue,ofCell,List.range,List.range.loop,Array.size,Nat.reduceAdd,Nat.reduceSub,Nat.reduceEqDiff,List.replicate,if_true,if_false,↓reduceIte,reduceCtorEq,elB,evParts,Int.reduceToNat,Int.reduceLE,Int.reduceLT,Int.reduceEq,Nat.reduceMul,Nat.reduceLeDiff,Nat.reduceLT,ty3,ty4,ty9,ty5,ty174,ty59,ty178,ty176]
    refine back_intro hs2 (i + 1,n + 1 - W) (le_none (by simp [wk]) rfl) ⟨by simp only; omega,by simp only; omega,by simp only; omega,by rw [hg,hgood (by simp; omega)]⟩ (by simp only; omega)
   | false =>
    rw [hnn] at hbad
    simp -implicitDefEqProofs only [awp_draw _ _ Tryzdr135_8,c1t,c2t,c3t,neq_set,hnn,neqB_,
  evx,evy,ofValue,ofCell,List.range,List.range.loop,Array.size,Nat.reduceAdd,Nat.reduceSub,Nat.reduceEqDiff,List.replicate,if_true,if_false,↓reduceIte,reduceCtorEq,elB,evParts,Int.reduceToNat,Int.reduceLE,Int.reduceLT,Int.reduceEq,Nat.reduceMul,Nat.reduceLeDiff,Nat.reduceLT,ty3,ty4,ty9,ty5,ty174,ty59,ty178,ty176]
    rw [hg,hbad (.inr (.inr rfl))]
    exact le_flat rfl
 ·obtain rfl : i = l.length := by omega
  rw [List.drop_length] at hg
  rw [hg]
  by_cases h1 : n = 1
  ·have h1t : (n = 1) = True := by simpa using h1
   simp -implicitDefEqProofs only [awp_draw _ _ Tryzdr135_8,lt_false hlt,h1t,rightG,
  evx,evy,ofValue,ofCell,List.range,List.range.loop,Array.size,Nat.reduceAdd,Nat.reduceSub,Nat.reduceEqDiff,List.replicate,if_true,if_false,↓reduceIte,reduceCtorEq,elB,evParts,Int.reduceToNat,Int.reduceLE,Int.reduceLT,Int.reduceEq,Nat.reduceMul,Nat.reduceLeDiff,Nat.reduceLT,ty3,ty4,ty9,ty5,ty174,ty59,ty178,ty176]
   exact le_flat rfl
  ·have h1t : (n = 1) = False := by simpa using h1
   simp -implicitDefEqProofs only [awp_draw _ _ Tryzdr135_8,lt_false hlt,h1t,rightG,
  evx,evy,ofValue,ofCell,List.range,List.range.loop,Array.size,Nat.reduceAdd,Nat.reduceSub,Nat.reduceEqDiff,List.replicate,if_true,if_false,↓reduceIte,reduceCtorEq,elB,evParts,Int.reduceToNat,Int.reduceLE,Int.reduceLT,Int.reduceEq,Nat.reduceMul,Nat.reduceLeDiff,Nat.reduceLT,ty3,ty4,ty9,ty5,ty174,ty59,ty178,ty176]
   exact le_flat rfl
theorem ok103 (l : List Cel) : Ok Tryz.prog 103 [.fv (.lst 5 (l.map Cel.row))] [] (.ret (.fv (.bool (rightB l)))) [] := by
 refine ok_start (k := 56) (n0 := 0) (rs := [.tmp 2]) mix Tryz.func103 rfl rfl rfl rfl rfl rfl rfl ?_
 by_cases h0 : (l.length : Int) < 1
 ·have h0t : ((l.length : Int) < 1) = True := by simpa using h0
  simp -implicitDefEqProofs only [List.length_map,h0t,
  evx,evy,ofValue,ofCell,List.range,List.range.loop,Array.size,Nat.reduceAdd,Nat.reduceSub,Nat.reduceEqDiff,List.replicate,if_true,if_false,↓reduceIte,reduceCtorEq,elB,evParts,Int.reduceToNat,Int.reduceLE,Int.reduceLT,Int.reduceEq,Nat.reduceMul,Nat.reduceLeDiff,Nat.reduceLT,ty3,ty4,ty9,ty5,ty174,ty59,ty178,ty176]
  rw [rightB_no (.inl (by omega))]
  exact le_flat rfl
 have h0t : ((l.length : Int) < 1) = False := by simpa using h0
 by_cases h60 : (60 : Int) < (l.length : Int)
 ·simp -implicitDefEqProofs only [List.length_map,h0t,lit_true h60,
  evx,evy,ofValue,ofCell,List.range,List.range.loop,Array.size,Nat.reduceAdd,Nat.reduceSub,Nat.reduceEqDiff,List.replicate,if_true,if_false,↓reduceIte,reduceCtorEq,elB,evParts,Int.reduceToNat,Int.reduceLE,Int.reduceLT,Int.reduceEq,Nat.reduceMul,Nat.reduceLeDiff,Nat.reduceLT,ty3,ty4,ty9,ty5,ty174,ty59,ty178,ty176]
  rw [rightB_no (.inr (by omega))]
  exact le_flat rfl
 rw [rightB_eq (by omega) (by omega)]
 simp -implicitDefEqProofs only [List.length_map,h0t,lit_false h60,
  evx,evy,ofValue,ofCell,List.range,List.range.loop,Array.size,Nat.reduceAdd,Nat.reduceSub,Nat.reduceEqDiff,List.replicate,if_true,if_false,↓reduceIte,reduceCtorEq,elB,evParts,Int.reduceToNat,Int.reduceLE,Int.reduceLT,Int.reduceEq,Nat.reduceMul,Nat.reduceLeDiff,Nat.reduceLT,ty3,ty4,ty9,ty5,ty174,ty59,ty178,ty176]
 refine loop_rule (fun x : Nat × Int => ⟨[.fv (.lst 5 (l.map Cel.row)),.any,.any,.fv (.int .i64 x.2),.fv (.int .i64 x.1),.any,.any,.any,.any,.any,.any,.any,.any,.any,.any,.any,.any,.any,.any,.any,.any,.any,.any,.any,.any,.any,.any,.any,.any,.any,.any,.any,.any,.any,.any,.any,.any,.any,.any,.any,.any,.any,.any,.any,.any,.any,.any,.any,.any,.any,.any,.any,.any,.any,.any,.any,.any],[],[]⟩)
  (fun x => x.1 ≤ l.length ∧ 0 ≤ x.2 ∧ x.2 ≤ x.1 ∧ rightG l 0 = rightG (l.drop x.1) x.2) (fun x => l.length - x.1) (0,0) (le_none (by simp [wk]) rfl) (by simp) (fun x hx s hs2 => ?_)
 obtain ⟨i,n⟩ := x
 obtain ⟨hi,hn,hni,hg⟩ := hx
 simp only at hi hn hni hg hs2 ⊢
 by_cases hlt : i < l.length
 ·have hr := rows_at Cel.row l i hlt
  rw [List.drop_eq_getElem_cons hlt] at hg
  generalize l[i] = c at hr hg
  have hw := ok121 c.op
  obtain ⟨w1,w2⟩ := wants_le c.op
  have hbad := @rightG_bad c (l.drop (i + 1)) n
  have hgood := @rightG_good c (l.drop (i + 1)) n
  generalize wantsI c.op = W at hw w1 w2 hbad hgood
  simp -implicitDefEqProofs only [List.length_map,lt_true hlt,hr,Cel.row,
  evx,evy,ofValue,ofCell,List.range,List.range.loop,Array.size,Nat.reduceAdd,Nat.reduceSub,Nat.reduceEqDiff,List.replicate,if_true,if_false,↓reduceIte,reduceCtorEq,elB,evParts,Int.reduceToNat,Int.reduceLE,Int.reduceLT,Int.reduceEq,Nat.reduceMul,Nat.reduceLeDiff,Nat.reduceLT,ty3,ty4,ty9,ty5,ty174,ty59,ty178,ty176]
  refine callK_ret _ _ _ _ (call_pure (hw) (fun _ => rfl) (fun _ => rfl)) (ok_nil _ _) ?_
  by_cases c1 : W < 0
  ·have c1t : (W < 0) = True := by simpa using c1
   simp -implicitDefEqProofs only [List.length_map,hr,Cel.row,eql_set,c1t,
  evx,evy,ofValue,ofCell,List.range,List.range.loop,Array.size,Nat.reduceAdd,Nat.reduceSub,Nat.reduceEqDiff,List.replicate,if_true,if_false,↓reduceIte,reduceCtorEq,elB,evParts,Int.reduceToNat,Int.reduceLE,Int.reduceLT,Int.reduceEq,Nat.reduceMul,Nat.reduceLeDiff,Nat.reduceLT,ty3,ty4,ty9,ty5,ty174,ty59,ty178,ty176]
   rw [hg,hbad (.inl c1)]
   exact le_flat rfl
  have c1t : (W < 0) = False := by simpa using c1
  by_cases c2 : n < W
  ·have c2t : (n < W) = True := by simpa using c2
   simp -implicitDefEqProofs only [List.length_map,hr,Cel.row,eql_set,c1t,c2t,
  evx,evy,ofValue,ofCell,List.range,List.range.loop,Array.size,Nat.reduceAdd,Nat.reduceSub,Nat.reduceEqDiff,List.replicate,if_true,if_false,↓reduceIte,reduceCtorEq,elB,evParts,Int.reduceToNat,Int.reduceLE,Int.reduceLT,Int.reduceEq,Nat.reduceMul,Nat.reduceLeDiff,Nat.reduceLT,ty3,ty4,ty9,ty5,ty174,ty59,ty178,ty176]
   rw [hg,hbad (.inr (.inl c2))]
   exact le_flat rfl
  have c2t : (n < W) = False := by simpa using c2
  have hwr : IntKind.wrap .i64 (IntKind.wrap .i64 (n - W) + 1) = n + 1 - W := by
   rw [wrap_small (n := n - W) (by omega) (by omega),wrap_small (by omega) (by omega)]; omega
  by_cases c3 : c.op = 1
  ·have c3t : (c.op = 1) = True := by simpa using c3
   have c3b : (c.op == 1) = true := by simpa using c3
   rw [c3b] at hbad hgood
   cases hnn : c.none_ with
   | true =>
    rw [hnn] at hbad
    simp -implicitDefEqProofs only [List.length_map,hr,Cel.row,eql_set,c1t,c2t,c3t,hnn,eqlB_,
  evx,evy,ofValue,ofCell,List.range,List.range.loop,Array.size,Nat.reduceAdd,Nat.reduceSub,Nat.reduceEqDiff,List.replicate,if_true,if_false,↓reduceIte,reduceCtorEq,elB,evParts,Int.reduceToNat,Int.reduceLE,Int.reduceLT,Int.reduceEq,Nat.reduceMul,Nat.reduceLeDiff,Nat.reduceLT,ty3,ty4,ty9,ty5,ty174,ty59,ty178,ty176]
    rw [hg,hbad (.inr (.inr rfl))]
    exact le_flat rfl
   | false =>
    rw [hnn] at hgood
    simp -implicitDefEqProofs only [List.length_map,hr,Cel.row,eql_set,c1t,c2t,c3t,hnn,eqlB_,hwr,wsucc i (by omega),
  evx,evy,ofValue,ofCell,List.range,List.range.loop,Array.size,Nat.reduceAdd,Nat.reduceSub,Nat.reduceEqDiff,List.replicate,if_true,if_false,↓reduceIte,reduceCtorEq,elB,evParts,Int.reduceToNat,Int.reduceLE,Int.reduceLT,Int.reduceEq,Nat.reduceMul,Nat.reduceLeDiff,Nat.reduceLT,ty3,ty4,ty9,ty5,ty174,ty59,ty178,ty176]
    refine back_intro hs2 (i + 1,n + 1 - W) (le_none (by simp [wk]) rfl) ⟨by simp only; omega,by simp only; omega,by simp only; omega,by rw [hg,hgood (by simp; omega)]⟩ (by simp only; omega)
  ·have c3t : (c.op = 1) = False := by simpa using c3
   have c3b : (c.op == 1) = false := by simpa using c3
   rw [c3b] at hbad hgood
   cases hnn : c.none_ with
   | true =>
    rw [hnn] at hgood
    simp -implicitDefEqProofs only [List.length_map,hr,Cel.row,eql_set,c1t,c2t,c3t,hnn,eqlB_,hwr,wsucc i (by omega),
  evx,evy,ofValue,ofCell,List.range,List.range.loop,Array.size,Nat.reduceAdd,Nat.reduceSub,Nat.reduceEqDiff,List.replicate,if_true,if_false,↓reduceIte,reduceCtorEq,elB,evParts,Int.reduceToNat,Int.reduceLE,Int.reduceLT,Int.reduceEq,Nat.reduceMul,Nat.reduceLeDiff,Nat.reduceLT,ty3,ty4,ty9,ty5,ty174,ty59,ty178,ty176]
    refine back_intro hs2 (i + 1,n + 1 - W) (le_none (by simp [wk]) rfl) ⟨by simp only; omega,by simp only; omega,by simp only; omega,by rw [hg,hgood (by simp; omega)]⟩ (by simp only; omega)
   | false =>
    rw [hnn] at hbad
    simp -implicitDefEqProofs only [List.length_map,hr,Cel.row,eql_set,c1t,c2t,c3t,hnn,eqlB_,
  evx,evy,ofValue,ofCell,List.range,List.range.loop,Array.size,Nat.reduceAdd,Nat.reduceSub,Nat.reduceEqDiff,List.replicate,if_true,if_false,↓reduceIte,reduceCtorEq,elB,evParts,Int.reduceToNat,Int.reduceLE,Int.reduceLT,Int.reduceEq,Nat.reduceMul,Nat.reduceLeDiff,Nat.reduceLT,ty3,ty4,ty9,ty5,ty174,ty59,ty178,ty176]
    rw [hg,hbad (.inr (.inr rfl))]
    exact le_flat rfl
 ·obtain rfl : i = l.length := by omega
  rw [List.drop_length] at hg
  rw [hg]
  by_cases h1 : n = 1
  ·have h1t : (n = 1) = True := by simpa using h1
   simp -implicitDefEqProofs only [List.length_map,lt_false hlt,h1t,rightG,
  evx,evy,ofValue,ofCell,List.range,List.range.loop,Array.size,Nat.reduceAdd,Nat.reduceSub,Nat.reduceEqDiff,List.replicate,if_true,if_false,↓reduceIte,reduceCtorEq,elB,evParts,Int.reduceToNat,Int.reduceLE,Int.reduceLT,Int.reduceEq,Nat.reduceMul,Nat.reduceLeDiff,Nat.reduceLT,ty3,ty4,ty9,ty5,ty174,ty59,ty178,ty176]
   exact le_flat rfl
  ·have h1t : (n = 1) = False := by simpa using h1
   simp -implicitDefEqProofs only [List.length_map,lt_false hlt,h1t,rightG,
  evx,evy,ofValue,ofCell,List.range,List.range.loop,Array.size,Nat.reduceAdd,Nat.reduceSub,Nat.reduceEqDiff,List.replicate,if_true,if_false,↓reduceIte,reduceCtorEq,elB,evParts,Int.reduceToNat,Int.reduceLE,Int.reduceLT,Int.reduceEq,Nat.reduceMul,Nat.reduceLeDiff,Nat.reduceLT,ty3,ty4,ty9,ty5,ty174,ty59,ty178,ty176]
   exact le_flat rfl
end Go.Abs
/- Names of a grammar: the program's answer and the document's. -/
namespace Go.Abs
open Go.Proofs
set_option linter.unusedVariables false
set_option linter.unusedSimpArgs false
set_option maxRecDepth 100000
set_option maxHeartbeats 1000000
theorem nodupN_iff : ∀ (l : List Bs),nodupN l = true ↔ l.Nodup
 | [] => by simp [nodupN]
 | s :: l => by simp [nodupN,nodupN_iff l]
theorem nodup_step {l : List Bs} {i : Nat} (hi : i < l.length) (h : (l.take i).Nodup) (hn : l[i] ∉ l.take i) : (l.take (i + 1)).Nodup := by
 rw [List.take_add_one,List.getElem?_eq_getElem hi]
 rw [List.nodup_append]
 refine ⟨h,by simp,fun a ha b hb e => ?_⟩
 simp at hb
 subst hb
 exact hn (e ▸ ha)
theorem nodup_bad {l : List Bs} {i : Nat} (hi : i < l.length) (hn : l[i] ∈ l.take i) : nodupN l = false := by
 cases h : nodupN l with
 | false => rfl
 | true =>
  rw [nodupN_iff] at h
  rw [← List.take_append_drop i l,List.nodup_append] at h
  refine absurd rfl (h.2.2 _ hn l[i] ?_)
  rw [List.drop_eq_getElem_cons hi]
  exact List.mem_cons_self
theorem namesB_rule {g : Gra} {i : Nat} (hi : i < g.rules.length) (h : rightB g.rules[i].re = false) : g.namesB = false := by
 unfold Gra.namesB
 have : (g.rules.all fun r => rightB r.re) = false := by
  rw [List.all_eq_false]
  exact ⟨_,List.getElem_mem hi,by simp [h]⟩
 rw [this]; rfl
theorem namesB_named {g : Gra} {i : Nat} (hi : i < g.names.length) (h : namedB g.names[i] = false) : g.namesB = false := by
 unfold Gra.namesB
 have : g.names.all namedB = false := by
  rw [List.all_eq_false]
  exact ⟨_,List.getElem_mem hi,by simp [h]⟩
 rw [this]; simp
theorem namesB_dup {g : Gra} {i : Nat} (hi : i < g.names.length) (h : g.names[i] ∈ g.names.take i) : g.namesB = false := by
 unfold Gra.namesB
 rw [nodup_bad hi h]; simp
theorem namesB_ok {g : Gra} (h1 : (g.rules.all fun r => rightB r.re) = true) (h2 : g.names.all namedB = true) (h3 : g.names.Nodup) : g.namesB = true := by
 unfold Gra.namesB
 rw [h1,h2,(nodupN_iff _).2 h3]; rfl
def nRows (l : List Rul) : List (List FV) := (l.map Rul.name).map sRow
theorem nRows_length (l : List Rul) : (nRows l).length = l.length := by simp [nRows]
theorem nRows_succ {l : List Rul} {i : Nat} (hi : i < l.length) : nRows (l.take (i + 1)) = nRows (l.take i) ++ [[.str l[i].name]] := by
 rw [nRows,nRows,List.take_add_one,List.getElem?_eq_getElem hi,List.map_append,List.map_append]
 rfl
theorem all_succ {α : Type} (p : α → Bool) {l : List α} {i : Nat} (hi : i < l.length) (h : (l.take i).all p = true) (h2 : p l[i] = true) : (l.take (i + 1)).all p = true := by
 rw [List.take_add_one,List.getElem?_eq_getElem hi,List.all_append,h]
 simp [h2]
theorem names_length (g : Gra) : g.names.length = g.rules.length + g.nonts.length := by simp [Gra.names]
theorem names_rows (g : Gra) : nRows g.rules ++ g.nonts.map sRow = g.names.map sRow := by simp [nRows,Gra.names]
theorem ok109 (g : Gra) (hs : g.rules.length ≤ 40) (hs2 : g.nonts.length ≤ 40) (hn : ∀ s ∈ g.names,s.length ≤ 4000) : Ok Tryz.prog 109 [g.av] [] (.ret (.fv (.bool g.namesB))) [] := by
 refine ok_start (k := 46) (n0 := 0) (rs := [.tmp 2]) mix Tryz.func109 rfl rfl rfl rfl rfl rfl rfl ?_
 have hnl := names_length g
 simp -implicitDefEqProofs only [Gra.av,List.length_map,
  evx,evy,ofValue,ofCell,List.range,List.range.loop,Array.size,Nat.reduceAdd,Nat.reduceSub,Nat.reduceEqDiff,List.replicate,if_true,if_false,↓reduceIte,reduceCtorEq,elB,evParts,Int.reduceToNat,Int.reduceLE,Int.reduceLT,Int.reduceEq,Nat.reduceMul,Nat.reduceLeDiff,Nat.reduceLT,ty3,ty4,ty9,ty22,ty23,ty24,ty25,ty27,ty28,ty63,ty59,ty61,ty127]
 refine loop_rule (fun i : Nat => ⟨[.any,.ptr 0 0 0 0,.any,.ref 1 1 0 i,.any,.any,.any,.any,.any,.fv (.lst 3 (g.rules.map Rul.row)),.fv (.int .i64 g.rules.length),.fv (.int .i64 i),.any,.any,.any,.any,.any,.any,.any,.any,.any,.any,.any,.any,.any,.any,.any,.any,.any,.any,.any,.any,.any,.any,.any,.any,.any,.any,.any,.any,.any,.any,.any,.any,.any,.any,.any],[.box g.cells,.plain 1 (nRows (g.rules.take i))],[]⟩)
  (fun i => i ≤ g.rules.length ∧ ((g.rules.take i).all fun r => rightB r.re) = true) (fun i => g.rules.length - i) 0 (Le.trans (le_virt 3 1 rfl) (le_wk (by simp [wk]))) (by simp) (fun i hi s hs3 => ?_)
 obtain ⟨hi,hall⟩ := hi
 have hrl : (nRows (g.rules.take i)).length = i := by rw [nRows_length,List.length_take]; omega
 have htk : List.take i (nRows (g.rules.take i)) = nRows (g.rules.take i) := List.take_of_length_le (by omega)
 by_cases hlt : i < g.rules.length
 ·have hr := rows_at Rul.row g.rules i hlt
  have hbad := @namesB_rule g i hlt
  have hgood := all_succ (fun r => rightB r.re) hlt hall
  have hsucc := nRows_succ hlt
  have h40 := ok135 g.rules[i].re
  generalize g.rules[i] = r at hr hbad hgood hsucc h40
  cases hrb : rightB r.re with
  | false =>
   rw [hrb] at h40
   simp -implicitDefEqProofs only [stB_boxA,splice_all,List.all_cons,List.all_nil,List.length_map,lt_true hlt,hr,Rul.row,
  evx,evy,ofValue,ofCell,List.range,List.range.loop,Array.size,Nat.reduceAdd,Nat.reduceSub,Nat.reduceEqDiff,List.replicate,if_true,if_false,↓reduceIte,reduceCtorEq,elB,evParts,Int.reduceToNat,Int.reduceLE,Int.reduceLT,Int.reduceEq,Nat.reduceMul,Nat.reduceLeDiff,Nat.reduceLT,ty3,ty4,ty9,ty22,ty23,ty24,ty25,ty27,ty28,ty63,ty59,ty61,ty127]
   refine callK_ret _ _ _ _ (call_pure (h40) (fun _ => rfl) (fun _ => rfl)) (ok_nil _ _) ?_
   simp -implicitDefEqProofs only [evx,evy,ofValue,ofCell,List.range,List.range.loop,Array.size,Nat.reduceAdd,Nat.reduceSub,Nat.reduceEqDiff,List.replicate,if_true,if_false,↓reduceIte,reduceCtorEq,elB,evParts,Int.reduceToNat,Int.reduceLE,Int.reduceLT,Int.reduceEq,Nat.reduceMul,Nat.reduceLeDiff,Nat.reduceLT,ty3,ty4,ty9,ty22,ty23,ty24,ty25,ty27,ty28,ty63,ty59,ty61,ty127]
   rw [hbad hrb]
   exact le_flat rfl
  | true =>
   rw [hrb] at h40
   simp -implicitDefEqProofs only [stB_boxA,splice_all,List.all_cons,List.all_nil,List.length_map,lt_true hlt,hr,Rul.row,
  evx,evy,ofValue,ofCell,List.range,List.range.loop,Array.size,Nat.reduceAdd,Nat.reduceSub,Nat.reduceEqDiff,List.replicate,if_true,if_false,↓reduceIte,reduceCtorEq,elB,evParts,Int.reduceToNat,Int.reduceLE,Int.reduceLT,Int.reduceEq,Nat.reduceMul,Nat.reduceLeDiff,Nat.reduceLT,ty3,ty4,ty9,ty22,ty23,ty24,ty25,ty27,ty28,ty63,ty59,ty61,ty127]
   refine callK_ret _ _ _ _ (call_pure (h40) (fun _ => rfl) (fun _ => rfl)) (ok_nil _ _) ?_
   simp -implicitDefEqProofs only [List.length_map,wsucc i (by omega),
  evx,evy,ofValue,ofCell,List.range,List.range.loop,Array.size,Nat.reduceAdd,Nat.reduceSub,Nat.reduceEqDiff,List.replicate,if_true,if_false,↓reduceIte,reduceCtorEq,elB,evParts,Int.reduceToNat,Int.reduceLE,Int.reduceLT,Int.reduceEq,Nat.reduceMul,Nat.reduceLeDiff,Nat.reduceLT,ty3,ty4,ty9,ty22,ty23,ty24,ty25,ty27,ty28,ty63,ty59,ty61,ty127]
   refine ⟨⟨by omega,by omega⟩,back_intro hs3 (i + 1) (le_pk [0,4] rfl (by simp) (by simp) ?_ ?_) ⟨by omega,hgood hrb⟩ (by omega)⟩
   ·rw [htk,hsucc]
    simp [subBlk,subAny,subA,Gra.cells]
   ·simp [wk,subAny,subA,mkSub,idx]
 ·obtain rfl : i = g.rules.length := by omega
  rw [List.take_length] at hall htk hrl
  have hnr := names_rows g
  simp -implicitDefEqProofs only [Gra.cells,List.length_map,List.take_length,lt_false hlt,htk,hnr,
  evx,evy,ofValue,ofCell,List.range,List.range.loop,Array.size,Nat.reduceAdd,Nat.reduceSub,Nat.reduceEqDiff,List.replicate,if_true,if_false,↓reduceIte,reduceCtorEq,elB,evParts,Int.reduceToNat,Int.reduceLE,Int.reduceLT,Int.reduceEq,Nat.reduceMul,Nat.reduceLeDiff,Nat.reduceLT,ty3,ty4,ty9,ty22,ty23,ty24,ty25,ty27,ty28,ty63,ty59,ty61,ty127]
  refine ⟨⟨by omega,by omega⟩,?_⟩
  refine loop_rule (fun i : Nat => ⟨[.any,.any,.any,.ref 0 1 0 g.names.length,.any,.any,.any,.any,.any,.any,.any,.any,.any,.any,.any,.any,.any,.any,.any,.any,.any,.any,.any,.any,.any,.any,.any,.any,.any,.ref 0 1 0 g.names.length,.fv (.int .i64 g.names.length),.fv (.int .i64 i),.any,.any,.any,.any,.any,.any,.any,.any,.any,.any,.any,.any,.any,.any,.any],[.plain 1 (g.names.map sRow)],[]⟩)
   (fun i => i ≤ g.names.length ∧ (g.names.take i).all namedB = true ∧ (g.names.take i).Nodup) (fun i => g.names.length - i) 0 (le_pk [2] rfl (by simp) (by simp) ?_ ?_) (by simp) (fun i hi s hs3 => ?_)
  ·simp [subBlk]
  ·rw [hnl]; simp [wk,subAny,subA,mkSub,idx]
  obtain ⟨hi,hnd,hdup⟩ := hi
  by_cases hlt2 : i < g.names.length
  ·have hr := rows_at sRow g.names i hlt2
   have hb1 := @namesB_named g i hlt2
   have hb2 := @namesB_dup g i hlt2
   have hg1 := all_succ namedB hlt2 hnd
   have hg2 := nodup_step hlt2 hdup
   have h64 := ok136 g.names[i] (hn _ (List.getElem_mem hlt2))
   have h65 := ok137 (g.names.take i) g.names[i] (by rw [List.length_take]; omega)
   rw [List.map_take] at h65
   generalize g.names[i] = x at hr hb1 hb2 hg1 hg2 h64 h65
   cases hnx : namedB x with
   | false =>
    rw [hnx] at h64
    simp -implicitDefEqProofs only [List.length_map,lt_true hlt2,hr,sRow,
  evx,evy,ofValue,ofCell,List.range,List.range.loop,Array.size,Nat.reduceAdd,Nat.reduceSub,Nat.reduceEqDiff,List.replicate,if_true,if_false,↓reduceIte,reduceCtorEq,elB,evParts,Int.reduceToNat,Int.reduceLE,Int.reduceLT,Int.reduceEq,Nat.reduceMul,Nat.reduceLeDiff,Nat.reduceLT,ty3,ty4,ty9,ty22,ty23,ty24,ty25,ty27,ty28,ty63,ty59,ty61,ty127]
    refine callK_ret _ _ _ _ (call_pure (h64) (fun _ => rfl) (fun _ => rfl)) (ok_nil _ _) ?_
    simp -implicitDefEqProofs only [evx,evy,ofValue,ofCell,List.range,List.range.loop,Array.size,Nat.reduceAdd,Nat.reduceSub,Nat.reduceEqDiff,List.replicate,if_true,if_false,↓reduceIte,reduceCtorEq,elB,evParts,Int.reduceToNat,Int.reduceLE,Int.reduceLT,Int.reduceEq,Nat.reduceMul,Nat.reduceLeDiff,Nat.reduceLT,ty3,ty4,ty9,ty22,ty23,ty24,ty25,ty27,ty28,ty63,ty59,ty61,ty127]
    rw [hb1 hnx]
    exact le_flat rfl
   | true =>
    rw [hnx] at h64
    simp -implicitDefEqProofs only [List.length_map,lt_true hlt2,hr,sRow,
  evx,evy,ofValue,ofCell,List.range,List.range.loop,Array.size,Nat.reduceAdd,Nat.reduceSub,Nat.reduceEqDiff,List.replicate,if_true,if_false,↓reduceIte,reduceCtorEq,elB,evParts,Int.reduceToNat,Int.reduceLE,Int.reduceLT,Int.reduceEq,Nat.reduceMul,Nat.reduceLeDiff,Nat.reduceLT,ty3,ty4,ty9,ty22,ty23,ty24,ty25,ty27,ty28,ty63,ty59,ty61,ty127]
    refine callK_ret _ _ _ _ (call_pure (h64) (fun _ => rfl) (fun _ => rfl)) (ok_nil _ _) ?_
    simp -implicitDefEqProofs only [List.length_map,le_true hi,Nat.sub_zero,
  evx,evy,ofValue,ofCell,List.range,List.range.loop,Array.size,Nat.reduceAdd,Nat.reduceSub,Nat.reduceEqDiff,List.replicate,if_true,if_false,↓reduceIte,reduceCtorEq,elB,evParts,Int.reduceToNat,Int.reduceLE,Int.reduceLT,Int.reduceEq,Nat.reduceMul,Nat.reduceLeDiff,Nat.reduceLT,ty3,ty4,ty9,ty22,ty23,ty24,ty25,ty27,ty28,ty63,ty59,ty61,ty127]
    refine ⟨⟨by omega,trivial⟩,?_⟩
    refine callK_ret _ _ _ _ (call_look [0] h65 ?_ (fun k hk => by simp at hk; subst hk; exact ⟨_,_,rfl⟩) rfl) (ok_nil _ _) ?_
    ·simp [subAny,subA,mkSub,idx,hi]
    cases hc : (g.names.take i).contains x with
    | true =>
     simp -implicitDefEqProofs only [evx,evy,ofValue,ofCell,List.range,List.range.loop,Array.size,Nat.reduceAdd,Nat.reduceSub,Nat.reduceEqDiff,List.replicate,if_true,if_false,↓reduceIte,reduceCtorEq,elB,evParts,Int.reduceToNat,Int.reduceLE,Int.reduceLT,Int.reduceEq,Nat.reduceMul,Nat.reduceLeDiff,Nat.reduceLT,ty3,ty4,ty9,ty22,ty23,ty24,ty25,ty27,ty28,ty63,ty59,ty61,ty127]
     rw [hb2 (by simpa using hc)]
     exact le_flat rfl
    | false =>
     simp -implicitDefEqProofs only [wsucc i (by omega),
  evx,evy,ofValue,ofCell,List.range,List.range.loop,Array.size,Nat.reduceAdd,Nat.reduceSub,Nat.reduceEqDiff,List.replicate,if_true,if_false,↓reduceIte,reduceCtorEq,elB,evParts,Int.reduceToNat,Int.reduceLE,Int.reduceLT,Int.reduceEq,Nat.reduceMul,Nat.reduceLeDiff,Nat.reduceLT,ty3,ty4,ty9,ty22,ty23,ty24,ty25,ty27,ty28,ty63,ty59,ty61,ty127]
     refine back_intro hs3 (i + 1) (le_wk (by simp [wk])) ⟨by omega,hg1 hnx,hg2 (by simpa using hc)⟩ (by omega)
  ·obtain rfl : i = g.names.length := by omega
   rw [List.take_length] at hnd hdup
   simp -implicitDefEqProofs only [lt_false hlt2,
  evx,evy,ofValue,ofCell,List.range,List.range.loop,Array.size,Nat.reduceAdd,Nat.reduceSub,Nat.reduceEqDiff,List.replicate,if_true,if_false,↓reduceIte,reduceCtorEq,elB,evParts,Int.reduceToNat,Int.reduceLE,Int.reduceLT,Int.reduceEq,Nat.reduceMul,Nat.reduceLeDiff,Nat.reduceLT,ty3,ty4,ty9,ty22,ty23,ty24,ty25,ty27,ty28,ty63,ty59,ty61,ty127]
   rw [namesB_ok hall hnd hdup]
   exact le_flat rfl
end Go.Abs
