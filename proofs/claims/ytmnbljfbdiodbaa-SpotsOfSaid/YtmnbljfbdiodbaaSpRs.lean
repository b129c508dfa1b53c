/- A rule's spots: the document's answer. -/
import Derived.Test.YtmnbljfbdiodbaaTyTrys
import Derived.Test.YtmnbljfbdiodbaaDrTrys
import Derived.Test.YtmnbljfbdiodbaaSpXs
import Derived.Test.YtmnbljfbdiodbaaAbsW
namespace Go.Abs
open Go.Proofs
set_option linter.unusedVariables false
set_option linter.unusedSimpArgs false
set_option maxRecDepth 100000
set_option maxHeartbeats 8000000
theorem cnt1_take {l : List Cel} {i : Nat} (h : i < l.length) : cnt1 (l.take (i + 1)) = cnt1 (l.take i) + if l[i].op = 1 then 1 else 0 := by
 unfold cnt1
 rw [List.take_succ_eq_append_getElem h,List.filter_append,List.length_append]
 split <;> simp [*]
theorem ok39 (l : List Cel) (hl : l.length ≤ 60) (e : Nat) (he : e ≤ l.length) : Ok Try.prog 39 [.fv (.lst 5 (l.map Cel.row)),.fv (.int .i64 e)] [] (.ret (.fv (.int .i64 (cnt1 (l.take e))))) [] := by
 refine ok_start (k := 19) (n0 := 0) (rs := [.tmp 4]) mix Try.func39 rfl rfl rfl rfl rfl rfl rfl ?_
 simp -implicitDefEqProofs only [evx,evy,ofValue,ofCell,List.range,List.range.loop,Array.size,Nat.reduceAdd,Nat.reduceSub,Nat.reduceEqDiff,List.replicate,if_true,if_false,↓reduceIte,reduceCtorEq,elB,evParts,Int.reduceToNat,Int.reduceLE,Int.reduceLT,Int.reduceEq,Nat.reduceMul,Nat.reduceLeDiff,Nat.reduceLT,ty3,ty4,ty5,ty9,ty39,ty40,ty41,ty23,ty24,ty25,ty27,ty22,ty43]
 refine loop_rule (fun i : Nat => ⟨[.fv (.lst 5 (l.map Cel.row)),.fv (.int .i64 e),.any,.any,.any,.fv (.int .i64 (cnt1 (l.take i))),.fv (.int .i64 i),.any,.any,.any,.any,.any,.any,.any,.any,.any,.any,.any,.any,.any,.any],[],[]⟩)
  (fun i => i ≤ e) (fun i => e - i) 0 (le_wk (by simp [wk,cnt1])) (by omega) (fun i hi s hs => ?_)
 have hc1 := cnt1_le (l.take i)
 rw [List.length_take] at hc1
 by_cases hlt : i < e
 ·have hr := rows_at Cel.row l i (by omega)
  have hct := cnt1_take (l := l) (i := i) (by omega)
  by_cases o : (l[i]'(by omega)).op = 1
  ·have ot : ((l[i]'(by omega)).op = 1) = True := eq_true o
   rw [if_pos o] at hct
   simp -implicitDefEqProofs only [lt_true hlt,hr,Cel.row,ot,wsucc i (by omega),wsucc (cnt1 (l.take i)) (by omega),
  evx,evy,ofValue,ofCell,List.range,List.range.loop,Array.size,Nat.reduceAdd,Nat.reduceSub,Nat.reduceEqDiff,List.replicate,if_true,if_false,↓reduceIte,reduceCtorEq,elB,evParts,Int.reduceToNat,Int.reduceLE,Int.reduceLT,Int.reduceEq,Nat.reduceMul,Nat.reduceLeDiff,Nat.reduceLT,ty3,ty4,ty5,ty9,ty39,ty40,ty41,ty23,ty24,ty25,ty27,ty22,ty43]
   exact back_intro hs (i + 1) (le_wk (by simp [wk,hct])) (by omega) (by omega)
  ·have ot : ((l[i]'(by omega)).op = 1) = False := eq_false o
   rw [if_neg o] at hct
   simp -implicitDefEqProofs only [lt_true hlt,hr,Cel.row,ot,wsucc i (by omega),
  evx,evy,ofValue,ofCell,List.range,List.range.loop,Array.size,Nat.reduceAdd,Nat.reduceSub,Nat.reduceEqDiff,List.replicate,if_true,if_false,↓reduceIte,reduceCtorEq,elB,evParts,Int.reduceToNat,Int.reduceLE,Int.reduceLT,Int.reduceEq,Nat.reduceMul,Nat.reduceLeDiff,Nat.reduceLT,ty3,ty4,ty5,ty9,ty39,ty40,ty41,ty23,ty24,ty25,ty27,ty22,ty43]
   exact back_intro hs (i + 1) (le_wk (by simp [wk,hct])) (by omega) (by omega)
 ·obtain rfl : i = e := by omega
  simp -implicitDefEqProofs only [lt_false hlt,
  evx,evy,ofValue,ofCell,List.range,List.range.loop,Array.size,Nat.reduceAdd,Nat.reduceSub,Nat.reduceEqDiff,List.replicate,if_true,if_false,↓reduceIte,reduceCtorEq,elB,evParts,Int.reduceToNat,Int.reduceLE,Int.reduceLT,Int.reduceEq,Nat.reduceMul,Nat.reduceLeDiff,Nat.reduceLT,ty3,ty4,ty5,ty9,ty39,ty40,ty41,ty23,ty24,ty25,ty27,ty22,ty43]
  exact le_flat rfl
/-- What stands in an operand is a spot of the rule's. -/
theorem opd_PI {l : List Cel} {s e : Nat} {x : Prt} (h : Opd l s e x) : PI 100 x ∨ 60 < l.length := by
 by_cases hl : l.length ≤ 60
 ·refine .inl ?_
  induction h with
  | set i c h o =>
   have h1 := cnt1_le (l.take i)
   rw [List.length_take] at h1
   refine ⟨by simp,fun k hk => ?_,by simp,fun k hk => ?_⟩ <;> (simp only [List.mem_singleton] at hk; rw [inB_iff]; omega)
  | empty i c h o => exact ⟨.nil,by simp,.nil,by simp⟩
  | star s e y c b x h o ih => exact ⟨ih.fr,ih.fb,ih.lr,ih.lb⟩
  | cat s m e x y c hx hy h o i1 i2 => exact i1.cat i2
  | or s m e x y c hx hy h o i1 i2 => exact i1.or i2
 ·exact .inr (by omega)
theorem opd_len {l : List Cel} {s e : Nat} {x : Prt} (hl : l.length ≤ 60) (h : Opd l s e x) : x.first.length ≤ 100 ∧ x.last.length ≤ 100 := by
 rcases opd_PI h with h | h
 ·exact ⟨inB_len h.fr h.fb,inB_len h.lr h.lb⟩
 ·omega
theorem wprd {e : Nat} (h : e < 4611686018427387904) : IntKind.wrap .i64 ((e : Int) - 1) = (e : Int) - 1 := wrap_small (by omega) (by omega)
theorem setOf_comm (a b : List Int) : setOf (a ++ b) = setOf (b ++ a) := setOf_congr fun x => by simp only [List.mem_append]; exact Or.comm
theorem ok21 (l : List Cel) (hl : l.length ≤ 60) {s e : Nat} {x : Prt} (h : Opd l s e x) : Ok Try.prog 21 [.fv (.lst 5 (l.map Cel.row)),.fv (.int .i64 ((e : Int) - 1))] [] (.ret (.fv (.lst 1 (ints x.first)))) [] := by
 induction h with
 | set i c h o =>
  obtain ⟨hlt,hr⟩ := rows_get Cel.row h
  have hsp := ok39 l hl i (by omega)
  have hi : (((i + 1 : Nat) : Int) - 1) = (i : Int) := by omega
  have f1 : (c.op = 1) = True := eq_true o
  refine ok_start (k := 59) (n0 := 0) (rs := [.tmp 4]) mix Try.func21 rfl rfl rfl rfl rfl rfl rfl ?_
  rw [hi]
  simp -implicitDefEqProofs only [hr,Cel.row,f1,
  evx,evy,ofValue,ofCell,List.range,List.range.loop,Array.size,Nat.reduceAdd,Nat.reduceSub,Nat.reduceEqDiff,List.replicate,if_true,if_false,↓reduceIte,reduceCtorEq,elB,evParts,Int.reduceToNat,Int.reduceLE,Int.reduceLT,Int.reduceEq,Nat.reduceMul,Nat.reduceLeDiff,Nat.reduceLT,ty3,ty4,ty5,ty9,ty39,ty40,ty41,ty23,ty24,ty25,ty27,ty22,ty43]
  refine callK_ret _ _ _ _ (call_pure (hsp) (fun _ => rfl) (fun _ => rfl)) (ok_nil _ _) ?_
  simp -implicitDefEqProofs only [evx,evy,ofValue,ofCell,List.range,List.range.loop,Array.size,Nat.reduceAdd,Nat.reduceSub,Nat.reduceEqDiff,List.replicate,if_true,if_false,↓reduceIte,reduceCtorEq,elB,evParts,Int.reduceToNat,Int.reduceLE,Int.reduceLT,Int.reduceEq,Nat.reduceMul,Nat.reduceLeDiff,Nat.reduceLT,ty3,ty4,ty5,ty9,ty39,ty40,ty41,ty23,ty24,ty25,ty27,ty22,ty43]
  exact le_lst rfl (by simp) rfl
 | empty i c h o =>
  obtain ⟨hlt,hr⟩ := rows_get Cel.row h
  have hi : (((i + 1 : Nat) : Int) - 1) = (i : Int) := by omega
  have f1 : (c.op = 1) = False := by simp [o]
  have f2 : (c.op = 2) = True := by simp [o]
  refine ok_start (k := 59) (n0 := 0) (rs := [.tmp 4]) mix Try.func21 rfl rfl rfl rfl rfl rfl rfl ?_
  rw [hi]
  simp -implicitDefEqProofs only [hr,Cel.row,f1,f2,
  evx,evy,ofValue,ofCell,List.range,List.range.loop,Array.size,Nat.reduceAdd,Nat.reduceSub,Nat.reduceEqDiff,List.replicate,if_true,if_false,↓reduceIte,reduceCtorEq,elB,evParts,Int.reduceToNat,Int.reduceLE,Int.reduceLT,Int.reduceEq,Nat.reduceMul,Nat.reduceLeDiff,Nat.reduceLT,ty3,ty4,ty5,ty9,ty39,ty40,ty41,ty23,ty24,ty25,ty27,ty22,ty43]
  exact le_nilt 0 1 rfl
 | star s e y c b x h o ih =>
  obtain ⟨hlt,hr⟩ := rows_get Cel.row h
  have hi : (((e + 1 : Nat) : Int) - 1) = (e : Int) := by omega
  have f1 : (c.op = 1) = False := by simp; omega
  have f2 : (c.op = 2) = False := by simp; omega
  have f3 : (c.op = 3) = False := by simp; omega
  have f4 : (c.op = 4) = False := by simp; omega
  refine ok_start (k := 59) (n0 := 0) (rs := [.tmp 4]) mix Try.func21 rfl rfl rfl rfl rfl rfl rfl ?_
  rw [hi]
  simp -implicitDefEqProofs only [hr,Cel.row,f1,f2,f3,f4,wprd (e := e) (by omega),
  evx,evy,ofValue,ofCell,List.range,List.range.loop,Array.size,Nat.reduceAdd,Nat.reduceSub,Nat.reduceEqDiff,List.replicate,if_true,if_false,↓reduceIte,reduceCtorEq,elB,evParts,Int.reduceToNat,Int.reduceLE,Int.reduceLT,Int.reduceEq,Nat.reduceMul,Nat.reduceLeDiff,Nat.reduceLT,ty3,ty4,ty5,ty9,ty39,ty40,ty41,ty23,ty24,ty25,ty27,ty22,ty43]
  refine callK_ret _ _ _ _ (call_pure (ih) (fun _ => rfl) (fun _ => rfl)) (ok_nil _ _) ?_
  simp -implicitDefEqProofs only [evx,evy,ofValue,ofCell,List.range,List.range.loop,Array.size,Nat.reduceAdd,Nat.reduceSub,Nat.reduceEqDiff,List.replicate,if_true,if_false,↓reduceIte,reduceCtorEq,elB,evParts,Int.reduceToNat,Int.reduceLE,Int.reduceLT,Int.reduceEq,Nat.reduceMul,Nat.reduceLeDiff,Nat.reduceLT,ty3,ty4,ty5,ty9,ty39,ty40,ty41,ty23,ty24,ty25,ty27,ty22,ty43]
  exact Le.refl _ _
 | cat s m e x y c hx hy h o i1 i2 =>
  obtain ⟨hlt,hr⟩ := rows_get Cel.row h
  have hi : (((e + 1 : Nat) : Int) - 1) = (e : Int) := by omega
  have f1 : (c.op = 1) = False := by simp; omega
  have f2 : (c.op = 2) = False := by simp; omega
  have f3 : (c.op = 3) = True := by simp; omega
  have hm := seg_lt (opd_seg hx)
  have hfr := ok23 l hl (opd_seg hy)
  have hem := ok19 l hl (opd_seg hx)
  have lx := opd_len hl hx
  have ly := opd_len hl hy
  have hun := ok24 x.first y.first (by omega) (by omega)
  refine ok_start (k := 59) (n0 := 0) (rs := [.tmp 4]) mix Try.func21 rfl rfl rfl rfl rfl rfl rfl ?_
  rw [hi]
  simp -implicitDefEqProofs only [hr,Cel.row,f1,f2,f3,wprd (e := e) (by omega),
  evx,evy,ofValue,ofCell,List.range,List.range.loop,Array.size,Nat.reduceAdd,Nat.reduceSub,Nat.reduceEqDiff,List.replicate,if_true,if_false,↓reduceIte,reduceCtorEq,elB,evParts,Int.reduceToNat,Int.reduceLE,Int.reduceLT,Int.reduceEq,Nat.reduceMul,Nat.reduceLeDiff,Nat.reduceLT,ty3,ty4,ty5,ty9,ty39,ty40,ty41,ty23,ty24,ty25,ty27,ty22,ty43]
  refine callK_ret _ _ _ _ (call_pure (hfr) (fun _ => rfl) (fun _ => rfl)) (ok_nil _ _) ?_
  simp -implicitDefEqProofs only [wprd (e := m) (by omega),
  evx,evy,ofValue,ofCell,List.range,List.range.loop,Array.size,Nat.reduceAdd,Nat.reduceSub,Nat.reduceEqDiff,List.replicate,if_true,if_false,↓reduceIte,reduceCtorEq,elB,evParts,Int.reduceToNat,Int.reduceLE,Int.reduceLT,Int.reduceEq,Nat.reduceMul,Nat.reduceLeDiff,Nat.reduceLT,ty3,ty4,ty5,ty9,ty39,ty40,ty41,ty23,ty24,ty25,ty27,ty22,ty43]
  refine callK_ret _ _ _ _ (call_pure (i1) (fun _ => rfl) (fun _ => rfl)) (ok_nil _ _) ?_
  simp -implicitDefEqProofs only [evx,evy,ofValue,ofCell,List.range,List.range.loop,Array.size,Nat.reduceAdd,Nat.reduceSub,Nat.reduceEqDiff,List.replicate,if_true,if_false,↓reduceIte,reduceCtorEq,elB,evParts,Int.reduceToNat,Int.reduceLE,Int.reduceLT,Int.reduceEq,Nat.reduceMul,Nat.reduceLeDiff,Nat.reduceLT,ty3,ty4,ty5,ty9,ty39,ty40,ty41,ty23,ty24,ty25,ty27,ty22,ty43]
  refine callK_ret _ _ _ _ (call_pure (hem) (fun _ => rfl) (fun _ => rfl)) (ok_nil _ _) ?_
  cases hxn : x.null with
  | false =>
   simp -implicitDefEqProofs only [evx,evy,ofValue,ofCell,List.range,List.range.loop,Array.size,Nat.reduceAdd,Nat.reduceSub,Nat.reduceEqDiff,List.replicate,if_true,if_false,↓reduceIte,reduceCtorEq,elB,evParts,Int.reduceToNat,Int.reduceLE,Int.reduceLT,Int.reduceEq,Nat.reduceMul,Nat.reduceLeDiff,Nat.reduceLT,ty3,ty4,ty5,ty9,ty39,ty40,ty41,ty23,ty24,ty25,ty27,ty22,ty43]
   simp only [catP,hxn,Bool.false_eq_true,if_false]
   exact Le.refl _ _
  | true =>
   simp -implicitDefEqProofs only [wprd (e := e) (by omega),
  evx,evy,ofValue,ofCell,List.range,List.range.loop,Array.size,Nat.reduceAdd,Nat.reduceSub,Nat.reduceEqDiff,List.replicate,if_true,if_false,↓reduceIte,reduceCtorEq,elB,evParts,Int.reduceToNat,Int.reduceLE,Int.reduceLT,Int.reduceEq,Nat.reduceMul,Nat.reduceLeDiff,Nat.reduceLT,ty3,ty4,ty5,ty9,ty39,ty40,ty41,ty23,ty24,ty25,ty27,ty22,ty43]
   refine callK_ret _ _ _ _ (call_pure (i2) (fun _ => rfl) (fun _ => rfl)) (ok_nil _ _) ?_
   simp -implicitDefEqProofs only [evx,evy,ofValue,ofCell,List.range,List.range.loop,Array.size,Nat.reduceAdd,Nat.reduceSub,Nat.reduceEqDiff,List.replicate,if_true,if_false,↓reduceIte,reduceCtorEq,elB,evParts,Int.reduceToNat,Int.reduceLE,Int.reduceLT,Int.reduceEq,Nat.reduceMul,Nat.reduceLeDiff,Nat.reduceLT,ty3,ty4,ty5,ty9,ty39,ty40,ty41,ty23,ty24,ty25,ty27,ty22,ty43]
   refine callK_ret _ _ _ _ (call_pure (hun) (fun _ => rfl) (fun _ => rfl)) (ok_nil _ _) ?_
   simp -implicitDefEqProofs only [evx,evy,ofValue,ofCell,List.range,List.range.loop,Array.size,Nat.reduceAdd,Nat.reduceSub,Nat.reduceEqDiff,List.replicate,if_true,if_false,↓reduceIte,reduceCtorEq,elB,evParts,Int.reduceToNat,Int.reduceLE,Int.reduceLT,Int.reduceEq,Nat.reduceMul,Nat.reduceLeDiff,Nat.reduceLT,ty3,ty4,ty5,ty9,ty39,ty40,ty41,ty23,ty24,ty25,ty27,ty22,ty43]
   simp only [catP,hxn,if_true]
   exact Le.refl _ _
 | or s m e x y c hx hy h o i1 i2 =>
  obtain ⟨hlt,hr⟩ := rows_get Cel.row h
  have hi : (((e + 1 : Nat) : Int) - 1) = (e : Int) := by omega
  have f1 : (c.op = 1) = False := by simp; omega
  have f2 : (c.op = 2) = False := by simp; omega
  have f3 : (c.op = 3) = False := by simp; omega
  have f4 : (c.op = 4) = True := by simp; omega
  have hm := seg_lt (opd_seg hx)
  have hfr := ok23 l hl (opd_seg hy)
  have lx := opd_len hl hx
  have ly := opd_len hl hy
  have hun := ok24 x.first y.first (by omega) (by omega)
  refine ok_start (k := 59) (n0 := 0) (rs := [.tmp 4]) mix Try.func21 rfl rfl rfl rfl rfl rfl rfl ?_
  rw [hi]
  simp -implicitDefEqProofs only [hr,Cel.row,f1,f2,f3,f4,wprd (e := e) (by omega),
  evx,evy,ofValue,ofCell,List.range,List.range.loop,Array.size,Nat.reduceAdd,Nat.reduceSub,Nat.reduceEqDiff,List.replicate,if_true,if_false,↓reduceIte,reduceCtorEq,elB,evParts,Int.reduceToNat,Int.reduceLE,Int.reduceLT,Int.reduceEq,Nat.reduceMul,Nat.reduceLeDiff,Nat.reduceLT,ty3,ty4,ty5,ty9,ty39,ty40,ty41,ty23,ty24,ty25,ty27,ty22,ty43]
  refine callK_ret _ _ _ _ (call_pure (hfr) (fun _ => rfl) (fun _ => rfl)) (ok_nil _ _) ?_
  simp -implicitDefEqProofs only [wprd (e := m) (by omega),
  evx,evy,ofValue,ofCell,List.range,List.range.loop,Array.size,Nat.reduceAdd,Nat.reduceSub,Nat.reduceEqDiff,List.replicate,if_true,if_false,↓reduceIte,reduceCtorEq,elB,evParts,Int.reduceToNat,Int.reduceLE,Int.reduceLT,Int.reduceEq,Nat.reduceMul,Nat.reduceLeDiff,Nat.reduceLT,ty3,ty4,ty5,ty9,ty39,ty40,ty41,ty23,ty24,ty25,ty27,ty22,ty43]
  refine callK_ret _ _ _ _ (call_pure (i1) (fun _ => rfl) (fun _ => rfl)) (ok_nil _ _) ?_
  simp -implicitDefEqProofs only [wprd (e := e) (by omega),
  evx,evy,ofValue,ofCell,List.range,List.range.loop,Array.size,Nat.reduceAdd,Nat.reduceSub,Nat.reduceEqDiff,List.replicate,if_true,if_false,↓reduceIte,reduceCtorEq,elB,evParts,Int.reduceToNat,Int.reduceLE,Int.reduceLT,Int.reduceEq,Nat.reduceMul,Nat.reduceLeDiff,Nat.reduceLT,ty3,ty4,ty5,ty9,ty39,ty40,ty41,ty23,ty24,ty25,ty27,ty22,ty43]
  refine callK_ret _ _ _ _ (call_pure (i2) (fun _ => rfl) (fun _ => rfl)) (ok_nil _ _) ?_
  simp -implicitDefEqProofs only [evx,evy,ofValue,ofCell,List.range,List.range.loop,Array.size,Nat.reduceAdd,Nat.reduceSub,Nat.reduceEqDiff,List.replicate,if_true,if_false,↓reduceIte,reduceCtorEq,elB,evParts,Int.reduceToNat,Int.reduceLE,Int.reduceLT,Int.reduceEq,Nat.reduceMul,Nat.reduceLeDiff,Nat.reduceLT,ty3,ty4,ty5,ty9,ty39,ty40,ty41,ty23,ty24,ty25,ty27,ty22,ty43]
  refine callK_ret _ _ _ _ (call_pure (hun) (fun _ => rfl) (fun _ => rfl)) (ok_nil _ _) ?_
  simp -implicitDefEqProofs only [evx,evy,ofValue,ofCell,List.range,List.range.loop,Array.size,Nat.reduceAdd,Nat.reduceSub,Nat.reduceEqDiff,List.replicate,if_true,if_false,↓reduceIte,reduceCtorEq,elB,evParts,Int.reduceToNat,Int.reduceLE,Int.reduceLT,Int.reduceEq,Nat.reduceMul,Nat.reduceLeDiff,Nat.reduceLT,ty3,ty4,ty5,ty9,ty39,ty40,ty41,ty23,ty24,ty25,ty27,ty22,ty43]
  exact Le.refl _ _
theorem ok22 (l : List Cel) (hl : l.length ≤ 60) {s e : Nat} {x : Prt} (h : Opd l s e x) : Ok Try.prog 22 [.fv (.lst 5 (l.map Cel.row)),.fv (.int .i64 ((e : Int) - 1))] [] (.ret (.fv (.lst 1 (ints x.last)))) [] := by
 induction h with
 | set i c h o =>
  obtain ⟨hlt,hr⟩ := rows_get Cel.row h
  have hsp := ok39 l hl i (by omega)
  have hi : (((i + 1 : Nat) : Int) - 1) = (i : Int) := by omega
  have f1 : (c.op = 1) = True := eq_true o
  refine ok_start (k := 58) (n0 := 0) (rs := [.tmp 4]) mix Try.func22 rfl rfl rfl rfl rfl rfl rfl ?_
  rw [hi]
  simp -implicitDefEqProofs only [hr,Cel.row,f1,
  evx,evy,ofValue,ofCell,List.range,List.range.loop,Array.size,Nat.reduceAdd,Nat.reduceSub,Nat.reduceEqDiff,List.replicate,if_true,if_false,↓reduceIte,reduceCtorEq,elB,evParts,Int.reduceToNat,Int.reduceLE,Int.reduceLT,Int.reduceEq,Nat.reduceMul,Nat.reduceLeDiff,Nat.reduceLT,ty3,ty4,ty5,ty9,ty39,ty40,ty41,ty23,ty24,ty25,ty27,ty22,ty43]
  refine callK_ret _ _ _ _ (call_pure (hsp) (fun _ => rfl) (fun _ => rfl)) (ok_nil _ _) ?_
  simp -implicitDefEqProofs only [evx,evy,ofValue,ofCell,List.range,List.range.loop,Array.size,Nat.reduceAdd,Nat.reduceSub,Nat.reduceEqDiff,List.replicate,if_true,if_false,↓reduceIte,reduceCtorEq,elB,evParts,Int.reduceToNat,Int.reduceLE,Int.reduceLT,Int.reduceEq,Nat.reduceMul,Nat.reduceLeDiff,Nat.reduceLT,ty3,ty4,ty5,ty9,ty39,ty40,ty41,ty23,ty24,ty25,ty27,ty22,ty43]
  exact le_lst rfl (by simp) rfl
 | empty i c h o =>
  obtain ⟨hlt,hr⟩ := rows_get Cel.row h
  have hi : (((i + 1 : Nat) : Int) - 1) = (i : Int) := by omega
  have f1 : (c.op = 1) = False := by simp [o]
  have f2 : (c.op = 2) = True := by simp [o]
  refine ok_start (k := 58) (n0 := 0) (rs := [.tmp 4]) mix Try.func22 rfl rfl rfl rfl rfl rfl rfl ?_
  rw [hi]
  simp -implicitDefEqProofs only [hr,Cel.row,f1,f2,
  evx,evy,ofValue,ofCell,List.range,List.range.loop,Array.size,Nat.reduceAdd,Nat.reduceSub,Nat.reduceEqDiff,List.replicate,if_true,if_false,↓reduceIte,reduceCtorEq,elB,evParts,Int.reduceToNat,Int.reduceLE,Int.reduceLT,Int.reduceEq,Nat.reduceMul,Nat.reduceLeDiff,Nat.reduceLT,ty3,ty4,ty5,ty9,ty39,ty40,ty41,ty23,ty24,ty25,ty27,ty22,ty43]
  exact le_nilt 0 1 rfl
 | star s e y c b x h o ih =>
  obtain ⟨hlt,hr⟩ := rows_get Cel.row h
  have hi : (((e + 1 : Nat) : Int) - 1) = (e : Int) := by omega
  have f1 : (c.op = 1) = False := by simp; omega
  have f2 : (c.op = 2) = False := by simp; omega
  have f3 : (c.op = 3) = False := by simp; omega
  have f4 : (c.op = 4) = False := by simp; omega
  refine ok_start (k := 58) (n0 := 0) (rs := [.tmp 4]) mix Try.func22 rfl rfl rfl rfl rfl rfl rfl ?_
  rw [hi]
  simp -implicitDefEqProofs only [hr,Cel.row,f1,f2,f3,f4,wprd (e := e) (by omega),
  evx,evy,ofValue,ofCell,List.range,List.range.loop,Array.size,Nat.reduceAdd,Nat.reduceSub,Nat.reduceEqDiff,List.replicate,if_true,if_false,↓reduceIte,reduceCtorEq,elB,evParts,Int.reduceToNat,Int.reduceLE,Int.reduceLT,Int.reduceEq,Nat.reduceMul,Nat.reduceLeDiff,Nat.reduceLT,ty3,ty4,ty5,ty9,ty39,ty40,ty41,ty23,ty24,ty25,ty27,ty22,ty43]
  refine callK_ret _ _ _ _ (call_pure (ih) (fun _ => rfl) (fun _ => rfl)) (ok_nil _ _) ?_
  simp -implicitDefEqProofs only [evx,evy,ofValue,ofCell,List.range,List.range.loop,Array.size,Nat.reduceAdd,Nat.reduceSub,Nat.reduceEqDiff,List.replicate,if_true,if_false,↓reduceIte,reduceCtorEq,elB,evParts,Int.reduceToNat,Int.reduceLE,Int.reduceLT,Int.reduceEq,Nat.reduceMul,Nat.reduceLeDiff,Nat.reduceLT,ty3,ty4,ty5,ty9,ty39,ty40,ty41,ty23,ty24,ty25,ty27,ty22,ty43]
  exact Le.refl _ _
 | cat s m e x y c hx hy h o i1 i2 =>
  obtain ⟨hlt,hr⟩ := rows_get Cel.row h
  have hi : (((e + 1 : Nat) : Int) - 1) = (e : Int) := by omega
  have f1 : (c.op = 1) = False := by simp; omega
  have f2 : (c.op = 2) = False := by simp; omega
  have f3 : (c.op = 3) = True := by simp; omega
  have hm := seg_lt (opd_seg hx)
  have hfr := ok23 l hl (opd_seg hy)
  have hem := ok19 l hl (opd_seg hy)
  have lx := opd_len hl hx
  have ly := opd_len hl hy
  have hun := ok24 y.last x.last (by omega) (by omega)
  rw [setOf_comm] at hun
  refine ok_start (k := 58) (n0 := 0) (rs := [.tmp 4]) mix Try.func22 rfl rfl rfl rfl rfl rfl rfl ?_
  rw [hi]
  simp -implicitDefEqProofs only [hr,Cel.row,f1,f2,f3,wprd (e := e) (by omega),
  evx,evy,ofValue,ofCell,List.range,List.range.loop,Array.size,Nat.reduceAdd,Nat.reduceSub,Nat.reduceEqDiff,List.replicate,if_true,if_false,↓reduceIte,reduceCtorEq,elB,evParts,Int.reduceToNat,Int.reduceLE,Int.reduceLT,Int.reduceEq,Nat.reduceMul,Nat.reduceLeDiff,Nat.reduceLT,ty3,ty4,ty5,ty9,ty39,ty40,ty41,ty23,ty24,ty25,ty27,ty22,ty43]
  refine callK_ret _ _ _ _ (call_pure (i2) (fun _ => rfl) (fun _ => rfl)) (ok_nil _ _) ?_
  simp -implicitDefEqProofs only [wprd (e := e) (by omega),
  evx,evy,ofValue,ofCell,List.range,List.range.loop,Array.size,Nat.reduceAdd,Nat.reduceSub,Nat.reduceEqDiff,List.replicate,if_true,if_false,↓reduceIte,reduceCtorEq,elB,evParts,Int.reduceToNat,Int.reduceLE,Int.reduceLT,Int.reduceEq,Nat.reduceMul,Nat.reduceLeDiff,Nat.reduceLT,ty3,ty4,ty5,ty9,ty39,ty40,ty41,ty23,ty24,ty25,ty27,ty22,ty43]
  refine callK_ret _ _ _ _ (call_pure (hem) (fun _ => rfl) (fun _ => rfl)) (ok_nil _ _) ?_
  cases hyn : y.null with
  | false =>
   simp -implicitDefEqProofs only [evx,evy,ofValue,ofCell,List.range,List.range.loop,Array.size,Nat.reduceAdd,Nat.reduceSub,Nat.reduceEqDiff,List.replicate,if_true,if_false,↓reduceIte,reduceCtorEq,elB,evParts,Int.reduceToNat,Int.reduceLE,Int.reduceLT,Int.reduceEq,Nat.reduceMul,Nat.reduceLeDiff,Nat.reduceLT,ty3,ty4,ty5,ty9,ty39,ty40,ty41,ty23,ty24,ty25,ty27,ty22,ty43]
   simp only [catP,hyn,Bool.false_eq_true,if_false]
   exact Le.refl _ _
  | true =>
   simp -implicitDefEqProofs only [wprd (e := e) (by omega),
  evx,evy,ofValue,ofCell,List.range,List.range.loop,Array.size,Nat.reduceAdd,Nat.reduceSub,Nat.reduceEqDiff,List.replicate,if_true,if_false,↓reduceIte,reduceCtorEq,elB,evParts,Int.reduceToNat,Int.reduceLE,Int.reduceLT,Int.reduceEq,Nat.reduceMul,Nat.reduceLeDiff,Nat.reduceLT,ty3,ty4,ty5,ty9,ty39,ty40,ty41,ty23,ty24,ty25,ty27,ty22,ty43]
   refine callK_ret _ _ _ _ (call_pure (hfr) (fun _ => rfl) (fun _ => rfl)) (ok_nil _ _) ?_
   simp -implicitDefEqProofs only [wprd (e := m) (by omega),
  evx,evy,ofValue,ofCell,List.range,List.range.loop,Array.size,Nat.reduceAdd,Nat.reduceSub,Nat.reduceEqDiff,List.replicate,if_true,if_false,↓reduceIte,reduceCtorEq,elB,evParts,Int.reduceToNat,Int.reduceLE,Int.reduceLT,Int.reduceEq,Nat.reduceMul,Nat.reduceLeDiff,Nat.reduceLT,ty3,ty4,ty5,ty9,ty39,ty40,ty41,ty23,ty24,ty25,ty27,ty22,ty43]
   refine callK_ret _ _ _ _ (call_pure (i1) (fun _ => rfl) (fun _ => rfl)) (ok_nil _ _) ?_
   simp -implicitDefEqProofs only [evx,evy,ofValue,ofCell,List.range,List.range.loop,Array.size,Nat.reduceAdd,Nat.reduceSub,Nat.reduceEqDiff,List.replicate,if_true,if_false,↓reduceIte,reduceCtorEq,elB,evParts,Int.reduceToNat,Int.reduceLE,Int.reduceLT,Int.reduceEq,Nat.reduceMul,Nat.reduceLeDiff,Nat.reduceLT,ty3,ty4,ty5,ty9,ty39,ty40,ty41,ty23,ty24,ty25,ty27,ty22,ty43]
   refine callK_ret _ _ _ _ (call_pure (hun) (fun _ => rfl) (fun _ => rfl)) (ok_nil _ _) ?_
   simp -implicitDefEqProofs only [evx,evy,ofValue,ofCell,List.range,List.range.loop,Array.size,Nat.reduceAdd,Nat.reduceSub,Nat.reduceEqDiff,List.replicate,if_true,if_false,↓reduceIte,reduceCtorEq,elB,evParts,Int.reduceToNat,Int.reduceLE,Int.reduceLT,Int.reduceEq,Nat.reduceMul,Nat.reduceLeDiff,Nat.reduceLT,ty3,ty4,ty5,ty9,ty39,ty40,ty41,ty23,ty24,ty25,ty27,ty22,ty43]
   simp only [catP,hyn,if_true]
   exact Le.refl _ _
 | or s m e x y c hx hy h o i1 i2 =>
  obtain ⟨hlt,hr⟩ := rows_get Cel.row h
  have hi : (((e + 1 : Nat) : Int) - 1) = (e : Int) := by omega
  have f1 : (c.op = 1) = False := by simp; omega
  have f2 : (c.op = 2) = False := by simp; omega
  have f3 : (c.op = 3) = False := by simp; omega
  have f4 : (c.op = 4) = True := by simp; omega
  have hm := seg_lt (opd_seg hx)
  have hfr := ok23 l hl (opd_seg hy)
  have lx := opd_len hl hx
  have ly := opd_len hl hy
  have hun := ok24 x.last y.last (by omega) (by omega)
  refine ok_start (k := 58) (n0 := 0) (rs := [.tmp 4]) mix Try.func22 rfl rfl rfl rfl rfl rfl rfl ?_
  rw [hi]
  simp -implicitDefEqProofs only [hr,Cel.row,f1,f2,f3,f4,wprd (e := e) (by omega),
  evx,evy,ofValue,ofCell,List.range,List.range.loop,Array.size,Nat.reduceAdd,Nat.reduceSub,Nat.reduceEqDiff,List.replicate,if_true,if_false,↓reduceIte,reduceCtorEq,elB,evParts,Int.reduceToNat,Int.reduceLE,Int.reduceLT,Int.reduceEq,Nat.reduceMul,Nat.reduceLeDiff,Nat.reduceLT,ty3,ty4,ty5,ty9,ty39,ty40,ty41,ty23,ty24,ty25,ty27,ty22,ty43]
  refine callK_ret _ _ _ _ (call_pure (hfr) (fun _ => rfl) (fun _ => rfl)) (ok_nil _ _) ?_
  simp -implicitDefEqProofs only [wprd (e := m) (by omega),
  evx,evy,ofValue,ofCell,List.range,List.range.loop,Array.size,Nat.reduceAdd,Nat.reduceSub,Nat.reduceEqDiff,List.replicate,if_true,if_false,↓reduceIte,reduceCtorEq,elB,evParts,Int.reduceToNat,Int.reduceLE,Int.reduceLT,Int.reduceEq,Nat.reduceMul,Nat.reduceLeDiff,Nat.reduceLT,ty3,ty4,ty5,ty9,ty39,ty40,ty41,ty23,ty24,ty25,ty27,ty22,ty43]
  refine callK_ret _ _ _ _ (call_pure (i1) (fun _ => rfl) (fun _ => rfl)) (ok_nil _ _) ?_
  simp -implicitDefEqProofs only [wprd (e := e) (by omega),
  evx,evy,ofValue,ofCell,List.range,List.range.loop,Array.size,Nat.reduceAdd,Nat.reduceSub,Nat.reduceEqDiff,List.replicate,if_true,if_false,↓reduceIte,reduceCtorEq,elB,evParts,Int.reduceToNat,Int.reduceLE,Int.reduceLT,Int.reduceEq,Nat.reduceMul,Nat.reduceLeDiff,Nat.reduceLT,ty3,ty4,ty5,ty9,ty39,ty40,ty41,ty23,ty24,ty25,ty27,ty22,ty43]
  refine callK_ret _ _ _ _ (call_pure (i2) (fun _ => rfl) (fun _ => rfl)) (ok_nil _ _) ?_
  simp -implicitDefEqProofs only [evx,evy,ofValue,ofCell,List.range,List.range.loop,Array.size,Nat.reduceAdd,Nat.reduceSub,Nat.reduceEqDiff,List.replicate,if_true,if_false,↓reduceIte,reduceCtorEq,elB,evParts,Int.reduceToNat,Int.reduceLE,Int.reduceLT,Int.reduceEq,Nat.reduceMul,Nat.reduceLeDiff,Nat.reduceLT,ty3,ty4,ty5,ty9,ty39,ty40,ty41,ty23,ty24,ty25,ty27,ty22,ty43]
  refine callK_ret _ _ _ _ (call_pure (hun) (fun _ => rfl) (fun _ => rfl)) (ok_nil _ _) ?_
  simp -implicitDefEqProofs only [evx,evy,ofValue,ofCell,List.range,List.range.loop,Array.size,Nat.reduceAdd,Nat.reduceSub,Nat.reduceEqDiff,List.replicate,if_true,if_false,↓reduceIte,reduceCtorEq,elB,evParts,Int.reduceToNat,Int.reduceLE,Int.reduceLT,Int.reduceEq,Nat.reduceMul,Nat.reduceLeDiff,Nat.reduceLT,ty3,ty4,ty5,ty9,ty39,ty40,ty41,ty23,ty24,ty25,ty27,ty22,ty43]
  exact Le.refl _ _
end Go.Abs
