/- Names of a grammar: the document's answer; functions that are handed over. -/
import Derived.Test.YtnhghoonlmoinaaGreatTyTryzi
import Derived.Test.YtnhghoonlmoinaaGreatDrTryzi
import Derived.Test.YtnhghoonlmoinaaGreatAbsZ
import Derived.Test.YtnhghoonlmoinaaGreatCkEi
namespace Go.Abs
open Go.Proofs
set_option linter.unusedVariables false
set_option linter.unusedSimpArgs false
set_option maxRecDepth 100000
set_option maxHeartbeats 1000000
theorem take_mem_succ {l : List Bs} {k : Nat} {x : Bs} (hk : k < l.length) (h : x ∉ l.take k) (hne : ¬ l[k] = x) : x ∉ l.take (k + 1) := by
 rw [List.take_add_one,List.getElem?_eq_getElem hk]
 simp only [Option.toList_some,List.mem_append,List.mem_singleton,not_or]
 exact ⟨h,fun e => hne e.symm⟩
theorem ok74 (g : Gra) (hs : g.rules.length ≤ 40) (hs2 : g.nonts.length ≤ 40) (hn : ∀ s ∈ g.names,s.length ≤ 4000) : Ok Tryz.prog 74 [g.av] [] (.ret (.fv (.bool g.namesB))) [] := by
 refine ok_start (k := 60) (n0 := 0) (rs := [.tmp 2]) mix Tryz.func74 rfl rfl rfl rfl rfl rfl rfl ?_
 have hnl := names_length g
 simp -implicitDefEqProofs only [awp_draw _ _ Tryzdr74_17,Gra.av,
  evx,evy,ofValue,ofCell,List.range,List.range.loop,Array.size,Nat.reduceAdd,Nat.reduceSub,Nat.reduceEqDiff,List.replicate,if_true,if_false,↓reduceIte,reduceCtorEq,elB,evParts,Int.reduceToNat,Int.reduceLE,Int.reduceLT,Int.reduceEq,Nat.reduceMul,Nat.reduceLeDiff,Nat.reduceLT,ty3,ty4,ty9,ty22,ty23,ty24,ty25,ty27,ty28,ty63,ty59,ty61,ty127]
 refine loop_rule (fun i : Nat => ⟨[.any,.ptr 0 0 0 0,.any,.ref 1 1 0 i,.fv (.int .i64 i),.any,.any,.any,.any,.any,.any,.any,.any,.any,.any,.any,.any,.any,.any,.any,.any,.any,.any,.any,.any,.any,.any,.any,.any,.any,.any,.any,.any,.any,.any,.any,.any,.any,.any,.any,.any,.any,.any,.any,.any,.any,.any,.any,.any,.any,.any,.any,.any,.any,.any,.any,.any,.any,.any,.any,.any],[.box g.cells,.plain 1 (nRows (g.rules.take i))],[]⟩)
  (fun i => i ≤ g.rules.length ∧ ((g.rules.take i).all fun r => rightB r.re) = true) (fun i => g.rules.length - i) 0 (Le.trans (le_virt 3 1 rfl) (le_wk (by simp [wk]))) (by simp) (fun i hi s hs3 => ?_)
 obtain ⟨hi,hall⟩ := hi
 have hrl : (nRows (g.rules.take i)).length = i := by rw [nRows_length,List.length_take]; omega
 have htk : List.take i (nRows (g.rules.take i)) = nRows (g.rules.take i) := List.take_of_length_le (by omega)
 by_cases hlt : i < g.rules.length
 ·have hr := rows_at Rul.row g.rules i hlt
  have hbad := @namesB_rule g i hlt
  have hgood := all_succ (fun r => rightB r.re) hlt hall
  have hsucc := nRows_succ hlt
  have h40 := ok103 g.rules[i].re
  generalize g.rules[i] = r at hr hbad hgood hsucc h40
  cases hrb : rightB r.re with
  | false =>
   rw [hrb] at h40
   simp -implicitDefEqProofs only [awp_draw _ _ Tryzdr74_17,Gra.cells,List.length_map,lt_true hlt,hr,Rul.row,
  evx,evy,ofValue,ofCell,List.range,List.range.loop,Array.size,Nat.reduceAdd,Nat.reduceSub,Nat.reduceEqDiff,List.replicate,if_true,if_false,↓reduceIte,reduceCtorEq,elB,evParts,Int.reduceToNat,Int.reduceLE,Int.reduceLT,Int.reduceEq,Nat.reduceMul,Nat.reduceLeDiff,Nat.reduceLT,ty3,ty4,ty9,ty22,ty23,ty24,ty25,ty27,ty28,ty63,ty59,ty61,ty127]
   refine ⟨⟨by omega,by omega⟩,?_⟩
   refine callK_ret _ _ _ _ (call_pure (h40) (fun _ => rfl) (fun _ => rfl)) (ok_nil _ _) ?_
   simp -implicitDefEqProofs only [awp_draw _ _ Tryzdr74_17,
  evx,evy,ofValue,ofCell,List.range,List.range.loop,Array.size,Nat.reduceAdd,Nat.reduceSub,Nat.reduceEqDiff,List.replicate,if_true,if_false,↓reduceIte,reduceCtorEq,elB,evParts,Int.reduceToNat,Int.reduceLE,Int.reduceLT,Int.reduceEq,Nat.reduceMul,Nat.reduceLeDiff,Nat.reduceLT,ty3,ty4,ty9,ty22,ty23,ty24,ty25,ty27,ty28,ty63,ty59,ty61,ty127]
   rw [hbad hrb]
   exact le_flat rfl
  | true =>
   rw [hrb] at h40
   simp -implicitDefEqProofs only [awp_draw _ _ Tryzdr74_17,Gra.cells,List.length_map,lt_true hlt,hr,Rul.row,
  evx,evy,ofValue,ofCell,List.range,List.range.loop,Array.size,Nat.reduceAdd,Nat.reduceSub,Nat.reduceEqDiff,List.replicate,if_true,if_false,↓reduceIte,reduceCtorEq,elB,evParts,Int.reduceToNat,Int.reduceLE,Int.reduceLT,Int.reduceEq,Nat.reduceMul,Nat.reduceLeDiff,Nat.reduceLT,ty3,ty4,ty9,ty22,ty23,ty24,ty25,ty27,ty28,ty63,ty59,ty61,ty127]
   refine ⟨⟨by omega,by omega⟩,?_⟩
   refine callK_ret _ _ _ _ (call_pure (h40) (fun _ => rfl) (fun _ => rfl)) (ok_nil _ _) ?_
   simp -implicitDefEqProofs only [awp_draw _ _ Tryzdr74_17,List.length_map,wsucc i (by omega),
  evx,evy,ofValue,ofCell,List.range,List.range.loop,Array.size,Nat.reduceAdd,Nat.reduceSub,Nat.reduceEqDiff,List.replicate,if_true,if_false,↓reduceIte,reduceCtorEq,elB,evParts,Int.reduceToNat,Int.reduceLE,Int.reduceLT,Int.reduceEq,Nat.reduceMul,Nat.reduceLeDiff,Nat.reduceLT,ty3,ty4,ty9,ty22,ty23,ty24,ty25,ty27,ty28,ty63,ty59,ty61,ty127]
   refine back_intro hs3 (i + 1) (le_pk [0,3] rfl (by simp) (by simp) ?_ ?_) ⟨by omega,hgood hrb⟩ (by omega)
   ·rw [htk,hsucc]
    simp [subBlk,subAny,subA,Gra.cells]
   ·simp [wk,subAny,subA,mkSub,idx]
 ·obtain rfl : i = g.rules.length := by omega
  rw [List.take_length] at hall htk hrl
  have hnr := names_rows g
  simp -implicitDefEqProofs only [awp_draw _ _ Tryzdr74_17,Gra.cells,List.length_map,List.take_length,lt_false hlt,htk,hnr,
  evx,evy,ofValue,ofCell,List.range,List.range.loop,Array.size,Nat.reduceAdd,Nat.reduceSub,Nat.reduceEqDiff,List.replicate,if_true,if_false,↓reduceIte,reduceCtorEq,elB,evParts,Int.reduceToNat,Int.reduceLE,Int.reduceLT,Int.reduceEq,Nat.reduceMul,Nat.reduceLeDiff,Nat.reduceLT,ty3,ty4,ty9,ty22,ty23,ty24,ty25,ty27,ty28,ty63,ty59,ty61,ty127]
  refine ⟨⟨by omega,by omega⟩,?_⟩
  refine loop_rule (fun i : Nat => ⟨[.any,.any,.any,.ref 0 1 0 g.names.length,.any,.fv (.int .i64 i),.any,.any,.any,.any,.any,.any,.any,.any,.any,.any,.any,.any,.any,.any,.any,.any,.any,.any,.any,.any,.any,.any,.any,.any,.any,.any,.any,.any,.any,.any,.any,.any,.any,.any,.any,.any,.any,.any,.any,.any,.any,.any,.any,.any,.any,.any,.any,.any,.any,.any,.any,.any,.any,.any,.any],[.plain 1 (g.names.map sRow)],[]⟩)
   (fun i => i ≤ g.names.length ∧ (g.names.take i).all namedB = true ∧ (g.names.take i).Nodup) (fun i => g.names.length - i) 0 (le_pk [2] rfl (by simp) (by simp) ?_ ?_) (by simp) (fun i hi s hs3 => ?_)
  ·simp [subBlk]
  ·rw [hnl]; simp [wk,subAny,subA,mkSub,idx]
  obtain ⟨hi,hnd,hdup⟩ := hi
  by_cases hlt2 : i < g.names.length
  ·have hr := rows_at sRow g.names i hlt2
   have hb1 := @namesB_named g i hlt2
   have hb2 := @namesB_dup g i hlt2
   have hg1 := all_succ namedB hlt2 hnd
   have hg2 := nodup_step hlt2 hdup
   have h64 := ok104 g.names[i] (hn _ (List.getElem_mem hlt2))
   generalize g.names[i] = x at hr hb1 hb2 hg1 hg2 h64
   cases hnx : namedB x with
   | false =>
    rw [hnx] at h64
    simp -implicitDefEqProofs only [awp_draw _ _ Tryzdr74_17,List.length_map,lt_true hlt2,hr,sRow,
  evx,evy,ofValue,ofCell,List.range,List.range.loop,Array.size,Nat.reduceAdd,Nat.reduceSub,Nat.reduceEqDiff,List.replicate,if_true,if_false,↓reduceIte,reduceCtorEq,elB,evParts,Int.reduceToNat,Int.reduceLE,Int.reduceLT,Int.reduceEq,Nat.reduceMul,Nat.reduceLeDiff,Nat.reduceLT,ty3,ty4,ty9,ty22,ty23,ty24,ty25,ty27,ty28,ty63,ty59,ty61,ty127]
    refine callK_ret _ _ _ _ (call_pure (h64) (fun _ => rfl) (fun _ => rfl)) (ok_nil _ _) ?_
    simp -implicitDefEqProofs only [awp_draw _ _ Tryzdr74_17,
  evx,evy,ofValue,ofCell,List.range,List.range.loop,Array.size,Nat.reduceAdd,Nat.reduceSub,Nat.reduceEqDiff,List.replicate,if_true,if_false,↓reduceIte,reduceCtorEq,elB,evParts,Int.reduceToNat,Int.reduceLE,Int.reduceLT,Int.reduceEq,Nat.reduceMul,Nat.reduceLeDiff,Nat.reduceLT,ty3,ty4,ty9,ty22,ty23,ty24,ty25,ty27,ty28,ty63,ty59,ty61,ty127]
    rw [hb1 hnx]
    exact le_flat rfl
   | true =>
    rw [hnx] at h64
    simp -implicitDefEqProofs only [awp_draw _ _ Tryzdr74_17,List.length_map,lt_true hlt2,hr,sRow,
  evx,evy,ofValue,ofCell,List.range,List.range.loop,Array.size,Nat.reduceAdd,Nat.reduceSub,Nat.reduceEqDiff,List.replicate,if_true,if_false,↓reduceIte,reduceCtorEq,elB,evParts,Int.reduceToNat,Int.reduceLE,Int.reduceLT,Int.reduceEq,Nat.reduceMul,Nat.reduceLeDiff,Nat.reduceLT,ty3,ty4,ty9,ty22,ty23,ty24,ty25,ty27,ty28,ty63,ty59,ty61,ty127]
    refine callK_ret _ _ _ _ (call_pure (h64) (fun _ => rfl) (fun _ => rfl)) (ok_nil _ _) ?_
    simp -implicitDefEqProofs only [awp_draw _ _ Tryzdr74_17,
  evx,evy,ofValue,ofCell,List.range,List.range.loop,Array.size,Nat.reduceAdd,Nat.reduceSub,Nat.reduceEqDiff,List.replicate,if_true,if_false,↓reduceIte,reduceCtorEq,elB,evParts,Int.reduceToNat,Int.reduceLE,Int.reduceLT,Int.reduceEq,Nat.reduceMul,Nat.reduceLeDiff,Nat.reduceLT,ty3,ty4,ty9,ty22,ty23,ty24,ty25,ty27,ty28,ty63,ty59,ty61,ty127]
    refine loop_rule (fun k : Nat => ⟨[.any,.any,.any,.ref 0 1 0 g.names.length,.any,.fv (.int .i64 i),.fv (.int .i64 k),.any,.any,.any,.any,.any,.any,.any,.any,.any,.any,.any,.any,.any,.any,.any,.any,.any,.any,.any,.any,.any,.any,.any,.any,.any,.any,.any,.any,.any,.any,.any,.any,.any,.any,.any,.any,.any,.any,.any,.any,.any,.any,.any,.any,.any,.any,.any,.any,.any,.any,.any,.any,.any,.any],[.plain 1 (g.names.map sRow)],[]⟩)
     (fun k => k ≤ i ∧ x ∉ g.names.take k) (fun k => i - k) 0 (le_wk (by simp [wk])) (by simp) (fun k hk s4 hs4 => ?_)
    obtain ⟨hk,hxk⟩ := hk
    by_cases hlt4 : k < i
    ·have hkl : k < g.names.length := by omega
     have hr2 := rows_at sRow g.names k hkl
     have hstep := take_mem_succ hkl hxk
     have hin : g.names[k] = x → x ∈ g.names.take i := fun e => by
      rw [← e]
      exact List.mem_take_iff_getElem.2 ⟨k,by omega,rfl⟩
     generalize g.names[k] = y at hr2 hstep hin
     cases hxy : y == x with
     | true =>
      simp -implicitDefEqProofs only [awp_draw _ _ Tryzdr74_17,List.length_map,lt_true hlt4,lt_true hlt2,lt_true hkl,hr,hr2,sRow,eql_str,hxy,
  evx,evy,ofValue,ofCell,List.range,List.range.loop,Array.size,Nat.reduceAdd,Nat.reduceSub,Nat.reduceEqDiff,List.replicate,if_true,if_false,↓reduceIte,reduceCtorEq,elB,evParts,Int.reduceToNat,Int.reduceLE,Int.reduceLT,Int.reduceEq,Nat.reduceMul,Nat.reduceLeDiff,Nat.reduceLT,ty3,ty4,ty9,ty22,ty23,ty24,ty25,ty27,ty28,ty63,ty59,ty61,ty127]
      rw [hb2 (hin (eq_of_beq hxy))]
      exact le_flat rfl
     | false =>
      simp -implicitDefEqProofs only [awp_draw _ _ Tryzdr74_17,List.length_map,lt_true hlt4,lt_true hlt2,lt_true hkl,hr,hr2,sRow,eql_str,hxy,wsucc k (by omega),
  evx,evy,ofValue,ofCell,List.range,List.range.loop,Array.size,Nat.reduceAdd,Nat.reduceSub,Nat.reduceEqDiff,List.replicate,if_true,if_false,↓reduceIte,reduceCtorEq,elB,evParts,Int.reduceToNat,Int.reduceLE,Int.reduceLT,Int.reduceEq,Nat.reduceMul,Nat.reduceLeDiff,Nat.reduceLT,ty3,ty4,ty9,ty22,ty23,ty24,ty25,ty27,ty28,ty63,ty59,ty61,ty127]
      exact back_intro hs4 (k + 1) (le_wk (by simp [wk])) ⟨by omega,hstep (by simpa using hxy)⟩ (by omega)
    ·obtain rfl : k = i := by omega
     simp -implicitDefEqProofs only [awp_draw _ _ Tryzdr74_17,lt_false hlt4,wsucc k (by omega),
  evx,evy,ofValue,ofCell,List.range,List.range.loop,Array.size,Nat.reduceAdd,Nat.reduceSub,Nat.reduceEqDiff,List.replicate,if_true,if_false,↓reduceIte,reduceCtorEq,elB,evParts,Int.reduceToNat,Int.reduceLE,Int.reduceLT,Int.reduceEq,Nat.reduceMul,Nat.reduceLeDiff,Nat.reduceLT,ty3,ty4,ty9,ty22,ty23,ty24,ty25,ty27,ty28,ty63,ty59,ty61,ty127]
     exact back_intro hs3 (k + 1) (le_wk (by simp [wk])) ⟨by omega,hg1 hnx,hg2 hxk⟩ (by omega)
  ·obtain rfl : i = g.names.length := by omega
   rw [List.take_length] at hnd hdup
   simp -implicitDefEqProofs only [awp_draw _ _ Tryzdr74_17,List.length_map,lt_false hlt2,
  evx,evy,ofValue,ofCell,List.range,List.range.loop,Array.size,Nat.reduceAdd,Nat.reduceSub,Nat.reduceEqDiff,List.replicate,if_true,if_false,↓reduceIte,reduceCtorEq,elB,evParts,Int.reduceToNat,Int.reduceLE,Int.reduceLT,Int.reduceEq,Nat.reduceMul,Nat.reduceLeDiff,Nat.reduceLT,ty3,ty4,ty9,ty22,ty23,ty24,ty25,ty27,ty28,ty63,ty59,ty61,ty127]
   rw [namesB_ok hall hnd hdup]
   exact le_flat rfl
/-! ### A function that is handed over -/
def ixF (p : Int → Bool) : List Int → Nat → Int
 | [],_ => -1
 | x :: l,i => if p x then i else ixF p l (i + 1)
theorem ixF_any (p : Int → Bool) : ∀ (l : List Int) (i : Nat),(0 ≤ ixF p l i) = (l.any p = true)
 | [],i => by simp [ixF]
 | x :: l,i => by
  unfold ixF
  cases h : p x with
  | true => simp [h]
  | false => simp only [Bool.false_eq_true,if_false,ixF_any p l,List.any_cons,h,Bool.false_or]
theorem ok70 {f : FuncId} {caps : List AV} {p : Int → Bool} (l : List Int) (hl : l.length ≤ 100000) (hc : ∀ σ,caps.map (subAny σ) = caps)
  (hf : ∀ n ∈ l,Ok Tryz.prog f (.fv (.int .i64 n) :: caps) [] (.ret (.fv (.bool (p n)))) []) : Ok Tryz.prog 70 [.fv (.lst 1 (l.map iRow)),.func f caps] [] (.ret (.fv (.int .i64 (ixF p l 0)))) [] := by
 refine ok_start (k := 17) (n0 := 0) (rs := [.tmp 4]) mix Tryz.func70 rfl rfl rfl rfl rfl rfl rfl ?_
 simp -implicitDefEqProofs only [List.length_map,
  evx,evy,ofValue,ofCell,List.range,List.range.loop,Array.size,Nat.reduceAdd,Nat.reduceSub,Nat.reduceEqDiff,List.replicate,if_true,if_false,↓reduceIte,reduceCtorEq,elB,evParts,Int.reduceToNat,Int.reduceLE,Int.reduceLT,Int.reduceEq,Nat.reduceMul,Nat.reduceLeDiff,Nat.reduceLT,ty3,ty4,ty9,ty22,ty23,ty24,ty25,ty27,ty28,ty63,ty59,ty61,ty127]
 refine loop_rule (fun i : Nat => ⟨[.fv (.lst 1 (l.map iRow)),.func f caps,.any,.any,.any,.any,.any,.fv (.int .i64 l.length),.fv (.int .i64 i),.any,.any,.any,.any,.any,.any,.any,.any,.any,.any],[],[]⟩)
  (fun i => i ≤ l.length ∧ ixF p l 0 = ixF p (l.drop i) i) (fun i => l.length - i) 0 (le_wk (by simp [wk])) (by simp) (fun i hi s hs2 => ?_)
 obtain ⟨hi,hx⟩ := hi
 by_cases hlt : i < l.length
 ·have hr := rows_at iRow l i hlt
  have hfi := hf l[i] (List.getElem_mem hlt)
  rw [List.drop_eq_getElem_cons hlt] at hx
  generalize l[i] = x at hr hfi hx
  simp -implicitDefEqProofs only [List.length_map,lt_true hlt,hr,iRow,
  evx,evy,ofValue,ofCell,List.range,List.range.loop,Array.size,Nat.reduceAdd,Nat.reduceSub,Nat.reduceEqDiff,List.replicate,if_true,if_false,↓reduceIte,reduceCtorEq,elB,evParts,Int.reduceToNat,Int.reduceLE,Int.reduceLT,Int.reduceEq,Nat.reduceMul,Nat.reduceLeDiff,Nat.reduceLT,ty3,ty4,ty9,ty22,ty23,ty24,ty25,ty27,ty28,ty63,ty59,ty61,ty127]
  refine callK_ret _ _ _ _ (call_pure hfi (fun σ => by rw [List.map_cons,hc]; rfl) (fun _ => rfl)) (ok_nil _ _) ?_
  cases hp : p x with
  | true =>
   simp -implicitDefEqProofs only [evx,evy,ofValue,ofCell,List.range,List.range.loop,Array.size,Nat.reduceAdd,Nat.reduceSub,Nat.reduceEqDiff,List.replicate,if_true,if_false,↓reduceIte,reduceCtorEq,elB,evParts,Int.reduceToNat,Int.reduceLE,Int.reduceLT,Int.reduceEq,Nat.reduceMul,Nat.reduceLeDiff,Nat.reduceLT,ty3,ty4,ty9,ty22,ty23,ty24,ty25,ty27,ty28,ty63,ty59,ty61,ty127]
   rw [hx,ixF,hp,if_pos rfl]
   exact le_flat rfl
  | false =>
   simp -implicitDefEqProofs only [wsucc i (by omega),
  evx,evy,ofValue,ofCell,List.range,List.range.loop,Array.size,Nat.reduceAdd,Nat.reduceSub,Nat.reduceEqDiff,List.replicate,if_true,if_false,↓reduceIte,reduceCtorEq,elB,evParts,Int.reduceToNat,Int.reduceLE,Int.reduceLT,Int.reduceEq,Nat.reduceMul,Nat.reduceLeDiff,Nat.reduceLT,ty3,ty4,ty9,ty22,ty23,ty24,ty25,ty27,ty28,ty63,ty59,ty61,ty127]
   refine back_intro hs2 (i + 1) (le_wk (by simp [wk])) ⟨by omega,?_⟩ (by omega)
   rw [hx,ixF,hp,if_neg (by simp)]
 ·obtain rfl : i = l.length := by omega
  simp -implicitDefEqProofs only [lt_false hlt,
  evx,evy,ofValue,ofCell,List.range,List.range.loop,Array.size,Nat.reduceAdd,Nat.reduceSub,Nat.reduceEqDiff,List.replicate,if_true,if_false,↓reduceIte,reduceCtorEq,elB,evParts,Int.reduceToNat,Int.reduceLE,Int.reduceLT,Int.reduceEq,Nat.reduceMul,Nat.reduceLeDiff,Nat.reduceLT,ty3,ty4,ty9,ty22,ty23,ty24,ty25,ty27,ty28,ty63,ty59,ty61,ty127]
  rw [hx,List.drop_length,ixF]
  exact le_flat rfl
theorem ok37 {f : FuncId} {caps : List AV} {p : Int → Bool} (l : List Int) (hl : l.length ≤ 100000) (hc : ∀ σ,caps.map (subAny σ) = caps) (hc2 : ∀ σ,subAny σ (.func f caps) = .func f caps)
  (hf : ∀ n ∈ l,Ok Tryz.prog f (.fv (.int .i64 n) :: caps) [] (.ret (.fv (.bool (p n)))) []) : Ok Tryz.prog 37 [.fv (.lst 1 (l.map iRow)),.func f caps] [] (.ret (.fv (.bool (l.any p)))) [] := by
 refine ok_start (k := 7) (n0 := 0) (rs := [.tmp 4]) mix Tryz.func37 rfl rfl rfl rfl rfl rfl rfl ?_
 simp -implicitDefEqProofs only [evx,evy,ofValue,ofCell,List.range,List.range.loop,Array.size,Nat.reduceAdd,Nat.reduceSub,Nat.reduceEqDiff,List.replicate,if_true,if_false,↓reduceIte,reduceCtorEq,elB,evParts,Int.reduceToNat,Int.reduceLE,Int.reduceLT,Int.reduceEq,Nat.reduceMul,Nat.reduceLeDiff,Nat.reduceLT,ty3,ty4,ty9,ty22,ty23,ty24,ty25,ty27,ty28,ty63,ty59,ty61,ty127]
 refine callK_ret _ _ _ _ (call_pure (ok70 l hl hc hf) (fun σ => by rw [List.map_cons,List.map_cons,List.map_nil,hc2]; rfl) (fun _ => rfl)) (ok_nil _ _) ?_
 have hx := ixF_any p l 0
 cases ha : l.any p with
 | true =>
  rw [ha] at hx
  have h0 : (0 ≤ ixF p l 0) = True := by rw [hx]; simp
  simp -implicitDefEqProofs only [h0,
  evx,evy,ofValue,ofCell,List.range,List.range.loop,Array.size,Nat.reduceAdd,Nat.reduceSub,Nat.reduceEqDiff,List.replicate,if_true,if_false,↓reduceIte,reduceCtorEq,elB,evParts,Int.reduceToNat,Int.reduceLE,Int.reduceLT,Int.reduceEq,Nat.reduceMul,Nat.reduceLeDiff,Nat.reduceLT,ty3,ty4,ty9,ty22,ty23,ty24,ty25,ty27,ty28,ty63,ty59,ty61,ty127]
  exact le_flat rfl
 | false =>
  rw [ha] at hx
  have h0 : (0 ≤ ixF p l 0) = False := by rw [hx]; simp
  simp -implicitDefEqProofs only [h0,
  evx,evy,ofValue,ofCell,List.range,List.range.loop,Array.size,Nat.reduceAdd,Nat.reduceSub,Nat.reduceEqDiff,List.replicate,if_true,if_false,↓reduceIte,reduceCtorEq,elB,evParts,Int.reduceToNat,Int.reduceLE,Int.reduceLT,Int.reduceEq,Nat.reduceMul,Nat.reduceLeDiff,Nat.reduceLT,ty3,ty4,ty9,ty22,ty23,ty24,ty25,ty27,ty28,ty63,ty59,ty61,ty127]
  exact le_flat rfl
theorem ok110 (n T A : Int) : Ok Tryz.prog 110 [.fv (.int .i64 n),.fptr [.int .i64 T],.fptr [.int .i64 A]] [] (.ret (.fv (.bool (decide (T < n) && decide (n ≤ A))))) [] := by
 refine ok_start (k := 10) (n0 := 0) (rs := [.tmp 4]) mix Tryz.func110 rfl rfl rfl rfl rfl rfl rfl ?_
 by_cases h1 : T < n
 ·have h1t : (T < n) = True := by simpa using h1
  have h1d : decide (T < n) = true := decide_eq_true h1
  by_cases h2 : n ≤ A
  ·have h2t : (n ≤ A) = True := by simpa using h2
   simp -implicitDefEqProofs only [h1t,h2t,
  evx,evy,ofValue,ofCell,List.range,List.range.loop,Array.size,Nat.reduceAdd,Nat.reduceSub,Nat.reduceEqDiff,List.replicate,if_true,if_false,↓reduceIte,reduceCtorEq,elB,evParts,Int.reduceToNat,Int.reduceLE,Int.reduceLT,Int.reduceEq,Nat.reduceMul,Nat.reduceLeDiff,Nat.reduceLT,ty3,ty4,ty9,ty22,ty23,ty24,ty25,ty27,ty28,ty63,ty59,ty61,ty127]
   exact le_flat rfl
  ·have h2t : (n ≤ A) = False := by simpa using h2
   simp -implicitDefEqProofs only [h1t,h2t,
  evx,evy,ofValue,ofCell,List.range,List.range.loop,Array.size,Nat.reduceAdd,Nat.reduceSub,Nat.reduceEqDiff,List.replicate,if_true,if_false,↓reduceIte,reduceCtorEq,elB,evParts,Int.reduceToNat,Int.reduceLE,Int.reduceLT,Int.reduceEq,Nat.reduceMul,Nat.reduceLeDiff,Nat.reduceLT,ty3,ty4,ty9,ty22,ty23,ty24,ty25,ty27,ty28,ty63,ty59,ty61,ty127]
   exact le_flat rfl
 ·have h1t : (T < n) = False := by simpa using h1
  simp -implicitDefEqProofs only [h1t,
  evx,evy,ofValue,ofCell,List.range,List.range.loop,Array.size,Nat.reduceAdd,Nat.reduceSub,Nat.reduceEqDiff,List.replicate,if_true,if_false,↓reduceIte,reduceCtorEq,elB,evParts,Int.reduceToNat,Int.reduceLE,Int.reduceLT,Int.reduceEq,Nat.reduceMul,Nat.reduceLeDiff,Nat.reduceLT,ty3,ty4,ty9,ty22,ty23,ty24,ty25,ty27,ty28,ty63,ty59,ty61,ty127]
  exact le_flat rfl
theorem ok111 (n A : Int) : Ok Tryz.prog 111 [.fv (.int .i64 n),.fptr [.int .i64 A]] [] (.ret (.fv (.bool (decide (n < 1) || decide (A < n))))) [] := by
 refine ok_start (k := 9) (n0 := 0) (rs := [.tmp 3]) mix Tryz.func111 rfl rfl rfl rfl rfl rfl rfl ?_
 by_cases h1 : n < 1
 ·have h1t : (n < 1) = True := by simpa using h1
  simp -implicitDefEqProofs only [h1t,
  evx,evy,ofValue,ofCell,List.range,List.range.loop,Array.size,Nat.reduceAdd,Nat.reduceSub,Nat.reduceEqDiff,List.replicate,if_true,if_false,↓reduceIte,reduceCtorEq,elB,evParts,Int.reduceToNat,Int.reduceLE,Int.reduceLT,Int.reduceEq,Nat.reduceMul,Nat.reduceLeDiff,Nat.reduceLT,ty3,ty4,ty9,ty22,ty23,ty24,ty25,ty27,ty28,ty63,ty59,ty61,ty127]
  exact le_flat rfl
 ·have h1t : (n < 1) = False := by simpa using h1
  by_cases h2 : A < n
  ·have h2t : (A < n) = True := by simpa using h2
   simp -implicitDefEqProofs only [h1t,h2t,
  evx,evy,ofValue,ofCell,List.range,List.range.loop,Array.size,Nat.reduceAdd,Nat.reduceSub,Nat.reduceEqDiff,List.replicate,if_true,if_false,↓reduceIte,reduceCtorEq,elB,evParts,Int.reduceToNat,Int.reduceLE,Int.reduceLT,Int.reduceEq,Nat.reduceMul,Nat.reduceLeDiff,Nat.reduceLT,ty3,ty4,ty9,ty22,ty23,ty24,ty25,ty27,ty28,ty63,ty59,ty61,ty127]
   exact le_flat rfl
  ·have h2t : (A < n) = False := by simpa using h2
   simp -implicitDefEqProofs only [h1t,h2t,
  evx,evy,ofValue,ofCell,List.range,List.range.loop,Array.size,Nat.reduceAdd,Nat.reduceSub,Nat.reduceEqDiff,List.replicate,if_true,if_false,↓reduceIte,reduceCtorEq,elB,evParts,Int.reduceToNat,Int.reduceLE,Int.reduceLT,Int.reduceEq,Nat.reduceMul,Nat.reduceLeDiff,Nat.reduceLT,ty3,ty4,ty9,ty22,ty23,ty24,ty25,ty27,ty28,ty63,ty59,ty61,ty127]
   exact le_flat rfl
end Go.Abs
