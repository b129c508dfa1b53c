/- Names of a grammar: the document's answer; functions that are handed over. -/
import Derived.Test.YtnhghoonlmoinaaGreatTyTryzi
import Derived.Test.YtnhghoonlmoinaaGreatDrTryzi
import Derived.Test.YtnhghoonlmoinaaGreatAbsZ
import Derived.Test.YtnhghoonlmoinaaGreatCkEi
import Derived.Test.YtnhghoonlmoinaaGreatTopA
namespace Go.Abs
open Go.Proofs
set_option linter.unusedVariables false
set_option linter.unusedSimpArgs false
set_option maxRecDepth 100000
set_option maxHeartbeats 1000000
theorem take_mem_succ {l : List Bs} {k : Nat} {x : Bs} (hk : k < l.length) (h : x ∉ l.take k) (hne : ¬ l[k] = x) : x ∉ l.take (k + 1) := by
 rw [List.take_add_one,List.getElem?_eq_getElem hk]
 simp only [Option.toList_some,List.mem_append,List.mem_singleton,not_or]
 exact ⟨h,fun e => hne e.symm⟩
theorem ok74 (g : Gra) (hs : g.rules.length ≤ 40) (hs2 : g.nonts.length ≤ 40) (hn : ∀ s ∈ g.names,s.length ≤ 4000) : Ok Tryz.prog 74 [g.av] [] (.ret (.fv (.bool g.namesB))) [] := by
 refine ok_start (k := 60) (n0 := 0) (rs := [.tmp 2]) mix Tryz.func74 rfl rfl rfl rfl rfl rfl rfl ?_
 have hnl := names_length g
 simp -implicitDefEqProofs only [awp_draw _ _ Tryzdr74_17,Gra.av,
  evx,evy,ofValue,ofCell,List.range,List.range.loop,Array.size,Nat.reduceAdd,Nat.reduceSub,Nat.reduceEqDiff,List.replicate,if_true,if_false,↓reduceIte,reduceCtorEq,elB,evParts,Int.reduceToNat,Int.reduceLE,Int.reduceLT,Int.reduceEq,Nat.reduceMul,Nat.reduceLeDiff,Nat.reduceLT,ty3,ty4,ty9,ty22,ty23,ty24,ty25,ty27,ty28,ty63,ty59,ty61,ty127]
 refine loop_rule (fun i : Nat => ⟨[.any,.ptr 0 0 0 0,.any,.ref 1 1 0 i,.fv (.int .i64 i),.any,.any,.any,.any,.any,.any,.any,.any,.any,.any,.any,.any,.any,.any,.any,.any,.any,.any,.any,.any,.any,.any,.any,.any,.any,.any,.any,.any,.any,.any,.any,.any,.any,.any,.any,.any,.any,.any,.any,.any,.any,.any,.any,.any,.any,.any,.any,.any,.any,.any,.any,.any,.any,.any,.any,.any],[.box g.cells,.plain 1 (nRows (g.rules.take i))],[]⟩)
  (fun i => i ≤ g.rules.length ∧ ((g.rules.take i).all fun r => rightB r.re) = true) (fun i => g.rules.length - i) 0 (Le.trans (le_virt 3 1 rfl) (le_wk (by simp [wk]))) (by simp) (fun i hi s hs3 => ?_)
 obtain ⟨hi,hall⟩ := hi
 have hrl : (nRows (g.rules.take i)).length = i := by rw [nRows_length,List.length_take]; omega
 have htk : List.take i (nRows (g.rules.take i)) = nRows (g.rules.take i) := List.take_of_length_le (by omega)
 by_cases hlt : i < g.rules.length
 ·have hr := rows_at Rul.row g.rules i hlt
  have hbad := @namesB_rule g i hlt
  have hgood := all_succ (fun r => rightB r.re) hlt hall
  have hsucc := nRows_succ hlt
  have h40 := ok103 g.rules[i].re
  generalize g.rules[i] = r at hr hbad hgood hsucc h40
  cases hrb : rightB r.re with
  | false =>
   rw [hrb] at h40
   simp -implicitDefEqProofs only [awp_draw _ _ Tryzdr74_17,Gra.cells,List.length_map,lt_true hlt,hr,Rul.row,
  evx,evy,ofValue,ofCell,List.range,List.range.loop,Array.size,Nat.reduceAdd,Nat.reduceSub,Nat.reduceEqDiff,List.replicate,if_true,if_false,↓reduceIte,reduceCtorEq,elB,evParts,Int.reduceToNat,Int.reduceLE,Int.reduceLT,Int.reduceEq,Nat.reduceMul,Nat.reduceLeDiff,Nat.reduceLT,ty3,ty4,ty9,ty22,ty23,ty24,ty25,ty27,ty28,ty63,ty59,ty61,ty127]
   refine ⟨⟨by omega,by omega⟩,?_⟩
   refine callK_ret _ _ _ _ (call_pure (h40) (fun _ => rfl) (fun _ => rfl)) (ok_nil _ _) ?_
   simp -implicitDefEqProofs only [awp_draw _ _ Tryzdr74_17,
  evx,evy,ofValue,ofCell,List.range,List.range.loop,Array.size,Nat.reduceAdd,Nat.reduceSub,Nat.reduceEqDiff,List.replicate,if_true,if_false,↓reduceIte,reduceCtorEq,elB,evParts,Int.reduceToNat,Int.reduceLE,Int.reduceLT,Int.reduceEq,Nat.reduceMul,Nat.reduceLeDiff,Nat.reduceLT,ty3,ty4,ty9,ty22,ty23,ty24,ty25,ty27,ty28,ty63,ty59,ty61,ty127]
   rw [hbad hrb]
   exact le_flat rfl
  | true =>
   rw [hrb] at h40
   simp -implicitDefEqProofs only [awp_draw _ _ Tryzdr74_17,Gra.cells,List.length_map,lt_true hlt,hr,Rul.row,
  evx,evy,ofValue,ofCell,List.range,List.range.loop,Array.size,Nat.reduceAdd,Nat.reduceSub,Nat.reduceEqDiff,List.replicate,if_true,if_false,↓reduceIte,reduceCtorEq,elB,evParts,Int.reduceToNat,Int.reduceLE,Int.reduceLT,Int.reduceEq,Nat.reduceMul,Nat.reduceLeDiff,Nat.reduceLT,ty3,ty4,ty9,ty22,ty23,ty24,ty25,ty27,ty28,ty63,ty59,ty61,ty127]
   refine ⟨⟨by omega,by omega⟩,?_⟩
   refine callK_ret _ _ _ _ (call_pure (h40) (fun _ => rfl) (fun _ => rfl)) (ok_nil _ _) ?_
   simp -implicitDefEqProofs only [awp_draw _ _ Tryzdr74_17,List.length_map,wsucc i (by omega),
  evx,evy,ofValue,ofCell,List.range,List.range.loop,Array.size,Nat.reduceAdd,Nat.reduceSub,Nat.reduceEqDiff,List.replicate,if_true,if_false,↓reduceIte,reduceCtorEq,elB,evParts,Int.reduceToNat,Int.reduceLE,Int.reduceLT,Int.reduceEq,Nat.reduceMul,Nat.reduceLeDiff,Nat.reduceLT,ty3,ty4,ty9,ty22,ty23,ty24,ty25,ty27,ty28,ty63,ty59,ty61,ty127]
   refine back_intro hs3 (i + 1) (le_pk [0,3] rfl (by simp) (by simp) ?_ ?_) ⟨by omega,hgood hrb⟩ (by omega)
   ·rw [htk,hsucc]
    simp [subBlk,subAny,subA,Gra.cells]
   ·simp [wk,subAny,subA,mkSub,idx]
 ·obtain rfl : i = g.rules.length := by omega
  rw [List.take_length] at hall htk hrl
  have hnr := names_rows g
  simp -implicitDefEqProofs only [awp_draw _ _ Tryzdr74_17,Gra.cells,List.length_map,List.take_length,lt_false hlt,htk,hnr,
  evx,evy,ofValue,ofCell,List.range,List.range.loop,Array.size,Nat.reduceAdd,Nat.reduceSub,Nat.reduceEqDiff,List.replicate,if_true,if_false,↓reduceIte,reduceCtorEq,elB,evParts,Int.reduceToNat,Int.reduceLE,Int.reduceLT,Int.reduceEq,Nat.reduceMul,Nat.reduceLeDiff,Nat.reduceLT,ty3,ty4,ty9,ty22,ty23,ty24,ty25,ty27,ty28,ty63,ty59,ty61,ty127]
  refine ⟨⟨by omega,by omega⟩,?_⟩
  refine loop_rule (fun i : Nat => ⟨[.any,.any,.any,.ref 0 1 0 g.names.length,.any,.fv (.int .i64 i),.any,.any,.any,.any,.any,.any,.any,.any,.any,.any,.any,.any,.any,.any,.any,.any,.any,.any,.any,.any,.any,.any,.any,.any,.any,.any,.any,.any,.any,.any,.any,.any,.any,.any,.any,.any,.any,.any,.any,.any,.any,.any,.any,.any,.any,.any,.any,.any,.any,.any,.any,.any,.any,.any,.any],[.plain 1 (g.names.map sRow)],[]⟩)
   (fun i => i ≤ g.names.length ∧ (g.names.take i).all namedB = true ∧ (g.names.take i).Nodup) (fun i => g.names.length - i) 0 (le_pk [2] rfl (by simp) (by simp) ?_ ?_) (by simp) (fun i hi s hs3 => ?_)
  ·simp [subBlk]
  ·rw [hnl]; simp [wk,subAny,subA,mkSub,idx]
  obtain ⟨hi,hnd,hdup⟩ := hi
  by_cases hlt2 : i < g.names.length
  ·have hr := rows_at sRow g.names i hlt2
   have hb1 := @namesB_named g i hlt2
   have hb2 := @namesB_dup g i hlt2
   have hg1 := all_succ namedB hlt2 hnd
   have hg2 := nodup_step hlt2 hdup
   have h64 := ok104 g.names[i] (hn _ (List.getElem_mem hlt2))
   generalize g.names[i] = x at hr hb1 hb2 hg1 hg2 h64
   cases hnx : namedB x with
   | false =>
    rw [hnx] at h64
    simp -implicitDefEqProofs only [awp_draw _ _ Tryzdr74_17,List.length_map,lt_true hlt2,hr,sRow,
  evx,evy,ofValue,ofCell,List.range,List.range.loop,Array.size,Nat.reduceAdd,Nat.reduceSub,Nat.reduceEqDiff,List.replicate,if_true,if_false,↓reduceIte,reduceCtorEq,elB,evParts,Int.reduceToNat,Int.reduceLE,Int.reduceLT,Int.reduceEq,Nat.reduceMul,Nat.reduceLeDiff,Nat.reduceLT,ty3,ty4,ty9,ty22,ty23,ty24,ty25,ty27,ty28,ty63,ty59,ty61,ty127]
    refine callK_ret _ _ _ _ (call_pure (h64) (fun _ => rfl) (fun _ => rfl)) (ok_nil _ _) ?_
    simp -implicitDefEqProofs only [awp_draw _ _ Tryzdr74_17,
  evx,evy,ofValue,ofCell,List.range,List.range.loop,Array.size,Nat.reduceAdd,Nat.reduceSub,Nat.reduceEqDiff,List.replicate,if_true,if_false,↓reduceIte,reduceCtorEq,elB,evParts,Int.reduceToNat,Int.reduceLE,Int.reduceLT,Int.reduceEq,Nat.reduceMul,Nat.reduceLeDiff,Nat.reduceLT,ty3,ty4,ty9,ty22,ty23,ty24,ty25,ty27,ty28,ty63,ty59,ty61,ty127]
    rw [hb1 hnx]
    exact le_flat rfl
   | true =>
    rw [hnx] at h64
    simp -implicitDefEqProofs only [awp_draw _ _ Tryzdr74_17,List.length_map,lt_true hlt2,hr,sRow,
  evx,evy,ofValue,ofCell,List.range,List.range.loop,Array.size,Nat.reduceAdd,Nat.reduceSub,Nat.reduceEqDiff,List.replicate,if_true,if_false,↓reduceIte,reduceCtorEq,elB,evParts,Int.reduceToNat,Int.reduceLE,Int.reduceLT,Int.reduceEq,Nat.reduceMul,Nat.reduceLeDiff,Nat.reduceLT,ty3,ty4,ty9,ty22,ty23,ty24,ty25,ty27,ty28,ty63,ty59,ty61,ty127]
    refine callK_ret _ _ _ _ (call_pure (h64) (fun _ => rfl) (fun _ => rfl)) (ok_nil _ _) ?_
    simp -implicitDefEqProofs only [awp_draw _ _ Tryzdr74_17,
  evx,evy,ofValue,ofCell,List.range,List.range.loop,Array.size,Nat.reduceAdd,Nat.reduceSub,Nat.reduceEqDiff,List.replicate,if_true,if_false,↓reduceIte,reduceCtorEq,elB,evParts,Int.reduceToNat,Int.reduceLE,Int.reduceLT,Int.reduceEq,Nat.reduceMul,Nat.reduceLeDiff,Nat.reduceLT,ty3,ty4,ty9,ty22,ty23,ty24,ty25,ty27,ty28,ty63,ty59,ty61,ty127]
    refine loop_rule (fun k : Nat => ⟨[.any,.any,.any,.ref 0 1 0 g.names.length,.any,.fv (.int .i64 i),.fv (.int .i64 k),.any,.any,.any,.any,.any,.any,.any,.any,.any,.any,.any,.any,.any,.any,.any,.any,.any,.any,.any,.any,.any,.any,.any,.any,.any,.any,.any,.any,.any,.any,.any,.any,.any,.any,.any,.any,.any,.any,.any,.any,.any,.any,.any,.any,.any,.any,.any,.any,.any,.any,.any,.any,.any,.any],[.plain 1 (g.names.map sRow)],[]⟩)
     (fun k => k ≤ i ∧ x ∉ g.names.take k) (fun k => i - k) 0 (le_wk (by simp [wk])) (by simp) (fun k hk s4 hs4 => ?_)
    obtain ⟨hk,hxk⟩ := hk
    by_cases hlt4 : k < i
    ·have hkl : k < g.names.length := by omega
     have hr2 := rows_at sRow g.names k hkl
     have hstep := take_mem_succ hkl hxk
     have hin : g.names[k] = x → x ∈ g.names.take i := fun e => by
      rw [← e]
      exact List.mem_take_iff_getElem.2 ⟨k,by omega,rfl⟩
     generalize g.names[k] = y at hr2 hstep hin
     cases hxy : y == x with
     | true =>
      simp -implicitDefEqProofs only [awp_draw _ _ Tryzdr74_17,List.length_map,lt_true hlt4,lt_true hlt2,lt_true hkl,hr,hr2,sRow,eql_str,hxy,
  evx,evy,ofValue,ofCell,List.range,List.range.loop,Array.size,Nat.reduceAdd,Nat.reduceSub,Nat.reduceEqDiff,List.replicate,if_true,if_false,↓reduceIte,reduceCtorEq,elB,evParts,Int.reduceToNat,Int.reduceLE,Int.reduceLT,Int.reduceEq,Nat.reduceMul,Nat.reduceLeDiff,Nat.reduceLT,ty3,ty4,ty9,ty22,ty23,ty24,ty25,ty27,ty28,ty63,ty59,ty61,ty127]
      rw [hb2 (hin (eq_of_beq hxy))]
      exact le_flat rfl
     | false =>
      simp -implicitDefEqProofs only [awp_draw _ _ Tryzdr74_17,List.length_map,lt_true hlt4,lt_true hlt2,lt_true hkl,hr,hr2,sRow,eql_str,hxy,wsucc k (by omega),
  evx,evy,ofValue,ofCell,List.range,List.range.loop,Array.size,Nat.reduceAdd,Nat.reduceSub,Nat.reduceEqDiff,List.replicate,if_true,if_false,↓reduceIte,reduceCtorEq,elB,evParts,Int.reduceToNat,Int.reduceLE,Int.reduceLT,Int.reduceEq,Nat.reduceMul,Nat.reduceLeDiff,Nat.reduceLT,ty3,ty4,ty9,ty22,ty23,ty24,ty25,ty27,ty28,ty63,ty59,ty61,ty127]
      exact back_intro hs4 (k + 1) (le_wk (by simp [wk])) ⟨by omega,hstep (by simpa using hxy)⟩ (by omega)
    ·obtain rfl : k = i := by omega
     simp -implicitDefEqProofs only [awp_draw _ _ Tryzdr74_17,lt_false hlt4,wsucc k (by omega),
  evx,evy,ofValue,ofCell,List.range,List.range.loop,Array.size,Nat.reduceAdd,Nat.reduceSub,Nat.reduceEqDiff,List.replicate,if_true,if_false,↓reduceIte,reduceCtorEq,elB,evParts,Int.reduceToNat,Int.reduceLE,Int.reduceLT,Int.reduceEq,Nat.reduceMul,Nat.reduceLeDiff,Nat.reduceLT,ty3,ty4,ty9,ty22,ty23,ty24,ty25,ty27,ty28,ty63,ty59,ty61,ty127]
     exact back_intro hs3 (k + 1) (le_wk (by simp [wk])) ⟨by omega,hg1 hnx,hg2 hxk⟩ (by omega)
  ·obtain rfl : i = g.names.length := by omega
   rw [List.take_length] at hnd hdup
   simp -implicitDefEqProofs only [awp_draw _ _ Tryzdr74_17,List.length_map,lt_false hlt2,
  evx,evy,ofValue,ofCell,List.range,List.range.loop,Array.size,Nat.reduceAdd,Nat.reduceSub,Nat.reduceEqDiff,List.replicate,if_true,if_false,↓reduceIte,reduceCtorEq,elB,evParts,Int.reduceToNat,Int.reduceLE,Int.reduceLT,Int.reduceEq,Nat.reduceMul,Nat.reduceLeDiff,Nat.reduceLT,ty3,ty4,ty9,ty22,ty23,ty24,ty25,ty27,ty28,ty63,ty59,ty61,ty127]
   rw [namesB_ok hall hnd hdup]
   exact le_flat rfl
/-! ### A function that is handed over -/
def ixF (p : Int → Bool) : List Int → Nat → Int
 | [],_ => -1
 | x :: l,i => if p x then i else ixF p l (i + 1)
theorem ixF_any (p : Int → Bool) : ∀ (l : List Int) (i : Nat),(0 ≤ ixF p l i) = (l.any p = true)
 | [],i => by simp [ixF]
 | x :: l,i => by
  unfold ixF
  cases h : p x with
  | true => simp [h]
  | false => simp only [Bool.false_eq_true,if_false,ixF_any p l,List.any_cons,h,Bool.false_or]
theorem ok70 {f : FuncId} {caps : List AV} {p : Int → Bool} (l : List Int) (hl : l.length ≤ 100000) (hc : ∀ σ,caps.map (subAny σ) = caps)
  (hf : ∀ n ∈ l,Ok Tryz.prog f (.fv (.int .i64 n) :: caps) [] (.ret (.fv (.bool (p n)))) []) : Ok Tryz.prog 70 [.fv (.lst 1 (l.map iRow)),.func f caps] [] (.ret (.fv (.int .i64 (ixF p l 0)))) [] := by
 refine ok_start (k := 17) (n0 := 0) (rs := [.tmp 4]) mix Tryz.func70 rfl rfl rfl rfl rfl rfl rfl ?_
 simp -implicitDefEqProofs only [List.length_map,
  evx,evy,ofValue,ofCell,List.range,List.range.loop,Array.size,Nat.reduceAdd,Nat.reduceSub,Nat.reduceEqDiff,List.replicate,if_true,if_false,↓reduceIte,reduceCtorEq,elB,evParts,Int.reduceToNat,Int.reduceLE,Int.reduceLT,Int.reduceEq,Nat.reduceMul,Nat.reduceLeDiff,Nat.reduceLT,ty3,ty4,ty9,ty22,ty23,ty24,ty25,ty27,ty28,ty63,ty59,ty61,ty127]
 refine loop_rule (fun i : Nat => ⟨[.fv (.lst 1 (l.map iRow)),.func f caps,.any,.any,.any,.any,.any,.fv (.int .i64 l.length),.fv (.int .i64 i),.any,.any,.any,.any,.any,.any,.any,.any,.any,.any],[],[]⟩)
  (fun i => i ≤ l.length ∧ ixF p l 0 = ixF p (l.drop i) i) (fun i => l.length - i) 0 (le_wk (by simp [wk])) (by simp) (fun i hi s hs2 => ?_)
 obtain ⟨hi,hx⟩ := hi
 by_cases hlt : i < l.length
 ·have hr := rows_at iRow l i hlt
  have hfi := hf l[i] (List.getElem_mem hlt)
  rw [List.drop_eq_getElem_cons hlt] at hx
  generalize l[i] = x at hr hfi hx
  simp -implicitDefEqProofs only [List.length_map,lt_true hlt,hr,iRow,
  evx,evy,ofValue,ofCell,List.range,List.range.loop,Array.size,Nat.reduceAdd,Nat.reduceSub,Nat.reduceEqDiff,List.replicate,if_true,if_false,↓reduceIte,reduceCtorEq,elB,evParts,Int.reduceToNat,Int.reduceLE,Int.reduceLT,Int.reduceEq,Nat.reduceMul,Nat.reduceLeDiff,Nat.reduceLT,ty3,ty4,ty9,ty22,ty23,ty24,ty25,ty27,ty28,ty63,ty59,ty61,ty127]
  refine callK_ret _ _ _ _ (call_pure hfi (fun σ => by rw [List.map_cons,hc]; rfl) (fun _ => rfl)) (ok_nil _ _) ?_
  cases hp : p x with
  | true =>
   simp -implicitDefEqProofs only [evx,evy,ofValue,ofCell,List.range,List.range.loop,Array.size,Nat.reduceAdd,Nat.reduceSub,Nat.reduceEqDiff,List.replicate,if_true,if_false,↓reduceIte,reduceCtorEq,elB,evParts,Int.reduceToNat,Int.reduceLE,Int.reduceLT,Int.reduceEq,Nat.reduceMul,Nat.reduceLeDiff,Nat.reduceLT,ty3,ty4,ty9,ty22,ty23,ty24,ty25,ty27,ty28,ty63,ty59,ty61,ty127]
   rw [hx,ixF,hp,if_pos rfl]
   exact le_flat rfl
  | false =>
   simp -implicitDefEqProofs only [wsucc i (by omega),
  evx,evy,ofValue,ofCell,List.range,List.range.loop,Array.size,Nat.reduceAdd,Nat.reduceSub,Nat.reduceEqDiff,List.replicate,if_true,if_false,↓reduceIte,reduceCtorEq,elB,evParts,Int.reduceToNat,Int.reduceLE,Int.reduceLT,Int.reduceEq,Nat.reduceMul,Nat.reduceLeDiff,Nat.reduceLT,ty3,ty4,ty9,ty22,ty23,ty24,ty25,ty27,ty28,ty63,ty59,ty61,ty127]
   refine back_intro hs2 (i + 1) (le_wk (by simp [wk])) ⟨by omega,?_⟩ (by omega)
   rw [hx,ixF,hp,if_neg (by simp)]
 ·obtain rfl : i = l.length := by omega
  simp -implicitDefEqProofs only [lt_false hlt,
  evx,evy,ofValue,ofCell,List.range,List.range.loop,Array.size,Nat.reduceAdd,Nat.reduceSub,Nat.reduceEqDiff,List.replicate,if_true,if_false,↓reduceIte,reduceCtorEq,elB,evParts,Int.reduceToNat,Int.reduceLE,Int.reduceLT,Int.reduceEq,Nat.reduceMul,Nat.reduceLeDiff,Nat.reduceLT,ty3,ty4,ty9,ty22,ty23,ty24,ty25,ty27,ty28,ty63,ty59,ty61,ty127]
  rw [hx,List.drop_length,ixF]
  exact le_flat rfl
theorem ok37 {f : FuncId} {caps : List AV} {p : Int → Bool} (l : List Int) (hl : l.length ≤ 100000) (hc : ∀ σ,caps.map (subAny σ) = caps) (hc2 : ∀ σ,subAny σ (.func f caps) = .func f caps)
  (hf : ∀ n ∈ l,Ok Tryz.prog f (.fv (.int .i64 n) :: caps) [] (.ret (.fv (.bool (p n)))) []) : Ok Tryz.prog 37 [.fv (.lst 1 (l.map iRow)),.func f caps] [] (.ret (.fv (.bool (l.any p)))) [] := by
 refine ok_start (k := 7) (n0 := 0) (rs := [.tmp 4]) mix Tryz.func37 rfl rfl rfl rfl rfl rfl rfl ?_
 simp -implicitDefEqProofs only [evx,evy,ofValue,ofCell,List.range,List.range.loop,Array.size,Nat.reduceAdd,Nat.reduceSub,Nat.reduceEqDiff,List.replicate,if_true,if_false,↓reduceIte,reduceCtorEq,elB,evParts,Int.reduceToNat,Int.reduceLE,Int.reduceLT,Int.reduceEq,Nat.reduceMul,Nat.reduceLeDiff,Nat.reduceLT,ty3,ty4,ty9,ty22,ty23,ty24,ty25,ty27,ty28,ty63,ty59,ty61,ty127]
 refine callK_ret _ _ _ _ (call_pure (ok70 l hl hc hf) (fun σ => by rw [List.map_cons,List.map_cons,List.map_nil,hc2]; rfl) (fun _ => rfl)) (ok_nil _ _) ?_
 have hx := ixF_any p l 0
 cases ha : l.any p with
 | true =>
  rw [ha] at hx
  have h0 : (0 ≤ ixF p l 0) = True := by rw [hx]; simp
  simp -implicitDefEqProofs only [h0,
  evx,evy,ofValue,ofCell,List.range,List.range.loop,Array.size,Nat.reduceAdd,Nat.reduceSub,Nat.reduceEqDiff,List.replicate,if_true,if_false,↓reduceIte,reduceCtorEq,elB,evParts,Int.reduceToNat,Int.reduceLE,Int.reduceLT,Int.reduceEq,Nat.reduceMul,Nat.reduceLeDiff,Nat.reduceLT,ty3,ty4,ty9,ty22,ty23,ty24,ty25,ty27,ty28,ty63,ty59,ty61,ty127]
  exact le_flat rfl
 | false =>
  rw [ha] at hx
  have h0 : (0 ≤ ixF p l 0) = False := by rw [hx]; simp
  simp -implicitDefEqProofs only [h0,
  evx,evy,ofValue,ofCell,List.range,List.range.loop,Array.size,Nat.reduceAdd,Nat.reduceSub,Nat.reduceEqDiff,List.replicate,if_true,if_false,↓reduceIte,reduceCtorEq,elB,evParts,Int.reduceToNat,Int.reduceLE,Int.reduceLT,Int.reduceEq,Nat.reduceMul,Nat.reduceLeDiff,Nat.reduceLT,ty3,ty4,ty9,ty22,ty23,ty24,ty25,ty27,ty28,ty63,ty59,ty61,ty127]
  exact le_flat rfl
theorem ok110 (n T A : Int) : Ok Tryz.prog 110 [.fv (.int .i64 n),.fptr [.int .i64 T],.fptr [.int .i64 A]] [] (.ret (.fv (.bool (decide (T < n) && decide (n ≤ A))))) [] := by
 refine ok_start (k := 10) (n0 := 0) (rs := [.tmp 4]) mix Tryz.func110 rfl rfl rfl rfl rfl rfl rfl ?_
 by_cases h1 : T < n
 ·have h1t : (T < n) = True := by simpa using h1
  have h1d : decide (T < n) = true := decide_eq_true h1
  by_cases h2 : n ≤ A
  ·have h2t : (n ≤ A) = True := by simpa using h2
   simp -implicitDefEqProofs only [h1t,h2t,
  evx,evy,ofValue,ofCell,List.range,List.range.loop,Array.size,Nat.reduceAdd,Nat.reduceSub,Nat.reduceEqDiff,List.replicate,if_true,if_false,↓reduceIte,reduceCtorEq,elB,evParts,Int.reduceToNat,Int.reduceLE,Int.reduceLT,Int.reduceEq,Nat.reduceMul,Nat.reduceLeDiff,Nat.reduceLT,ty3,ty4,ty9,ty22,ty23,ty24,ty25,ty27,ty28,ty63,ty59,ty61,ty127]
   exact le_flat rfl
  ·have h2t : (n ≤ A) = False := by simpa using h2
   simp -implicitDefEqProofs only [h1t,h2t,
  evx,evy,ofValue,ofCell,List.range,List.range.loop,Array.size,Nat.reduceAdd,Nat.reduceSub,Nat.reduceEqDiff,List.replicate,if_true,if_false,↓reduceIte,reduceCtorEq,elB,evParts,Int.reduceToNat,Int.reduceLE,Int.reduceLT,Int.reduceEq,Nat.reduceMul,Nat.reduceLeDiff,Nat.reduceLT,ty3,ty4,ty9,ty22,ty23,ty24,ty25,ty27,ty28,ty63,ty59,ty61,ty127]
   exact le_flat rfl
 ·have h1t : (T < n) = False := by simpa using h1
  simp -implicitDefEqProofs only [h1t,
  evx,evy,ofValue,ofCell,List.range,List.range.loop,Array.size,Nat.reduceAdd,Nat.reduceSub,Nat.reduceEqDiff,List.replicate,if_true,if_false,↓reduceIte,reduceCtorEq,elB,evParts,Int.reduceToNat,Int.reduceLE,Int.reduceLT,Int.reduceEq,Nat.reduceMul,Nat.reduceLeDiff,Nat.reduceLT,ty3,ty4,ty9,ty22,ty23,ty24,ty25,ty27,ty28,ty63,ty59,ty61,ty127]
  exact le_flat rfl
theorem ok111 (n A : Int) : Ok Tryz.prog 111 [.fv (.int .i64 n),.fptr [.int .i64 A]] [] (.ret (.fv (.bool (decide (n < 1) || decide (A < n))))) [] := by
 refine ok_start (k := 9) (n0 := 0) (rs := [.tmp 3]) mix Tryz.func111 rfl rfl rfl rfl rfl rfl rfl ?_
 by_cases h1 : n < 1
 ·have h1t : (n < 1) = True := by simpa using h1
  simp -implicitDefEqProofs only [h1t,
  evx,evy,ofValue,ofCell,List.range,List.range.loop,Array.size,Nat.reduceAdd,Nat.reduceSub,Nat.reduceEqDiff,List.replicate,if_true,if_false,↓reduceIte,reduceCtorEq,elB,evParts,Int.reduceToNat,Int.reduceLE,Int.reduceLT,Int.reduceEq,Nat.reduceMul,Nat.reduceLeDiff,Nat.reduceLT,ty3,ty4,ty9,ty22,ty23,ty24,ty25,ty27,ty28,ty63,ty59,ty61,ty127]
  exact le_flat rfl
 ·have h1t : (n < 1) = False := by simpa using h1
  by_cases h2 : A < n
  ·have h2t : (A < n) = True := by simpa using h2
   simp -implicitDefEqProofs only [h1t,h2t,
  evx,evy,ofValue,ofCell,List.range,List.range.loop,Array.size,Nat.reduceAdd,Nat.reduceSub,Nat.reduceEqDiff,List.replicate,if_true,if_false,↓reduceIte,reduceCtorEq,elB,evParts,Int.reduceToNat,Int.reduceLE,Int.reduceLT,Int.reduceEq,Nat.reduceMul,Nat.reduceLeDiff,Nat.reduceLT,ty3,ty4,ty9,ty22,ty23,ty24,ty25,ty27,ty28,ty63,ty59,ty61,ty127]
   exact le_flat rfl
  ·have h2t : (A < n) = False := by simpa using h2
   simp -implicitDefEqProofs only [h1t,h2t,
  evx,evy,ofValue,ofCell,List.range,List.range.loop,Array.size,Nat.reduceAdd,Nat.reduceSub,Nat.reduceEqDiff,List.replicate,if_true,if_false,↓reduceIte,reduceCtorEq,elB,evParts,Int.reduceToNat,Int.reduceLE,Int.reduceLT,Int.reduceEq,Nat.reduceMul,Nat.reduceLeDiff,Nat.reduceLT,ty3,ty4,ty9,ty22,ty23,ty24,ty25,ty27,ty28,ty63,ty59,ty61,ty127]
   exact le_flat rfl
end Go.Abs
/- Soundness: the program's answer. -/
namespace Go.Abs
open Go.Proofs
set_option linter.unusedVariables false
set_option linter.unusedSimpArgs false
set_option maxRecDepth 100000
set_option maxHeartbeats 8000000
theorem aggLev : aggTy Tryz.prog 127 = some [.int .i64,.int .i64] := by kernel_rfl
def Lev.zeroB (l : Lev) : Bool := l.power == 0 && l.side == 0
theorem neq_lev (x : Lev) (one : Bool) : binA Tryz.prog .neq 127 one (.agg [.fv (.int .i64 x.power),.fv (.int .i64 x.side)]) (.agg [.fv (.int .i64 0),.fv (.int .i64 0)]) = some (.fv (.bool (!x.zeroB))) := by
 have h1 : conf [.int .i64,.int .i64] [.int .i64 x.power,.int .i64 x.side] = true := rfl
 have h2 : conf [.int .i64,.int .i64] [.int .i64 0,.int .i64 0] = true := rfl
 simp only [binA,eqA,ty127,aggLev,toFs,Option.map_some,isAgg_struct,h1,h2,Bool.and_self,if_true,eqR,eqC,Bool.and_true,beq_self_eq_true,Bool.true_and,negB,Lev.zeroB]
theorem sound_head {g : Gra} (h : 16 < g.rules.length ∨ 16 < g.nonts.length ∨ 40 < g.prods.length ∨ g.namesB = false) : g.sound = false := by
 cases hx : g.sound with
 | false => rfl
 | true =>
  simp only [Gra.sound,Bool.and_eq_true,decide_eq_true_eq] at hx
  obtain ⟨⟨⟨⟨⟨⟨h1,h2⟩,h3⟩,h4⟩,_⟩,_⟩,_⟩ := hx
  rcases h with h | h | h | h
  ·omega
  ·omega
  ·omega
  ·rw [h] at h4; cases h4
theorem sound_levels {g : Gra} (h : g.levelsB = false) : g.sound = false := by
 unfold Gra.sound
 rw [h]; simp
theorem sound_start {g : Gra} (h : g.startB = false) : g.sound = false := by
 unfold Gra.sound
 rw [h]; simp
theorem sound_prod {g : Gra} {i : Nat} (hi : i < g.prods.length) (h : Prd.okB g g.prods[i] = false) : g.sound = false := by
 unfold Gra.sound
 have : g.prods.all (Prd.okB g) = false := by
  rw [List.all_eq_false]
  exact ⟨_,List.getElem_mem hi,by simp [h]⟩
 rw [this,Bool.and_false]
theorem sound_ok {g : Gra} (h1 : g.rules.length ≤ 16) (h2 : g.nonts.length ≤ 16) (h3 : g.prods.length ≤ 40) (h4 : g.namesB = true) (h5 : g.levelsB = true) (h6 : g.startB = true) (h7 : g.prods.all (Prd.okB g) = true) : g.sound = true := by
 unfold Gra.sound
 rw [decide_eq_true h1,decide_eq_true h2,decide_eq_true h3,h4,h5,h6,h7]; rfl
theorem levels_len {g : Gra} (h : g.levels.length ≠ g.terms + 1) : g.levelsB = false := by
 unfold Gra.levelsB
 rw [decide_eq_false h]; rfl
theorem levels_first {g : Gra} (h0 : 0 < g.levels.length) (h : g.levels[0].zeroB = false) : g.levelsB = false := by
 unfold Gra.levelsB
 match hl : g.levels with
 | [] => simp [hl] at h0
 | l :: r =>
  simp only [hl,List.getElem_cons_zero] at h
  unfold Lev.zeroB at h
  simp only [h,Bool.false_and,Bool.and_false]
theorem levels_bad {g : Gra} {i : Nat} (hi : i < g.levels.length) (h : g.levels[i].okB = false) : g.levelsB = false := by
 unfold Gra.levelsB
 match hl : g.levels with
 | [] => simp [hl] at hi
 | l :: r =>
  have hor : (l.power == 0 && l.side == 0) = false ∨ r.all Lev.okB = false := by
   cases i with
   | zero =>
    simp only [hl,List.getElem_cons_zero] at h
    unfold Lev.okB at h
    rw [Bool.or_eq_false_iff] at h
    exact .inl h.1
   | succ i =>
    simp only [hl,List.getElem_cons_succ] at h
    right
    rw [List.all_eq_false]
    exact ⟨r[i]'(by rw [hl] at hi; simpa using hi),List.getElem_mem _,by simp [h]⟩
  simp only
  rcases hor with h' | h'
  ·simp only [h',Bool.false_and,Bool.and_false]
  ·simp only [h',Bool.and_false]
theorem levelsOk_ {g : Gra} (h : g.levels.length = g.terms + 1) (hlt : 0 < g.levels.length) (h0 : g.levels[0].zeroB = true) (ha : g.levels.all Lev.okB = true) : g.levelsB = true := by
 unfold Gra.levelsB
 rw [decide_eq_true h]
 match hl : g.levels with
 | [] => simp [hl] at hlt
 | l :: r =>
  simp only [hl,List.getElem_cons_zero] at h0
  unfold Lev.zeroB at h0
  rw [hl,List.all_cons,Bool.and_eq_true] at ha
  simp only [h0,ha.2,Bool.and_self]
theorem lev_zero {l : Lev} (h : l.zeroB = true) : l.okB = true := by
 unfold Lev.okB; unfold Lev.zeroB at h; rw [h]; rfl
theorem lev_bad {l : Lev} (hz : l.zeroB = false) (h : l.power < 1 ∨ l.side < 1 ∨ 3 < l.side) : l.okB = false := by
 unfold Lev.okB; unfold Lev.zeroB at hz; rw [hz,Bool.false_or]
 simp only [Bool.and_eq_false_iff,decide_eq_false_iff_not]
 omega
theorem lev_good {l : Lev} (h1 : ¬ l.power < 1) (h2 : ¬ l.side < 1) (h3 : ¬ 3 < l.side) : l.okB = true := by
 unfold Lev.okB
 rw [decide_eq_true (by omega : 0 < l.power),decide_eq_true (by omega : 0 < l.side),decide_eq_true (by omega : l.side < 4)]
 simp
theorem prd_bad {g : Gra} {p : Prd} (h : ¬ ((g.terms : Int) < p.left ∧ p.left ≤ (g.all : Int)) ∨ 8 < p.right.length ∨ p.prec < 0 ∨ (g.terms : Int) < p.prec ∨ (p.right.any fun n => decide (n < 1) || decide ((g.all : Int) < n)) = true) : Prd.okB g p = false := by
 cases hx : Prd.okB g p with
 | false => rfl
 | true =>
  unfold Prd.okB at hx
  simp only [Bool.and_eq_true,decide_eq_true_eq,List.all_eq_true] at hx
  obtain ⟨⟨⟨⟨⟨a,b⟩,c⟩,d⟩,e⟩,f⟩ := hx
  rcases h with h | h | h | h | h
  ·exact absurd ⟨a,b⟩ h
  ·omega
  ·omega
  ·omega
  ·rw [List.any_eq_true] at h
   obtain ⟨n,hn,h⟩ := h
   have := f n hn
   simp only [Bool.or_eq_true,decide_eq_true_eq] at h
   omega
theorem prd_good {g : Gra} {p : Prd} (h1 : (g.terms : Int) < p.left) (h2 : p.left ≤ (g.all : Int)) (h3 : p.right.length ≤ 8) (h4 : 0 ≤ p.prec) (h5 : p.prec ≤ (g.terms : Int)) (h6 : (p.right.any fun n => decide (n < 1) || decide ((g.all : Int) < n)) = false) : Prd.okB g p = true := by
 unfold Prd.okB
 simp only [Bool.and_eq_true,decide_eq_true_eq,List.all_eq_true]
 refine ⟨⟨⟨⟨⟨h1,h2⟩,h3⟩,h4⟩,h5⟩,fun n hn => ?_⟩
 rw [List.any_eq_false] at h6
 have := h6 n hn
 simp only [Bool.or_eq_true,decide_eq_true_eq] at this
 omega
theorem start_none {g : Gra} (h : g.nonts.length = 0) : g.startB = decide (g.start = 0) := by unfold Gra.startB; rw [if_pos h]
theorem start_some {g : Gra} (h : ¬ g.nonts.length = 0) : g.startB = (decide ((g.terms : Int) < g.start) && decide (g.start ≤ (g.all : Int))) := by unfold Gra.startB; rw [if_neg h]
theorem small_names {g : Gra} {np : Nat} (hg : Small g np) : ∀ s ∈ g.names,s.length ≤ 4000 := fun s hs => by
 simp only [Gra.names,List.mem_append,List.mem_map] at hs
 rcases hs with ⟨r,hr,rfl⟩ | hs
 ·have := (hg.rules r hr).2; omega
 ·have := hg.nonts s hs; omega
theorem ok83 (g : Gra) (hg : Small g 100) : Ok Tryz.prog 83 [g.av] [] (.ret (.fv (.bool g.sound))) [] := by
 have hnr := hg.nrules
 have hnn := hg.nnonts
 have hnl := hg.nlevels
 have hnp := hg.nprods
 refine ok_start (k := 136) (n0 := 0) (rs := [.tmp 2]) mix Tryz.func83 rfl rfl rfl rfl rfl rfl rfl ?_
 by_cases a1 : (16 : Int) < (g.rules.length : Int)
 ·simp -implicitDefEqProofs only [Gra.av,List.length_map,lit_true a1,
  evx,evy,ofValue,ofCell,List.range,List.range.loop,Array.size,Nat.reduceAdd,Nat.reduceSub,Nat.reduceEqDiff,List.replicate,if_true,if_false,↓reduceIte,reduceCtorEq,elB,evParts,Int.reduceToNat,Int.reduceLE,Int.reduceLT,Int.reduceEq,Nat.reduceMul,Nat.reduceLeDiff,Nat.reduceLT,ty3,ty4,ty9,ty22,ty23,ty24,ty25,ty27,ty28,ty63,ty59,ty61,ty127]
  rw [sound_head (.inl (by omega))]
  exact le_flat rfl
 by_cases a2 : (16 : Int) < (g.nonts.length : Int)
 ·simp -implicitDefEqProofs only [Gra.av,List.length_map,lit_false a1,lit_true a2,
  evx,evy,ofValue,ofCell,List.range,List.range.loop,Array.size,Nat.reduceAdd,Nat.reduceSub,Nat.reduceEqDiff,List.replicate,if_true,if_false,↓reduceIte,reduceCtorEq,elB,evParts,Int.reduceToNat,Int.reduceLE,Int.reduceLT,Int.reduceEq,Nat.reduceMul,Nat.reduceLeDiff,Nat.reduceLT,ty3,ty4,ty9,ty22,ty23,ty24,ty25,ty27,ty28,ty63,ty59,ty61,ty127]
  rw [sound_head (.inr (.inl (by omega)))]
  exact le_flat rfl
 by_cases a3 : (40 : Int) < (g.prods.length : Int)
 ·simp -implicitDefEqProofs only [Gra.av,List.length_map,lit_false a1,lit_false a2,lit_true a3,
  evx,evy,ofValue,ofCell,List.range,List.range.loop,Array.size,Nat.reduceAdd,Nat.reduceSub,Nat.reduceEqDiff,List.replicate,if_true,if_false,↓reduceIte,reduceCtorEq,elB,evParts,Int.reduceToNat,Int.reduceLE,Int.reduceLT,Int.reduceEq,Nat.reduceMul,Nat.reduceLeDiff,Nat.reduceLT,ty3,ty4,ty9,ty22,ty23,ty24,ty25,ty27,ty28,ty63,ty59,ty61,ty127]
  rw [sound_head (.inr (.inr (.inl (by omega))))]
  exact le_flat rfl
 have hnames := ok109 g hnr hnn (small_names hg)
 have hterms := ok35 g hnr
 have hall : g.all = g.terms + g.nonts.length := rfl
 have htl : g.terms ≤ g.rules.length := List.length_filter_le _ _
 cases hnm : g.namesB with
 | false =>
  rw [hnm] at hnames
  simp -implicitDefEqProofs only [Gra.av,List.length_map,lit_false a1,lit_false a2,lit_false a3,
  evx,evy,ofValue,ofCell,List.range,List.range.loop,Array.size,Nat.reduceAdd,Nat.reduceSub,Nat.reduceEqDiff,List.replicate,if_true,if_false,↓reduceIte,reduceCtorEq,elB,evParts,Int.reduceToNat,Int.reduceLE,Int.reduceLT,Int.reduceEq,Nat.reduceMul,Nat.reduceLeDiff,Nat.reduceLT,ty3,ty4,ty9,ty22,ty23,ty24,ty25,ty27,ty28,ty63,ty59,ty61,ty127]
  refine callK_ret _ _ _ _ (call_pure (hnames) (fun _ => rfl) (fun _ => rfl)) (ok_nil _ _) ?_
  simp -implicitDefEqProofs only [evx,evy,ofValue,ofCell,List.range,List.range.loop,Array.size,Nat.reduceAdd,Nat.reduceSub,Nat.reduceEqDiff,List.replicate,if_true,if_false,↓reduceIte,reduceCtorEq,elB,evParts,Int.reduceToNat,Int.reduceLE,Int.reduceLT,Int.reduceEq,Nat.reduceMul,Nat.reduceLeDiff,Nat.reduceLT,ty3,ty4,ty9,ty22,ty23,ty24,ty25,ty27,ty28,ty63,ty59,ty61,ty127]
  rw [sound_head (.inr (.inr (.inr hnm)))]
  exact le_flat rfl
 | true =>
 rw [hnm] at hnames
 have hw1 : IntKind.wrap .i64 ((g.terms : Int) + (g.nonts.length : Int)) = (g.all : Int) := by rw [hall]; exact wsum _ _ (by omega)
 simp -implicitDefEqProofs only [Gra.av,List.length_map,lit_false a1,lit_false a2,lit_false a3,
  evx,evy,ofValue,ofCell,List.range,List.range.loop,Array.size,Nat.reduceAdd,Nat.reduceSub,Nat.reduceEqDiff,List.replicate,if_true,if_false,↓reduceIte,reduceCtorEq,elB,evParts,Int.reduceToNat,Int.reduceLE,Int.reduceLT,Int.reduceEq,Nat.reduceMul,Nat.reduceLeDiff,Nat.reduceLT,ty3,ty4,ty9,ty22,ty23,ty24,ty25,ty27,ty28,ty63,ty59,ty61,ty127]
 refine callK_ret _ _ _ _ (call_pure (hnames) (fun _ => rfl) (fun _ => rfl)) (ok_nil _ _) ?_
 simp -implicitDefEqProofs only [evx,evy,ofValue,ofCell,List.range,List.range.loop,Array.size,Nat.reduceAdd,Nat.reduceSub,Nat.reduceEqDiff,List.replicate,if_true,if_false,↓reduceIte,reduceCtorEq,elB,evParts,Int.reduceToNat,Int.reduceLE,Int.reduceLT,Int.reduceEq,Nat.reduceMul,Nat.reduceLeDiff,Nat.reduceLT,ty3,ty4,ty9,ty22,ty23,ty24,ty25,ty27,ty28,ty63,ty59,ty61,ty127]
 refine callK_ret _ _ _ _ (call_pure (hterms) (fun _ => rfl) (fun _ => rfl)) (ok_nil _ _) ?_
 by_cases hL : g.levels.length = g.terms + 1
 ·have hLt : ((g.levels.length : Int) ≠ ((g.terms + 1 : Nat) : Int)) = False := by rw [hL]; simp
  have h0 : 0 < g.levels.length := by omega
  have hr0 := rows_at Lev.row g.levels 0 h0
  have hfirst := levels_first h0
  have hok := levelsOk_ hL h0
  generalize g.levels[0] = l0 at hr0 hfirst hok
  cases hz0 : l0.zeroB with
  | false =>
   simp -implicitDefEqProofs only [Gra.cells,List.length_map,stB_boxA,splice_all,List.all_cons,List.all_nil,hw1,wsucc g.terms (by omega),hLt,hr0,Lev.row,neq_lev,hz0,
  evx,evy,ofValue,ofCell,List.range,List.range.loop,Array.size,Nat.reduceAdd,Nat.reduceSub,Nat.reduceEqDiff,List.replicate,if_true,if_false,↓reduceIte,reduceCtorEq,elB,evParts,Int.reduceToNat,Int.reduceLE,Int.reduceLT,Int.reduceEq,Nat.reduceMul,Nat.reduceLeDiff,Nat.reduceLT,ty3,ty4,ty9,ty22,ty23,ty24,ty25,ty27,ty28,ty63,ty59,ty61,ty127]
   rw [sound_levels (hfirst hz0)]
   exact le_flat rfl
  | true =>
  simp -implicitDefEqProofs only [Gra.cells,List.length_map,stB_boxA,splice_all,List.all_cons,List.all_nil,hw1,wsucc g.terms (by omega),hLt,hr0,Lev.row,neq_lev,hz0,
  evx,evy,ofValue,ofCell,List.range,List.range.loop,Array.size,Nat.reduceAdd,Nat.reduceSub,Nat.reduceEqDiff,List.replicate,if_true,if_false,↓reduceIte,reduceCtorEq,elB,evParts,Int.reduceToNat,Int.reduceLE,Int.reduceLT,Int.reduceEq,Nat.reduceMul,Nat.reduceLeDiff,Nat.reduceLT,ty3,ty4,ty9,ty22,ty23,ty24,ty25,ty27,ty28,ty63,ty59,ty61,ty127]
  refine loop_rule (fun i : Nat => ⟨[.any,.ptr 0 0 0 0,.any,.ptr 1 0 0 0,.ptr 2 0 0 0,.any,.any,.any,.any,.any,.any,.any,.any,.any,.any,.any,.any,.any,.any,.any,.any,.any,.any,.any,.any,.any,.any,.any,.any,.any,.any,.any,.any,.any,.any,.any,.any,.any,.any,.any,.any,.any,.any,.any,.any,.any,.any,.any,.any,.any,.any,.any,.any,.fv (.lst 2 (g.levels.map Lev.row)),.fv (.int .i64 g.levels.length),.fv (.int .i64 i),.any,.any,.any,.any,.any,.any,.any,.any,.any,.any,.any,.any,.any,.any,.any,.any,.any,.any,.any,.any,.any,.any,.any,.any,.any,.any,.any,.any,.any,.any,.any,.any,.any,.any,.any,.any,.any,.any,.any,.any,.any,.any,.any,.any,.any,.any,.any,.any,.any,.any,.any,.any,.any,.any,.any,.any,.any,.any,.any,.any,.any,.any,.any,.any,.any,.any,.any,.any,.any,.any,.any,.any,.any,.any,.any,.any,.any,.any,.any,.any,.any],[.box g.cells,.box [.fv (.int .i64 g.terms)],.box [.fv (.int .i64 g.all)]],[]⟩)
   (fun i => i ≤ g.levels.length ∧ (g.levels.take i).all Lev.okB = true) (fun i => g.levels.length - i) 0 (le_wk (by simp [wk,Gra.cells])) (by simp) (fun i hi s hs => ?_)
  obtain ⟨hi,hao⟩ := hi
  by_cases hlt : i < g.levels.length
  ·have hr := rows_at Lev.row g.levels i hlt
   have hbad := @levels_bad g i hlt
   have hgood := all_succ Lev.okB hlt hao
   generalize g.levels[i] = l at hr hbad hgood
   cases hz : l.zeroB with
   | true =>
    simp -implicitDefEqProofs only [Gra.cells,List.length_map,stB_boxA,splice_all,List.all_cons,List.all_nil,lt_true hlt,hr,Lev.row,neq_lev,hz,wsucc i (by omega),
  evx,evy,ofValue,ofCell,List.range,List.range.loop,Array.size,Nat.reduceAdd,Nat.reduceSub,Nat.reduceEqDiff,List.replicate,if_true,if_false,↓reduceIte,reduceCtorEq,elB,evParts,Int.reduceToNat,Int.reduceLE,Int.reduceLT,Int.reduceEq,Nat.reduceMul,Nat.reduceLeDiff,Nat.reduceLT,ty3,ty4,ty9,ty22,ty23,ty24,ty25,ty27,ty28,ty63,ty59,ty61,ty127]
    refine back_intro hs (i + 1) (le_pk [0,1,2] rfl (by simp) (by simp) ?_ ?_) ⟨by omega,hgood (lev_zero hz)⟩ (by omega)
    ·simp [subBlk,subAny,subA,Gra.cells]
    ·simp [wk,subAny,subA,mkSub,idx]
   | false =>
    by_cases c1 : l.power < 1
    ·have c1t : (l.power < 1) = True := by simpa using c1
     simp -implicitDefEqProofs only [Gra.cells,List.length_map,stB_boxA,splice_all,List.all_cons,List.all_nil,lt_true hlt,hr,Lev.row,neq_lev,hz,c1t,
  evx,evy,ofValue,ofCell,List.range,List.range.loop,Array.size,Nat.reduceAdd,Nat.reduceSub,Nat.reduceEqDiff,List.replicate,if_true,if_false,↓reduceIte,reduceCtorEq,elB,evParts,Int.reduceToNat,Int.reduceLE,Int.reduceLT,Int.reduceEq,Nat.reduceMul,Nat.reduceLeDiff,Nat.reduceLT,ty3,ty4,ty9,ty22,ty23,ty24,ty25,ty27,ty28,ty63,ty59,ty61,ty127]
     rw [sound_levels (hbad (lev_bad hz (.inl c1)))]
     exact le_flat rfl
    have c1t : (l.power < 1) = False := by simpa using c1
    by_cases c2 : l.side < 1
    ·have c2t : (l.side < 1) = True := by simpa using c2
     simp -implicitDefEqProofs only [Gra.cells,List.length_map,stB_boxA,splice_all,List.all_cons,List.all_nil,lt_true hlt,hr,Lev.row,neq_lev,hz,c1t,c2t,
  evx,evy,ofValue,ofCell,List.range,List.range.loop,Array.size,Nat.reduceAdd,Nat.reduceSub,Nat.reduceEqDiff,List.replicate,if_true,if_false,↓reduceIte,reduceCtorEq,elB,evParts,Int.reduceToNat,Int.reduceLE,Int.reduceLT,Int.reduceEq,Nat.reduceMul,Nat.reduceLeDiff,Nat.reduceLT,ty3,ty4,ty9,ty22,ty23,ty24,ty25,ty27,ty28,ty63,ty59,ty61,ty127]
     rw [sound_levels (hbad (lev_bad hz (.inr (.inl c2))))]
     exact le_flat rfl
    have c2t : (l.side < 1) = False := by simpa using c2
    by_cases c3 : 3 < l.side
    ·have c3t : (3 < l.side) = True := by simpa using c3
     simp -implicitDefEqProofs only [Gra.cells,List.length_map,stB_boxA,splice_all,List.all_cons,List.all_nil,lt_true hlt,hr,Lev.row,neq_lev,hz,c1t,c2t,c3t,
  evx,evy,ofValue,ofCell,List.range,List.range.loop,Array.size,Nat.reduceAdd,Nat.reduceSub,Nat.reduceEqDiff,List.replicate,if_true,if_false,↓reduceIte,reduceCtorEq,elB,evParts,Int.reduceToNat,Int.reduceLE,Int.reduceLT,Int.reduceEq,Nat.reduceMul,Nat.reduceLeDiff,Nat.reduceLT,ty3,ty4,ty9,ty22,ty23,ty24,ty25,ty27,ty28,ty63,ty59,ty61,ty127]
     rw [sound_levels (hbad (lev_bad hz (.inr (.inr c3))))]
     exact le_flat rfl
    have c3t : (3 < l.side) = False := by simpa using c3
    simp -implicitDefEqProofs only [Gra.cells,List.length_map,stB_boxA,splice_all,List.all_cons,List.all_nil,lt_true hlt,hr,Lev.row,neq_lev,hz,c1t,c2t,c3t,wsucc i (by omega),
  evx,evy,ofValue,ofCell,List.range,List.range.loop,Array.size,Nat.reduceAdd,Nat.reduceSub,Nat.reduceEqDiff,List.replicate,if_true,if_false,↓reduceIte,reduceCtorEq,elB,evParts,Int.reduceToNat,Int.reduceLE,Int.reduceLT,Int.reduceEq,Nat.reduceMul,Nat.reduceLeDiff,Nat.reduceLT,ty3,ty4,ty9,ty22,ty23,ty24,ty25,ty27,ty28,ty63,ty59,ty61,ty127]
    refine back_intro hs (i + 1) (le_pk [0,1,2] rfl (by simp) (by simp) ?_ ?_) ⟨by omega,hgood (lev_good c1 c2 c3)⟩ (by omega)
    ·simp [subBlk,subAny,subA,Gra.cells]
    ·simp [wk,subAny,subA,mkSub,idx]
  ·obtain rfl : i = g.levels.length := by omega
   rw [List.take_length] at hao
   have hlev := hok hz0 hao
   by_cases n0 : g.nonts.length = 0
   ·have n0a : ((0 : Int) < (g.nonts.length : Int)) = False := lit_false (by omega)
    have n0b : ((g.nonts.length : Int) = 0) = True := by simpa using n0
    by_cases s0 : g.start = 0
    ·have s0t : (g.start ≠ 0) = False := by simpa using s0
     have hst : g.startB = true := by rw [start_none n0]; exact decide_eq_true s0
     simp -implicitDefEqProofs only [Gra.cells,List.length_map,lt_false hlt,n0a,n0b,s0t,
  evx,evy,ofValue,ofCell,List.range,List.range.loop,Array.size,Nat.reduceAdd,Nat.reduceSub,Nat.reduceEqDiff,List.replicate,if_true,if_false,↓reduceIte,reduceCtorEq,elB,evParts,Int.reduceToNat,Int.reduceLE,Int.reduceLT,Int.reduceEq,Nat.reduceMul,Nat.reduceLeDiff,Nat.reduceLT,ty3,ty4,ty9,ty22,ty23,ty24,ty25,ty27,ty28,ty63,ty59,ty61,ty127]
     refine loop_rule (fun i : Nat => ⟨[.any,.any,.any,.ptr 1 0 0 0,.ptr 2 0 0 0,.any,.any,.func 110 [.ptr 1 0 0 0,.ptr 2 0 0 0],.any,.any,.any,.any,.any,.any,.any,.any,.any,.any,.any,.any,.any,.any,.any,.any,.any,.any,.any,.any,.any,.any,.any,.any,.any,.any,.any,.any,.any,.any,.any,.any,.any,.any,.any,.any,.any,.any,.any,.any,.any,.any,.any,.any,.any,.any,.any,.any,.any,.any,.any,.any,.any,.any,.any,.any,.any,.any,.any,.any,.any,.any,.any,.any,.any,.any,.any,.any,.any,.any,.any,.any,.any,.any,.any,.any,.any,.any,.any,.any,.any,.any,.any,.any,.any,.any,.any,.any,.any,.any,.any,.any,.any,.any,.fv (.lst 3 (g.prods.map Prd.row)),.fv (.int .i64 g.prods.length),.fv (.int .i64 i),.any,.any,.any,.any,.any,.any,.any,.any,.any,.any,.any,.any,.any,.any,.any,.any,.any,.any,.any,.any,.any,.any,.any,.any,.any,.any,.any,.any,.any,.any,.any,.any],[.box g.cells,.box [.fv (.int .i64 g.terms)],.box [.fv (.int .i64 g.all)]],[]⟩)
      (fun i => i ≤ g.prods.length ∧ (g.prods.take i).all (Prd.okB g) = true) (fun i => g.prods.length - i) 0 (le_wk (by simp [wk,Gra.cells])) (by simp) (fun i hi s hs => ?_)
     obtain ⟨hi,hpo⟩ := hi
     by_cases hlt2 : i < g.prods.length
     ·have hr := rows_at Prd.row g.prods i hlt2
      have hbad := @sound_prod g i hlt2
      have hgood := all_succ (Prd.okB g) hlt2 hpo
      have hrl := hg.prods _ (List.getElem_mem hlt2)
      generalize g.prods[i] = p at hr hbad hgood hrl
      have hpb := @prd_bad g p
      have hpg := @prd_good g p
      have h38 := ok110 p.left g.terms g.all
      simp -implicitDefEqProofs only [Gra.cells,List.length_map,stB_boxA,splice_all,List.all_cons,List.all_nil,lt_true hlt2,hr,Prd.row,
  evx,evy,ofValue,ofCell,List.range,List.range.loop,Array.size,Nat.reduceAdd,Nat.reduceSub,Nat.reduceEqDiff,List.replicate,if_true,if_false,↓reduceIte,reduceCtorEq,elB,evParts,Int.reduceToNat,Int.reduceLE,Int.reduceLT,Int.reduceEq,Nat.reduceMul,Nat.reduceLeDiff,Nat.reduceLT,ty3,ty4,ty9,ty22,ty23,ty24,ty25,ty27,ty28,ty63,ty59,ty61,ty127]
      refine callK_ret _ _ _ _ (call_deep h38 rfl rfl) (ok_nil _ _) ?_
      by_cases c1 : (g.terms : Int) < p.left ∧ p.left ≤ (g.all : Int)
      ·have c1d : (decide ((g.terms : Int) < p.left) && decide (p.left ≤ (g.all : Int))) = true := by simp only [decide_eq_true c1.1,decide_eq_true c1.2,Bool.and_self]
       by_cases c2 : (8 : Int) < (p.right.length : Int)
       ·simp -implicitDefEqProofs only [Gra.cells,List.length_map,stB_boxA,splice_all,List.all_cons,List.all_nil,c1d,lit_true c2,
  evx,evy,ofValue,ofCell,List.range,List.range.loop,Array.size,Nat.reduceAdd,Nat.reduceSub,Nat.reduceEqDiff,List.replicate,if_true,if_false,↓reduceIte,reduceCtorEq,elB,evParts,Int.reduceToNat,Int.reduceLE,Int.reduceLT,Int.reduceEq,Nat.reduceMul,Nat.reduceLeDiff,Nat.reduceLT,ty3,ty4,ty9,ty22,ty23,ty24,ty25,ty27,ty28,ty63,ty59,ty61,ty127]
        rw [hbad (hpb (.inr (.inl (by omega))))]
        exact le_flat rfl
       by_cases c3 : p.prec < 0
       ·have c3t : (p.prec < 0) = True := by simpa using c3
        simp -implicitDefEqProofs only [Gra.cells,List.length_map,stB_boxA,splice_all,List.all_cons,List.all_nil,c1d,lit_false c2,c3t,
  evx,evy,ofValue,ofCell,List.range,List.range.loop,Array.size,Nat.reduceAdd,Nat.reduceSub,Nat.reduceEqDiff,List.replicate,if_true,if_false,↓reduceIte,reduceCtorEq,elB,evParts,Int.reduceToNat,Int.reduceLE,Int.reduceLT,Int.reduceEq,Nat.reduceMul,Nat.reduceLeDiff,Nat.reduceLT,ty3,ty4,ty9,ty22,ty23,ty24,ty25,ty27,ty28,ty63,ty59,ty61,ty127]
        rw [hbad (hpb (.inr (.inr (.inl c3))))]
        exact le_flat rfl
       have c3t : (p.prec < 0) = False := by simpa using c3
       by_cases c4 : (g.terms : Int) < p.prec
       ·have c4t : ((g.terms : Int) < p.prec) = True := by simpa using c4
        simp -implicitDefEqProofs only [Gra.cells,List.length_map,stB_boxA,splice_all,List.all_cons,List.all_nil,c1d,lit_false c2,c3t,c4t,
  evx,evy,ofValue,ofCell,List.range,List.range.loop,Array.size,Nat.reduceAdd,Nat.reduceSub,Nat.reduceEqDiff,List.replicate,if_true,if_false,↓reduceIte,reduceCtorEq,elB,evParts,Int.reduceToNat,Int.reduceLE,Int.reduceLT,Int.reduceEq,Nat.reduceMul,Nat.reduceLeDiff,Nat.reduceLT,ty3,ty4,ty9,ty22,ty23,ty24,ty25,ty27,ty28,ty63,ty59,ty61,ty127]
        rw [hbad (hpb (.inr (.inr (.inr (.inl c4)))))]
        exact le_flat rfl
       have c4t : ((g.terms : Int) < p.prec) = False := by simpa using c4
       have h26 := ok37 (f := 111) (caps := [.fptr [.int .i64 g.all]]) (p := fun n => decide (n < 1) || decide ((g.all : Int) < n)) p.right (by omega) (fun _ => rfl) (fun _ => rfl) (fun n _ => ok111 n g.all)
       simp -implicitDefEqProofs only [Gra.cells,List.length_map,stB_boxA,splice_all,List.all_cons,List.all_nil,c1d,lit_false c2,c3t,c4t,
  evx,evy,ofValue,ofCell,List.range,List.range.loop,Array.size,Nat.reduceAdd,Nat.reduceSub,Nat.reduceEqDiff,List.replicate,if_true,if_false,↓reduceIte,reduceCtorEq,elB,evParts,Int.reduceToNat,Int.reduceLE,Int.reduceLT,Int.reduceEq,Nat.reduceMul,Nat.reduceLeDiff,Nat.reduceLT,ty3,ty4,ty9,ty22,ty23,ty24,ty25,ty27,ty28,ty63,ty59,ty61,ty127]
       refine callK_ret _ _ _ _ (call_deep h26 rfl rfl) (ok_nil _ _) ?_
       cases hany : (p.right.any fun n => decide (n < 1) || decide ((g.all : Int) < n)) with
       | true =>
        simp -implicitDefEqProofs only [evx,evy,ofValue,ofCell,List.range,List.range.loop,Array.size,Nat.reduceAdd,Nat.reduceSub,Nat.reduceEqDiff,List.replicate,if_true,if_false,↓reduceIte,reduceCtorEq,elB,evParts,Int.reduceToNat,Int.reduceLE,Int.reduceLT,Int.reduceEq,Nat.reduceMul,Nat.reduceLeDiff,Nat.reduceLT,ty3,ty4,ty9,ty22,ty23,ty24,ty25,ty27,ty28,ty63,ty59,ty61,ty127]
        rw [hbad (hpb (.inr (.inr (.inr (.inr hany)))))]
        exact le_flat rfl
       | false =>
        simp -implicitDefEqProofs only [wsucc i (by omega),
  evx,evy,ofValue,ofCell,List.range,List.range.loop,Array.size,Nat.reduceAdd,Nat.reduceSub,Nat.reduceEqDiff,List.replicate,if_true,if_false,↓reduceIte,reduceCtorEq,elB,evParts,Int.reduceToNat,Int.reduceLE,Int.reduceLT,Int.reduceEq,Nat.reduceMul,Nat.reduceLeDiff,Nat.reduceLT,ty3,ty4,ty9,ty22,ty23,ty24,ty25,ty27,ty28,ty63,ty59,ty61,ty127]
        refine back_intro hs (i + 1) (le_pk [0,1,2] rfl (by simp) (by simp) ?_ ?_) ⟨by omega,hgood (hpg c1.1 c1.2 (by omega) (by omega) (by omega) hany)⟩ (by omega)
        ·simp [subBlk,subAny,subA,Gra.cells]
        ·simp [wk,subAny,subA,subL,mkSub,idx]
      ·have c1d : (decide ((g.terms : Int) < p.left) && decide (p.left ≤ (g.all : Int))) = false := by
        rw [Bool.and_eq_false_iff,decide_eq_false_iff_not,decide_eq_false_iff_not]
        omega
       simp -implicitDefEqProofs only [Gra.cells,List.length_map,stB_boxA,splice_all,List.all_cons,List.all_nil,c1d,
  evx,evy,ofValue,ofCell,List.range,List.range.loop,Array.size,Nat.reduceAdd,Nat.reduceSub,Nat.reduceEqDiff,List.replicate,if_true,if_false,↓reduceIte,reduceCtorEq,elB,evParts,Int.reduceToNat,Int.reduceLE,Int.reduceLT,Int.reduceEq,Nat.reduceMul,Nat.reduceLeDiff,Nat.reduceLT,ty3,ty4,ty9,ty22,ty23,ty24,ty25,ty27,ty28,ty63,ty59,ty61,ty127]
       rw [hbad (hpb (.inl c1))]
       exact le_flat rfl
     ·obtain rfl : i = g.prods.length := by omega
      rw [List.take_length] at hpo
      simp -implicitDefEqProofs only [lt_false hlt2,
  evx,evy,ofValue,ofCell,List.range,List.range.loop,Array.size,Nat.reduceAdd,Nat.reduceSub,Nat.reduceEqDiff,List.replicate,if_true,if_false,↓reduceIte,reduceCtorEq,elB,evParts,Int.reduceToNat,Int.reduceLE,Int.reduceLT,Int.reduceEq,Nat.reduceMul,Nat.reduceLeDiff,Nat.reduceLT,ty3,ty4,ty9,ty22,ty23,ty24,ty25,ty27,ty28,ty63,ty59,ty61,ty127]
      rw [sound_ok (by omega) (by omega) (by omega) hnm hlev hst hpo]
      exact le_flat rfl
    ·have s0t : (g.start ≠ 0) = True := by simpa using s0
     simp -implicitDefEqProofs only [Gra.cells,List.length_map,lt_false hlt,n0a,n0b,s0t,
  evx,evy,ofValue,ofCell,List.range,List.range.loop,Array.size,Nat.reduceAdd,Nat.reduceSub,Nat.reduceEqDiff,List.replicate,if_true,if_false,↓reduceIte,reduceCtorEq,elB,evParts,Int.reduceToNat,Int.reduceLE,Int.reduceLT,Int.reduceEq,Nat.reduceMul,Nat.reduceLeDiff,Nat.reduceLT,ty3,ty4,ty9,ty22,ty23,ty24,ty25,ty27,ty28,ty63,ty59,ty61,ty127]
     rw [sound_start (by rw [start_none n0]; exact decide_eq_false s0)]
     exact le_flat rfl
   ·have n0a : ((0 : Int) < (g.nonts.length : Int)) = True := lit_true (by omega)
    have n0b : ((g.nonts.length : Int) = 0) = False := by simpa using n0
    have h38s := ok110 g.start g.terms g.all
    simp -implicitDefEqProofs only [Gra.cells,List.length_map,lt_false hlt,n0a,n0b,
  evx,evy,ofValue,ofCell,List.range,List.range.loop,Array.size,Nat.reduceAdd,Nat.reduceSub,Nat.reduceEqDiff,List.replicate,if_true,if_false,↓reduceIte,reduceCtorEq,elB,evParts,Int.reduceToNat,Int.reduceLE,Int.reduceLT,Int.reduceEq,Nat.reduceMul,Nat.reduceLeDiff,Nat.reduceLT,ty3,ty4,ty9,ty22,ty23,ty24,ty25,ty27,ty28,ty63,ty59,ty61,ty127]
    refine callK_ret _ _ _ _ (call_deep h38s rfl rfl) (ok_nil _ _) ?_
    cases hst : g.startB with
    | true =>
     have hst2 := hst
     rw [start_some n0] at hst2
     rw [hst2]
     simp -implicitDefEqProofs only [Gra.cells,List.length_map,n0a,n0b,
  evx,evy,ofValue,ofCell,List.range,List.range.loop,Array.size,Nat.reduceAdd,Nat.reduceSub,Nat.reduceEqDiff,List.replicate,if_true,if_false,↓reduceIte,reduceCtorEq,elB,evParts,Int.reduceToNat,Int.reduceLE,Int.reduceLT,Int.reduceEq,Nat.reduceMul,Nat.reduceLeDiff,Nat.reduceLT,ty3,ty4,ty9,ty22,ty23,ty24,ty25,ty27,ty28,ty63,ty59,ty61,ty127]
     refine loop_rule (fun i : Nat => ⟨[.any,.any,.any,.ptr 1 0 0 0,.ptr 2 0 0 0,.any,.any,.func 110 [.ptr 1 0 0 0,.ptr 2 0 0 0],.any,.any,.any,.any,.any,.any,.any,.any,.any,.any,.any,.any,.any,.any,.any,.any,.any,.any,.any,.any,.any,.any,.any,.any,.any,.any,.any,.any,.any,.any,.any,.any,.any,.any,.any,.any,.any,.any,.any,.any,.any,.any,.any,.any,.any,.any,.any,.any,.any,.any,.any,.any,.any,.any,.any,.any,.any,.any,.any,.any,.any,.any,.any,.any,.any,.any,.any,.any,.any,.any,.any,.any,.any,.any,.any,.any,.any,.any,.any,.any,.any,.any,.any,.any,.any,.any,.any,.any,.any,.any,.any,.any,.any,.any,.fv (.lst 3 (g.prods.map Prd.row)),.fv (.int .i64 g.prods.length),.fv (.int .i64 i),.any,.any,.any,.any,.any,.any,.any,.any,.any,.any,.any,.any,.any,.any,.any,.any,.any,.any,.any,.any,.any,.any,.any,.any,.any,.any,.any,.any,.any,.any,.any,.any],[.box g.cells,.box [.fv (.int .i64 g.terms)],.box [.fv (.int .i64 g.all)]],[]⟩)
      (fun i => i ≤ g.prods.length ∧ (g.prods.take i).all (Prd.okB g) = true) (fun i => g.prods.length - i) 0 (le_wk (by simp [wk,Gra.cells])) (by simp) (fun i hi s hs => ?_)
     obtain ⟨hi,hpo⟩ := hi
     by_cases hlt2 : i < g.prods.length
     ·have hr := rows_at Prd.row g.prods i hlt2
      have hbad := @sound_prod g i hlt2
      have hgood := all_succ (Prd.okB g) hlt2 hpo
      have hrl := hg.prods _ (List.getElem_mem hlt2)
      generalize g.prods[i] = p at hr hbad hgood hrl
      have hpb := @prd_bad g p
      have hpg := @prd_good g p
      have h38 := ok110 p.left g.terms g.all
      simp -implicitDefEqProofs only [Gra.cells,List.length_map,stB_boxA,splice_all,List.all_cons,List.all_nil,lt_true hlt2,hr,Prd.row,
  evx,evy,ofValue,ofCell,List.range,List.range.loop,Array.size,Nat.reduceAdd,Nat.reduceSub,Nat.reduceEqDiff,List.replicate,if_true,if_false,↓reduceIte,reduceCtorEq,elB,evParts,Int.reduceToNat,Int.reduceLE,Int.reduceLT,Int.reduceEq,Nat.reduceMul,Nat.reduceLeDiff,Nat.reduceLT,ty3,ty4,ty9,ty22,ty23,ty24,ty25,ty27,ty28,ty63,ty59,ty61,ty127]
      refine callK_ret _ _ _ _ (call_deep h38 rfl rfl) (ok_nil _ _) ?_
      by_cases c1 : (g.terms : Int) < p.left ∧ p.left ≤ (g.all : Int)
      ·have c1d : (decide ((g.terms : Int) < p.left) && decide (p.left ≤ (g.all : Int))) = true := by simp only [decide_eq_true c1.1,decide_eq_true c1.2,Bool.and_self]
       by_cases c2 : (8 : Int) < (p.right.length : Int)
       ·simp -implicitDefEqProofs only [Gra.cells,List.length_map,stB_boxA,splice_all,List.all_cons,List.all_nil,c1d,lit_true c2,
  evx,evy,ofValue,ofCell,List.range,List.range.loop,Array.size,Nat.reduceAdd,Nat.reduceSub,Nat.reduceEqDiff,List.replicate,if_true,if_false,↓reduceIte,reduceCtorEq,elB,evParts,Int.reduceToNat,Int.reduceLE,Int.reduceLT,Int.reduceEq,Nat.reduceMul,Nat.reduceLeDiff,Nat.reduceLT,ty3,ty4,ty9,ty22,ty23,ty24,ty25,ty27,ty28,ty63,ty59,ty61,ty127]
        rw [hbad (hpb (.inr (.inl (by omega))))]
        exact le_flat rfl
       by_cases c3 : p.prec < 0
       ·have c3t : (p.prec < 0) = True := by simpa using c3
        simp -implicitDefEqProofs only [Gra.cells,List.length_map,stB_boxA,splice_all,List.all_cons,List.all_nil,c1d,lit_false c2,c3t,
  evx,evy,ofValue,ofCell,List.range,List.range.loop,Array.size,Nat.reduceAdd,Nat.reduceSub,Nat.reduceEqDiff,List.replicate,if_true,if_false,↓reduceIte,reduceCtorEq,elB,evParts,Int.reduceToNat,Int.reduceLE,Int.reduceLT,Int.reduceEq,Nat.reduceMul,Nat.reduceLeDiff,Nat.reduceLT,ty3,ty4,ty9,ty22,ty23,ty24,ty25,ty27,ty28,ty63,ty59,ty61,ty127]
        rw [hbad (hpb (.inr (.inr (.inl c3))))]
        exact le_flat rfl
       have c3t : (p.prec < 0) = False := by simpa using c3
       by_cases c4 : (g.terms : Int) < p.prec
       ·have c4t : ((g.terms : Int) < p.prec) = True := by simpa using c4
        simp -implicitDefEqProofs only [Gra.cells,List.length_map,stB_boxA,splice_all,List.all_cons,List.all_nil,c1d,lit_false c2,c3t,c4t,
  evx,evy,ofValue,ofCell,List.range,List.range.loop,Array.size,Nat.reduceAdd,Nat.reduceSub,Nat.reduceEqDiff,List.replicate,if_true,if_false,↓reduceIte,reduceCtorEq,elB,evParts,Int.reduceToNat,Int.reduceLE,Int.reduceLT,Int.reduceEq,Nat.reduceMul,Nat.reduceLeDiff,Nat.reduceLT,ty3,ty4,ty9,ty22,ty23,ty24,ty25,ty27,ty28,ty63,ty59,ty61,ty127]
        rw [hbad (hpb (.inr (.inr (.inr (.inl c4)))))]
        exact le_flat rfl
       have c4t : ((g.terms : Int) < p.prec) = False := by simpa using c4
       have h26 := ok37 (f := 111) (caps := [.fptr [.int .i64 g.all]]) (p := fun n => decide (n < 1) || decide ((g.all : Int) < n)) p.right (by omega) (fun _ => rfl) (fun _ => rfl) (fun n _ => ok111 n g.all)
       simp -implicitDefEqProofs only [Gra.cells,List.length_map,stB_boxA,splice_all,List.all_cons,List.all_nil,c1d,lit_false c2,c3t,c4t,
  evx,evy,ofValue,ofCell,List.range,List.range.loop,Array.size,Nat.reduceAdd,Nat.reduceSub,Nat.reduceEqDiff,List.replicate,if_true,if_false,↓reduceIte,reduceCtorEq,elB,evParts,Int.reduceToNat,Int.reduceLE,Int.reduceLT,Int.reduceEq,Nat.reduceMul,Nat.reduceLeDiff,Nat.reduceLT,ty3,ty4,ty9,ty22,ty23,ty24,ty25,ty27,ty28,ty63,ty59,ty61,ty127]
       refine callK_ret _ _ _ _ (call_deep h26 rfl rfl) (ok_nil _ _) ?_
       cases hany : (p.right.any fun n => decide (n < 1) || decide ((g.all : Int) < n)) with
       | true =>
        simp -implicitDefEqProofs only [evx,evy,ofValue,ofCell,List.range,List.range.loop,Array.size,Nat.reduceAdd,Nat.reduceSub,Nat.reduceEqDiff,List.replicate,if_true,if_false,↓reduceIte,reduceCtorEq,elB,evParts,Int.reduceToNat,Int.reduceLE,Int.reduceLT,Int.reduceEq,Nat.reduceMul,Nat.reduceLeDiff,Nat.reduceLT,ty3,ty4,ty9,ty22,ty23,ty24,ty25,ty27,ty28,ty63,ty59,ty61,ty127]
        rw [hbad (hpb (.inr (.inr (.inr (.inr hany)))))]
        exact le_flat rfl
       | false =>
        simp -implicitDefEqProofs only [wsucc i (by omega),
  evx,evy,ofValue,ofCell,List.range,List.range.loop,Array.size,Nat.reduceAdd,Nat.reduceSub,Nat.reduceEqDiff,List.replicate,if_true,if_false,↓reduceIte,reduceCtorEq,elB,evParts,Int.reduceToNat,Int.reduceLE,Int.reduceLT,Int.reduceEq,Nat.reduceMul,Nat.reduceLeDiff,Nat.reduceLT,ty3,ty4,ty9,ty22,ty23,ty24,ty25,ty27,ty28,ty63,ty59,ty61,ty127]
        refine back_intro hs (i + 1) (le_pk [0,1,2] rfl (by simp) (by simp) ?_ ?_) ⟨by omega,hgood (hpg c1.1 c1.2 (by omega) (by omega) (by omega) hany)⟩ (by omega)
        ·simp [subBlk,subAny,subA,Gra.cells]
        ·simp [wk,subAny,subA,subL,mkSub,idx]
      ·have c1d : (decide ((g.terms : Int) < p.left) && decide (p.left ≤ (g.all : Int))) = false := by
        rw [Bool.and_eq_false_iff,decide_eq_false_iff_not,decide_eq_false_iff_not]
        omega
       simp -implicitDefEqProofs only [Gra.cells,List.length_map,stB_boxA,splice_all,List.all_cons,List.all_nil,c1d,
  evx,evy,ofValue,ofCell,List.range,List.range.loop,Array.size,Nat.reduceAdd,Nat.reduceSub,Nat.reduceEqDiff,List.replicate,if_true,if_false,↓reduceIte,reduceCtorEq,elB,evParts,Int.reduceToNat,Int.reduceLE,Int.reduceLT,Int.reduceEq,Nat.reduceMul,Nat.reduceLeDiff,Nat.reduceLT,ty3,ty4,ty9,ty22,ty23,ty24,ty25,ty27,ty28,ty63,ty59,ty61,ty127]
       rw [hbad (hpb (.inl c1))]
       exact le_flat rfl
     ·obtain rfl : i = g.prods.length := by omega
      rw [List.take_length] at hpo
      simp -implicitDefEqProofs only [lt_false hlt2,
  evx,evy,ofValue,ofCell,List.range,List.range.loop,Array.size,Nat.reduceAdd,Nat.reduceSub,Nat.reduceEqDiff,List.replicate,if_true,if_false,↓reduceIte,reduceCtorEq,elB,evParts,Int.reduceToNat,Int.reduceLE,Int.reduceLT,Int.reduceEq,Nat.reduceMul,Nat.reduceLeDiff,Nat.reduceLT,ty3,ty4,ty9,ty22,ty23,ty24,ty25,ty27,ty28,ty63,ty59,ty61,ty127]
      rw [sound_ok (by omega) (by omega) (by omega) hnm hlev hst hpo]
      exact le_flat rfl
    | false =>
     have hst2 := hst
     rw [start_some n0] at hst2
     rw [hst2]
     simp -implicitDefEqProofs only [Gra.cells,List.length_map,n0a,n0b,
  evx,evy,ofValue,ofCell,List.range,List.range.loop,Array.size,Nat.reduceAdd,Nat.reduceSub,Nat.reduceEqDiff,List.replicate,if_true,if_false,↓reduceIte,reduceCtorEq,elB,evParts,Int.reduceToNat,Int.reduceLE,Int.reduceLT,Int.reduceEq,Nat.reduceMul,Nat.reduceLeDiff,Nat.reduceLT,ty3,ty4,ty9,ty22,ty23,ty24,ty25,ty27,ty28,ty63,ty59,ty61,ty127]
     rw [sound_start hst]
     exact le_flat rfl
 ·have hLt : ((g.levels.length : Int) ≠ ((g.terms + 1 : Nat) : Int)) = True := by simp; omega
  simp -implicitDefEqProofs only [Gra.cells,List.length_map,stB_boxA,splice_all,List.all_cons,List.all_nil,hw1,wsucc g.terms (by omega),hLt,
  evx,evy,ofValue,ofCell,List.range,List.range.loop,Array.size,Nat.reduceAdd,Nat.reduceSub,Nat.reduceEqDiff,List.replicate,if_true,if_false,↓reduceIte,reduceCtorEq,elB,evParts,Int.reduceToNat,Int.reduceLE,Int.reduceLT,Int.reduceEq,Nat.reduceMul,Nat.reduceLeDiff,Nat.reduceLT,ty3,ty4,ty9,ty22,ty23,ty24,ty25,ty27,ty28,ty63,ty59,ty61,ty127]
  rw [sound_levels (levels_len hL)]
  exact le_flat rfl
end Go.Abs
