/- Names of symbols: the program's and the document's. -/
import Derived.Test.YtnhghoonlmoinaaGreatTyTryzi
import Derived.Test.YtnhghoonlmoinaaGreatDrTryzi
import Derived.Test.YtnhghoonlmoinaaGreatAbsZ
import Derived.Test.YtnhghoonlmoinaaGreatTopA
namespace Go.Abs
set_option linter.unusedSectionVars false
variable [Kn]
open Go.Proofs
set_option linter.unusedVariables false
set_option linter.unusedSimpArgs false
set_option maxRecDepth 100000
set_option maxHeartbeats 1000000
theorem wrap_small {n : Int} (h1 : -9223372036854775808 ≤ n) (h2 : n ≤ 9223372036854775807) : IntKind.wrap .i64 n = n := by
 simp only [IntKind.wrap,IntKind.signed,IntKind.bits]
 simp
 omega
theorem wsucc (n : Nat) (h : n < 4611686018427387904) : IntKind.wrap .i64 ((n : Int) + 1) = ((n + 1 : Nat) : Int) := wrap_small (by omega) (by omega)
def isF : AV → Bool
 | .fv _ | .any | .undef => true
 | _ => false
/-- Slots are forgotten; no block is wanted any more. -/
theorem le_none {t t' : List AV} {h : List Blk} (hw : wk t t') (hf : t'.all isF = true) : Le 0 ⟨t,h,[]⟩ ⟨t',[],[]⟩ := by
 refine Le.trans (le_wk hw) (le_to [] [] rfl List.nodup_nil (fun i hi => by simp at hi) (fun i hi => by simp at hi) (fun i hi => by simp at hi) ?_)
 have : t'.map (subAny (mkSub [] [] h)) = t' := by
  rw [List.all_eq_true] at hf
  clear hw
  induction t' with
  | nil => rfl
  | cons x t' ih =>
   rw [List.map_cons,ih fun y hy => hf y (List.mem_cons_of_mem _ hy)]
   have hx := hf x (by simp)
   cases x <;> simp [isF] at hx <;> rfl
 simp only [subSt,this,List.map_nil]
theorem rows_at {α : Type} (f : α → List FV) (l : List α) (i : Nat) (h : i < l.length) : (l.map f)[i]? = some (f l[i]) := by
 rw [List.getElem?_map,List.getElem?_eq_getElem h]; rfl
theorem lt_true {i n : Nat} (h : i < n) : ((i : Int) < (n : Int)) = True := by simp; omega
theorem lt_false {i n : Nat} (h : ¬ i < n) : ((i : Int) < (n : Int)) = False := by simp; omega
theorem ok35 (g : Gra) (hs : g.rules.length ≤ 40) : Ok Tryz.prog 35 [g.av] [] (.ret (.fv (.int .i64 g.terms))) [] := by
 refine ok_start (k := 19) (n0 := 0) (rs := [.tmp 2]) mix Tryz.func35 rfl rfl rfl rfl rfl rfl rfl ?_
 simp -implicitDefEqProofs only [Gra.av,List.length_map,
  evx,evy,ofValue,ofCell,List.range,List.range.loop,Array.size,Nat.reduceAdd,Nat.reduceSub,Nat.reduceEqDiff,List.replicate,if_true,if_false,↓reduceIte,reduceCtorEq,elB,evParts,Int.reduceToNat,Int.reduceLE,Int.reduceLT,Int.reduceEq,Nat.reduceMul,Nat.reduceLeDiff,Nat.reduceLT,ty3,ty4,ty9,ty22,ty23,ty24,ty25,ty27,ty28,ty63,ty59,ty61,ty127]
 refine loop_rule (fun i : Nat => ⟨[.any,.any,.any,.fv (.int .i64 (cntT (g.rules.take i))),.any,.any,.any,.fv (.lst 3 (g.rules.map Rul.row)),.fv (.int .i64 g.rules.length),.fv (.int .i64 i),.any,.any,.any,.any,.any,.any,.any,.any,.any,.any],[],[]⟩)
  (fun i => i ≤ g.rules.length) (fun i => g.rules.length - i) 0 (le_none (by simp [wk,cntT]) rfl) (by simp) (fun i hi s hs2 => ?_)
 by_cases hlt : i < g.rules.length
 ·have hr := rows_at Rul.row g.rules i hlt
  have hle := cntT_take_le g.rules i
  have hy := cntT_yes hlt
  have hn := cntT_no hlt
  generalize g.rules[i] = r at hr hy hn
  cases hsk : r.skip with
  | false =>
   simp -implicitDefEqProofs only [stB_boxA,splice_all,List.all_cons,List.all_nil,lt_true hlt,hr,Rul.row,hsk,wsucc i (by omega),wsucc _ (Nat.lt_of_le_of_lt hle (by omega : i < 4611686018427387904)),
  evx,evy,ofValue,ofCell,List.range,List.range.loop,Array.size,Nat.reduceAdd,Nat.reduceSub,Nat.reduceEqDiff,List.replicate,if_true,if_false,↓reduceIte,reduceCtorEq,elB,evParts,Int.reduceToNat,Int.reduceLE,Int.reduceLT,Int.reduceEq,Nat.reduceMul,Nat.reduceLeDiff,Nat.reduceLT,ty3,ty4,ty9,ty22,ty23,ty24,ty25,ty27,ty28,ty63,ty59,ty61,ty127]
   refine back_intro hs2 (i + 1) (le_none ?_ rfl) (by omega) (by omega)
   simp [wk,hy hsk]
  | true =>
   simp -implicitDefEqProofs only [stB_boxA,splice_all,List.all_cons,List.all_nil,lt_true hlt,hr,Rul.row,hsk,wsucc i (by omega),
  evx,evy,ofValue,ofCell,List.range,List.range.loop,Array.size,Nat.reduceAdd,Nat.reduceSub,Nat.reduceEqDiff,List.replicate,if_true,if_false,↓reduceIte,reduceCtorEq,elB,evParts,Int.reduceToNat,Int.reduceLE,Int.reduceLT,Int.reduceEq,Nat.reduceMul,Nat.reduceLeDiff,Nat.reduceLT,ty3,ty4,ty9,ty22,ty23,ty24,ty25,ty27,ty28,ty63,ty59,ty61,ty127]
   refine back_intro hs2 (i + 1) (le_none ?_ rfl) (by omega) (by omega)
   simp [wk,hn hsk]
 ·have hie : i = g.rules.length := by omega
  subst hie
  simp -implicitDefEqProofs only [lt_false hlt,List.take_length,
  evx,evy,ofValue,ofCell,List.range,List.range.loop,Array.size,Nat.reduceAdd,Nat.reduceSub,Nat.reduceEqDiff,List.replicate,if_true,if_false,↓reduceIte,reduceCtorEq,elB,evParts,Int.reduceToNat,Int.reduceLE,Int.reduceLT,Int.reduceEq,Nat.reduceMul,Nat.reduceLeDiff,Nat.reduceLT,ty3,ty4,ty9,ty22,ty23,ty24,ty25,ty27,ty28,ty63,ty59,ty61,ty127]
  exact Le.refl _ _
def Gra.cells (g : Gra) : List AV := [.fv (.lst 3 (g.rules.map Rul.row)),.fv (.lst 1 (g.nonts.map sRow)),.fv (.lst 2 (g.levels.map Lev.row)),.fv (.lst 3 (g.prods.map Prd.row)),.fv (.int .i64 g.start)]
theorem ok20 (g : Gra) (hs : g.rules.length ≤ 40) : Ok Tryz.prog 20 [g.av] [] (.ret (.fv (.int .i64 g.terms))) [] := by
 refine ok_start (k := 21) (n0 := 0) (rs := [.tmp 2]) mix Tryz.func20 rfl rfl rfl rfl rfl rfl rfl ?_
 simp -implicitDefEqProofs only [Gra.av,
  evx,evy,ofValue,ofCell,List.range,List.range.loop,Array.size,Nat.reduceAdd,Nat.reduceSub,Nat.reduceEqDiff,List.replicate,if_true,if_false,↓reduceIte,reduceCtorEq,elB,evParts,Int.reduceToNat,Int.reduceLE,Int.reduceLT,Int.reduceEq,Nat.reduceMul,Nat.reduceLeDiff,Nat.reduceLT,ty3,ty4,ty9,ty22,ty23,ty24,ty25,ty27,ty28,ty63,ty59,ty61,ty127]
 refine loop_rule (fun i : Nat => ⟨[.any,.ptr 0 0 0 0,.any,.fv (.int .i64 (cntT (g.rules.take i))),.fv (.int .i64 i),.any,.any,.any,.any,.any,.any,.any,.any,.any,.any,.any,.any,.any,.any,.any,.any,.any],[.box g.cells],[]⟩)
  (fun i => i ≤ g.rules.length) (fun i => g.rules.length - i) 0 (le_wk (by simp [wk,cntT])) (by simp) (fun i hi s hs2 => ?_)
 by_cases hlt : i < g.rules.length
 ·have hr := rows_at Rul.row g.rules i hlt
  have hle := cntT_take_le g.rules i
  have hy := cntT_yes hlt
  have hn := cntT_no hlt
  generalize g.rules[i] = r at hr hy hn
  cases hsk : r.skip with
  | false =>
   simp -implicitDefEqProofs only [Gra.cells,List.length_map,lt_true hlt,hr,Rul.row,hsk,wsucc i (by omega),wsucc _ (Nat.lt_of_le_of_lt hle (by omega : i < 4611686018427387904)),
  evx,evy,ofValue,ofCell,List.range,List.range.loop,Array.size,Nat.reduceAdd,Nat.reduceSub,Nat.reduceEqDiff,List.replicate,if_true,if_false,↓reduceIte,reduceCtorEq,elB,evParts,Int.reduceToNat,Int.reduceLE,Int.reduceLT,Int.reduceEq,Nat.reduceMul,Nat.reduceLeDiff,Nat.reduceLT,ty3,ty4,ty9,ty22,ty23,ty24,ty25,ty27,ty28,ty63,ty59,ty61,ty127]
   refine back_intro hs2 (i + 1) (le_wk ?_) (by omega) (by omega)
   simp [wk,hy hsk]
  | true =>
   simp -implicitDefEqProofs only [Gra.cells,List.length_map,lt_true hlt,hr,Rul.row,hsk,wsucc i (by omega),
  evx,evy,ofValue,ofCell,List.range,List.range.loop,Array.size,Nat.reduceAdd,Nat.reduceSub,Nat.reduceEqDiff,List.replicate,if_true,if_false,↓reduceIte,reduceCtorEq,elB,evParts,Int.reduceToNat,Int.reduceLE,Int.reduceLT,Int.reduceEq,Nat.reduceMul,Nat.reduceLeDiff,Nat.reduceLT,ty3,ty4,ty9,ty22,ty23,ty24,ty25,ty27,ty28,ty63,ty59,ty61,ty127]
   refine back_intro hs2 (i + 1) (le_wk ?_) (by omega) (by omega)
   simp [wk,hn hsk]
 ·have hie : i = g.rules.length := by omega
  subst hie
  simp -implicitDefEqProofs only [Gra.cells,List.length_map,lt_false hlt,List.take_length,
  evx,evy,ofValue,ofCell,List.range,List.range.loop,Array.size,Nat.reduceAdd,Nat.reduceSub,Nat.reduceEqDiff,List.replicate,if_true,if_false,↓reduceIte,reduceCtorEq,elB,evParts,Int.reduceToNat,Int.reduceLE,Int.reduceLT,Int.reduceEq,Nat.reduceMul,Nat.reduceLeDiff,Nat.reduceLT,ty3,ty4,ty9,ty22,ty23,ty24,ty25,ty27,ty28,ty63,ty59,ty61,ty127]
  exact le_flat rfl
end Go.Abs
