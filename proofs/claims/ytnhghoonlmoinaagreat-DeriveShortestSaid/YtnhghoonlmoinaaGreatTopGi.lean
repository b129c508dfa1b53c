/- Names of symbols: the program's and the document's. -/
import Derived.Test.YtnhghoonlmoinaaGreatTyTryzi
import Derived.Test.YtnhghoonlmoinaaGreatDrTryzi
import Derived.Test.YtnhghoonlmoinaaGreatAbsZ
import Derived.Test.YtnhghoonlmoinaaGreatTopA
import Derived.Test.YtnhghoonlmoinaaGreatAbsU
namespace Go.Abs
set_option linter.unusedSectionVars false
variable [Kn]
open Go.Proofs
set_option linter.unusedVariables false
set_option linter.unusedSimpArgs false
set_option maxRecDepth 100000
set_option maxHeartbeats 1000000
theorem wrap_small {n : Int} (h1 : -9223372036854775808 ≤ n) (h2 : n ≤ 9223372036854775807) : IntKind.wrap .i64 n = n := by
 simp only [IntKind.wrap,IntKind.signed,IntKind.bits]
 simp
 omega
theorem wsucc (n : Nat) (h : n < 4611686018427387904) : IntKind.wrap .i64 ((n : Int) + 1) = ((n + 1 : Nat) : Int) := wrap_small (by omega) (by omega)
def isF : AV → Bool
 | .fv _ | .any | .undef => true
 | _ => false
/-- Slots are forgotten; no block is wanted any more. -/
theorem le_none {t t' : List AV} {h : List Blk} (hw : wk t t') (hf : t'.all isF = true) : Le 0 ⟨t,h,[]⟩ ⟨t',[],[]⟩ := by
 refine Le.trans (le_wk hw) (le_to [] [] rfl List.nodup_nil (fun i hi => by simp at hi) (fun i hi => by simp at hi) (fun i hi => by simp at hi) ?_)
 have : t'.map (subAny (mkSub [] [] h)) = t' := by
  rw [List.all_eq_true] at hf
  clear hw
  induction t' with
  | nil => rfl
  | cons x t' ih =>
   rw [List.map_cons,ih fun y hy => hf y (List.mem_cons_of_mem _ hy)]
   have hx := hf x (by simp)
   cases x <;> simp [isF] at hx <;> rfl
 simp only [subSt,this,List.map_nil]
theorem rows_at {α : Type} (f : α → List FV) (l : List α) (i : Nat) (h : i < l.length) : (l.map f)[i]? = some (f l[i]) := by
 rw [List.getElem?_map,List.getElem?_eq_getElem h]; rfl
theorem lt_true {i n : Nat} (h : i < n) : ((i : Int) < (n : Int)) = True := by simp; omega
theorem lt_false {i n : Nat} (h : ¬ i < n) : ((i : Int) < (n : Int)) = False := by simp; omega
theorem ok35 (g : Gra) (hs : g.rules.length ≤ 40) : Ok Tryz.prog 35 [g.av] [] (.ret (.fv (.int .i64 g.terms))) [] := by
 refine ok_start (k := 19) (n0 := 0) (rs := [.tmp 2]) mix Tryz.func35 rfl rfl rfl rfl rfl rfl rfl ?_
 simp -implicitDefEqProofs only [Gra.av,List.length_map,
  evx,evy,ofValue,ofCell,List.range,List.range.loop,Array.size,Nat.reduceAdd,Nat.reduceSub,Nat.reduceEqDiff,List.replicate,if_true,if_false,↓reduceIte,reduceCtorEq,elB,evParts,Int.reduceToNat,Int.reduceLE,Int.reduceLT,Int.reduceEq,Nat.reduceMul,Nat.reduceLeDiff,Nat.reduceLT,ty3,ty4,ty9,ty22,ty23,ty24,ty25,ty27,ty28,ty63,ty59,ty61,ty127]
 refine loop_rule (fun i : Nat => ⟨[.any,.any,.any,.fv (.int .i64 (cntT (g.rules.take i))),.any,.any,.any,.fv (.lst 3 (g.rules.map Rul.row)),.fv (.int .i64 g.rules.length),.fv (.int .i64 i),.any,.any,.any,.any,.any,.any,.any,.any,.any,.any],[],[]⟩)
  (fun i => i ≤ g.rules.length) (fun i => g.rules.length - i) 0 (le_none (by simp [wk,cntT]) rfl) (by simp) (fun i hi s hs2 => ?_)
 by_cases hlt : i < g.rules.length
 ·have hr := rows_at Rul.row g.rules i hlt
  have hle := cntT_take_le g.rules i
  have hy := cntT_yes hlt
  have hn := cntT_no hlt
  generalize g.rules[i] = r at hr hy hn
  cases hsk : r.skip with
  | false =>
   simp -implicitDefEqProofs only [stB_boxA,splice_all,List.all_cons,List.all_nil,lt_true hlt,hr,Rul.row,hsk,wsucc i (by omega),wsucc _ (Nat.lt_of_le_of_lt hle (by omega : i < 4611686018427387904)),
  evx,evy,ofValue,ofCell,List.range,List.range.loop,Array.size,Nat.reduceAdd,Nat.reduceSub,Nat.reduceEqDiff,List.replicate,if_true,if_false,↓reduceIte,reduceCtorEq,elB,evParts,Int.reduceToNat,Int.reduceLE,Int.reduceLT,Int.reduceEq,Nat.reduceMul,Nat.reduceLeDiff,Nat.reduceLT,ty3,ty4,ty9,ty22,ty23,ty24,ty25,ty27,ty28,ty63,ty59,ty61,ty127]
   refine back_intro hs2 (i + 1) (le_none ?_ rfl) (by omega) (by omega)
   simp [wk,hy hsk]
  | true =>
   simp -implicitDefEqProofs only [stB_boxA,splice_all,List.all_cons,List.all_nil,lt_true hlt,hr,Rul.row,hsk,wsucc i (by omega),
  evx,evy,ofValue,ofCell,List.range,List.range.loop,Array.size,Nat.reduceAdd,Nat.reduceSub,Nat.reduceEqDiff,List.replicate,if_true,if_false,↓reduceIte,reduceCtorEq,elB,evParts,Int.reduceToNat,Int.reduceLE,Int.reduceLT,Int.reduceEq,Nat.reduceMul,Nat.reduceLeDiff,Nat.reduceLT,ty3,ty4,ty9,ty22,ty23,ty24,ty25,ty27,ty28,ty63,ty59,ty61,ty127]
   refine back_intro hs2 (i + 1) (le_none ?_ rfl) (by omega) (by omega)
   simp [wk,hn hsk]
 ·have hie : i = g.rules.length := by omega
  subst hie
  simp -implicitDefEqProofs only [lt_false hlt,List.take_length,
  evx,evy,ofValue,ofCell,List.range,List.range.loop,Array.size,Nat.reduceAdd,Nat.reduceSub,Nat.reduceEqDiff,List.replicate,if_true,if_false,↓reduceIte,reduceCtorEq,elB,evParts,Int.reduceToNat,Int.reduceLE,Int.reduceLT,Int.reduceEq,Nat.reduceMul,Nat.reduceLeDiff,Nat.reduceLT,ty3,ty4,ty9,ty22,ty23,ty24,ty25,ty27,ty28,ty63,ty59,ty61,ty127]
  exact Le.refl _ _
def Gra.cells (g : Gra) : List AV := [.fv (.lst 3 (g.rules.map Rul.row)),.fv (.lst 1 (g.nonts.map sRow)),.fv (.lst 2 (g.levels.map Lev.row)),.fv (.lst 3 (g.prods.map Prd.row)),.fv (.int .i64 g.start)]
theorem ok20 (g : Gra) (hs : g.rules.length ≤ 40) : Ok Tryz.prog 20 [g.av] [] (.ret (.fv (.int .i64 g.terms))) [] := by
 refine ok_start (k := 21) (n0 := 0) (rs := [.tmp 2]) mix Tryz.func20 rfl rfl rfl rfl rfl rfl rfl ?_
 simp -implicitDefEqProofs only [Gra.av,
  evx,evy,ofValue,ofCell,List.range,List.range.loop,Array.size,Nat.reduceAdd,Nat.reduceSub,Nat.reduceEqDiff,List.replicate,if_true,if_false,↓reduceIte,reduceCtorEq,elB,evParts,Int.reduceToNat,Int.reduceLE,Int.reduceLT,Int.reduceEq,Nat.reduceMul,Nat.reduceLeDiff,Nat.reduceLT,ty3,ty4,ty9,ty22,ty23,ty24,ty25,ty27,ty28,ty63,ty59,ty61,ty127]
 refine loop_rule (fun i : Nat => ⟨[.any,.ptr 0 0 0 0,.any,.fv (.int .i64 (cntT (g.rules.take i))),.fv (.int .i64 i),.any,.any,.any,.any,.any,.any,.any,.any,.any,.any,.any,.any,.any,.any,.any,.any,.any],[.box g.cells],[]⟩)
  (fun i => i ≤ g.rules.length) (fun i => g.rules.length - i) 0 (le_wk (by simp [wk,cntT])) (by simp) (fun i hi s hs2 => ?_)
 by_cases hlt : i < g.rules.length
 ·have hr := rows_at Rul.row g.rules i hlt
  have hle := cntT_take_le g.rules i
  have hy := cntT_yes hlt
  have hn := cntT_no hlt
  generalize g.rules[i] = r at hr hy hn
  cases hsk : r.skip with
  | false =>
   simp -implicitDefEqProofs only [Gra.cells,List.length_map,lt_true hlt,hr,Rul.row,hsk,wsucc i (by omega),wsucc _ (Nat.lt_of_le_of_lt hle (by omega : i < 4611686018427387904)),
  evx,evy,ofValue,ofCell,List.range,List.range.loop,Array.size,Nat.reduceAdd,Nat.reduceSub,Nat.reduceEqDiff,List.replicate,if_true,if_false,↓reduceIte,reduceCtorEq,elB,evParts,Int.reduceToNat,Int.reduceLE,Int.reduceLT,Int.reduceEq,Nat.reduceMul,Nat.reduceLeDiff,Nat.reduceLT,ty3,ty4,ty9,ty22,ty23,ty24,ty25,ty27,ty28,ty63,ty59,ty61,ty127]
   refine back_intro hs2 (i + 1) (le_wk ?_) (by omega) (by omega)
   simp [wk,hy hsk]
  | true =>
   simp -implicitDefEqProofs only [Gra.cells,List.length_map,lt_true hlt,hr,Rul.row,hsk,wsucc i (by omega),
  evx,evy,ofValue,ofCell,List.range,List.range.loop,Array.size,Nat.reduceAdd,Nat.reduceSub,Nat.reduceEqDiff,List.replicate,if_true,if_false,↓reduceIte,reduceCtorEq,elB,evParts,Int.reduceToNat,Int.reduceLE,Int.reduceLT,Int.reduceEq,Nat.reduceMul,Nat.reduceLeDiff,Nat.reduceLT,ty3,ty4,ty9,ty22,ty23,ty24,ty25,ty27,ty28,ty63,ty59,ty61,ty127]
   refine back_intro hs2 (i + 1) (le_wk ?_) (by omega) (by omega)
   simp [wk,hn hsk]
 ·have hie : i = g.rules.length := by omega
  subst hie
  simp -implicitDefEqProofs only [Gra.cells,List.length_map,lt_false hlt,List.take_length,
  evx,evy,ofValue,ofCell,List.range,List.range.loop,Array.size,Nat.reduceAdd,Nat.reduceSub,Nat.reduceEqDiff,List.replicate,if_true,if_false,↓reduceIte,reduceCtorEq,elB,evParts,Int.reduceToNat,Int.reduceLE,Int.reduceLT,Int.reduceEq,Nat.reduceMul,Nat.reduceLeDiff,Nat.reduceLT,ty3,ty4,ty9,ty22,ty23,ty24,ty25,ty27,ty28,ty63,ty59,ty61,ty127]
  exact le_flat rfl
end Go.Abs
/- Lists of numbers: order, sets, what stands in them. -/
namespace Go.Abs
set_option linter.unusedSectionVars false
variable [Kn]
open Go.Proofs
set_option linter.unusedVariables false
set_option linter.unusedSimpArgs false
set_option maxRecDepth 100000
set_option maxHeartbeats 1000000
def ints (l : List Int) : List (List FV) := l.map fun n => [.int .i64 n]
theorem ints_length (l : List Int) : (ints l).length = l.length := by simp [ints]
theorem ints_get (l : List Int) (i : Nat) (h : i < l.length) : (ints l)[i]? = some [.int .i64 l[i]] := by simp [ints,h]
def cmpI (x y : Int) : Int := if x < y then -1 else if y < x then 1 else 0
def cmpL : List Int → List Int → Int
 | [],[] => 0
 | [],_ :: _ => -1
 | _ :: _,[] => 1
 | x :: a,y :: b => if cmpI x y = 0 then cmpL a b else cmpI x y
theorem cmpL_step (a b : List Int) (i : Nat) (ha : i < a.length) (hb : i < b.length) : cmpL (a.drop i) (b.drop i) = if cmpI a[i] b[i] = 0 then cmpL (a.drop (i + 1)) (b.drop (i + 1)) else cmpI a[i] b[i] := by
 rw [List.drop_eq_getElem_cons ha,List.drop_eq_getElem_cons hb,cmpL]
theorem ok58 (a b : List Int) (ha : a.length < 4611686018427387904) (hb : b.length < 4611686018427387904) :
  Ok Tryz.prog 58 [.fv (.lst 1 (ints a)),.fv (.lst 1 (ints b))] [] (.ret (.fv (.int .i64 (cmpL a b)))) [] := by
 refine ok_start (k := 44) (n0 := 0) (rs := [.tmp 4]) mix Tryz.func58 rfl rfl rfl rfl rfl rfl rfl ?_
 simp -implicitDefEqProofs only [len_lst 28 ty28 rfl,
  evv,ofValue,ofCell,List.range,List.range.loop,Array.size,Nat.reduceAdd,Nat.reduceSub,Nat.reduceEqDiff,List.replicate,if_true,if_false,↓reduceIte,reduceCtorEq]
 refine loop_rule (fun i : Nat => ⟨[.fv (.lst 1 (ints a)),.fv (.lst 1 (ints b)),.any,.any,.fv (.int .i64 0),.fv (.int .i64 i),.any,.any,.any,.any,.any,.any,.any,.any,.any,.any,.any,.any,.any,.any,.any,.any,.any,.any,.any,.any,.any,.any,.any,.any,.any,.any,.any,.any,.any,.any,.any,.any,.any,.any,.any,.any,.any,.any,.any,.any],[],[]⟩)
  (fun i => i ≤ a.length ∧ i ≤ b.length ∧ cmpL a b = cmpL (a.drop i) (b.drop i)) (fun i => a.length - i) 0 (le_wk (by simp [wk])) (by simp) (fun i hp s hs => ?_)
 obtain ⟨h1,h2,h3⟩ := hp
 have hla := ints_length a
 have hlb := ints_length b
 by_cases hia : i < a.length
 ·have hc : ((i : Int) < ((ints a).length : Int)) = True := by simp; omega
  have hra : (ints a)[(i : Int).toNat]? = some [.int .i64 a[i]] := ints_get a i hia
  by_cases hib : i < b.length
  ·have hc2 : ((i : Int) < ((ints b).length : Int)) = True := by simp; omega
   have hrb : (ints b)[(i : Int).toNat]? = some [.int .i64 b[i]] := ints_get b i hib
   have hw : IntKind.wrap .i64 ((i : Int) + 1) = ((i + 1 : Nat) : Int) := wrap_small (by omega) (by omega)
   simp -implicitDefEqProofs only [awp_draw _ _ Tryzdr58_4,awp_draw _ _ Tryzdr58_6,len_lst 28 ty28 rfl,hc,hc2,hw,idx_lst 28 ty28 rfl ty3 1 rfl (ints a) i _ hra (by omega),ld_fptr 3 ty3 rfl,idx_lst 28 ty28 rfl ty3 1 rfl (ints b) i _ hrb (by omega),
  evv,ofValue,ofCell,List.range,List.range.loop,Array.size,Nat.reduceAdd,Nat.reduceSub,Nat.reduceEqDiff,List.replicate,if_true,if_false,↓reduceIte,reduceCtorEq]
   have hs3 := cmpL_step a b i hia hib
   by_cases hz : a[i] < b[i]
   ·have hk : cmpI a[i] b[i] = -1 := by simp [cmpI,hz]
    rw [if_pos hz,h3,hs3,hk]
    exact Le.refl _ _
   ·rw [if_neg hz]
    by_cases hy : b[i] < a[i]
    ·have hk : cmpI a[i] b[i] = 1 := by simp [cmpI,hz,hy]
     rw [if_pos hy,h3,hs3,hk]
     exact Le.refl _ _
    ·have hk : cmpI a[i] b[i] = 0 := by simp [cmpI,hz,hy]
     rw [if_neg hy]
     exact back_intro hs (i + 1) (le_wk (by simp [wk])) ⟨by omega,by omega,by rw [h3,hs3,if_pos hk]⟩ (by omega)
  ·have hc2 : ((i : Int) < ((ints b).length : Int)) = False := by simp; omega
   have hc3 : (((ints a).length : Int) < ((ints b).length : Int)) = False := by simp; omega
   have hc4 : (((ints b).length : Int) < ((ints a).length : Int)) = True := by simp; omega
   simp -implicitDefEqProofs only [len_lst 28 ty28 rfl,hc,hc2,hc3,hc4,
  evv,ofValue,ofCell,List.range,List.range.loop,Array.size,Nat.reduceAdd,Nat.reduceSub,Nat.reduceEqDiff,List.replicate,if_true,if_false,↓reduceIte,reduceCtorEq]
   rw [h3,List.drop_eq_getElem_cons hia,List.drop_eq_nil_of_le (Nat.le_of_not_lt hib)]
   exact Le.refl _ _
 ·have hc : ((i : Int) < ((ints a).length : Int)) = False := by simp; omega
  have hc4 : (((ints b).length : Int) < ((ints a).length : Int)) = False := by simp; omega
  rw [List.drop_eq_nil_of_le (Nat.le_of_not_lt hia)] at h3
  by_cases hib : i < b.length
  ·have hc2 : (((ints a).length : Int) < ((ints b).length : Int)) = True := by simp; omega
   simp -implicitDefEqProofs only [len_lst 28 ty28 rfl,hc,hc2,
  evv,ofValue,ofCell,List.range,List.range.loop,Array.size,Nat.reduceAdd,Nat.reduceSub,Nat.reduceEqDiff,List.replicate,if_true,if_false,↓reduceIte,reduceCtorEq]
   rw [h3,List.drop_eq_getElem_cons hib]
   exact Le.refl _ _
  ·have hc2 : (((ints a).length : Int) < ((ints b).length : Int)) = False := by simp; omega
   simp -implicitDefEqProofs only [len_lst 28 ty28 rfl,hc,hc2,hc4,
  evv,ofValue,ofCell,List.range,List.range.loop,Array.size,Nat.reduceAdd,Nat.reduceSub,Nat.reduceEqDiff,List.replicate,if_true,if_false,↓reduceIte,reduceCtorEq]
   rw [h3,List.drop_eq_nil_of_le (Nat.le_of_not_lt hib)]
   exact Le.refl _ _
theorem ok33 (a b : List Int) (ha : a.length < 4611686018427387904) (hb : b.length < 4611686018427387904) :
  Ok Tryz.prog 33 [.fv (.lst 1 (ints a)),.fv (.lst 1 (ints b))] [] (.ret (.fv (.bool (decide (cmpL a b = 0))))) [] := by
 refine ok_start (k := 7) (n0 := 0) (rs := [.tmp 4]) mix Tryz.func33 rfl rfl rfl rfl rfl rfl rfl ?_
 simp -implicitDefEqProofs only [evv,ofValue,ofCell,List.range,List.range.loop,Array.size,Nat.reduceAdd,Nat.reduceSub,Nat.reduceEqDiff,List.replicate,if_true,if_false,↓reduceIte,reduceCtorEq]
 refine callK_ret _ _ _ _ (call_pure (ok58 a b ha hb) (fun _ => rfl) (fun _ => rfl)) (ok_nil _ _) ?_
 simp -implicitDefEqProofs only [evv,ofValue,ofCell,List.range,List.range.loop,Array.size,Nat.reduceAdd,Nat.reduceSub,Nat.reduceEqDiff,List.replicate,if_true,if_false,↓reduceIte,reduceCtorEq]
 exact Le.refl _ _
theorem ok19 (a : List Int) (x : Int) (ha : a.length < 4611686018427387904) :
  Ok Tryz.prog 19 [.fv (.lst 1 (ints a)),.fv (.int .i64 x)] [] (.ret (.fv (.bool (decide (x ∈ a))))) [] := by
 refine ok_start (k := 16) (n0 := 0) (rs := [.tmp 4]) mix Tryz.func19 rfl rfl rfl rfl rfl rfl rfl ?_
 simp -implicitDefEqProofs only [len_lst 28 ty28 rfl,
  evv,ofValue,ofCell,List.range,List.range.loop,Array.size,Nat.reduceAdd,Nat.reduceSub,Nat.reduceEqDiff,List.replicate,if_true,if_false,↓reduceIte,reduceCtorEq]
 refine loop_rule (fun i : Nat => ⟨[.fv (.lst 1 (ints a)),.fv (.int .i64 x),.any,.any,.fv (.bool false),.fv (.int .i64 i),.any,.any,.any,.any,.any,.any,.any,.any,.any,.any,.any,.any],[],[]⟩)
  (fun i => i ≤ a.length ∧ x ∉ a.take i) (fun i => a.length - i) 0 (le_wk (by simp [wk])) (by simp) (fun i hp s hs => ?_)
 obtain ⟨h1,h2⟩ := hp
 have hla := ints_length a
 by_cases hia : i < a.length
 ·have hc : ((i : Int) < ((ints a).length : Int)) = True := by simp; omega
  have hra : (ints a)[(i : Int).toNat]? = some [.int .i64 a[i]] := ints_get a i hia
  have hw : IntKind.wrap .i64 ((i : Int) + 1) = ((i + 1 : Nat) : Int) := wrap_small (by omega) (by omega)
  have ht := List.take_succ_eq_append_getElem hia
  by_cases he : a[i] = x
  ·have hb : (a[i] = x) = True := by simpa using he
   have hm : decide (x ∈ a) = true := by rw [decide_eq_true_eq,← he]; exact List.getElem_mem hia
   simp -implicitDefEqProofs only [len_lst 28 ty28 rfl,hc,idx_lst 28 ty28 rfl ty3 1 rfl (ints a) i _ hra (by omega),ld_fptr 3 ty3 rfl,hb,hm,
  evv,ofValue,ofCell,List.range,List.range.loop,Array.size,Nat.reduceAdd,Nat.reduceSub,Nat.reduceEqDiff,List.replicate,if_true,if_false,↓reduceIte,reduceCtorEq]
   exact Le.refl _ _
  ·have hb : (a[i] = x) = False := by simpa using he
   simp -implicitDefEqProofs only [len_lst 28 ty28 rfl,hc,idx_lst 28 ty28 rfl ty3 1 rfl (ints a) i _ hra (by omega),ld_fptr 3 ty3 rfl,hb,hw,
  evv,ofValue,ofCell,List.range,List.range.loop,Array.size,Nat.reduceAdd,Nat.reduceSub,Nat.reduceEqDiff,List.replicate,if_true,if_false,↓reduceIte,reduceCtorEq]
   refine back_intro hs (i + 1) (le_wk (by simp [wk])) ⟨by omega,?_⟩ (by omega)
   rw [ht,List.mem_append,List.mem_singleton]
   rintro (h | h)
   ·exact h2 h
   ·exact he h.symm
 ·have hc : ((i : Int) < ((ints a).length : Int)) = False := by simp; omega
  have hie : i = a.length := by omega
  subst hie
  rw [List.take_length] at h2
  have hm : decide (x ∈ a) = false := by simpa using h2
  simp -implicitDefEqProofs only [len_lst 28 ty28 rfl,hc,hm,
  evv,ofValue,ofCell,List.range,List.range.loop,Array.size,Nat.reduceAdd,Nat.reduceSub,Nat.reduceEqDiff,List.replicate,if_true,if_false,↓reduceIte,reduceCtorEq]
  exact Le.refl _ _
theorem ok82 (a : List Int) (x : Int) (ha : a.length < 4611686018427387904) :
  ∃ r : Int,(0 ≤ r ↔ x ∈ a) ∧ Ok Tryz.prog 82 [.fv (.lst 1 (ints a)),.fv (.int .i64 x)] [] (.ret (.fv (.int .i64 r))) [] := by
 have hla := ints_length a
 by_cases hx : x ∈ a
 ·obtain ⟨k,hk,hkx,hmin⟩ : ∃ k,∃ hk : k < a.length,a[k] = x ∧ ∀ j (hj : j < k),a[j] ≠ x := by
   have h1 : ∃ k,∃ hk : k < a.length,a[k] = x := by
    obtain ⟨k,hk,e⟩ := List.getElem_of_mem hx
    exact ⟨k,hk,e⟩
   have : ∀ n,(∃ k,k < n ∧ ∃ hk : k < a.length,a[k] = x) → ∃ k,∃ hk : k < a.length,a[k] = x ∧ ∀ j (hj : j < k),a[j] ≠ x := by
    intro n
    induction n with
    | zero => rintro ⟨k,h,_⟩; omega
    | succ n ih =>
     rintro ⟨k,hkn,hk,e⟩
     by_cases h : ∃ k,k < n ∧ ∃ hk : k < a.length,a[k] = x
     ·exact ih h
     ·refine ⟨k,hk,e,fun j hj ej => h ⟨j,by omega,by omega,ej⟩⟩
   obtain ⟨k,hk,e⟩ := h1
   exact this (k + 1) ⟨k,by omega,hk,e⟩
  refine ⟨k,by simp [hx],?_⟩
  refine ok_start (k := 17) (n0 := 0) (rs := [.tmp 4]) mix Tryz.func82 rfl rfl rfl rfl rfl rfl rfl ?_
  simp -implicitDefEqProofs only [len_lst 28 ty28 rfl,
  evv,ofValue,ofCell,List.range,List.range.loop,Array.size,Nat.reduceAdd,Nat.reduceSub,Nat.reduceEqDiff,List.replicate,if_true,if_false,↓reduceIte,reduceCtorEq]
  refine loop_rule (fun i : Nat => ⟨[.fv (.lst 1 (ints a)),.fv (.int .i64 x),.any,.any,.fv (.int .i64 0),.any,.fv (.lst 1 (ints a)),.fv (.int .i64 (ints a).length),.fv (.int .i64 i),.any,.any,.any,.any,.any,.any,.any,.any,.any,.any],[],[]⟩)
   (fun i => i ≤ k) (fun i => a.length - i) 0 (le_wk (by simp [wk])) (by simp) (fun i hp s hs => ?_)
  have hia : i < a.length := by omega
  have hc : ((i : Int) < ((ints a).length : Int)) = True := by simp; omega
  have hra : (ints a)[(i : Int).toNat]? = some [.int .i64 a[i]] := ints_get a i hia
  have hw : IntKind.wrap .i64 ((i : Int) + 1) = ((i + 1 : Nat) : Int) := wrap_small (by omega) (by omega)
  by_cases he : i = k
  ·subst he
   have hb : (x = a[i]) = True := by simp [hkx]
   simp -implicitDefEqProofs only [len_lst 28 ty28 rfl,hc,idx_lst 28 ty28 rfl ty3 1 rfl (ints a) i _ hra (by omega),ld_fptr 3 ty3 rfl,hb,
  evv,ofValue,ofCell,List.range,List.range.loop,Array.size,Nat.reduceAdd,Nat.reduceSub,Nat.reduceEqDiff,List.replicate,if_true,if_false,↓reduceIte,reduceCtorEq]
   exact Le.refl _ _
  ·have hb : (x = a[i]) = False := by simpa using fun e => hmin i (by omega) e.symm
   simp -implicitDefEqProofs only [len_lst 28 ty28 rfl,hc,idx_lst 28 ty28 rfl ty3 1 rfl (ints a) i _ hra (by omega),ld_fptr 3 ty3 rfl,hb,hw,
  evv,ofValue,ofCell,List.range,List.range.loop,Array.size,Nat.reduceAdd,Nat.reduceSub,Nat.reduceEqDiff,List.replicate,if_true,if_false,↓reduceIte,reduceCtorEq]
   exact back_intro hs (i + 1) (le_wk (by simp [wk])) (by omega) (by omega)
 ·refine ⟨-1,by simp [hx],?_⟩
  refine ok_start (k := 17) (n0 := 0) (rs := [.tmp 4]) mix Tryz.func82 rfl rfl rfl rfl rfl rfl rfl ?_
  simp -implicitDefEqProofs only [len_lst 28 ty28 rfl,
  evv,ofValue,ofCell,List.range,List.range.loop,Array.size,Nat.reduceAdd,Nat.reduceSub,Nat.reduceEqDiff,List.replicate,if_true,if_false,↓reduceIte,reduceCtorEq]
  refine loop_rule (fun i : Nat => ⟨[.fv (.lst 1 (ints a)),.fv (.int .i64 x),.any,.any,.fv (.int .i64 0),.any,.fv (.lst 1 (ints a)),.fv (.int .i64 (ints a).length),.fv (.int .i64 i),.any,.any,.any,.any,.any,.any,.any,.any,.any,.any],[],[]⟩)
   (fun i => i ≤ a.length) (fun i => a.length - i) 0 (le_wk (by simp [wk])) (by simp) (fun i hp s hs => ?_)
  by_cases hia : i < a.length
  ·have hc : ((i : Int) < ((ints a).length : Int)) = True := by simp; omega
   have hra : (ints a)[(i : Int).toNat]? = some [.int .i64 a[i]] := ints_get a i hia
   have hw : IntKind.wrap .i64 ((i : Int) + 1) = ((i + 1 : Nat) : Int) := wrap_small (by omega) (by omega)
   have hb : (x = a[i]) = False := by
    simp only [eq_iff_iff,iff_false]
    rintro rfl
    exact hx (List.getElem_mem hia)
   simp -implicitDefEqProofs only [len_lst 28 ty28 rfl,hc,idx_lst 28 ty28 rfl ty3 1 rfl (ints a) i _ hra (by omega),ld_fptr 3 ty3 rfl,hb,hw,
  evv,ofValue,ofCell,List.range,List.range.loop,Array.size,Nat.reduceAdd,Nat.reduceSub,Nat.reduceEqDiff,List.replicate,if_true,if_false,↓reduceIte,reduceCtorEq]
   exact back_intro hs (i + 1) (le_wk (by simp [wk])) (by omega) (by omega)
  ·have hc : ((i : Int) < ((ints a).length : Int)) = False := by simp; omega
   simp -implicitDefEqProofs only [len_lst 28 ty28 rfl,hc,
  evv,ofValue,ofCell,List.range,List.range.loop,Array.size,Nat.reduceAdd,Nat.reduceSub,Nat.reduceEqDiff,List.replicate,if_true,if_false,↓reduceIte,reduceCtorEq]
   exact Le.refl _ _
theorem ok55 (a : List Int) (x : Int) (ha : a.length < 4611686018427387904) :
  Ok Tryz.prog 55 [.fv (.lst 1 (ints a)),.fv (.int .i64 x)] [] (.ret (.fv (.bool (decide (x ∈ a))))) [] := by
 obtain ⟨r,hr,h36⟩ := ok82 a x ha
 have e : decide (x ∈ a) = decide (r ≥ 0) := by simp [← hr]
 refine ok_start (k := 7) (n0 := 0) (rs := [.tmp 4]) mix Tryz.func55 rfl rfl rfl rfl rfl rfl rfl ?_
 simp -implicitDefEqProofs only [evv,ofValue,ofCell,List.range,List.range.loop,Array.size,Nat.reduceAdd,Nat.reduceSub,Nat.reduceEqDiff,List.replicate,if_true,if_false,↓reduceIte,reduceCtorEq]
 refine callK_ret _ _ _ _ (call_pure (h36) (fun _ => rfl) (fun _ => rfl)) (ok_nil _ _) ?_
 simp -implicitDefEqProofs only [e,
  evv,ofValue,ofCell,List.range,List.range.loop,Array.size,Nat.reduceAdd,Nat.reduceSub,Nat.reduceEqDiff,List.replicate,if_true,if_false,↓reduceIte,reduceCtorEq]
 exact Le.refl _ _
theorem ints_append (a b : List Int) : ints (a ++ b) = ints a ++ ints b := by simp [ints]
theorem ints_one (x : Int) : ints [x] = [[.int .i64 x]] := rfl
/-- What the inner loop knows of the first i numbers. -/
def Known (l : List Int) (k i : Nat) (f : Bool) (y : Int) : Prop :=
 (f = false → ∀ x ∈ l.take i,¬ Above (setOf l) k x) ∧ (f = true → y ∈ l ∧ Above (setOf l) k y ∧ ∀ x ∈ l.take i,Above (setOf l) k x → y ≤ x)
theorem known_skip {l : List Int} {k i : Nat} {f : Bool} {y : Int} (h : Known l k i f y) (hi : i < l.length) (hn : Above (setOf l) k l[i] → f = true ∧ y ≤ l[i]) : Known l k (i + 1) f y := by
 have ht := List.take_succ_eq_append_getElem hi
 refine ⟨fun hf x hx ha => ?_,fun hf => ⟨(h.2 hf).1,(h.2 hf).2.1,fun x hx ha => ?_⟩⟩
 ·rw [ht,List.mem_append,List.mem_singleton] at hx
  rcases hx with hx | hx
  ·exact h.1 hf x hx ha
  ·subst hx
   have := (hn ha).1
   rw [hf] at this
   cases this
 ·rw [ht,List.mem_append,List.mem_singleton] at hx
  rcases hx with hx | hx
  ·exact (h.2 hf).2.2 x hx ha
  ·subst hx; exact (hn ha).2
theorem known_put {l : List Int} {k i : Nat} {f : Bool} {y : Int} (h : Known l k i f y) (hi : i < l.length) (ha : Above (setOf l) k l[i]) (hn : f = true → l[i] < y) : Known l k (i + 1) true l[i] := by
 have ht := List.take_succ_eq_append_getElem hi
 refine ⟨fun hf => (by cases hf),fun _ => ⟨List.getElem_mem hi,ha,fun x hx hax => ?_⟩⟩
 rw [ht,List.mem_append,List.mem_singleton] at hx
 rcases hx with hx | hx
 ·cases f with
  | false => exact absurd hax (h.1 rfl x hx)
  | true =>
   have := (h.2 rfl).2.2 x hx hax
   have := hn rfl
   omega
 ·omega
theorem known_end {l : List Int} {k : Nat} {f : Bool} {y : Int} (h : Known l k l.length f y) (hk : k ≤ (setOf l).length) : (f = false → k = (setOf l).length) ∧ (f = true → ∃ h : k < (setOf l).length,(setOf l)[k] = y) := by
 rw [Known,List.take_length] at h
 exact ⟨fun hf => above_end l k hk (h.1 hf),fun hf => above_least l k hk y (h.2 hf).1 (h.2 hf).2.1 (h.2 hf).2.2⟩
theorem ok47 (l : List Int) (hl : l.length < 1048576) : Ok Tryz.prog 47 [.fv (.lst 1 (ints l))] [] (.ret (.fv (.lst 1 (ints (setOf l))))) [] := by
 have hla := ints_length l
 have hsl := setOf_length_le l
 refine ok_start (k := 53) (n0 := 0) (rs := [.tmp 2]) mix Tryz.func47 rfl rfl rfl rfl rfl rfl rfl ?_
 simp -implicitDefEqProofs only [evv,ofValue,ofCell,List.range,List.range.loop,Array.size,Nat.reduceAdd,Nat.reduceSub,Nat.reduceEqDiff,List.replicate,if_true,if_false,↓reduceIte,reduceCtorEq]
 refine loop_rule (fun k : Nat => ⟨[.fv (.lst 1 (ints l)),.any,.any,.ref 0 1 0 k,.any,.any,.any,.any,.any,.any,.any,.any,.any,.any,.any,.any,.any,.any,.any,.any,.any,.any,.any,.any,.any,.any,.any,.any,.any,.any,.any,.any,.any,.any,.any,.any,.any,.any,.any,.any,.any,.any,.any,.any,.any,.any,.any,.any,.any,.any,.any,.any,.any,.any],[.plain 1 (ints ((setOf l).take k))],[]⟩)
  (fun k => k ≤ (setOf l).length) (fun k => (setOf l).length - k) 0 (Le.trans (le_virt 3 1 rfl) (le_wk (by simp [wk,ints]))) (by simp) (fun k hk s hs => ?_)
 have hlt : (ints ((setOf l).take k)).length = k := by rw [ints_length,List.length_take]; omega
 simp -implicitDefEqProofs only [evv,ofValue,ofCell,List.range,List.range.loop,Array.size,Nat.reduceAdd,Nat.reduceSub,Nat.reduceEqDiff,List.replicate,if_true,if_false,↓reduceIte,reduceCtorEq]
 refine loop_rule (fun p : Nat × Bool × Int => ⟨[.fv (.lst 1 (ints l)),.any,.any,.ref 0 1 0 k,.fv (.bool p.2.1),.fv (.int .i64 p.2.2),.fv (.int .i64 p.1),.any,.any,.any,.any,.any,.any,.any,.any,.any,.any,.any,.any,.any,.any,.any,.any,.any,.any,.any,.any,.any,.any,.any,.any,.any,.any,.any,.any,.any,.any,.any,.any,.any,.any,.any,.any,.any,.any,.any,.any,.any,.any,.any,.any,.any,.any,.any],[.plain 1 (ints ((setOf l).take k))],[]⟩)
  (fun p => p.1 ≤ l.length ∧ Known l k p.1 p.2.1 p.2.2) (fun p => l.length - p.1) (0,false,0) (le_wk (by simp [wk])) (by simp [Known]) (fun p hp s2 hs2 => ?_)
 obtain ⟨i,f,y⟩ := p
 obtain ⟨h1,h2⟩ := hp
 simp only at h1 h2 hs2 ⊢
 by_cases hia : i < l.length
 ·have hc : ((i : Int) < ((ints l).length : Int)) = True := by simp; omega
  have hra : (ints l)[(i : Int).toNat]? = some [.int .i64 l[i]] := ints_get l i hia
  have hw : IntKind.wrap .i64 ((i : Int) + 1) = ((i + 1 : Nat) : Int) := wrap_small (by omega) (by omega)
  by_cases hk0 : k = 0
  ·have hkz : ((k : Int) = 0) = True := by simp [hk0]
   have ha : Above (setOf l) k l[i] := .inl hk0
   cases f with
   | false =>
    simp -implicitDefEqProofs only [awp_draw _ _ Tryzdr47_7,len_lst 28 ty28 rfl,len_ref 28 ty28 rfl,hc,hkz,idx_lst 28 ty28 rfl ty3 1 rfl (ints l) i _ hra (by omega),ld_fptr 3 ty3 rfl,hw,
  evv,ofValue,ofCell,List.range,List.range.loop,Array.size,Nat.reduceAdd,Nat.reduceSub,Nat.reduceEqDiff,List.replicate,if_true,if_false,↓reduceIte,reduceCtorEq]
    exact back_intro hs2 (i + 1,true,l[i]) (le_wk (by simp [wk])) ⟨by omega,known_put h2 hia ha (fun h => by cases h)⟩ (by simp only; omega)
   | true =>
    by_cases hy : l[i] < y
    ·have hy' : (l[i] < y) = True := by simpa using hy
     simp -implicitDefEqProofs only [awp_draw _ _ Tryzdr47_7,len_lst 28 ty28 rfl,len_ref 28 ty28 rfl,hc,hkz,idx_lst 28 ty28 rfl ty3 1 rfl (ints l) i _ hra (by omega),ld_fptr 3 ty3 rfl,hw,hy',
  evv,ofValue,ofCell,List.range,List.range.loop,Array.size,Nat.reduceAdd,Nat.reduceSub,Nat.reduceEqDiff,List.replicate,if_true,if_false,↓reduceIte,reduceCtorEq]
     exact back_intro hs2 (i + 1,true,l[i]) (le_wk (by simp [wk])) ⟨by omega,known_put h2 hia ha (fun _ => hy)⟩ (by simp only; omega)
    ·have hy' : (l[i] < y) = False := by simpa using hy
     simp -implicitDefEqProofs only [awp_draw _ _ Tryzdr47_7,len_lst 28 ty28 rfl,len_ref 28 ty28 rfl,hc,hkz,idx_lst 28 ty28 rfl ty3 1 rfl (ints l) i _ hra (by omega),ld_fptr 3 ty3 rfl,hw,hy',
  evv,ofValue,ofCell,List.range,List.range.loop,Array.size,Nat.reduceAdd,Nat.reduceSub,Nat.reduceEqDiff,List.replicate,if_true,if_false,↓reduceIte,reduceCtorEq]
     exact back_intro hs2 (i + 1,true,y) (le_wk (by simp [wk])) ⟨by omega,known_skip h2 hia (fun _ => ⟨rfl,Int.not_lt.1 hy⟩)⟩ (by simp only; omega)
  ·have hkz : ((k : Int) = 0) = False := by simp [hk0]
   have hk1 : k - 1 < (setOf l).length := by omega
   have hw2 : IntKind.wrap .i64 ((k : Int) - 1) = ((k - 1 : Nat) : Int) := by rw [wrap_small (by omega) (by omega)]; omega
   have hrb : (ints ((setOf l).take k))[k - 1]? = some [.int .i64 (setOf l)[k - 1]] := by
    rw [ints_get _ _ (by rw [List.length_take]; omega)]; simp
   have hld := ld_ptr 3 ty3 rfl [.plain 1 (ints ((setOf l).take k))] 0 1 (k - 1) 0 _ _ _ rfl hrb rfl
   have ha : Above (setOf l) k l[i] ↔ (setOf l)[k - 1] < l[i] := by
    constructor
    ·rintro (h | ⟨_,h⟩)
     ·exact absurd h hk0
     ·exact h
    ·exact fun h => .inr ⟨hk1,h⟩
   by_cases hab : (setOf l)[k - 1] < l[i]
   ·have hab' : ((setOf l)[k - 1] < l[i]) = True := by simpa using hab
    cases f with
    | false =>
     simp -implicitDefEqProofs only [awp_draw _ _ Tryzdr47_7,len_lst 28 ty28 rfl,len_ref 28 ty28 rfl,hc,hkz,idx_lst 28 ty28 rfl ty3 1 rfl (ints l) i _ hra (by omega),ld_fptr 3 ty3 rfl,hw,hw2,idx_ref 28 ty28 rfl ty3 0 1 0 k rfl ((k - 1 : Nat) : Int) (by omega) (by omega),hld,Int.toNat_natCast,Nat.zero_add,hab',
  evv,ofValue,ofCell,List.range,List.range.loop,Array.size,Nat.reduceAdd,Nat.reduceSub,Nat.reduceEqDiff,List.replicate,if_true,if_false,↓reduceIte,reduceCtorEq]
     exact back_intro hs2 (i + 1,true,l[i]) (le_wk (by simp [wk])) ⟨by omega,known_put h2 hia (ha.2 hab) (fun h => by cases h)⟩ (by simp only; omega)
    | true =>
     by_cases hy : l[i] < y
     ·have hy' : (l[i] < y) = True := by simpa using hy
      simp -implicitDefEqProofs only [awp_draw _ _ Tryzdr47_7,len_lst 28 ty28 rfl,len_ref 28 ty28 rfl,hc,hkz,idx_lst 28 ty28 rfl ty3 1 rfl (ints l) i _ hra (by omega),ld_fptr 3 ty3 rfl,hw,hy',hw2,idx_ref 28 ty28 rfl ty3 0 1 0 k rfl ((k - 1 : Nat) : Int) (by omega) (by omega),hld,Int.toNat_natCast,Nat.zero_add,hab',
  evv,ofValue,ofCell,List.range,List.range.loop,Array.size,Nat.reduceAdd,Nat.reduceSub,Nat.reduceEqDiff,List.replicate,if_true,if_false,↓reduceIte,reduceCtorEq]
      exact back_intro hs2 (i + 1,true,l[i]) (le_wk (by simp [wk])) ⟨by omega,known_put h2 hia (ha.2 hab) (fun _ => hy)⟩ (by simp only; omega)
     ·have hy' : (l[i] < y) = False := by simpa using hy
      simp -implicitDefEqProofs only [awp_draw _ _ Tryzdr47_7,len_lst 28 ty28 rfl,len_ref 28 ty28 rfl,hc,hkz,idx_lst 28 ty28 rfl ty3 1 rfl (ints l) i _ hra (by omega),ld_fptr 3 ty3 rfl,hw,hy',hw2,idx_ref 28 ty28 rfl ty3 0 1 0 k rfl ((k - 1 : Nat) : Int) (by omega) (by omega),hld,Int.toNat_natCast,Nat.zero_add,hab',
  evv,ofValue,ofCell,List.range,List.range.loop,Array.size,Nat.reduceAdd,Nat.reduceSub,Nat.reduceEqDiff,List.replicate,if_true,if_false,↓reduceIte,reduceCtorEq]
      exact back_intro hs2 (i + 1,true,y) (le_wk (by simp [wk])) ⟨by omega,known_skip h2 hia (fun _ => ⟨rfl,Int.not_lt.1 hy⟩)⟩ (by simp only; omega)
   ·have hab' : ((setOf l)[k - 1] < l[i]) = False := by simpa using hab
    simp -implicitDefEqProofs only [awp_draw _ _ Tryzdr47_7,len_lst 28 ty28 rfl,len_ref 28 ty28 rfl,hc,hkz,idx_lst 28 ty28 rfl ty3 1 rfl (ints l) i _ hra (by omega),ld_fptr 3 ty3 rfl,hw,hw2,idx_ref 28 ty28 rfl ty3 0 1 0 k rfl ((k - 1 : Nat) : Int) (by omega) (by omega),hld,Int.toNat_natCast,Nat.zero_add,hab',
  evv,ofValue,ofCell,List.range,List.range.loop,Array.size,Nat.reduceAdd,Nat.reduceSub,Nat.reduceEqDiff,List.replicate,if_true,if_false,↓reduceIte,reduceCtorEq]
    exact back_intro hs2 (i + 1,f,y) (le_wk (by simp [wk])) ⟨by omega,known_skip h2 hia (fun h => absurd (ha.1 h) hab)⟩ (by simp only; omega)
 ·have hc : ((i : Int) < ((ints l).length : Int)) = False := by simp; omega
  have hie : i = l.length := by omega
  subst hie
  obtain ⟨he1,he2⟩ := known_end h2 hk
  cases f with
  | false =>
   have hke := he1 rfl
   simp -implicitDefEqProofs only [len_lst 28 ty28 rfl,hc,
  evv,ofValue,ofCell,List.range,List.range.loop,Array.size,Nat.reduceAdd,Nat.reduceSub,Nat.reduceEqDiff,List.replicate,if_true,if_false,↓reduceIte,reduceCtorEq]
   refine le_lst (rows := ints ((setOf l).take k)) rfl (by omega) ?_
   rw [List.drop_zero,List.take_of_length_le (by omega),List.take_of_length_le (by omega)]
  | true =>
   obtain ⟨hlk,e⟩ := he2 rfl
   simp -implicitDefEqProofs only [awp_draw _ _ Tryzdr47_7,hc,
  evx,evy,ofValue,ofCell,List.range,List.range.loop,Array.size,Nat.reduceAdd,Nat.reduceSub,Nat.reduceEqDiff,List.replicate,if_true,if_false,↓reduceIte,reduceCtorEq,elB,evParts,Int.reduceToNat,Int.reduceLE,Int.reduceLT,Int.reduceEq,Nat.reduceMul,Nat.reduceLeDiff,Nat.reduceLT,ty3,ty28,ty4]
   refine ⟨⟨by omega,by omega⟩,?_⟩
   refine back_intro hs (k + 1) (le_sub_wk [2] [] rfl (by simp) (by simp) (by simp) (by simp) ?_ ?_ rfl) (by omega) (by omega)
   ·simp [subSt,subAny,subA,mkSub,idx,wk]
   ·have e2 : (ints ((setOf l).take k)).take k ++ [[.int .i64 y]] = ints ((setOf l).take (k + 1)) := by
     rw [List.take_of_length_le (by omega),← ints_one,← ints_append,List.take_succ_eq_append_getElem hlk,e]
    simp [subSt,mkSub,subBlk,e2]
end Go.Abs
