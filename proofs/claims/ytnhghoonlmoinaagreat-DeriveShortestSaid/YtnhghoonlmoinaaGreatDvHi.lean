/- The program's Member. -/
import Derived.Test.YtnhghoonlmoinaaGreatTyTryzi
import Derived.Test.YtnhghoonlmoinaaGreatDrTryzi
import Derived.Test.YtnhghoonlmoinaaGreatDvEi
import Derived.Test.YtnhghoonlmoinaaGreatDvBi
import Derived.Test.YtnhghoonlmoinaaGreatAbsCut
namespace Go.Abs
open Go.Proofs
set_option linter.unusedVariables false
set_option linter.unusedSimpArgs false
set_option maxRecDepth 100000
set_option maxHeartbeats 8000000
def badW (T : Nat) (n : Int) : Bool := decide (n < 1) || decide ((T : Int) < n)
theorem ok38 (T : Nat) (n : Int) : Ok Tryz.prog 38 [.fv (.int .i64 n),.fptr [.int .i64 T]] [] (.ret (.fv (.bool (badW T n)))) [] := by
 refine ok_start (k := 9) (n0 := 0) (rs := [.tmp 3]) mix Tryz.func38 rfl rfl rfl rfl rfl rfl rfl ?_
 by_cases h1 : n < 1
 ·have h1t : (n < 1) = True := eq_true h1
  have e : badW T n = true := by unfold badW; rw [decide_eq_true h1]; rfl
  rw [e]
  simp -implicitDefEqProofs only [h1t,
  evx,evy,ofValue,ofCell,List.range,List.range.loop,Array.size,Nat.reduceAdd,Nat.reduceSub,Nat.reduceEqDiff,List.replicate,if_true,if_false,↓reduceIte,reduceCtorEq,elB,evParts,Int.reduceToNat,Int.reduceLE,Int.reduceLT,Int.reduceEq,Nat.reduceMul,Nat.reduceLeDiff,Nat.reduceLT,ty3,ty4,ty9,ty28,ty22,ty23,ty24,ty25,ty27,ty63,ty69,ty67,ty70]
  exact le_flat rfl
 ·have h1t : (n < 1) = False := eq_false h1
  by_cases h2 : (T : Int) < n
  ·have h2t : ((T : Int) < n) = True := eq_true h2
   have e : badW T n = true := by unfold badW; rw [decide_eq_true h2]; simp
   rw [e]
   simp -implicitDefEqProofs only [h1t,h2t,
  evx,evy,ofValue,ofCell,List.range,List.range.loop,Array.size,Nat.reduceAdd,Nat.reduceSub,Nat.reduceEqDiff,List.replicate,if_true,if_false,↓reduceIte,reduceCtorEq,elB,evParts,Int.reduceToNat,Int.reduceLE,Int.reduceLT,Int.reduceEq,Nat.reduceMul,Nat.reduceLeDiff,Nat.reduceLT,ty3,ty4,ty9,ty28,ty22,ty23,ty24,ty25,ty27,ty63,ty69,ty67,ty70]
   exact le_flat rfl
  ·have h2t : ((T : Int) < n) = False := eq_false h2
   have e : badW T n = false := by unfold badW; rw [decide_eq_false h1,decide_eq_false h2]; rfl
   rw [e]
   simp -implicitDefEqProofs only [h1t,h2t,
  evx,evy,ofValue,ofCell,List.range,List.range.loop,Array.size,Nat.reduceAdd,Nat.reduceSub,Nat.reduceEqDiff,List.replicate,if_true,if_false,↓reduceIte,reduceCtorEq,elB,evParts,Int.reduceToNat,Int.reduceLE,Int.reduceLT,Int.reduceEq,Nat.reduceMul,Nat.reduceLeDiff,Nat.reduceLT,ty3,ty4,ty9,ty28,ty22,ty23,ty24,ty25,ty27,ty63,ty69,ty67,ty70]
   exact le_flat rfl
open Classical in
/-- Is a word derived? And the error. -/
noncomputable def memA (g : Gra) (w : List Int) : Bool × Int := if g.usB = false ∨ w.any (badW g.terms) = true then (false,10) else if 40 < w.length then (false,3) else (decide (Der g w [g.start] 0 w.length),0)
end Go.Abs
/- The program's Member: the walk. -/
namespace Go.Abs
open Go.Proofs
set_option linter.unusedVariables false
set_option linter.unusedSimpArgs false
set_option maxRecDepth 100000
set_option maxHeartbeats 8000000
def chart0 (g : Gra) (w : List Int) (m : Nat) : List AV := [.fv (.lst 3 (g.rules.map Rul.row)),.fv (.lst 1 (g.nonts.map sRow)),.fv (.lst 2 (g.levels.map Lev.row)),.fv (.lst 3 (g.prods.map Prd.row)),.fv (.int .i64 g.start),.fv (.int .i64 g.terms),.fv (.lst 1 (ints w)),.ref 2 1 0 m]
def outM (m n1 i : Nat) : List AV := (List.range m).map fun k => if k < i then .ref (4 + k) 41 0 n1 else .fv .nils
def nil41 (n1 i : Nat) : List Blk := (List.range i).map fun _ => .plain 41 (rowsE n1 fun _ _ => false)
def hM (g : Gra) (w : List Int) (m i : Nat) : List Blk := .box g.cells :: .box [.fv (.int .i64 (g.terms : Int))] :: .box (outM m (w.length + 1) i) :: .box (chart0 g w m) :: nil41 (w.length + 1) i
theorem hM_len (g : Gra) (w : List Int) (m i : Nat) : (hM g w m i).length = 4 + i := by simp [hM,nil41]; omega
theorem zrow_len : zrow.length = 41 := blF_len _
theorem zrows (n1 : Nat) : List.replicate n1 zrow = rowsE n1 fun _ _ => false := by
 apply List.ext_getElem?
 intro j
 rw [List.getElem?_replicate]
 unfold rowsE
 rw [List.getElem?_map]
 by_cases h : j < n1
 ·rw [if_pos h,List.getElem?_range h]
  rfl
 ·rw [if_neg h,List.getElem?_eq_none (by simp; omega)]
  rfl
theorem outM_len (m n1 i : Nat) : (outM m n1 i).length = m := by simp [outM]
theorem outM_set (m n1 i : Nat) (h : i < m) : splice (outM m n1 i) i [.ref (4 + i) 41 0 n1] = some (outM m n1 (i + 1)) := by
 unfold splice
 rw [if_pos (by rw [outM_len]; simp; omega)]
 congr 1
 apply List.ext_getElem?
 intro j
 have hg : ∀ a,(outM m n1 a)[j]? = if j < m then some (if j < a then .ref (4 + j) 41 0 n1 else .fv .nils) else none := fun a => by
  unfold outM
  rw [List.getElem?_map]
  by_cases c : j < m
  ·rw [List.getElem?_range c,if_pos c]; rfl
  ·rw [List.getElem?_eq_none (by simp; omega),if_neg c]; rfl
 rw [hg]
 rcases Nat.lt_trichotomy j i with c | c | c
 ·rw [List.append_assoc,List.getElem?_append_left (by rw [List.length_take,outM_len]; omega),List.getElem?_take,if_pos c,hg]
  simp [show j < m by omega,c,show j < i + 1 by omega]
 ·subst c
  rw [List.append_assoc,List.getElem?_append_right (by rw [List.length_take,outM_len]; omega),List.length_take,outM_len,Nat.min_eq_left (by omega),Nat.sub_self]
  simp [h]
 ·rw [List.getElem?_append_right (by rw [List.length_append,List.length_take,outM_len]; simp; omega),List.length_append,List.length_take,outM_len,Nat.min_eq_left (by omega),List.getElem?_drop]
  simp only [List.length_cons,List.length_nil]
  rw [show i + (0 + 1) + (j - (i + (0 + 1))) = j from by omega,hg]
  simp [show ¬ j < i by omega,show ¬ j < i + 1 by omega]
theorem hM_next (g : Gra) (w : List Int) (m i : Nat) : (hM g w m i ++ [Blk.plain 41 (rowsE (w.length + 1) fun _ _ => false)]).set 2 (.box (outM m (w.length + 1) (i + 1))) = hM g w m (i + 1) := by
 simp [hM,nil41,List.range_succ]
theorem thaw_nils (m n1 : Nat) : thaw (List.replicate m [FV.nils]) = outM m n1 0 := by
 unfold thaw outM
 induction m with
 | zero => rfl
 | succ m ih => rw [List.replicate_succ',List.flatten_append,List.map_append,ih,List.range_succ,List.map_append]; simp
theorem idx_app (i : Nat) (a b : List Nat) : idx i (a ++ b) = match idx i a with
  | some j => some j
  | none => (idx i b).map (· + a.length) := by
 induction a with
 | nil => rw [List.nil_append]; cases h : idx i b <;> simp [idx,h]
 | cons k a ih =>
  rw [List.cons_append,idx,idx]
  by_cases c : k = i
  ·rw [if_pos c,if_pos c]
  ·rw [if_neg c,if_neg c,ih]
   cases h : idx i a with
   | some j => rfl
   | none =>
    cases h2 : idx i b with
    | none => rfl
    | some j => simp; omega
def keepM (m : Nat) : List Nat := 3 :: 2 :: (List.range' 4 m ++ [0,1])
theorem keepM_0 (m : Nat) : idx 0 (keepM m) = some (m + 2) := by
 unfold keepM
 rw [idx,if_neg (by omega),idx,if_neg (by omega),idx_app,idx_from,if_neg (by omega)]
 simp [idx]
theorem keepM_2 (m : Nat) : idx 2 (keepM m) = some 1 := by
 unfold keepM
 rw [idx,if_neg (by omega),idx,if_pos rfl]
 rfl
theorem keepM_3 (m : Nat) : idx 3 (keepM m) = some 0 := by
 unfold keepM
 rw [idx,if_pos rfl]
theorem keepM_n (m n : Nat) (h : n < m) : idx (4 + n) (keepM m) = some (n + 2) := by
 unfold keepM
 rw [idx,if_neg (by omega),idx,if_neg (by omega),idx_app,idx_from,if_pos (by omega)]
 simp
theorem keepM_sub (g : Gra) (w : List Int) (m : Nat) : (keepM m).map (fun i => subBlk (mkSub (keepM m) [] (hM g w m m)) ((hM g w m m).getD i .dead)) = hE g w m (fun _ _ _ => false) ++ [.box g.cells,.box [.fv (.int .i64 (g.terms : Int))]] := by
 have e3 : ∀ H,subBlk (mkSub (keepM m) [] H) (.box (chart0 g w m)) = .box (chartA g w m) := fun H => by
  simp only [subBlk,chart0,chartA,List.map_cons,List.map_nil,subAny,subA,mkSub,keepM_2,Option.getD_some]
 have e2 : ∀ H,subBlk (mkSub (keepM m) [] H) (.box (outM m (w.length + 1) m)) = .box (refsA m (w.length + 1)) := fun H => by
  simp only [subBlk,outM,refsA,List.map_map]
  congr 1
  refine List.map_congr_left fun n hn => ?_
  have hn := List.mem_range.1 hn
  simp only [Function.comp,if_pos hn,subAny,subA,mkSub,keepM_n m n hn,Option.getD_some]
 have e0 : ∀ H,subBlk (mkSub (keepM m) [] H) (.box g.cells) = .box g.cells := fun H => by
  simp only [subBlk,Gra.cells,List.map_cons,List.map_nil,subAny,subA,Option.getD_some]
 have en : ∀ n,n < m → (hM g w m m)[4 + n]? = some (.plain 41 (rowsE (w.length + 1) fun _ _ => false)) := fun n hn => by
  rw [Nat.add_comm]
  simp [hM,nil41,hn]
 have em : (List.range' 4 m).map (fun i => subBlk (mkSub (keepM m) [] (hM g w m m)) ((hM g w m m).getD i .dead)) = (List.range m).map fun n => .plain 41 (rowsE (w.length + 1) fun _ _ => false) := by
  rw [List.range'_eq_map_range,List.map_map]
  refine List.map_congr_left fun n hn => ?_
  simp only [Function.comp,List.getD_eq_getElem?_getD,en n (List.mem_range.1 hn),Option.getD_some,subBlk]
 have g0 : ∀ d,(hM g w m m).getD 0 d = .box g.cells := fun _ => rfl
 have g1 : ∀ d,(hM g w m m).getD 1 d = .box [.fv (.int .i64 (g.terms : Int))] := fun _ => rfl
 have g2 : ∀ d,(hM g w m m).getD 2 d = .box (outM m (w.length + 1) m) := fun _ => rfl
 have g3 : ∀ d,(hM g w m m).getD 3 d = .box (chart0 g w m) := fun _ => rfl
 conv => lhs; unfold keepM
 simp only [List.map_cons,List.map_append,List.map_nil,g0,g1,g2,g3]
 rw [show (3 :: 2 :: (List.range' 4 m ++ [0,1])) = keepM m from rfl,em,e3,e2,e0]
 simp only [subBlk,List.map_cons,List.map_nil,subAny,subA,Option.getD_some]
 rfl
theorem keepM_nodup (m : Nat) : (keepM m).Nodup := by
 unfold keepM
 refine List.nodup_cons.2 ⟨by simp,List.nodup_cons.2 ⟨by simp,List.nodup_append.2 ⟨List.nodup_range',by simp,?_⟩⟩⟩
 intro a ha b hb
 have := (List.mem_range'_1.1 ha).1
 simp at hb
 omega
theorem le_M (g : Gra) (w : List Int) (m : Nat) {t t' : List AV} (ht : t.map (subAny (mkSub (keepM m) [] (hM g w m m))) = t') : Le 0 ⟨t,hM g w m m,[]⟩ ⟨t',hE g w m (fun _ _ _ => false) ++ [.box g.cells,.box [.fv (.int .i64 (g.terms : Int))]],[]⟩ := by
 refine le_to (keepM m) [] rfl (keepM_nodup m) (fun i hi => ?_) (fun i hi => by simp at hi) (fun i hi => by simp at hi) ?_
 ·simp only [hM_len]
  unfold keepM at hi
  simp only [List.mem_cons,List.mem_append,List.mem_range'_1,List.not_mem_nil,or_false] at hi
  omega
 ·unfold subSt
  simp only [List.map_nil]
  rw [keepM_sub,ht]
theorem us_facts {g : Gra} (hu : g.usB = true) : ((g.terms : Int) < g.start ∧ g.start ≤ (g.all : Int)) ∧ ∀ p ∈ g.prods,((g.terms : Int) < p.left ∧ p.left ≤ (g.all : Int)) ∧ p.right.length ≤ 8 ∧ ∀ n ∈ p.right,1 ≤ n ∧ n ≤ (g.all : Int) := by
 simp only [Gra.usB,Bool.and_eq_true,decide_eq_true_eq,Gra.sound] at hu
 obtain ⟨h0,⟨⟨_,_⟩,hst⟩,hps⟩ := hu
 simp only [Gra.startB,if_neg h0,Bool.and_eq_true,decide_eq_true_eq] at hst
 refine ⟨hst,fun p hp => ?_⟩
 have := List.all_eq_true.1 hps p hp
 simp only [Prd.okB,Bool.and_eq_true,List.all_eq_true,decide_eq_true_eq] at this
 obtain ⟨⟨⟨⟨⟨h1,h2⟩,h3⟩,_⟩,_⟩,h4⟩ := this
 exact ⟨⟨h1,h2⟩,h3,h4⟩
theorem splice5 (x0 x1 x2 x3 x4 x5 x6 x7 y0 y1 y2 y3 y4 : AV) : splice [x0,x1,x2,x3,x4,x5,x6,x7] 0 [y0,y1,y2,y3,y4] = some [y0,y1,y2,y3,y4,x5,x6,x7] := rfl
theorem ok13 (g : Gra) (hg : Small g 100) (hl : ∀ q ∈ g.prods,q.right.length ≤ 8) (w : List Int) (hll : w.length ≤ 1000) :
  Ok Tryz.prog 13 [g.av,.fv (.lst 1 (ints w))] [] (.ret (.tuple [.fv (.bool (memA g w).1),.fv (.int .i64 (memA g w).2)])) [] := by
 have hri := ok36 g hg [] (by simp)
 rw [right_nil] at hri
 have hrn : Ok Tryz.prog 36 [g.av,.fv .nils] [] (.ret (.fv (.bool g.usB))) [] := ok_args hri fun w S m vs h => ⟨h.1,fun i v x hv hx => by
  match i,hx with
  | 0,hx => exact h.2 0 v _ hv hx
  | 1,hx => simp at hx; subst hx; exact nils_lst 2 (h.2 1 v _ hv rfl)
  | i + 2,hx => simp at hx⟩
 have hcf := ok37 (f := 38) (caps := [.fptr [.int .i64 g.terms]]) (p := badW g.terms) w (by omega) (fun _ => rfl) (fun _ => rfl) (fun n _ => ok38 g.terms n)
 have hterms := ok35 g hg.nrules
 have hil := ints_length w
 refine ok_start (k := 68) (n0 := 0) (rs := [.tmp 4,.tmp 5]) mix Tryz.func13 rfl rfl rfl rfl rfl rfl rfl ?_
 simp -implicitDefEqProofs only [awp_draw _ _ Tryzdr13_6,awp_draw _ _ Tryzdr13_10,awp_draw _ _ Tryzdr13_13,Gra.av,
  evx,evy,ofValue,ofCell,List.range,List.range.loop,Array.size,Nat.reduceAdd,Nat.reduceSub,Nat.reduceEqDiff,List.replicate,if_true,if_false,↓reduceIte,reduceCtorEq,elB,evParts,Int.reduceToNat,Int.reduceLE,Int.reduceLT,Int.reduceEq,Nat.reduceMul,Nat.reduceLeDiff,Nat.reduceLT,ty3,ty4,ty9,ty28,ty22,ty23,ty24,ty25,ty27,ty63,ty69,ty67,ty70]
 refine callK_ret _ _ _ _ (call_pure (hterms) (fun _ => rfl) (fun _ => rfl)) (ok_nil _ _) ?_
 cases hu : g.usB with
 | false =>
  rw [hu] at hrn
  have e : memA g w = (false,10) := by unfold memA; rw [if_pos (.inl hu)]
  rw [e]
  simp -implicitDefEqProofs only [awp_draw _ _ Tryzdr13_6,awp_draw _ _ Tryzdr13_10,awp_draw _ _ Tryzdr13_13,stB_boxA,splice_all,List.all_cons,List.all_nil,Bool.and_self,
  evx,evy,ofValue,ofCell,List.range,List.range.loop,Array.size,Nat.reduceAdd,Nat.reduceSub,Nat.reduceEqDiff,List.replicate,if_true,if_false,↓reduceIte,reduceCtorEq,elB,evParts,Int.reduceToNat,Int.reduceLE,Int.reduceLT,Int.reduceEq,Nat.reduceMul,Nat.reduceLeDiff,Nat.reduceLT,ty3,ty4,ty9,ty28,ty22,ty23,ty24,ty25,ty27,ty63,ty69,ty67,ty70]
  refine callK_ret _ _ _ _ (call_pure (hrn) (fun _ => rfl) (fun _ => rfl)) (ok_nil _ _) ?_
  simp -implicitDefEqProofs only [awp_draw _ _ Tryzdr13_6,awp_draw _ _ Tryzdr13_10,awp_draw _ _ Tryzdr13_13,
  evx,evy,ofValue,ofCell,List.range,List.range.loop,Array.size,Nat.reduceAdd,Nat.reduceSub,Nat.reduceEqDiff,List.replicate,if_true,if_false,↓reduceIte,reduceCtorEq,elB,evParts,Int.reduceToNat,Int.reduceLE,Int.reduceLT,Int.reduceEq,Nat.reduceMul,Nat.reduceLeDiff,Nat.reduceLT,ty3,ty4,ty9,ty28,ty22,ty23,ty24,ty25,ty27,ty63,ty69,ty67,ty70]
  exact le_to [] [] rfl (by simp) (by simp) (by simp) (by simp) rfl
 | true =>
  rw [hu] at hrn
  cases hb : w.any (badW g.terms) with
  | true =>
   rw [hb] at hcf
   have e : memA g w = (false,10) := by unfold memA; rw [if_pos (.inr hb)]
   rw [e]
   simp -implicitDefEqProofs only [awp_draw _ _ Tryzdr13_6,awp_draw _ _ Tryzdr13_10,awp_draw _ _ Tryzdr13_13,stB_boxA,splice_all,List.all_cons,List.all_nil,Bool.and_self,
  evx,evy,ofValue,ofCell,List.range,List.range.loop,Array.size,Nat.reduceAdd,Nat.reduceSub,Nat.reduceEqDiff,List.replicate,if_true,if_false,↓reduceIte,reduceCtorEq,elB,evParts,Int.reduceToNat,Int.reduceLE,Int.reduceLT,Int.reduceEq,Nat.reduceMul,Nat.reduceLeDiff,Nat.reduceLT,ty3,ty4,ty9,ty28,ty22,ty23,ty24,ty25,ty27,ty63,ty69,ty67,ty70]
   refine callK_ret _ _ _ _ (call_pure (hrn) (fun _ => rfl) (fun _ => rfl)) (ok_nil _ _) ?_
   simp -implicitDefEqProofs only [awp_draw _ _ Tryzdr13_6,awp_draw _ _ Tryzdr13_10,awp_draw _ _ Tryzdr13_13,
  evx,evy,ofValue,ofCell,List.range,List.range.loop,Array.size,Nat.reduceAdd,Nat.reduceSub,Nat.reduceEqDiff,List.replicate,if_true,if_false,↓reduceIte,reduceCtorEq,elB,evParts,Int.reduceToNat,Int.reduceLE,Int.reduceLT,Int.reduceEq,Nat.reduceMul,Nat.reduceLeDiff,Nat.reduceLT,ty3,ty4,ty9,ty28,ty22,ty23,ty24,ty25,ty27,ty63,ty69,ty67,ty70]
   refine callK_ret _ _ _ _ (call_deep hcf (by rfl) rfl) (ok_nil _ _) ?_
   simp -implicitDefEqProofs only [awp_draw _ _ Tryzdr13_6,awp_draw _ _ Tryzdr13_10,awp_draw _ _ Tryzdr13_13,
  evx,evy,ofValue,ofCell,List.range,List.range.loop,Array.size,Nat.reduceAdd,Nat.reduceSub,Nat.reduceEqDiff,List.replicate,if_true,if_false,↓reduceIte,reduceCtorEq,elB,evParts,Int.reduceToNat,Int.reduceLE,Int.reduceLT,Int.reduceEq,Nat.reduceMul,Nat.reduceLeDiff,Nat.reduceLT,ty3,ty4,ty9,ty28,ty22,ty23,ty24,ty25,ty27,ty63,ty69,ty67,ty70]
   exact le_to [] [] rfl (by simp) (by simp) (by simp) (by simp) rfl
  | false =>
   rw [hb] at hcf
   by_cases h40 : 40 < w.length
   ·have h40t : (40 < (w.length : Int)) = True := eq_true (by omega)
    have e : memA g w = (false,3) := by unfold memA; rw [if_neg (by simp [hu,hb]),if_pos h40]
    rw [e]
    simp -implicitDefEqProofs only [awp_draw _ _ Tryzdr13_6,awp_draw _ _ Tryzdr13_10,awp_draw _ _ Tryzdr13_13,stB_boxA,splice_all,List.all_cons,List.all_nil,Bool.and_self,
  evx,evy,ofValue,ofCell,List.range,List.range.loop,Array.size,Nat.reduceAdd,Nat.reduceSub,Nat.reduceEqDiff,List.replicate,if_true,if_false,↓reduceIte,reduceCtorEq,elB,evParts,Int.reduceToNat,Int.reduceLE,Int.reduceLT,Int.reduceEq,Nat.reduceMul,Nat.reduceLeDiff,Nat.reduceLT,ty3,ty4,ty9,ty28,ty22,ty23,ty24,ty25,ty27,ty63,ty69,ty67,ty70]
    refine callK_ret _ _ _ _ (call_pure (hrn) (fun _ => rfl) (fun _ => rfl)) (ok_nil _ _) ?_
    simp -implicitDefEqProofs only [awp_draw _ _ Tryzdr13_6,awp_draw _ _ Tryzdr13_10,awp_draw _ _ Tryzdr13_13,
  evx,evy,ofValue,ofCell,List.range,List.range.loop,Array.size,Nat.reduceAdd,Nat.reduceSub,Nat.reduceEqDiff,List.replicate,if_true,if_false,↓reduceIte,reduceCtorEq,elB,evParts,Int.reduceToNat,Int.reduceLE,Int.reduceLT,Int.reduceEq,Nat.reduceMul,Nat.reduceLeDiff,Nat.reduceLT,ty3,ty4,ty9,ty28,ty22,ty23,ty24,ty25,ty27,ty63,ty69,ty67,ty70]
    refine callK_ret _ _ _ _ (call_deep hcf (by rfl) rfl) (ok_nil _ _) ?_
    simp -implicitDefEqProofs only [awp_draw _ _ Tryzdr13_6,awp_draw _ _ Tryzdr13_10,awp_draw _ _ Tryzdr13_13,hil,h40t,
  evx,evy,ofValue,ofCell,List.range,List.range.loop,Array.size,Nat.reduceAdd,Nat.reduceSub,Nat.reduceEqDiff,List.replicate,if_true,if_false,↓reduceIte,reduceCtorEq,elB,evParts,Int.reduceToNat,Int.reduceLE,Int.reduceLT,Int.reduceEq,Nat.reduceMul,Nat.reduceLeDiff,Nat.reduceLT,ty3,ty4,ty9,ty28,ty22,ty23,ty24,ty25,ty27,ty63,ty69,ty67,ty70]
    exact le_to [] [] rfl (by simp) (by simp) (by simp) (by simp) rfl
   ·have h40t : (40 < (w.length : Int)) = False := eq_false (by omega)
    simp -implicitDefEqProofs only [awp_draw _ _ Tryzdr13_6,awp_draw _ _ Tryzdr13_10,awp_draw _ _ Tryzdr13_13,stB_boxA,splice_all,List.all_cons,List.all_nil,Bool.and_self,
  evx,evy,ofValue,ofCell,List.range,List.range.loop,Array.size,Nat.reduceAdd,Nat.reduceSub,Nat.reduceEqDiff,List.replicate,if_true,if_false,↓reduceIte,reduceCtorEq,elB,evParts,Int.reduceToNat,Int.reduceLE,Int.reduceLT,Int.reduceEq,Nat.reduceMul,Nat.reduceLeDiff,Nat.reduceLT,ty3,ty4,ty9,ty28,ty22,ty23,ty24,ty25,ty27,ty63,ty69,ty67,ty70]
    refine callK_ret _ _ _ _ (call_pure (hrn) (fun _ => rfl) (fun _ => rfl)) (ok_nil _ _) ?_
    simp -implicitDefEqProofs only [awp_draw _ _ Tryzdr13_6,awp_draw _ _ Tryzdr13_10,awp_draw _ _ Tryzdr13_13,
  evx,evy,ofValue,ofCell,List.range,List.range.loop,Array.size,Nat.reduceAdd,Nat.reduceSub,Nat.reduceEqDiff,List.replicate,if_true,if_false,↓reduceIte,reduceCtorEq,elB,evParts,Int.reduceToNat,Int.reduceLE,Int.reduceLT,Int.reduceEq,Nat.reduceMul,Nat.reduceLeDiff,Nat.reduceLT,ty3,ty4,ty9,ty28,ty22,ty23,ty24,ty25,ty27,ty63,ty69,ty67,ty70]
    refine callK_ret _ _ _ _ (call_deep hcf (by rfl) rfl) (ok_nil _ _) ?_
    have htr : g.terms ≤ g.rules.length := by unfold Gra.terms; exact List.length_filter_le _ _
    have hnr := hg.nrules
    have hnn := hg.nnonts
    have hw1 : IntKind.wrap .i64 ((g.terms : Int) + (g.nonts.length : Int)) = (g.terms : Int) + (g.nonts.length : Int) := wrap_small (by omega) (by omega)
    obtain ⟨m,hm⟩ : ∃ m,m = g.all + 1 := ⟨_,rfl⟩
    have hmb : m ≤ 100 := by unfold Gra.all at hm; omega
    have hw2 : IntKind.wrap .i64 ((g.terms : Int) + (g.nonts.length : Int) + 1) = (m : Int) := by rw [wrap_small (by omega) (by omega)]; unfold Gra.all at hm; omega
    simp -implicitDefEqProofs only [awp_draw _ _ Tryzdr13_6,awp_draw _ _ Tryzdr13_10,awp_draw _ _ Tryzdr13_13,hil,h40t,List.length_map,Gra.cells,hw1,hw2,List.length_replicate,
  evx,evy,ofValue,ofCell,List.range,List.range.loop,Array.size,Nat.reduceAdd,Nat.reduceSub,Nat.reduceEqDiff,List.replicate,if_true,if_false,↓reduceIte,reduceCtorEq,elB,evParts,Int.reduceToNat,Int.reduceLE,Int.reduceLT,Int.reduceEq,Nat.reduceMul,Nat.reduceLeDiff,Nat.reduceLT,ty3,ty4,ty9,ty28,ty22,ty23,ty24,ty25,ty27,ty63,ty69,ty67,ty70]
    refine ⟨⟨by omega,by omega⟩,?_⟩
    simp -implicitDefEqProofs only [awp_draw _ _ Tryzdr13_6,awp_draw _ _ Tryzdr13_10,awp_draw _ _ Tryzdr13_13,splice5,nckP,List.length_replicate,ldB_boxr,
  evx,evy,ofValue,ofCell,List.range,List.range.loop,Array.size,Nat.reduceAdd,Nat.reduceSub,Nat.reduceEqDiff,List.replicate,if_true,if_false,↓reduceIte,reduceCtorEq,elB,evParts,Int.reduceToNat,Int.reduceLE,Int.reduceLT,Int.reduceEq,Nat.reduceMul,Nat.reduceLeDiff,Nat.reduceLT,ty3,ty4,ty9,ty28,ty22,ty23,ty24,ty25,ty27,ty63,ty69,ty67,ty70]
    have hm1 : 0 < m := by omega
    refine loop_rule (fun i : Nat => ⟨[.any,.fv (.lst 1 (ints w)),.ptr 0 0 0 0,.any,.any,.any,.any,.ptr 3 0 0 0,.any,.any,.any,.any,.any,.any,.any,.any,.any,.any,.any,.any,.any,.any,.any,.any,.any,.any,.any,.any,.any,.any,.any,.any,.any,.any,.any,.any,.any,.any,.any,.any,.fv (.int .i64 (m : Int)),.fv (.int .i64 (i : Int)),.any,.any,.any,.any,.any,.any,.any,.any,.any,.any,.any,.any,.any,.any,.any,.any,.any,.any,.any,.any,.any,.any,.any,.any,.any,.any,.any,.any],hM g w m i,[]⟩)
     (fun i => i ≤ m) (fun i => m - i) 0 (Le.trans (le_box 2 1 (List.replicate m [.nils]) rfl (by intro e; have := congrArg List.length e; simp at this; omega)) (le_eqwk (by rw [thaw_nils m (w.length + 1)]; rfl) (by simp [wk]))) (Nat.zero_le _) (fun i hi s1 hs1 => ?_)
    by_cases hlt : i < m
    ·have h3 : ∀ L,(hM g w m i ++ L)[3]? = some (.box (chart0 g w m)) := fun _ => rfl
     have h2 : ∀ L,(hM g w m i ++ L)[2]? = some (.box (outM m (w.length + 1) i)) := fun _ => rfl
     have h3' : (hM g w m i)[3]? = some (.box (chart0 g w m)) := rfl
     have hlen := hM_len g w m i
     have hws := wsucc w.length (by omega)
     have hn1 : ((w.length + 1 : Nat) : Int) < 4611686018427387904 := by omega
     simp -implicitDefEqProofs only [awp_draw _ _ Tryzdr13_6,awp_draw _ _ Tryzdr13_10,awp_draw _ _ Tryzdr13_13,lt_true hlt,h3',h3,h2,chart0,nckP,ldB_boxr,hil,hws,zrow_len,zrows,hlen,tySpan,outM_set m (w.length + 1) i hlt,hM_next,wsucc i (by omega),
  evx,evy,ofValue,ofCell,List.range,List.range.loop,Array.size,Nat.reduceAdd,Nat.reduceSub,Nat.reduceEqDiff,List.replicate,if_true,if_false,↓reduceIte,reduceCtorEq,elB,evParts,Int.reduceToNat,Int.reduceLE,Int.reduceLT,Int.reduceEq,Nat.reduceMul,Nat.reduceLeDiff,Nat.reduceLT,ty3,ty4,ty9,ty28,ty22,ty23,ty24,ty25,ty27,ty63,ty69,ty67,ty70]
     refine ⟨⟨by omega,by omega⟩,?_⟩
     simp -implicitDefEqProofs only [awp_draw _ _ Tryzdr13_6,awp_draw _ _ Tryzdr13_10,awp_draw _ _ Tryzdr13_13,stB_boxr,Nat.mul_one,Nat.add_zero,outM_set m (w.length + 1) i hlt,hM_next,wsucc i (by omega),
  evx,evy,ofValue,ofCell,List.range,List.range.loop,Array.size,Nat.reduceAdd,Nat.reduceSub,Nat.reduceEqDiff,List.replicate,if_true,if_false,↓reduceIte,reduceCtorEq,elB,evParts,Int.reduceToNat,Int.reduceLE,Int.reduceLT,Int.reduceEq,Nat.reduceMul,Nat.reduceLeDiff,Nat.reduceLT,ty3,ty4,ty9,ty28,ty22,ty23,ty24,ty25,ty27,ty63,ty69,ty67,ty70]
     exact ⟨by kernel_rfl,back_intro hs1 (i + 1) (le_wk (by simp [wk])) (by omega) (by omega)⟩
    ·obtain rfl : m = i := by omega
     simp -implicitDefEqProofs only [awp_draw _ _ Tryzdr13_6,awp_draw _ _ Tryzdr13_10,awp_draw _ _ Tryzdr13_13,lt_false hlt,
  evx,evy,ofValue,ofCell,List.range,List.range.loop,Array.size,Nat.reduceAdd,Nat.reduceSub,Nat.reduceEqDiff,List.replicate,if_true,if_false,↓reduceIte,reduceCtorEq,elB,evParts,Int.reduceToNat,Int.reduceLE,Int.reduceLT,Int.reduceEq,Nat.reduceMul,Nat.reduceLeDiff,Nat.reduceLT,ty3,ty4,ty9,ty28,ty22,ty23,ty24,ty25,ty27,ty63,ty69,ty67,ty70]
     obtain ⟨hst,hps⟩ := us_facts hu
     have hps1 : ∀ p ∈ g.prods,(g.terms : Int) < p.left ∧ p.left < (m : Int) := fun p hp => by have := (hps p hp).1; omega
     have hps2 : ∀ p ∈ g.prods,p.right.length ≤ 1000 ∧ ∀ n ∈ p.right,n ≤ (g.terms : Int) ∨ ((g.terms : Int) < n ∧ n < (m : Int)) := fun p hp => by
      obtain ⟨_,h1,h2⟩ := hps p hp
      exact ⟨by omega,fun n hn => by have := h2 n hn; omega⟩
     refine loop_rule (fun E : Nat → Nat → Nat → Bool => ⟨[.any,.fv (.lst 1 (ints w)),.ptr (m + 2) 0 0 0,.any,.any,.any,.any,.ptr 0 0 0 0,.any,.any,.any,.any,.any,.any,.any,.any,.any,.any,.any,.any,.any,.any,.any,.any,.any,.any,.any,.any,.any,.any,.any,.any,.any,.any,.any,.any,.any,.any,.any,.any,.any,.any,.any,.any,.any,.any,.any,.any,.any,.any,.any,.any,.any,.any,.any,.any,.any,.any,.any,.any,.any,.any,.any,.any,.any,.any,.any,.any,.any,.any],hE g w m E ++ [.box g.cells,.box [.fv (.int .i64 (g.terms : Int))]],[]⟩)
      (fun E => SoundE g w E) (fun E => lackE m (w.length + 1) E) (fun _ _ _ => false) (Le.trans (le_wk (t' := [.any,.fv (.lst 1 (ints w)),.ptr 0 0 0 0,.any,.any,.any,.any,.ptr 3 0 0 0,.any,.any,.any,.any,.any,.any,.any,.any,.any,.any,.any,.any,.any,.any,.any,.any,.any,.any,.any,.any,.any,.any,.any,.any,.any,.any,.any,.any,.any,.any,.any,.any,.any,.any,.any,.any,.any,.any,.any,.any,.any,.any,.any,.any,.any,.any,.any,.any,.any,.any,.any,.any,.any,.any,.any,.any,.any,.any,.any,.any,.any,.any]) (by simp [wk])) (le_M g w m (by simp [subAny,subA,mkSub,keepM_0,keepM_3]))) (fun _ _ _ h => by cases h) (fun E hEs s2 hs2 => ?_)
     have hgr := ok39 g w m E (by omega) (by have := hg.nprods; omega) hps1 hps2
     have hgl : ∀ E',(hE g w m E').length = (hE g w m E).length := fun E' => by rw [hE_len,hE_len]
     have hgi := GrowI.rnd hEs (fun p hp => (hps p hp).1) g.prods.length (Nat.le_refl _)
     have hlk := fun h => lack_lt (w := w) hgi h
     have hcl := fun h => rnd_closed hEs (by omega) (fun p hp => (hps p hp).1) h
     rw [show g.all + 1 = m from hm.symm] at hlk
     have hlive : ∀ b ∈ hE g w m E,b.live = true := fun b hb => by
      rcases List.mem_cons.1 hb with rfl | hb
      ·rfl
      rcases List.mem_cons.1 hb with rfl | hb
      ·rfl
      ·obtain ⟨n,_,rfl⟩ := List.mem_map.1 hb
       rfl
     have hback : ∀ E',∀ b ∈ hE g w m E',subBlk (backSub (List.range (hE g w m E).length) (hE g w m E ++ [Blk.box g.cells,Blk.box [.fv (.int .i64 (g.terms : Int))]]).length) b = b := fun E' b hb => by
      rw [hE_len]
      rcases List.mem_cons.1 hb with rfl | hb
      ·simp only [subBlk,chartA,List.map_cons,List.map_nil,subAny,subA,back_lt (show 1 < m + 2 by omega),Option.getD_some]
      rcases List.mem_cons.1 hb with rfl | hb
      ·simp only [subBlk,refsA,List.map_map]
       congr 1
       refine List.map_congr_left fun n hn => ?_
       have := List.mem_range.1 hn
       simp only [Function.comp,subAny,subA,back_lt (show n + 2 < m + 2 by omega),Option.getD_some]
      ·obtain ⟨n,_,rfl⟩ := List.mem_map.1 hb
       rfl
     generalize rndG g w E g.prods.length = r at hgr hgi hlk hcl
     obtain ⟨E',gr⟩ := r
     have hcf2 := fun t d => call_first (t := t) (d := d) (L := [.box g.cells,.box [.fv (.int .i64 (g.terms : Int))]]) hgr (by simp only [List.map_cons,List.map_nil,cut_ptr (show 0 < (hE g w m E).length by rw [hE_len]; omega)]) (hE_cut (by rw [hE_len]; exact Nat.le_refl _)) hlive (hgl _) (hback _) rfl
     cases gr with
     | true =>
      simp -implicitDefEqProofs only [awp_draw _ _ Tryzdr13_6,awp_draw _ _ Tryzdr13_10,awp_draw _ _ Tryzdr13_13,
  evx,evy,ofValue,ofCell,List.range,List.range.loop,Array.size,Nat.reduceAdd,Nat.reduceSub,Nat.reduceEqDiff,List.replicate,if_true,if_false,↓reduceIte,reduceCtorEq,elB,evParts,Int.reduceToNat,Int.reduceLE,Int.reduceLT,Int.reduceEq,Nat.reduceMul,Nat.reduceLeDiff,Nat.reduceLT,ty3,ty4,ty9,ty28,ty22,ty23,ty24,ty25,ty27,ty63,ty69,ty67,ty70]
      refine callK_ret _ _ _ _ (hcf2 _ _) (by first | exact ok_none _ _ | exact ok_nil _ _) ?_
      simp -implicitDefEqProofs only [awp_draw _ _ Tryzdr13_6,awp_draw _ _ Tryzdr13_10,awp_draw _ _ Tryzdr13_13,
  evx,evy,ofValue,ofCell,List.range,List.range.loop,Array.size,Nat.reduceAdd,Nat.reduceSub,Nat.reduceEqDiff,List.replicate,if_true,if_false,↓reduceIte,reduceCtorEq,elB,evParts,Int.reduceToNat,Int.reduceLE,Int.reduceLT,Int.reduceEq,Nat.reduceMul,Nat.reduceLeDiff,Nat.reduceLT,ty3,ty4,ty9,ty28,ty22,ty23,ty24,ty25,ty27,ty63,ty69,ty67,ty70]
      exact back_intro hs2 E' (le_wk (by simp [wk])) hgi.sound (hlk rfl)
     | false =>
      simp -implicitDefEqProofs only [awp_draw _ _ Tryzdr13_6,awp_draw _ _ Tryzdr13_10,awp_draw _ _ Tryzdr13_13,
  evx,evy,ofValue,ofCell,List.range,List.range.loop,Array.size,Nat.reduceAdd,Nat.reduceSub,Nat.reduceEqDiff,List.replicate,if_true,if_false,↓reduceIte,reduceCtorEq,elB,evParts,Int.reduceToNat,Int.reduceLE,Int.reduceLT,Int.reduceEq,Nat.reduceMul,Nat.reduceLeDiff,Nat.reduceLT,ty3,ty4,ty9,ty28,ty22,ty23,ty24,ty25,ty27,ty63,ty69,ty67,ty70]
      refine callK_ret _ _ _ _ (hcf2 _ _) (by first | exact ok_none _ _ | exact ok_nil _ _) ?_
      obtain rfl := hgi.same rfl
      have hci := chart_iff hEs (hcl rfl) (n := g.start.toNat) (by omega) 0 w.length
      rw [Int.toNat_of_nonneg (by omega)] at hci
      have e : memA g w = (E' g.start.toNat 0 w.length,0) := by
       unfold memA
       rw [if_neg (by simp [hu,hb]),if_neg h40]
       congr 1
       rw [Bool.eq_iff_iff,hci]
       simp
      rw [e]
      have hst0 : (0 ≤ g.start) = True := eq_true (by omega)
      have hstm : (g.start < (m : Int)) = True := eq_true (by omega)
      have hln : g.start.toNat < m := by omega
      have hEn := fun L => hE_n (g := g) (w := w) (m := m) (E := E') hln L
      have hrf := refsA_get (m := m) (n1 := w.length + 1) hln
      have hrw2 := fun R => rowsE_get (n1 := w.length + 1) (R := R) (i := 0) (by omega)
      have hbF : ∀ f,(blF f).map AV.fv = bl f := fun _ => rfl
      have hgx : ∀ c L,(hE g w m E' ++ c :: L)[m + 2]? = some c := fun c L => by
       have := hE_x (g := g) (w := w) (m := m) (E := E') 0 (c :: L)
       rwa [Nat.add_zero] at this
      have hw41 : ((w.length : Int) < ((41 : Nat) : Int)) = True := eq_true (by omega)
      simp only [St.put]
      have h0n : ((0 : Int) < ((w.length + 1 : Nat) : Int)) = True := eq_true (by omega)
      simp -implicitDefEqProofs only [awp_draw _ _ Tryzdr13_6,awp_draw _ _ Tryzdr13_10,awp_draw _ _ Tryzdr13_13,hE_0,hE_1,chartA,nckP,ldB_boxr,hst0,hstm,hrf,hEn,hrw2,hbF,bl_get _ w.length (show w.length < 41 by omega),hgx,Gra.cells,hil,hw41,tySpan,h0n,Nat.add_zero,Nat.mul_one,
  evx,evy,ofValue,ofCell,List.range,List.range.loop,Array.size,Nat.reduceAdd,Nat.reduceSub,Nat.reduceEqDiff,List.replicate,if_true,if_false,↓reduceIte,reduceCtorEq,elB,evParts,Int.reduceToNat,Int.reduceLE,Int.reduceLT,Int.reduceEq,Nat.reduceMul,Nat.reduceLeDiff,Nat.reduceLT,ty3,ty4,ty9,ty28,ty22,ty23,ty24,ty25,ty27,ty63,ty69,ty67,ty70]
      exact le_flat rfl
end Go.Abs
