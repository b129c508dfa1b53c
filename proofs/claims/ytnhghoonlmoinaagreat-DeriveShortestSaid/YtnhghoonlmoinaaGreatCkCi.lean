/- A text's words. -/
import Derived.Test.YtnhghoonlmoinaaGreatTyTryzi
import Derived.Test.YtnhghoonlmoinaaGreatDrTryzi
import Derived.Test.YtnhghoonlmoinaaGreatAbsZ
import Derived.Test.YtnhghoonlmoinaaGreatCkAi
import Derived.Test.YtnhghoonlmoinaaGreatAbsW
namespace Go.Abs
open Go.Proofs
set_option linter.unusedVariables false
set_option linter.unusedSimpArgs false
set_option maxRecDepth 100000
set_option maxHeartbeats 1000000
theorem ty135 : tiOf Tryz.prog 135 = some ⟨.func #[9] #[3] false,1,8,some [.nil .nilFunc]⟩ := by kernel_rfl
theorem isAggF (a b : Array TypeId) (c : Bool) (n m : Nat) (z : Option (List FV)) : TI.isAgg ⟨.func a b c,n,m,z⟩ = false := rfl
theorem le_tup3 {id es off len : Nat} {h : List Blk} {rows xs : List (List FV)} {x y : FV} (hb : h[id]? = some (.plain es rows)) (hl : off + len ≤ rows.length) (hx : (rows.drop off).take len = xs) :
  Le 0 { t := [.tuple [.ref id es off len,.fv x,.fv y]],h := h,d := [] } { t := [.tuple [.fv (.lst es xs),.fv x,.fv y]],h := [],d := [] } := by
 subst hx
 refine le_to [] [id] rfl List.nodup_nil (fun i hi => by simp at hi) (fun i _ hi => by simp at hi) (fun i hi => by simp at hi; subst hi; exact ⟨es,rows,hb⟩) ?_
 simp [subSt,subAny,subA,subL,mkSub,idx,hb,hl]
theorem cellsA_func (f : FuncId) (caps : List AV) : cellsA (.func f caps) = some [.func f caps] := rfl
theorem bsE_w (b : Nat) (dd : TypeDesc) (z1 z2 z3 : FV) (x y z : FV) (h : List Blk) : bsE (some ⟨dd,3,b,some [z1,z2,z3]⟩) 1 h (some [(0,.agg [.fv x,.fv y,.fv z])]) = some (.ref h.length 3 0 1,h ++ [.plain 3 [[x,y,z]]],[]) :=
 bsE_r1 b dd 3 [z1,z2,z3] [x,y,z] h rfl (by omega) (by omega) rfl
def allOut : Option (List Wd) × Nat → AOut
 | (some ws,_) => .ret (.tuple [.fv (.lst 3 (ws.map Wd.row)),.fv (.int .i64 0),.fv (.int .i64 0)])
 | (none,a) => .ret (.tuple [.fv .nils,.fv (.int .i64 a),.fv (.int .i64 1)])
theorem ruleG_ge : ∀ (s : Bs) (n : Nat),ruleG s n ≠ 0 → n + 1 ≤ ruleG s n
 | [],n,h => absurd (ruleG_nil n) h
 | c :: r,n,h => by
  rw [ruleG_cons] at h ⊢
  split
  ·rename_i h1; rw [if_pos h1] at h; omega
  ·rename_i h1
   rw [if_neg h1] at h
   split
   ·omega
   ·rename_i h2
    rw [if_neg h2] at h
    split
    ·rename_i h3
     rw [if_pos h3] at h
     cases r with
     | nil => simp at h
     | cons d r =>
      simp only at h ⊢
      split
      ·rename_i h4; rw [if_pos h4] at h; omega
      ·rename_i h4
       rw [if_neg h4] at h
       have := ruleG_ge r (n + 2) h
       omega
    ·rename_i h3
     rw [if_neg h3] at h
     have := ruleG_ge r (n + 1) h
     omega
theorem ruleN_two {s : Bs} (h : ruleN s ≠ 0) : 2 ≤ ruleN s := by
 cases s with
 | nil => simp [ruleN] at h
 | cons c r =>
  unfold ruleN at h ⊢
  simp only at h ⊢
  split
  ·rename_i h1; rw [if_pos h1] at h; exact ruleG_ge r 1 h
  ·rename_i h1; rw [if_neg h1] at h; omega
theorem wd_row1 (s : Bs) (a n : Nat) : (wordAt s a 1 n).row = [.int .i64 1,.int .i64 a,.str ((s.drop a).take n)] := rfl
theorem wd_row3 (s : Bs) (a n : Nat) : (wordAt s a 3 n).row = [.int .i64 3,.int .i64 a,.str ((s.drop a).take n)] := rfl
theorem wd_row2 (s : Bs) (a n : Nat) : (wordAt s a 2 n).row = [.int .i64 2,.int .i64 a,.str ((((s.drop a).take n).drop 1).take (n - 2))] := rfl
theorem mid_text (t : Bs) (n : Nat) (h : 2 ≤ n) : (t.take (n - 1)).drop 1 = (t.drop 1).take (n - 2) := by
 rw [show n - 1 = 1 + (n - 2) from by omega]
 rw [List.drop_take]
 congr 1
 omega
theorem c03 : ((0 : Int) < ((3 : Nat) : Int)) = True := by simp
theorem c13 : ((1 : Int) < ((3 : Nat) : Int)) = True := by simp
theorem c23 : ((2 : Int) < ((3 : Nat) : Int)) = True := by simp
theorem w01 : IntKind.wrap .i64 ((0 : Int) + 1) = 1 := by decide
theorem w12 : IntKind.wrap .i64 ((1 : Int) + 1) = 2 := by decide
theorem w23 : IntKind.wrap .i64 ((2 : Int) + 1) = 3 := by decide
theorem cut_text (s : Bs) (a n : Nat) : (s.take (a + n)).drop a = (s.drop a).take n := by
 rw [List.drop_take]
 congr 1
 omega
theorem allG_some {s : Bs} {f at_ k n : Nat} {out : List Wd} (h : at_ < s.length) (hc : cutW (s.drop at_) = some (k,n)) : allG s (f + 1) at_ out = allG s f (at_ + n + blankN (s.drop (at_ + n))) (out ++ [wordAt s at_ k n]) := by
 rw [allG,if_pos h,hc]
theorem allG_none {s : Bs} {f at_ : Nat} {out : List Wd} (h : at_ < s.length) (hc : cutW (s.drop at_) = none) : allG s (f + 1) at_ out = (none,at_) := by
 rw [allG,if_pos h,hc]
theorem allG_end {s : Bs} {f at_ : Nat} {out : List Wd} (h : ¬ at_ < s.length) : allG s (f + 1) at_ out = (some out,0) := by
 rw [allG,if_neg h]
theorem wsum (a n : Nat) (h : a + n < 4611686018427387904) : IntKind.wrap .i64 ((a : Int) + (n : Int)) = ((a + n : Nat) : Int) := wrap_small (by omega) (by omega)
theorem wpred (n : Nat) (h : n < 4611686018427387904) (h1 : 0 < n) : IntKind.wrap .i64 ((n : Int) - 1) = ((n - 1 : Nat) : Int) := by
 rw [wrap_small (by omega) (by omega)]; omega
theorem le_true {a b : Nat} (h : a ≤ b) : (a ≤ b) = True := by simpa using h
theorem ok60 (s : Bs) (hs : s.length ≤ 4000) : Ok Tryz.prog 60 [.fv (.str s)] [] (allOut (allW s)) [] := by
 unfold allW
 have hb0 := blankG_le false s
 have hbd : blankN s ≤ s.length := hb0
 generalize hw : allG s (s.length + 1) (blankN s) [] = ww
 refine ok_start (k := 67) (n0 := 0) (rs := [.tmp 2,.tmp 3,.tmp 4]) mix Tryz.func60 rfl rfl rfl rfl rfl rfl rfl ?_
 have hlen : ((4000 : Int) < (s.length : Int)) = False := lit_false (by omega)
 simp -implicitDefEqProofs only [hlen,
  evx,evy,ofValue,ofCell,List.range,List.range.loop,Array.size,Nat.reduceAdd,Nat.reduceSub,Nat.reduceEqDiff,List.replicate,if_true,if_false,↓reduceIte,reduceCtorEq,elB,evParts,Int.reduceToNat,Int.reduceLE,Int.reduceLT,Int.reduceEq,Nat.reduceMul,Nat.reduceLeDiff,Nat.reduceLT,ty3,ty4,ty9,ty5,ty88,ty138,ty136,ty135,ty31]
 refine callK_ret _ _ _ _ (call_pure (ok86 s hs) (fun _ => rfl) (fun _ => rfl)) (ok_nil _ _) ?_
 simp -implicitDefEqProofs only [evx,evy,ofValue,ofCell,List.range,List.range.loop,Array.size,Nat.reduceAdd,Nat.reduceSub,Nat.reduceEqDiff,List.replicate,if_true,if_false,↓reduceIte,reduceCtorEq,elB,evParts,Int.reduceToNat,Int.reduceLE,Int.reduceLT,Int.reduceEq,Nat.reduceMul,Nat.reduceLeDiff,Nat.reduceLT,ty3,ty4,ty9,ty5,ty88,ty138,ty136,ty135,ty31]
 refine loop_rule (fun x : Nat × List Wd × Nat => ⟨[.fv (.str s),.any,.any,.any,.any,.ref 0 3 0 x.2.1.length,.fv (.int .i64 x.1),.any,.any,.any,.any,.any,.any,.any,.any,.any,.any,.any,.any,.any,.any,.any,.any,.any,.any,.any,.any,.any,.any,.any,.any,.any,.any,.any,.any,.any,.any,.any,.any,.any,.any,.any,.any,.any,.any,.any,.any,.any,.any,.any,.any,.any,.any,.any,.any,.any,.any,.any,.any,.any,.any,.any,.any,.any,.any,.any,.any,.any],[.plain 3 (x.2.1.map Wd.row)],[]⟩)
  (fun x => allG s x.2.2 x.1 x.2.1 = ww ∧ x.1 ≤ s.length ∧ s.length < x.2.2 + x.1 ∧ x.2.1.length ≤ x.1) (fun x => x.2.2) (blankN s,[],s.length + 1)
  (Le.trans (le_virt 5 3 rfl) (le_wk (by simp [wk]))) ⟨hw,hbd,by simp only; omega,by simp⟩ (fun x hx st hst => ?_)
 obtain ⟨a,ws,f⟩ := x
 obtain ⟨h1,h2,h3,h4⟩ := hx
 simp only at h1 h2 h3 h4 hst ⊢
 have hwl : (ws.map Wd.row).length = ws.length := List.length_map _
 have htk : List.take ws.length (ws.map Wd.row) = ws.map Wd.row := by rw [← hwl,List.take_length]
 by_cases hlt : a < s.length
 ·obtain ⟨f,rfl⟩ : ∃ f',f = f' + 1 := ⟨f - 1,by omega⟩
  have hdl : (s.drop a).length = s.length - a := List.length_drop
  have hname := ok87 (s.drop a) (by omega)
  have hrule := ok88 (s.drop a) (by omega) (by omega)
  have hsign := ok89 (s.drop a) (by omega)
  have hnl := nameN_le (s.drop a)
  have hrl := ruleN_le (s.drop a)
  have hsl := signN_le (s.drop a)
  have hcut : cutW (s.drop a) = if nameN (s.drop a) ≠ 0 then some (1,nameN (s.drop a)) else if ruleN (s.drop a) ≠ 0 then some (2,ruleN (s.drop a)) else if signN (s.drop a) ≠ 0 then some (3,signN (s.drop a)) else none := rfl
  have hr2 := @ruleN_two (s.drop a)
  generalize nameN (s.drop a) = n1 at hname hnl hcut
  generalize ruleN (s.drop a) = n2 at hrule hrl hcut hr2
  generalize signN (s.drop a) = n3 at hsign hsl hcut
  simp -implicitDefEqProofs only [lt_true hlt,cellsA_func,
  evx,evy,ofValue,ofCell,List.range,List.range.loop,Array.size,Nat.reduceAdd,Nat.reduceSub,Nat.reduceEqDiff,List.replicate,if_true,if_false,↓reduceIte,reduceCtorEq,elB,evParts,Int.reduceToNat,Int.reduceLE,Int.reduceLT,Int.reduceEq,Nat.reduceMul,Nat.reduceLeDiff,Nat.reduceLT,ty3,ty4,ty9,ty5,ty88,ty138,ty136,ty135,ty31]
  refine loop_rule (fun j : Int => ⟨[.fv (.str s),.any,.any,.any,.any,.ref 0 3 0 ws.length,.fv (.int .i64 a),.fv (.bool false),.any,.any,.any,.any,.any,.any,.any,.any,.any,.any,.any,.any,.any,.any,.any,.any,.any,.any,.any,.agg [.func 87 [],.func 88 [],.func 89 []],.fv (.int .i64 j),.any,.any,.any,.any,.any,.any,.any,.any,.any,.any,.any,.any,.any,.any,.any,.any,.any,.any,.any,.any,.any,.any,.any,.any,.any,.any,.any,.any,.any,.any,.any,.any,.any,.any,.any,.any,.any,.any,.any],[.plain 3 (ws.map Wd.row)],[]⟩)
   (fun j => j = 0 ∨ (j = 1 ∧ n1 = 0) ∨ (j = 2 ∧ n1 = 0 ∧ n2 = 0) ∨ (j = 3 ∧ n1 = 0 ∧ n2 = 0 ∧ n3 = 0)) (fun j => (3 - j).toNat) 0 (le_wk (by simp [wk])) (.inl rfl) (fun j hj s0 hs0 => ?_)
  rcases hj with rfl | ⟨rfl,z1⟩ | ⟨rfl,z1,z2⟩ | ⟨rfl,z1,z2,z3⟩
  ·simp -implicitDefEqProofs only [lt_true hlt,cellsA_func,isAggF,le_true h2,Nat.le_refl,List.take_length,List.length_map,cut_text,w01,w12,w23,c03,c13,c23,bsE_w,
  evx,evy,ofValue,ofCell,List.range,List.range.loop,Array.size,Nat.reduceAdd,Nat.reduceSub,Nat.reduceEqDiff,List.replicate,if_true,if_false,↓reduceIte,reduceCtorEq,elB,evParts,Int.reduceToNat,Int.reduceLE,Int.reduceLT,Int.reduceEq,Nat.reduceMul,Nat.reduceLeDiff,Nat.reduceLT,ty3,ty4,ty9,ty5,ty88,ty138,ty136,ty135,ty31]
   refine callK_ret _ _ _ _ (call_pure (hname) (fun _ => rfl) (fun _ => rfl)) (ok_nil _ _) ?_
   by_cases hz : n1 = 0
   ·have hzt : ((n1 : Int) = 0) = True := by simpa using hz
    simp -implicitDefEqProofs only [hzt,w01,w12,w23,
  evx,evy,ofValue,ofCell,List.range,List.range.loop,Array.size,Nat.reduceAdd,Nat.reduceSub,Nat.reduceEqDiff,List.replicate,if_true,if_false,↓reduceIte,reduceCtorEq,elB,evParts,Int.reduceToNat,Int.reduceLE,Int.reduceLT,Int.reduceEq,Nat.reduceMul,Nat.reduceLeDiff,Nat.reduceLT,ty3,ty4,ty9,ty5,ty88,ty138,ty136,ty135,ty31]
    exact back_intro hs0 1 (le_wk (by simp [wk])) (.inr (.inl ⟨rfl,hz⟩)) (by decide)
   ·have hzt : ((n1 : Int) = 0) = False := by simpa using hz
    have hcl : cutW (s.drop a) = some (1,n1) := by rw [hcut,if_pos hz]
    rw [allG_some hlt hcl] at h1
    have hsum : a + n1 ≤ s.length := by omega
    have hbl := blankG_le false (s.drop (a + n1))
    have hbl2 : blankN (s.drop (a + n1)) = blankG false (s.drop (a + n1)) := rfl
    rw [List.length_drop,← hbl2] at hbl
    have hblank := ok86 (s.drop (a + n1)) (by rw [List.length_drop]; omega)
    simp -implicitDefEqProofs only [hzt,wsum a n1 (by omega),le_true (by omega : a ≤ a + n1),le_true hsum,lt_true hlt,cellsA_func,isAggF,le_true h2,Nat.le_refl,List.take_length,List.length_map,cut_text,w01,w12,w23,c03,c13,c23,bsE_w,
  evx,evy,ofValue,ofCell,List.range,List.range.loop,Array.size,Nat.reduceAdd,Nat.reduceSub,Nat.reduceEqDiff,List.replicate,if_true,if_false,↓reduceIte,reduceCtorEq,elB,evParts,Int.reduceToNat,Int.reduceLE,Int.reduceLT,Int.reduceEq,Nat.reduceMul,Nat.reduceLeDiff,Nat.reduceLT,ty3,ty4,ty9,ty5,ty88,ty138,ty136,ty135,ty31]
    refine ⟨by omega,?_⟩
    refine callK_ret _ _ _ _ (call_pure (hblank) (fun _ => rfl) (fun _ => rfl)) (ok_nil _ _) ?_
    simp -implicitDefEqProofs only [wsum (a + n1) _ (by omega : a + n1 + blankN (s.drop (a + n1)) < 4611686018427387904),
  evx,evy,ofValue,ofCell,List.range,List.range.loop,Array.size,Nat.reduceAdd,Nat.reduceSub,Nat.reduceEqDiff,List.replicate,if_true,if_false,↓reduceIte,reduceCtorEq,elB,evParts,Int.reduceToNat,Int.reduceLE,Int.reduceLT,Int.reduceEq,Nat.reduceMul,Nat.reduceLeDiff,Nat.reduceLT,ty3,ty4,ty9,ty5,ty88,ty138,ty136,ty135,ty31]
    refine back_intro hst (a + n1 + blankN (s.drop (a + n1)),ws ++ [wordAt s a 1 n1],f) (le_pk [2] rfl (by simp) (by simp) ?_ ?_) ⟨h1,by simp only; omega,by simp only; omega,by simp only [List.length_append,List.length_cons,List.length_nil]; omega⟩ (by simp only; omega)
    ·simp [subBlk,wd_row1,htk]
    ·simp [wk,subAny,subA,mkSub,idx]
  ·simp -implicitDefEqProofs only [lt_true hlt,cellsA_func,isAggF,le_true h2,Nat.le_refl,List.take_length,List.length_map,cut_text,w01,w12,w23,c03,c13,c23,bsE_w,
  evx,evy,ofValue,ofCell,List.range,List.range.loop,Array.size,Nat.reduceAdd,Nat.reduceSub,Nat.reduceEqDiff,List.replicate,if_true,if_false,↓reduceIte,reduceCtorEq,elB,evParts,Int.reduceToNat,Int.reduceLE,Int.reduceLT,Int.reduceEq,Nat.reduceMul,Nat.reduceLeDiff,Nat.reduceLT,ty3,ty4,ty9,ty5,ty88,ty138,ty136,ty135,ty31]
   refine callK_ret _ _ _ _ (call_pure (hrule) (fun _ => rfl) (fun _ => rfl)) (ok_nil _ _) ?_
   by_cases hz : n2 = 0
   ·have hzt : ((n2 : Int) = 0) = True := by simpa using hz
    simp -implicitDefEqProofs only [hzt,w01,w12,w23,
  evx,evy,ofValue,ofCell,List.range,List.range.loop,Array.size,Nat.reduceAdd,Nat.reduceSub,Nat.reduceEqDiff,List.replicate,if_true,if_false,↓reduceIte,reduceCtorEq,elB,evParts,Int.reduceToNat,Int.reduceLE,Int.reduceLT,Int.reduceEq,Nat.reduceMul,Nat.reduceLeDiff,Nat.reduceLT,ty3,ty4,ty9,ty5,ty88,ty138,ty136,ty135,ty31]
    exact back_intro hs0 2 (le_wk (by simp [wk])) (.inr (.inr (.inl ⟨rfl,z1,hz⟩))) (by decide)
   ·have hzt : ((n2 : Int) = 0) = False := by simpa using hz
    have hcl : cutW (s.drop a) = some (2,n2) := by rw [hcut,z1,if_neg (by simp),if_pos hz]
    rw [allG_some hlt hcl] at h1
    have hsum : a + n2 ≤ s.length := by omega
    have hbl := blankG_le false (s.drop (a + n2))
    have hbl2 : blankN (s.drop (a + n2)) = blankG false (s.drop (a + n2)) := rfl
    rw [List.length_drop,← hbl2] at hbl
    have hblank := ok86 (s.drop (a + n2)) (by rw [List.length_drop]; omega)
    have h22 := hr2 hz
    have htl : (List.take n2 (List.drop a s)).length = n2 := by rw [List.length_take,List.length_drop]; omega
    simp -implicitDefEqProofs only [hzt,wsum a n2 (by omega),le_true (by omega : a ≤ a + n2),le_true hsum,wpred n2 (by omega) (by omega),le_true (by omega : 1 ≤ n2 - 1),htl,le_true (by omega : n2 - 1 ≤ n2),mid_text _ n2 h22,lt_true hlt,cellsA_func,isAggF,le_true h2,Nat.le_refl,List.take_length,List.length_map,cut_text,w01,w12,w23,c03,c13,c23,bsE_w,
  evx,evy,ofValue,ofCell,List.range,List.range.loop,Array.size,Nat.reduceAdd,Nat.reduceSub,Nat.reduceEqDiff,List.replicate,if_true,if_false,↓reduceIte,reduceCtorEq,elB,evParts,Int.reduceToNat,Int.reduceLE,Int.reduceLT,Int.reduceEq,Nat.reduceMul,Nat.reduceLeDiff,Nat.reduceLT,ty3,ty4,ty9,ty5,ty88,ty138,ty136,ty135,ty31]
    refine ⟨by omega,?_⟩
    refine callK_ret _ _ _ _ (call_pure (hblank) (fun _ => rfl) (fun _ => rfl)) (ok_nil _ _) ?_
    simp -implicitDefEqProofs only [wsum (a + n2) _ (by omega : a + n2 + blankN (s.drop (a + n2)) < 4611686018427387904),
  evx,evy,ofValue,ofCell,List.range,List.range.loop,Array.size,Nat.reduceAdd,Nat.reduceSub,Nat.reduceEqDiff,List.replicate,if_true,if_false,↓reduceIte,reduceCtorEq,elB,evParts,Int.reduceToNat,Int.reduceLE,Int.reduceLT,Int.reduceEq,Nat.reduceMul,Nat.reduceLeDiff,Nat.reduceLT,ty3,ty4,ty9,ty5,ty88,ty138,ty136,ty135,ty31]
    refine back_intro hst (a + n2 + blankN (s.drop (a + n2)),ws ++ [wordAt s a 2 n2],f) (le_pk [2] rfl (by simp) (by simp) ?_ ?_) ⟨h1,by simp only; omega,by simp only; omega,by simp only [List.length_append,List.length_cons,List.length_nil]; omega⟩ (by simp only; omega)
    ·simp [subBlk,wd_row2,htk]
    ·simp [wk,subAny,subA,mkSub,idx]
  ·simp -implicitDefEqProofs only [lt_true hlt,cellsA_func,isAggF,le_true h2,Nat.le_refl,List.take_length,List.length_map,cut_text,w01,w12,w23,c03,c13,c23,bsE_w,
  evx,evy,ofValue,ofCell,List.range,List.range.loop,Array.size,Nat.reduceAdd,Nat.reduceSub,Nat.reduceEqDiff,List.replicate,if_true,if_false,↓reduceIte,reduceCtorEq,elB,evParts,Int.reduceToNat,Int.reduceLE,Int.reduceLT,Int.reduceEq,Nat.reduceMul,Nat.reduceLeDiff,Nat.reduceLT,ty3,ty4,ty9,ty5,ty88,ty138,ty136,ty135,ty31]
   refine callK_ret _ _ _ _ (call_pure (hsign) (fun _ => rfl) (fun _ => rfl)) (ok_nil _ _) ?_
   by_cases hz : n3 = 0
   ·have hzt : ((n3 : Int) = 0) = True := by simpa using hz
    simp -implicitDefEqProofs only [hzt,w01,w12,w23,
  evx,evy,ofValue,ofCell,List.range,List.range.loop,Array.size,Nat.reduceAdd,Nat.reduceSub,Nat.reduceEqDiff,List.replicate,if_true,if_false,↓reduceIte,reduceCtorEq,elB,evParts,Int.reduceToNat,Int.reduceLE,Int.reduceLT,Int.reduceEq,Nat.reduceMul,Nat.reduceLeDiff,Nat.reduceLT,ty3,ty4,ty9,ty5,ty88,ty138,ty136,ty135,ty31]
    exact back_intro hs0 3 (le_wk (by simp [wk])) (.inr (.inr (.inr ⟨rfl,z1,z2,hz⟩))) (by decide)
   ·have hzt : ((n3 : Int) = 0) = False := by simpa using hz
    have hcl : cutW (s.drop a) = some (3,n3) := by rw [hcut,z1,if_neg (by simp),z2,if_neg (by simp),if_pos hz]
    rw [allG_some hlt hcl] at h1
    have hsum : a + n3 ≤ s.length := by omega
    have hbl := blankG_le false (s.drop (a + n3))
    have hbl2 : blankN (s.drop (a + n3)) = blankG false (s.drop (a + n3)) := rfl
    rw [List.length_drop,← hbl2] at hbl
    have hblank := ok86 (s.drop (a + n3)) (by rw [List.length_drop]; omega)
    simp -implicitDefEqProofs only [hzt,wsum a n3 (by omega),le_true (by omega : a ≤ a + n3),le_true hsum,lt_true hlt,cellsA_func,isAggF,le_true h2,Nat.le_refl,List.take_length,List.length_map,cut_text,w01,w12,w23,c03,c13,c23,bsE_w,
  evx,evy,ofValue,ofCell,List.range,List.range.loop,Array.size,Nat.reduceAdd,Nat.reduceSub,Nat.reduceEqDiff,List.replicate,if_true,if_false,↓reduceIte,reduceCtorEq,elB,evParts,Int.reduceToNat,Int.reduceLE,Int.reduceLT,Int.reduceEq,Nat.reduceMul,Nat.reduceLeDiff,Nat.reduceLT,ty3,ty4,ty9,ty5,ty88,ty138,ty136,ty135,ty31]
    refine ⟨by omega,?_⟩
    refine callK_ret _ _ _ _ (call_pure (hblank) (fun _ => rfl) (fun _ => rfl)) (ok_nil _ _) ?_
    simp -implicitDefEqProofs only [wsum (a + n3) _ (by omega : a + n3 + blankN (s.drop (a + n3)) < 4611686018427387904),
  evx,evy,ofValue,ofCell,List.range,List.range.loop,Array.size,Nat.reduceAdd,Nat.reduceSub,Nat.reduceEqDiff,List.replicate,if_true,if_false,↓reduceIte,reduceCtorEq,elB,evParts,Int.reduceToNat,Int.reduceLE,Int.reduceLT,Int.reduceEq,Nat.reduceMul,Nat.reduceLeDiff,Nat.reduceLT,ty3,ty4,ty9,ty5,ty88,ty138,ty136,ty135,ty31]
    refine back_intro hst (a + n3 + blankN (s.drop (a + n3)),ws ++ [wordAt s a 3 n3],f) (le_pk [2] rfl (by simp) (by simp) ?_ ?_) ⟨h1,by simp only; omega,by simp only; omega,by simp only [List.length_append,List.length_cons,List.length_nil]; omega⟩ (by simp only; omega)
    ·simp [subBlk,wd_row3,htk]
    ·simp [wk,subAny,subA,mkSub,idx]
  ·have hcl : cutW (s.drop a) = none := by rw [hcut,z1,z2,z3]; rfl
   rw [allG_none hlt hcl] at h1
   subst h1
   simp -implicitDefEqProofs only [allOut,
  evx,evy,ofValue,ofCell,List.range,List.range.loop,Array.size,Nat.reduceAdd,Nat.reduceSub,Nat.reduceEqDiff,List.replicate,if_true,if_false,↓reduceIte,reduceCtorEq,elB,evParts,Int.reduceToNat,Int.reduceLE,Int.reduceLT,Int.reduceEq,Nat.reduceMul,Nat.reduceLeDiff,Nat.reduceLT,ty3,ty4,ty9,ty5,ty88,ty138,ty136,ty135,ty31]
   exact le_flat rfl
 ·obtain ⟨f,rfl⟩ : ∃ f',f = f' + 1 := ⟨f - 1,by omega⟩
  rw [allG_end hlt] at h1
  subst h1
  simp -implicitDefEqProofs only [lt_false hlt,allOut,
  evx,evy,ofValue,ofCell,List.range,List.range.loop,Array.size,Nat.reduceAdd,Nat.reduceSub,Nat.reduceEqDiff,List.replicate,if_true,if_false,↓reduceIte,reduceCtorEq,elB,evParts,Int.reduceToNat,Int.reduceLE,Int.reduceLT,Int.reduceEq,Nat.reduceMul,Nat.reduceLeDiff,Nat.reduceLT,ty3,ty4,ty9,ty5,ty88,ty138,ty136,ty135,ty31]
  exact le_tup3 rfl (by rw [hwl]; omega) (by rw [List.drop_zero,← hwl,List.take_length])
end Go.Abs
/- May a text be a name: the program's answer and the document's. -/
namespace Go.Abs
open Go.Proofs
set_option linter.unusedVariables false
set_option linter.unusedSimpArgs false
set_option maxRecDepth 100000
set_option maxHeartbeats 1000000
theorem eql_str {P : Program} {T : TypeId} {one : Bool} (x y : List UInt8) : binA P .eql T one (.fv (.str x)) (.fv (.str y)) = some (.fv (.bool (x == y))) := rfl
def ixS (l : List Bs) (x : Bs) : Int := if x ∈ l then (l.idxOf x : Int) else -1
theorem ixS_at {l : List Bs} {x : Bs} {i : Nat} (hi : i < l.length) (hno : x ∉ l.take i) (he : l[i] = x) : ixS l x = i := by
 have hm : x ∈ l := he ▸ List.getElem_mem hi
 unfold ixS
 rw [if_pos hm]
 have h1 : l = l.take i ++ l[i] :: l.drop (i + 1) := by rw [← List.drop_eq_getElem_cons hi,List.take_append_drop]
 rw [h1,List.idxOf_append,if_neg hno,he,List.idxOf_cons_self,List.length_take]
 omega
theorem ok99 (l : List Bs) (x : Bs) (hl : l.length ≤ 100000) : Ok Tryz.prog 99 [.fv (.lst 1 (l.map sRow)),.fv (.str x)] [] (.ret (.fv (.int .i64 (ixS l x)))) [] := by
 refine ok_start (k := 17) (n0 := 0) (rs := [.tmp 4]) mix Tryz.func99 rfl rfl rfl rfl rfl rfl rfl ?_
 simp -implicitDefEqProofs only [List.length_map,
  evx,evy,ofValue,ofCell,List.range,List.range.loop,Array.size,Nat.reduceAdd,Nat.reduceSub,Nat.reduceEqDiff,List.replicate,if_true,if_false,↓reduceIte,reduceCtorEq,elB,evParts,Int.reduceToNat,Int.reduceLE,Int.reduceLT,Int.reduceEq,Nat.reduceMul,Nat.reduceLeDiff,Nat.reduceLT,ty3,ty4,ty9,ty5,ty88,ty138,ty31,ty23]
 refine loop_rule (fun i : Nat => ⟨[.fv (.lst 1 (l.map sRow)),.fv (.str x),.any,.any,.any,.any,.any,.fv (.int .i64 l.length),.fv (.int .i64 i),.any,.any,.any,.any,.any,.any,.any,.any,.any,.any],[],[]⟩)
  (fun i => i ≤ l.length ∧ x ∉ l.take i) (fun i => l.length - i) 0 (le_none (by simp [wk]) rfl) (by simp) (fun i hi s hs2 => ?_)
 obtain ⟨hi,hno⟩ := hi
 by_cases hlt : i < l.length
 ·have hr := rows_at sRow l i hlt
  have hat := ixS_at hlt hno
  have htk : l.take (i + 1) = l.take i ++ [l[i]] := by rw [List.take_add_one,List.getElem?_eq_getElem hlt]; rfl
  generalize l[i] = y at hr hat htk
  cases hxy : x == y with
  | true =>
   have e : y = x := (eq_of_beq hxy).symm
   simp -implicitDefEqProofs only [List.length_map,lt_true hlt,hr,sRow,eql_str,hxy,
  evx,evy,ofValue,ofCell,List.range,List.range.loop,Array.size,Nat.reduceAdd,Nat.reduceSub,Nat.reduceEqDiff,List.replicate,if_true,if_false,↓reduceIte,reduceCtorEq,elB,evParts,Int.reduceToNat,Int.reduceLE,Int.reduceLT,Int.reduceEq,Nat.reduceMul,Nat.reduceLeDiff,Nat.reduceLT,ty3,ty4,ty9,ty5,ty88,ty138,ty31,ty23]
   rw [hat e]
   exact le_flat rfl
  | false =>
   simp -implicitDefEqProofs only [List.length_map,lt_true hlt,hr,sRow,eql_str,hxy,wsucc i (by omega),
  evx,evy,ofValue,ofCell,List.range,List.range.loop,Array.size,Nat.reduceAdd,Nat.reduceSub,Nat.reduceEqDiff,List.replicate,if_true,if_false,↓reduceIte,reduceCtorEq,elB,evParts,Int.reduceToNat,Int.reduceLE,Int.reduceLT,Int.reduceEq,Nat.reduceMul,Nat.reduceLeDiff,Nat.reduceLT,ty3,ty4,ty9,ty5,ty88,ty138,ty31,ty23]
   refine back_intro hs2 (i + 1) (le_none ?_ rfl) ⟨by omega,?_⟩ (by omega)
   ·simp [wk]
   ·rw [htk]
    simp only [List.mem_append,List.mem_singleton,not_or]
    exact ⟨hno,by simpa using hxy⟩
 ·obtain rfl : i = l.length := by omega
  rw [List.take_length] at hno
  simp -implicitDefEqProofs only [List.length_map,lt_false hlt,
  evx,evy,ofValue,ofCell,List.range,List.range.loop,Array.size,Nat.reduceAdd,Nat.reduceSub,Nat.reduceEqDiff,List.replicate,if_true,if_false,↓reduceIte,reduceCtorEq,elB,evParts,Int.reduceToNat,Int.reduceLE,Int.reduceLT,Int.reduceEq,Nat.reduceMul,Nat.reduceLeDiff,Nat.reduceLT,ty3,ty4,ty9,ty5,ty88,ty138,ty31,ty23]
  rw [ixS,if_neg hno]
  exact le_flat rfl
theorem ok137 (l : List Bs) (x : Bs) (hl : l.length ≤ 100000) : Ok Tryz.prog 137 [.fv (.lst 1 (l.map sRow)),.fv (.str x)] [] (.ret (.fv (.bool (l.contains x)))) [] := by
 refine ok_start (k := 7) (n0 := 0) (rs := [.tmp 4]) mix Tryz.func137 rfl rfl rfl rfl rfl rfl rfl ?_
 simp -implicitDefEqProofs only [evx,evy,ofValue,ofCell,List.range,List.range.loop,Array.size,Nat.reduceAdd,Nat.reduceSub,Nat.reduceEqDiff,List.replicate,if_true,if_false,↓reduceIte,reduceCtorEq,elB,evParts,Int.reduceToNat,Int.reduceLE,Int.reduceLT,Int.reduceEq,Nat.reduceMul,Nat.reduceLeDiff,Nat.reduceLT,ty3,ty4,ty9,ty5,ty88,ty138,ty31,ty23]
 refine callK_ret _ _ _ _ (call_pure (ok99 l x hl) (fun _ => rfl) (fun _ => rfl)) (ok_nil _ _) ?_
 by_cases h : x ∈ l
 ·have hc : l.contains x = true := by simpa using h
  have h0 : (0 ≤ ixS l x) = True := by unfold ixS; rw [if_pos h]; simp
  simp -implicitDefEqProofs only [h0,hc,
  evx,evy,ofValue,ofCell,List.range,List.range.loop,Array.size,Nat.reduceAdd,Nat.reduceSub,Nat.reduceEqDiff,List.replicate,if_true,if_false,↓reduceIte,reduceCtorEq,elB,evParts,Int.reduceToNat,Int.reduceLE,Int.reduceLT,Int.reduceEq,Nat.reduceMul,Nat.reduceLeDiff,Nat.reduceLT,ty3,ty4,ty9,ty5,ty88,ty138,ty31,ty23]
  exact le_flat rfl
 ·have hc : l.contains x = false := by simpa using h
  have h0 : (0 ≤ ixS l x) = False := by unfold ixS; rw [if_neg h]; simp
  simp -implicitDefEqProofs only [h0,hc,
  evx,evy,ofValue,ofCell,List.range,List.range.loop,Array.size,Nat.reduceAdd,Nat.reduceSub,Nat.reduceEqDiff,List.replicate,if_true,if_false,↓reduceIte,reduceCtorEq,elB,evParts,Int.reduceToNat,Int.reduceLE,Int.reduceLT,Int.reduceEq,Nat.reduceMul,Nat.reduceLeDiff,Nat.reduceLT,ty3,ty4,ty9,ty5,ty88,ty138,ty31,ty23]
  exact le_flat rfl
theorem ok122 (s : Bs) : Ok Tryz.prog 122 [.fv (.str s)] [] (.ret (.fv (.bool (resB s)))) [] := by
 refine ok_start (k := 24) (n0 := 0) (rs := [.tmp 2]) mix Tryz.func122 rfl rfl rfl rfl rfl rfl rfl ?_
 have hr : resB s = (s == [116,111,107,101,110] || s == [115,107,105,112] || s == [108,101,102,116] || s == [114,105,103,104,116] || s == [110,111,110,101] || s == [115,116,97,114,116]) := by
  simp only [resB,reserved,List.contains_cons,List.contains_nil,Bool.or_false,Bool.or_assoc]
 rw [hr]
 cases h1 : s == [116,111,107,101,110] with
 | true =>
  simp -implicitDefEqProofs only [eql_str,h1,
  evx,evy,ofValue,ofCell,List.range,List.range.loop,Array.size,Nat.reduceAdd,Nat.reduceSub,Nat.reduceEqDiff,List.replicate,if_true,if_false,↓reduceIte,reduceCtorEq,elB,evParts,Int.reduceToNat,Int.reduceLE,Int.reduceLT,Int.reduceEq,Nat.reduceMul,Nat.reduceLeDiff,Nat.reduceLT,ty3,ty4,ty9,ty5,ty88,ty138,ty31,ty23]
  exact le_flat rfl
 | false =>
 cases h2 : s == [115,107,105,112] with
 | true =>
  simp -implicitDefEqProofs only [eql_str,h1,h2,
  evx,evy,ofValue,ofCell,List.range,List.range.loop,Array.size,Nat.reduceAdd,Nat.reduceSub,Nat.reduceEqDiff,List.replicate,if_true,if_false,↓reduceIte,reduceCtorEq,elB,evParts,Int.reduceToNat,Int.reduceLE,Int.reduceLT,Int.reduceEq,Nat.reduceMul,Nat.reduceLeDiff,Nat.reduceLT,ty3,ty4,ty9,ty5,ty88,ty138,ty31,ty23]
  exact le_flat rfl
 | false =>
 cases h3 : s == [108,101,102,116] with
 | true =>
  simp -implicitDefEqProofs only [eql_str,h1,h2,h3,
  evx,evy,ofValue,ofCell,List.range,List.range.loop,Array.size,Nat.reduceAdd,Nat.reduceSub,Nat.reduceEqDiff,List.replicate,if_true,if_false,↓reduceIte,reduceCtorEq,elB,evParts,Int.reduceToNat,Int.reduceLE,Int.reduceLT,Int.reduceEq,Nat.reduceMul,Nat.reduceLeDiff,Nat.reduceLT,ty3,ty4,ty9,ty5,ty88,ty138,ty31,ty23]
  exact le_flat rfl
 | false =>
 cases h4 : s == [114,105,103,104,116] with
 | true =>
  simp -implicitDefEqProofs only [eql_str,h1,h2,h3,h4,
  evx,evy,ofValue,ofCell,List.range,List.range.loop,Array.size,Nat.reduceAdd,Nat.reduceSub,Nat.reduceEqDiff,List.replicate,if_true,if_false,↓reduceIte,reduceCtorEq,elB,evParts,Int.reduceToNat,Int.reduceLE,Int.reduceLT,Int.reduceEq,Nat.reduceMul,Nat.reduceLeDiff,Nat.reduceLT,ty3,ty4,ty9,ty5,ty88,ty138,ty31,ty23]
  exact le_flat rfl
 | false =>
 cases h5 : s == [110,111,110,101] with
 | true =>
  simp -implicitDefEqProofs only [eql_str,h1,h2,h3,h4,h5,
  evx,evy,ofValue,ofCell,List.range,List.range.loop,Array.size,Nat.reduceAdd,Nat.reduceSub,Nat.reduceEqDiff,List.replicate,if_true,if_false,↓reduceIte,reduceCtorEq,elB,evParts,Int.reduceToNat,Int.reduceLE,Int.reduceLT,Int.reduceEq,Nat.reduceMul,Nat.reduceLeDiff,Nat.reduceLT,ty3,ty4,ty9,ty5,ty88,ty138,ty31,ty23]
  exact le_flat rfl
 | false =>
  simp -implicitDefEqProofs only [eql_str,h1,h2,h3,h4,h5,
  evx,evy,ofValue,ofCell,List.range,List.range.loop,Array.size,Nat.reduceAdd,Nat.reduceSub,Nat.reduceEqDiff,List.replicate,if_true,if_false,↓reduceIte,reduceCtorEq,elB,evParts,Int.reduceToNat,Int.reduceLE,Int.reduceLT,Int.reduceEq,Nat.reduceMul,Nat.reduceLeDiff,Nat.reduceLT,ty3,ty4,ty9,ty5,ty88,ty138,ty31,ty23]
  exact le_flat rfl
theorem bsE_6 (b : Nat) (dd : TypeDesc) (zz x1 x2 x3 x4 x5 x6 : FV) (h : List Blk) : bsE (some ⟨dd,1,b,some [zz]⟩) 6 h (some [(0,.fv x1),(1,.fv x2),(2,.fv x3),(3,.fv x4),(4,.fv x5),(5,.fv x6)]) = some (.ref h.length 1 0 6,h ++ [.plain 1 [[x1],[x2],[x3],[x4],[x5],[x6]]],[]) :=
 bsE_ones b dd zz 6 h [x1,x2,x3,x4,x5,x6] _ rfl (by omega) rfl
theorem ok136 (s : Bs) (hs : s.length ≤ 4000) : Ok Tryz.prog 136 [.fv (.str s)] [] (.ret (.fv (.bool (namedB s)))) [] := by
 rw [named_iff s hs]
 refine ok_start (k := 36) (n0 := 0) (rs := [.tmp 2]) mix Tryz.func136 rfl rfl rfl rfl rfl rfl rfl ?_
 simp -implicitDefEqProofs only [bsE_6,
  evx,evy,ofValue,ofCell,List.range,List.range.loop,Array.size,Nat.reduceAdd,Nat.reduceSub,Nat.reduceEqDiff,List.replicate,if_true,if_false,↓reduceIte,reduceCtorEq,elB,evParts,Int.reduceToNat,Int.reduceLE,Int.reduceLT,Int.reduceEq,Nat.reduceMul,Nat.reduceLeDiff,Nat.reduceLT,ty3,ty4,ty9,ty5,ty88,ty138,ty31,ty23]
 refine callK_ret _ _ _ _ (call_deep (ok137 reserved s (by decide)) rfl rfl) (ok_nil _ _) ?_
 have hres : resB s = reserved.contains s := rfl
 rw [← hres]
 cases hr : resB s with
 | true =>
  simp -implicitDefEqProofs only [evx,evy,ofValue,ofCell,List.range,List.range.loop,Array.size,Nat.reduceAdd,Nat.reduceSub,Nat.reduceEqDiff,List.replicate,if_true,if_false,↓reduceIte,reduceCtorEq,elB,evParts,Int.reduceToNat,Int.reduceLE,Int.reduceLT,Int.reduceEq,Nat.reduceMul,Nat.reduceLeDiff,Nat.reduceLT,ty3,ty4,ty9,ty5,ty88,ty138,ty31,ty23]
  exact le_flat rfl
 | false =>
  have hall := ok60 s hs
  generalize allW s = ww at hall
  obtain ⟨o,a⟩ := ww
  cases o with
  | none =>
   simp only [allOut] at hall
   simp -implicitDefEqProofs only [evx,evy,ofValue,ofCell,List.range,List.range.loop,Array.size,Nat.reduceAdd,Nat.reduceSub,Nat.reduceEqDiff,List.replicate,if_true,if_false,↓reduceIte,reduceCtorEq,elB,evParts,Int.reduceToNat,Int.reduceLE,Int.reduceLT,Int.reduceEq,Nat.reduceMul,Nat.reduceLeDiff,Nat.reduceLT,ty3,ty4,ty9,ty5,ty88,ty138,ty31,ty23]
   refine callK_ret _ _ _ _ (call_pure (hall) (fun _ => rfl) (fun _ => rfl)) (ok_nil _ _) ?_
   simp -implicitDefEqProofs only [evx,evy,ofValue,ofCell,List.range,List.range.loop,Array.size,Nat.reduceAdd,Nat.reduceSub,Nat.reduceEqDiff,List.replicate,if_true,if_false,↓reduceIte,reduceCtorEq,elB,evParts,Int.reduceToNat,Int.reduceLE,Int.reduceLT,Int.reduceEq,Nat.reduceMul,Nat.reduceLeDiff,Nat.reduceLT,ty3,ty4,ty9,ty5,ty88,ty138,ty31,ty23]
   exact le_flat rfl
  | some ws =>
   simp only [allOut] at hall
   match ws,hall with
   | [],hall =>
    simp -implicitDefEqProofs only [evx,evy,ofValue,ofCell,List.range,List.range.loop,Array.size,Nat.reduceAdd,Nat.reduceSub,Nat.reduceEqDiff,List.replicate,if_true,if_false,↓reduceIte,reduceCtorEq,elB,evParts,Int.reduceToNat,Int.reduceLE,Int.reduceLT,Int.reduceEq,Nat.reduceMul,Nat.reduceLeDiff,Nat.reduceLT,ty3,ty4,ty9,ty5,ty88,ty138,ty31,ty23]
    refine callK_ret _ _ _ _ (call_pure (hall) (fun _ => rfl) (fun _ => rfl)) (ok_nil _ _) ?_
    simp -implicitDefEqProofs only [List.map_nil,List.length_nil,Int.natCast_zero,Int.reduceEq,
  evx,evy,ofValue,ofCell,List.range,List.range.loop,Array.size,Nat.reduceAdd,Nat.reduceSub,Nat.reduceEqDiff,List.replicate,if_true,if_false,↓reduceIte,reduceCtorEq,elB,evParts,Int.reduceToNat,Int.reduceLE,Int.reduceLT,Int.reduceEq,Nat.reduceMul,Nat.reduceLeDiff,Nat.reduceLT,ty3,ty4,ty9,ty5,ty88,ty138,ty31,ty23]
    exact le_flat rfl
   | [w],hall =>
    by_cases hk : w.kind = 1
    ·have hkt : (w.kind = 1) = True := by simpa using hk
     have hke : decide (w.kind = 1) = true := by simpa using hk
     cases ht : w.text == s with
     | true =>
      have hte : decide (w.text = s) = true := by simpa using ht
      simp -implicitDefEqProofs only [evx,evy,ofValue,ofCell,List.range,List.range.loop,Array.size,Nat.reduceAdd,Nat.reduceSub,Nat.reduceEqDiff,List.replicate,if_true,if_false,↓reduceIte,reduceCtorEq,elB,evParts,Int.reduceToNat,Int.reduceLE,Int.reduceLT,Int.reduceEq,Nat.reduceMul,Nat.reduceLeDiff,Nat.reduceLT,ty3,ty4,ty9,ty5,ty88,ty138,ty31,ty23]
      refine callK_ret _ _ _ _ (call_pure (hall) (fun _ => rfl) (fun _ => rfl)) (ok_nil _ _) ?_
      simp -implicitDefEqProofs only [Wd.row,hkt,eql_str,ht,
  evx,evy,ofValue,ofCell,List.range,List.range.loop,Array.size,Nat.reduceAdd,Nat.reduceSub,Nat.reduceEqDiff,List.replicate,if_true,if_false,↓reduceIte,reduceCtorEq,elB,evParts,Int.reduceToNat,Int.reduceLE,Int.reduceLT,Int.reduceEq,Nat.reduceMul,Nat.reduceLeDiff,Nat.reduceLT,ty3,ty4,ty9,ty5,ty88,ty138,ty31,ty23]
      simp only [hke,hte]
      exact le_flat rfl
     | false =>
      have hte : decide (w.text = s) = false := by simpa using ht
      simp -implicitDefEqProofs only [evx,evy,ofValue,ofCell,List.range,List.range.loop,Array.size,Nat.reduceAdd,Nat.reduceSub,Nat.reduceEqDiff,List.replicate,if_true,if_false,↓reduceIte,reduceCtorEq,elB,evParts,Int.reduceToNat,Int.reduceLE,Int.reduceLT,Int.reduceEq,Nat.reduceMul,Nat.reduceLeDiff,Nat.reduceLT,ty3,ty4,ty9,ty5,ty88,ty138,ty31,ty23]
      refine callK_ret _ _ _ _ (call_pure (hall) (fun _ => rfl) (fun _ => rfl)) (ok_nil _ _) ?_
      simp -implicitDefEqProofs only [Wd.row,hkt,eql_str,ht,
  evx,evy,ofValue,ofCell,List.range,List.range.loop,Array.size,Nat.reduceAdd,Nat.reduceSub,Nat.reduceEqDiff,List.replicate,if_true,if_false,↓reduceIte,reduceCtorEq,elB,evParts,Int.reduceToNat,Int.reduceLE,Int.reduceLT,Int.reduceEq,Nat.reduceMul,Nat.reduceLeDiff,Nat.reduceLT,ty3,ty4,ty9,ty5,ty88,ty138,ty31,ty23]
      simp only [hke,hte]
      exact le_flat rfl
    ·have hkt : (w.kind = 1) = False := by simpa using hk
     have hke : decide (w.kind = 1) = false := by simpa using hk
     simp -implicitDefEqProofs only [evx,evy,ofValue,ofCell,List.range,List.range.loop,Array.size,Nat.reduceAdd,Nat.reduceSub,Nat.reduceEqDiff,List.replicate,if_true,if_false,↓reduceIte,reduceCtorEq,elB,evParts,Int.reduceToNat,Int.reduceLE,Int.reduceLT,Int.reduceEq,Nat.reduceMul,Nat.reduceLeDiff,Nat.reduceLT,ty3,ty4,ty9,ty5,ty88,ty138,ty31,ty23]
     refine callK_ret _ _ _ _ (call_pure (hall) (fun _ => rfl) (fun _ => rfl)) (ok_nil _ _) ?_
     simp -implicitDefEqProofs only [Wd.row,hkt,
  evx,evy,ofValue,ofCell,List.range,List.range.loop,Array.size,Nat.reduceAdd,Nat.reduceSub,Nat.reduceEqDiff,List.replicate,if_true,if_false,↓reduceIte,reduceCtorEq,elB,evParts,Int.reduceToNat,Int.reduceLE,Int.reduceLT,Int.reduceEq,Nat.reduceMul,Nat.reduceLeDiff,Nat.reduceLT,ty3,ty4,ty9,ty5,ty88,ty138,ty31,ty23]
     try simp only [hke]
     exact le_flat rfl
   | w :: w2 :: r,hall =>
    have hl2 : (((List.map Wd.row (w :: w2 :: r)).length : Int) = 1) = False := by simp; omega
    simp -implicitDefEqProofs only [evx,evy,ofValue,ofCell,List.range,List.range.loop,Array.size,Nat.reduceAdd,Nat.reduceSub,Nat.reduceEqDiff,List.replicate,if_true,if_false,↓reduceIte,reduceCtorEq,elB,evParts,Int.reduceToNat,Int.reduceLE,Int.reduceLT,Int.reduceEq,Nat.reduceMul,Nat.reduceLeDiff,Nat.reduceLT,ty3,ty4,ty9,ty5,ty88,ty138,ty31,ty23]
    refine callK_ret _ _ _ _ (call_pure (hall) (fun _ => rfl) (fun _ => rfl)) (ok_nil _ _) ?_
    simp -implicitDefEqProofs only [hl2,
  evx,evy,ofValue,ofCell,List.range,List.range.loop,Array.size,Nat.reduceAdd,Nat.reduceSub,Nat.reduceEqDiff,List.replicate,if_true,if_false,↓reduceIte,reduceCtorEq,elB,evParts,Int.reduceToNat,Int.reduceLE,Int.reduceLT,Int.reduceEq,Nat.reduceMul,Nat.reduceLeDiff,Nat.reduceLT,ty3,ty4,ty9,ty5,ty88,ty138,ty31,ty23]
    exact le_flat rfl
theorem named_bad {s : Bs} {i : Nat} (hi : i < s.length) (hl : letterB s[i] = false) (hd : i = 0 ∨ digitB s[i] = false) : namedB s = false := by
 cases s with
 | nil => simp at hi
 | cons c r =>
  have hm : (letterB c && r.all fun c => letterB c || digitB c) = false := by
   cases i with
   | zero => simp at hl; simp [hl]
   | succ i =>
    rcases hd with hd | hd
    ·omega
    ·have hm : (r.all fun c => letterB c || digitB c) = false := by
      rw [List.all_eq_false]
      refine ⟨r[i]'(by simpa using hi),List.getElem_mem _,?_⟩
      simp at hl hd
      simp [hl,hd]
     rw [hm,Bool.and_false]
  unfold namedB
  simp only [hm,Bool.and_false]
theorem named_good {s : Bs} (h1 : 1 ≤ s.length) (h2 : s.length ≤ 16) (h3 : resB s = false) (h : ∀ k (hk : k < s.length),letterB s[k] = true ∨ (0 < k ∧ digitB s[k] = true)) : namedB s = true := by
 unfold namedB
 rw [h3]
 simp only [Bool.and_eq_true,decide_eq_true_eq,Bool.not_false]
 refine ⟨⟨⟨h1,h2⟩,trivial⟩,?_⟩
 cases s with
 | nil => simp at h1
 | cons c r =>
  simp only [Bool.and_eq_true]
  refine ⟨?_,?_⟩
  ·rcases h 0 (by simp) with h | h
   ·simpa using h
   ·omega
  ·rw [List.all_eq_true]
   intro d hd
   obtain ⟨k,hk,rfl⟩ := List.getElem_of_mem hd
   rcases h (k + 1) (by simpa using hk) with h | h
   ·simp at h; simp [h]
   ·have := h.2; simp at this; simp [this]
theorem ok104 (s : Bs) (hs : s.length ≤ 4000) : Ok Tryz.prog 104 [.fv (.str s)] [] (.ret (.fv (.bool (namedB s)))) [] := by
 refine ok_start (k := 45) (n0 := 0) (rs := [.tmp 2]) mix Tryz.func104 rfl rfl rfl rfl rfl rfl rfl ?_
 have hor : namedB s = true → 1 ≤ s.length ∧ s.length ≤ 16 ∧ resB s = false := fun h => by
  unfold namedB at h
  simp only [Bool.and_eq_true,decide_eq_true_eq,Bool.not_eq_true'] at h
  exact ⟨h.1.1.1,h.1.1.2,h.1.2⟩
 have hno : ¬ (1 ≤ s.length ∧ s.length ≤ 16 ∧ resB s = false) → namedB s = false := fun h => by
  cases hx : namedB s with
  | true => exact absurd (hor hx) h
  | false => rfl
 by_cases h1 : (s.length : Int) < 1
 ·have h1t : ((s.length : Int) < 1) = True := by simpa using h1
  simp -implicitDefEqProofs only [h1t,
  evx,evy,ofValue,ofCell,List.range,List.range.loop,Array.size,Nat.reduceAdd,Nat.reduceSub,Nat.reduceEqDiff,List.replicate,if_true,if_false,↓reduceIte,reduceCtorEq,elB,evParts,Int.reduceToNat,Int.reduceLE,Int.reduceLT,Int.reduceEq,Nat.reduceMul,Nat.reduceLeDiff,Nat.reduceLT,ty3,ty4,ty9,ty5,ty88,ty138,ty31,ty23]
  rw [hno (by omega)]
  exact le_flat rfl
 have h1t : ((s.length : Int) < 1) = False := by simpa using h1
 by_cases h2 : (16 : Int) < (s.length : Int)
 ·simp -implicitDefEqProofs only [h1t,lit_true h2,
  evx,evy,ofValue,ofCell,List.range,List.range.loop,Array.size,Nat.reduceAdd,Nat.reduceSub,Nat.reduceEqDiff,List.replicate,if_true,if_false,↓reduceIte,reduceCtorEq,elB,evParts,Int.reduceToNat,Int.reduceLE,Int.reduceLT,Int.reduceEq,Nat.reduceMul,Nat.reduceLeDiff,Nat.reduceLT,ty3,ty4,ty9,ty5,ty88,ty138,ty31,ty23]
  rw [hno (by omega)]
  exact le_flat rfl
 have hres := ok122 s
 cases h3 : resB s with
 | true =>
  rw [h3] at hres
  simp -implicitDefEqProofs only [h1t,lit_false h2,
  evx,evy,ofValue,ofCell,List.range,List.range.loop,Array.size,Nat.reduceAdd,Nat.reduceSub,Nat.reduceEqDiff,List.replicate,if_true,if_false,↓reduceIte,reduceCtorEq,elB,evParts,Int.reduceToNat,Int.reduceLE,Int.reduceLT,Int.reduceEq,Nat.reduceMul,Nat.reduceLeDiff,Nat.reduceLT,ty3,ty4,ty9,ty5,ty88,ty138,ty31,ty23]
  refine callK_ret _ _ _ _ (call_pure (hres) (fun _ => rfl) (fun _ => rfl)) (ok_nil _ _) ?_
  simp -implicitDefEqProofs only [evx,evy,ofValue,ofCell,List.range,List.range.loop,Array.size,Nat.reduceAdd,Nat.reduceSub,Nat.reduceEqDiff,List.replicate,if_true,if_false,↓reduceIte,reduceCtorEq,elB,evParts,Int.reduceToNat,Int.reduceLE,Int.reduceLT,Int.reduceEq,Nat.reduceMul,Nat.reduceLeDiff,Nat.reduceLT,ty3,ty4,ty9,ty5,ty88,ty138,ty31,ty23]
  rw [hno (by simp [h3])]
  exact le_flat rfl
 | false =>
  rw [h3] at hres
  simp -implicitDefEqProofs only [h1t,lit_false h2,
  evx,evy,ofValue,ofCell,List.range,List.range.loop,Array.size,Nat.reduceAdd,Nat.reduceSub,Nat.reduceEqDiff,List.replicate,if_true,if_false,↓reduceIte,reduceCtorEq,elB,evParts,Int.reduceToNat,Int.reduceLE,Int.reduceLT,Int.reduceEq,Nat.reduceMul,Nat.reduceLeDiff,Nat.reduceLT,ty3,ty4,ty9,ty5,ty88,ty138,ty31,ty23]
  refine callK_ret _ _ _ _ (call_pure (hres) (fun _ => rfl) (fun _ => rfl)) (ok_nil _ _) ?_
  simp -implicitDefEqProofs only [evx,evy,ofValue,ofCell,List.range,List.range.loop,Array.size,Nat.reduceAdd,Nat.reduceSub,Nat.reduceEqDiff,List.replicate,if_true,if_false,↓reduceIte,reduceCtorEq,elB,evParts,Int.reduceToNat,Int.reduceLE,Int.reduceLT,Int.reduceEq,Nat.reduceMul,Nat.reduceLeDiff,Nat.reduceLT,ty3,ty4,ty9,ty5,ty88,ty138,ty31,ty23]
  refine loop_rule (fun n : Nat => ⟨[.fv (.str s),.any,.any,.fv (.int .i64 n),.any,.any,.any,.any,.any,.any,.any,.any,.any,.any,.any,.any,.any,.any,.any,.any,.any,.any,.any,.any,.any,.any,.any,.any,.any,.any,.any,.any,.any,.any,.any,.any,.any,.any,.any,.any,.any,.any,.any,.any,.any,.any],[],[]⟩)
   (fun n => n ≤ s.length ∧ ∀ k (hk : k < s.length),k < n → letterB s[k] = true ∨ (0 < k ∧ digitB s[k] = true)) (fun n => s.length - n) 0 (le_wk (by simp [wk])) ⟨by omega,fun k _ h => by omega⟩ (fun n hn st hst => ?_)
  obtain ⟨hn,hb⟩ := hn
  by_cases hlt : n < s.length
  ·have hix := idx_str hlt
   have hbad := @named_bad s n hlt
   have hnext : (letterB s[n] = true ∨ (0 < n ∧ digitB s[n] = true)) → ∀ k (hk : k < s.length),k < n + 1 → letterB s[k] = true ∨ (0 < k ∧ digitB s[k] = true) := fun h k hk hlt2 => by
    by_cases e : k = n
    ·subst e; exact h
    ·exact hb k hk (by omega)
   have hlet := ok123 s[n]
   generalize s[n] = c at hix hbad hnext hlet
   have hdig : digitB c = (decide (48 ≤ c.toNat) && decide (c.toNat ≤ 57)) := rfl
   by_cases g1 : 48 ≤ c.toNat
   ·have g1t : ((48 : Int) ≤ (c.toNat : Int)) = True := by simpa using (by omega : (48 : Int) ≤ (c.toNat : Int))
    by_cases g2 : c.toNat ≤ 57
    ·have g2t : ((c.toNat : Int) ≤ 57) = True := by simpa using (by omega : (c.toNat : Int) ≤ 57)
     simp -implicitDefEqProofs only [lt_true hlt,hix,g1t,g2t,
  evx,evy,ofValue,ofCell,List.range,List.range.loop,Array.size,Nat.reduceAdd,Nat.reduceSub,Nat.reduceEqDiff,List.replicate,if_true,if_false,↓reduceIte,reduceCtorEq,elB,evParts,Int.reduceToNat,Int.reduceLE,Int.reduceLT,Int.reduceEq,Nat.reduceMul,Nat.reduceLeDiff,Nat.reduceLT,ty3,ty4,ty9,ty5,ty88,ty138,ty31,ty23]
     refine callK_ret _ _ _ _ (call_pure (hlet) (fun _ => rfl) (fun _ => rfl)) (ok_nil _ _) ?_
     cases hl : letterB c with
     | true =>
      simp -implicitDefEqProofs only [wsucc n (by omega),
  evx,evy,ofValue,ofCell,List.range,List.range.loop,Array.size,Nat.reduceAdd,Nat.reduceSub,Nat.reduceEqDiff,List.replicate,if_true,if_false,↓reduceIte,reduceCtorEq,elB,evParts,Int.reduceToNat,Int.reduceLE,Int.reduceLT,Int.reduceEq,Nat.reduceMul,Nat.reduceLeDiff,Nat.reduceLT,ty3,ty4,ty9,ty5,ty88,ty138,ty31,ty23]
      exact back_intro hst (n + 1) (le_wk (by simp [wk])) ⟨by omega,hnext (.inl hl)⟩ (by omega)
     | false =>
      by_cases h0 : n = 0
      ·have h0t : ((n : Int) = 0) = True := by simpa using h0
       simp -implicitDefEqProofs only [h0t,
  evx,evy,ofValue,ofCell,List.range,List.range.loop,Array.size,Nat.reduceAdd,Nat.reduceSub,Nat.reduceEqDiff,List.replicate,if_true,if_false,↓reduceIte,reduceCtorEq,elB,evParts,Int.reduceToNat,Int.reduceLE,Int.reduceLT,Int.reduceEq,Nat.reduceMul,Nat.reduceLeDiff,Nat.reduceLT,ty3,ty4,ty9,ty5,ty88,ty138,ty31,ty23]
       rw [hbad hl (.inl h0)]
       exact le_flat rfl
      ·have h0t : ((n : Int) = 0) = False := by simpa using h0
       simp -implicitDefEqProofs only [h0t,wsucc n (by omega),
  evx,evy,ofValue,ofCell,List.range,List.range.loop,Array.size,Nat.reduceAdd,Nat.reduceSub,Nat.reduceEqDiff,List.replicate,if_true,if_false,↓reduceIte,reduceCtorEq,elB,evParts,Int.reduceToNat,Int.reduceLE,Int.reduceLT,Int.reduceEq,Nat.reduceMul,Nat.reduceLeDiff,Nat.reduceLT,ty3,ty4,ty9,ty5,ty88,ty138,ty31,ty23]
       exact back_intro hst (n + 1) (le_wk (by simp [wk])) ⟨by omega,hnext (.inr ⟨by omega,by rw [hdig]; simp [g1,g2]⟩)⟩ (by omega)
    ·have g2t : ((c.toNat : Int) ≤ 57) = False := by simpa using (by omega : ¬ (c.toNat : Int) ≤ 57)
     simp -implicitDefEqProofs only [lt_true hlt,hix,g1t,g2t,
  evx,evy,ofValue,ofCell,List.range,List.range.loop,Array.size,Nat.reduceAdd,Nat.reduceSub,Nat.reduceEqDiff,List.replicate,if_true,if_false,↓reduceIte,reduceCtorEq,elB,evParts,Int.reduceToNat,Int.reduceLE,Int.reduceLT,Int.reduceEq,Nat.reduceMul,Nat.reduceLeDiff,Nat.reduceLT,ty3,ty4,ty9,ty5,ty88,ty138,ty31,ty23]
     refine callK_ret _ _ _ _ (call_pure (hlet) (fun _ => rfl) (fun _ => rfl)) (ok_nil _ _) ?_
     cases hl : letterB c with
     | true =>
      simp -implicitDefEqProofs only [wsucc n (by omega),
  evx,evy,ofValue,ofCell,List.range,List.range.loop,Array.size,Nat.reduceAdd,Nat.reduceSub,Nat.reduceEqDiff,List.replicate,if_true,if_false,↓reduceIte,reduceCtorEq,elB,evParts,Int.reduceToNat,Int.reduceLE,Int.reduceLT,Int.reduceEq,Nat.reduceMul,Nat.reduceLeDiff,Nat.reduceLT,ty3,ty4,ty9,ty5,ty88,ty138,ty31,ty23]
      exact back_intro hst (n + 1) (le_wk (by simp [wk])) ⟨by omega,hnext (.inl hl)⟩ (by omega)
     | false =>
      have hbd := hbad hl (.inr (by rw [hdig]; simp [g2]))
      by_cases h0 : n = 0
      ·have h0t : ((n : Int) = 0) = True := by simpa using h0
       simp -implicitDefEqProofs only [h0t,
  evx,evy,ofValue,ofCell,List.range,List.range.loop,Array.size,Nat.reduceAdd,Nat.reduceSub,Nat.reduceEqDiff,List.replicate,if_true,if_false,↓reduceIte,reduceCtorEq,elB,evParts,Int.reduceToNat,Int.reduceLE,Int.reduceLT,Int.reduceEq,Nat.reduceMul,Nat.reduceLeDiff,Nat.reduceLT,ty3,ty4,ty9,ty5,ty88,ty138,ty31,ty23]
       rw [hbd]
       exact le_flat rfl
      ·have h0t : ((n : Int) = 0) = False := by simpa using h0
       simp -implicitDefEqProofs only [h0t,
  evx,evy,ofValue,ofCell,List.range,List.range.loop,Array.size,Nat.reduceAdd,Nat.reduceSub,Nat.reduceEqDiff,List.replicate,if_true,if_false,↓reduceIte,reduceCtorEq,elB,evParts,Int.reduceToNat,Int.reduceLE,Int.reduceLT,Int.reduceEq,Nat.reduceMul,Nat.reduceLeDiff,Nat.reduceLT,ty3,ty4,ty9,ty5,ty88,ty138,ty31,ty23]
       rw [hbd]
       exact le_flat rfl
   ·have g1t : ((48 : Int) ≤ (c.toNat : Int)) = False := by simpa using (by omega : ¬ (48 : Int) ≤ (c.toNat : Int))
    simp -implicitDefEqProofs only [lt_true hlt,hix,g1t,
  evx,evy,ofValue,ofCell,List.range,List.range.loop,Array.size,Nat.reduceAdd,Nat.reduceSub,Nat.reduceEqDiff,List.replicate,if_true,if_false,↓reduceIte,reduceCtorEq,elB,evParts,Int.reduceToNat,Int.reduceLE,Int.reduceLT,Int.reduceEq,Nat.reduceMul,Nat.reduceLeDiff,Nat.reduceLT,ty3,ty4,ty9,ty5,ty88,ty138,ty31,ty23]
    refine callK_ret _ _ _ _ (call_pure (hlet) (fun _ => rfl) (fun _ => rfl)) (ok_nil _ _) ?_
    cases hl : letterB c with
    | true =>
     simp -implicitDefEqProofs only [wsucc n (by omega),
  evx,evy,ofValue,ofCell,List.range,List.range.loop,Array.size,Nat.reduceAdd,Nat.reduceSub,Nat.reduceEqDiff,List.replicate,if_true,if_false,↓reduceIte,reduceCtorEq,elB,evParts,Int.reduceToNat,Int.reduceLE,Int.reduceLT,Int.reduceEq,Nat.reduceMul,Nat.reduceLeDiff,Nat.reduceLT,ty3,ty4,ty9,ty5,ty88,ty138,ty31,ty23]
     exact back_intro hst (n + 1) (le_wk (by simp [wk])) ⟨by omega,hnext (.inl hl)⟩ (by omega)
    | false =>
     have hbd := hbad hl (.inr (by rw [hdig]; simp [g1]))
     by_cases h0 : n = 0
     ·have h0t : ((n : Int) = 0) = True := by simpa using h0
      simp -implicitDefEqProofs only [h0t,
  evx,evy,ofValue,ofCell,List.range,List.range.loop,Array.size,Nat.reduceAdd,Nat.reduceSub,Nat.reduceEqDiff,List.replicate,if_true,if_false,↓reduceIte,reduceCtorEq,elB,evParts,Int.reduceToNat,Int.reduceLE,Int.reduceLT,Int.reduceEq,Nat.reduceMul,Nat.reduceLeDiff,Nat.reduceLT,ty3,ty4,ty9,ty5,ty88,ty138,ty31,ty23]
      rw [hbd]
      exact le_flat rfl
     ·have h0t : ((n : Int) = 0) = False := by simpa using h0
      simp -implicitDefEqProofs only [h0t,
  evx,evy,ofValue,ofCell,List.range,List.range.loop,Array.size,Nat.reduceAdd,Nat.reduceSub,Nat.reduceEqDiff,List.replicate,if_true,if_false,↓reduceIte,reduceCtorEq,elB,evParts,Int.reduceToNat,Int.reduceLE,Int.reduceLT,Int.reduceEq,Nat.reduceMul,Nat.reduceLeDiff,Nat.reduceLT,ty3,ty4,ty9,ty5,ty88,ty138,ty31,ty23]
      rw [hbd]
      exact le_flat rfl
  ·obtain rfl : n = s.length := by omega
   simp -implicitDefEqProofs only [lt_false hlt,
  evx,evy,ofValue,ofCell,List.range,List.range.loop,Array.size,Nat.reduceAdd,Nat.reduceSub,Nat.reduceEqDiff,List.replicate,if_true,if_false,↓reduceIte,reduceCtorEq,elB,evParts,Int.reduceToNat,Int.reduceLE,Int.reduceLT,Int.reduceEq,Nat.reduceMul,Nat.reduceLeDiff,Nat.reduceLT,ty3,ty4,ty9,ty5,ty88,ty138,ty31,ty23]
   rw [named_good (by omega) (by omega) h3 fun k hk => hb k hk hk]
   exact le_flat rfl
end Go.Abs
