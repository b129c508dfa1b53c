/- Does a rule fit the empty text: the program's answer. -/
import Derived.Test.YtmnbljfbdiodbaaTyTrys
import Derived.Test.YtmnbljfbdiodbaaDrTrys
import Derived.Test.YtmnbljfbdiodbaaAbsZ
import Derived.Test.YtmnbljfbdiodbaaCkEs
namespace Go.Abs
open Go.Proofs
set_option linter.unusedVariables false
set_option linter.unusedSimpArgs false
set_option maxRecDepth 100000
set_option maxHeartbeats 4000000
def bRow (b : Bool) : List FV := [.bool b]
/-- One cell, over what the operands ahead of it do; the last one stands last. -/
def stepS (op : Int) (st : List Bool) : List Bool :=
 if op = 1 then st ++ [false] else if op = 2 then st ++ [true] else if op = 5 ∨ op = 7 then st.set (st.length - 1) true
 else if op = 3 then st.take (st.length - 2) ++ [st.getD (st.length - 2) false && st.getD (st.length - 1) false]
 else if op = 4 then st.take (st.length - 2) ++ [st.getD (st.length - 2) false || st.getD (st.length - 1) false] else st
def evalS : List Cel → List Bool → List Bool
 | [],st => st
 | c :: r,st => evalS r (stepS c.op st)
def nullB (l : List Cel) : Bool := rightB l && (evalS l []).getD 0 false
theorem op_cases {op : Int} (h0 : 0 ≤ wantsI op) : op = 1 ∨ op = 2 ∨ op = 3 ∨ op = 4 ∨ op = 5 ∨ op = 6 ∨ op = 7 := by
 apply Classical.byContradiction
 intro hc
 have : wantsI op = -1 := by unfold wantsI; rw [if_neg (by omega),if_neg (by omega),if_neg (by omega)]
 omega
theorem w1 : wantsI 1 = 0 := by decide
theorem w2 : wantsI 2 = 0 := by decide
theorem w3 : wantsI 3 = 2 := by decide
theorem w4 : wantsI 4 = 2 := by decide
theorem w5 : wantsI 5 = 1 := by decide
theorem w6 : wantsI 6 = 1 := by decide
theorem w7 : wantsI 7 = 1 := by decide
theorem stepS_len {op : Int} {st : List Bool} (h0 : 0 ≤ wantsI op) (h : wantsI op ≤ (st.length : Int)) : ((stepS op st).length : Int) = (st.length : Int) + 1 - wantsI op := by
 rcases op_cases h0 with rfl | rfl | rfl | rfl | rfl | rfl | rfl
 ·rw [w1]; simp [stepS]
 ·rw [w2]; simp [stepS]
 ·rw [w3] at h ⊢; simp [stepS]; omega
 ·rw [w4] at h ⊢; simp [stepS]; omega
 ·rw [w5] at h ⊢; simp [stepS]
 ·rw [w6] at h ⊢; simp [stepS]
 ·rw [w7] at h ⊢; simp [stepS]
theorem rightB_get {l : List Cel} (h : rightB l = true) : l.length ≤ 60 ∧ rightG l 0 = some 1 := by
 unfold rightB at h
 simp only [Bool.and_eq_true,decide_eq_true_eq] at h
 refine ⟨h.1.2,?_⟩
 have h2 := h.2
 split at h2
 ·rename_i n hn
  simp at h2
  rw [hn,h2]
 ·cases h2
theorem rightG_next {c : Cel} {r : List Cel} {n : Int} (h : rightG (c :: r) n = some 1) : 0 ≤ wantsI c.op ∧ wantsI c.op ≤ n ∧ rightG r (n + 1 - wantsI c.op) = some 1 := by
 rw [rightG] at h
 split at h
 ·cases h
 ·rename_i hc
  exact ⟨by omega,by omega,h⟩
theorem bRows_len (st : List Bool) : (st.map bRow).length = st.length := List.length_map _
end Go.Abs
/- Does a rule fit the empty text: the document's answer. -/
namespace Go.Abs
open Go.Proofs
set_option linter.unusedVariables false
set_option linter.unusedSimpArgs false
set_option maxRecDepth 100000
set_option maxHeartbeats 4000000
/-- The cells from one place up to another are one operand, and this is what it does with the empty text. -/
inductive Seg (l : List Cel) : Nat → Nat → Bool → Prop
 | one (i : Nat) (c : Cel) (b : Bool) (h : l[i]? = some c) (o : (c.op = 1 ∧ b = false) ∨ (c.op = 2 ∧ b = true)) : Seg l i (i + 1) b
 | star (s e : Nat) (a b : Bool) (c : Cel) (x : Seg l s e a) (h : l[e]? = some c) (o : ((c.op = 5 ∨ c.op = 7) ∧ b = true) ∨ (c.op = 6 ∧ b = a)) : Seg l s (e + 1) b
 | two (s m e : Nat) (a1 a2 b : Bool) (c : Cel) (x : Seg l s m a1) (y : Seg l m e a2) (h : l[e]? = some c) (o : (c.op = 3 ∧ b = (a1 && a2)) ∨ (c.op = 4 ∧ b = (a1 || a2))) : Seg l s (e + 1) b
theorem seg_lt {l : List Cel} {s e : Nat} {b : Bool} (h : Seg l s e b) : s < e ∧ e ≤ l.length := by
 induction h with
 | one i c b h o => exact ⟨by omega,by have := (List.getElem?_eq_some_iff.1 h).1; omega⟩
 | star s e a b c x h o ih => exact ⟨by omega,by have := (List.getElem?_eq_some_iff.1 h).1; omega⟩
 | two s m e a1 a2 b c x y h o i1 i2 => exact ⟨by omega,by have := (List.getElem?_eq_some_iff.1 h).1; omega⟩
/-- So many operands, one behind the other. -/
inductive Segs (l : List Cel) (s : Nat) : Nat → Nat → Prop
 | nil : Segs l s 0 s
 | cons (n m e : Nat) (b : Bool) (x : Segs l s n m) (y : Seg l m e b) : Segs l s (n + 1) e
theorem segs_le {l : List Cel} {s n e : Nat} (h : Segs l s n e) : s + n ≤ e := by
 induction h with
 | nil => omega
 | cons n m e b x y ih => have := seg_lt y; omega
theorem segs_step {l : List Cel} {s n e : Nat} (h : Segs l s (n + 1) e) : ∃ e' c w,e = e' + 1 ∧ l[e']? = some c ∧ wantsI c.op = ((w : Nat) : Int) ∧ w ≤ 2 ∧ Segs l s (n + w) e' := by
 cases h with
 | cons n m e b x y =>
  cases y with
  | one i c b h o =>
   refine ⟨m,c,0,rfl,h,?_,by omega,x⟩
   rcases o with ⟨o,_⟩ | ⟨o,_⟩ <;> rw [o] <;> decide
  | star s e a b c x' h o =>
   refine ⟨e,c,1,rfl,h,?_,by omega,.cons _ _ _ _ x x'⟩
   rcases o with ⟨o | o,_⟩ | ⟨o,_⟩ <;> rw [o] <;> decide
  | two s m e a1 a2 b c x' y' h o =>
   refine ⟨e,c,2,rfl,h,?_,by omega,.cons _ _ _ _ (.cons _ _ _ _ x x') y'⟩
   rcases o with ⟨o,_⟩ | ⟨o,_⟩ <;> rw [o] <;> decide
/-- The operands that were made, the last one first. -/
def Stk (l : List Cel) : List Bool → Nat → Prop
 | [],e => e = 0
 | b :: st,e => ∃ m,Seg l m e b ∧ Stk l st m
theorem step_0 (b : Bool) (st : List Bool) : stepS 1 st = st ++ [false] ∧ stepS 2 st = st ++ [true] := ⟨rfl,rfl⟩
theorem step_1 (b : Bool) (st : List Bool) : stepS 5 (st ++ [b]) = st ++ [true] ∧ stepS 7 (st ++ [b]) = st ++ [true] ∧ stepS 6 (st ++ [b]) = st ++ [b] := by
 refine ⟨?_,?_,?_⟩ <;> simp [stepS]
theorem step_2 (a b : Bool) (st : List Bool) : stepS 3 (st ++ [a,b]) = st ++ [a && b] ∧ stepS 4 (st ++ [a,b]) = st ++ [a || b] := by
 have e1 : (st ++ [a,b]).getD st.length false = a := by simp [List.getD_eq_getElem?_getD]
 have e2 : (st ++ [a,b]).getD (st.length + 1) false = b := by simp [List.getD_eq_getElem?_getD]
 have e3 : (st ++ [a,b]).length - 2 = st.length := by simp
 have e4 : (st ++ [a,b]).length - 1 = st.length + 1 := by simp
 refine ⟨?_,?_⟩
 ·simp only [stepS]
  rw [if_neg (by decide),if_neg (by decide),if_neg (by decide),if_pos trivial,e3,e4,e1,e2]
  simp
 ·simp only [stepS]
  rw [if_neg (by decide),if_neg (by decide),if_neg (by decide),if_neg (by decide),if_pos trivial,e3,e4,e1,e2]
  simp
theorem eval_seg {l : List Cel} : ∀ (r : List Cel) (i : Nat) (rst : List Bool),i ≤ l.length → l.drop i = r → Stk l rst i → rightG r rst.length = some 1 → ∃ b,Seg l 0 l.length b ∧ evalS r rst.reverse = [b]
 | [],i,rst,hi,hd,hs,hg => by
  have hil : i = l.length := by have := congrArg List.length hd; simp at this; omega
  subst hil
  rw [rightG] at hg
  match rst,hg,hs with
  | [],hg,hs => simp at hg
  | [b],hg,hs =>
   obtain ⟨m,hx,hm⟩ := hs
   obtain rfl : m = 0 := hm
   exact ⟨b,hx,rfl⟩
  | a :: b :: r,hg,hs => simp at hg; omega
 | c :: r,i,rst,hi,hd,hs,hg => by
  have hlt : i < l.length := by
   apply Classical.byContradiction
   intro h
   rw [List.drop_eq_nil_of_le (by omega)] at hd
   cases hd
  rw [List.drop_eq_getElem_cons hlt] at hd
  injection hd with hc hr
  have hci : l[i]? = some c := by rw [List.getElem?_eq_getElem hlt,hc]
  obtain ⟨hw0,hw1,hg2⟩ := rightG_next hg
  rcases op_cases hw0 with h | h | h | h | h | h | h
  ·rw [h,w1] at hg2
   obtain ⟨b,hb,he⟩ := eval_seg r (i + 1) (false :: rst) (by omega) hr ⟨i,.one i c false hci (.inl ⟨h,rfl⟩),hs⟩ (by rw [← hg2]; congr 1)
   exact ⟨b,hb,by rw [← he,evalS,h,(step_0 true _).1]; simp⟩
  ·rw [h,w2] at hg2
   obtain ⟨b,hb,he⟩ := eval_seg r (i + 1) (true :: rst) (by omega) hr ⟨i,.one i c true hci (.inr ⟨h,rfl⟩),hs⟩ (by rw [← hg2]; congr 1)
   exact ⟨b,hb,by rw [← he,evalS,h,(step_0 true _).2]; simp⟩
  ·rw [h,w3] at hg2 hw1
   match rst,hs,hg2,hw1 with
   | [],_,_,hw1 => simp at hw1
   | [_],_,_,hw1 => simp at hw1
   | b2 :: b1 :: rst,hs,hg2,_ =>
    obtain ⟨m,hx,m2,hy,hs⟩ := hs
    obtain ⟨b,hb,he⟩ := eval_seg r (i + 1) ((b1 && b2) :: rst) (by omega) hr ⟨m2,.two m2 m i b1 b2 _ c hy hx hci (.inl ⟨h,rfl⟩),hs⟩ (by rw [← hg2]; congr 1; simp only [List.length_cons]; omega)
    refine ⟨b,hb,?_⟩
    rw [← he,evalS,h,List.reverse_cons,List.reverse_cons,List.append_assoc,List.reverse_cons]
    congr 1
    exact (step_2 b1 b2 _).1
  ·rw [h,w4] at hg2 hw1
   match rst,hs,hg2,hw1 with
   | [],_,_,hw1 => simp at hw1
   | [_],_,_,hw1 => simp at hw1
   | b2 :: b1 :: rst,hs,hg2,_ =>
    obtain ⟨m,hx,m2,hy,hs⟩ := hs
    obtain ⟨b,hb,he⟩ := eval_seg r (i + 1) ((b1 || b2) :: rst) (by omega) hr ⟨m2,.two m2 m i b1 b2 _ c hy hx hci (.inr ⟨h,rfl⟩),hs⟩ (by rw [← hg2]; congr 1; simp only [List.length_cons]; omega)
    refine ⟨b,hb,?_⟩
    rw [← he,evalS,h,List.reverse_cons,List.reverse_cons,List.append_assoc,List.reverse_cons]
    congr 1
    exact (step_2 b1 b2 _).2
  ·rw [h,w5] at hg2 hw1
   match rst,hs,hg2,hw1 with
   | [],_,_,hw1 => simp at hw1
   | b1 :: rst,hs,hg2,_ =>
    obtain ⟨m,hx,hs⟩ := hs
    obtain ⟨b,hb,he⟩ := eval_seg r (i + 1) (true :: rst) (by omega) hr ⟨m,.star m i b1 _ c hx hci (.inl ⟨.inl h,rfl⟩),hs⟩ (by rw [← hg2]; congr 1; simp only [List.length_cons]; omega)
    exact ⟨b,hb,by rw [← he,evalS,h,List.reverse_cons,(step_1 b1 _).1,List.reverse_cons]⟩
  ·rw [h,w6] at hg2 hw1
   match rst,hs,hg2,hw1 with
   | [],_,_,hw1 => simp at hw1
   | b1 :: rst,hs,hg2,_ =>
    obtain ⟨m,hx,hs⟩ := hs
    obtain ⟨b,hb,he⟩ := eval_seg r (i + 1) (b1 :: rst) (by omega) hr ⟨m,.star m i b1 _ c hx hci (.inr ⟨h,rfl⟩),hs⟩ (by rw [← hg2]; congr 1; simp only [List.length_cons]; omega)
    exact ⟨b,hb,by rw [← he,evalS,h,List.reverse_cons,(step_1 b1 _).2.2]⟩
  ·rw [h,w7] at hg2 hw1
   match rst,hs,hg2,hw1 with
   | [],_,_,hw1 => simp at hw1
   | b1 :: rst,hs,hg2,_ =>
    obtain ⟨m,hx,hs⟩ := hs
    obtain ⟨b,hb,he⟩ := eval_seg r (i + 1) (true :: rst) (by omega) hr ⟨m,.star m i b1 _ c hx hci (.inl ⟨.inr h,rfl⟩),hs⟩ (by rw [← hg2]; congr 1; simp only [List.length_cons]; omega)
    exact ⟨b,hb,by rw [← he,evalS,h,List.reverse_cons,(step_1 b1 _).2.1,List.reverse_cons]⟩
theorem right_seg {l : List Cel} (h : rightB l = true) : ∃ b,Seg l 0 l.length b ∧ nullB l = b := by
 obtain ⟨_,hg⟩ := rightB_get h
 obtain ⟨b,h1,h2⟩ := eval_seg l 0 [] (by omega) (List.drop_zero) rfl hg
 exact ⟨b,h1,by unfold nullB; rw [h]; rw [show ([] : List Bool) = ([] : List Bool).reverse from rfl,h2]; rfl⟩
theorem rows_get {α : Type} (f : α → List FV) {l : List α} {i : Nat} {c : α} (h : l[i]? = some c) : i < l.length ∧ (l.map f)[i]? = some (f c) := by
 refine ⟨(List.getElem?_eq_some_iff.1 h).1,by rw [List.getElem?_map,h]; rfl⟩
theorem ok23 (l : List Cel) (hl : l.length ≤ 60) {s e : Nat} {b : Bool} (h : Seg l s e b) : Ok Try.prog 23 [.fv (.lst 5 (l.map Cel.row)),.fv (.int .i64 ((e : Int) - 1))] [] (.ret (.fv (.int .i64 (s : Int)))) [] := by
 have hse := seg_lt h
 have h0 : Segs l s 1 e := .cons _ _ _ _ .nil h
 refine ok_start (k := 21) (n0 := 0) (rs := [.tmp 4]) mix Try.func23 rfl rfl rfl rfl rfl rfl rfl ?_
 simp -implicitDefEqProofs only [evx,evy,ofValue,ofCell,List.range,List.range.loop,Array.size,Nat.reduceAdd,Nat.reduceSub,Nat.reduceEqDiff,List.replicate,if_true,if_false,↓reduceIte,reduceCtorEq,elB,evParts,Int.reduceToNat,Int.reduceLE,Int.reduceLT,Int.reduceEq,Nat.reduceMul,Nat.reduceLeDiff,Nat.reduceLT,ty3,ty4,ty9,ty5,ty39,ty22,ty43,ty41,ty58]
 refine loop_rule (fun x : Nat × Nat => ⟨[.fv (.lst 5 (l.map Cel.row)),.any,.any,.any,.any,.fv (.int .i64 x.1),.fv (.int .i64 ((x.2 : Int) - 1)),.any,.any,.any,.any,.any,.any,.any,.any,.any,.any,.any,.any,.any,.any,.any,.any],[],[]⟩)
  (fun x => Segs l s x.1 x.2 ∧ x.2 ≤ l.length) (fun x => x.2) (1,e) (le_none (by simp [wk]) rfl) ⟨h0,hse.2⟩ (fun x hx s1 hs1 => ?_)
 obtain ⟨n,e⟩ := x
 obtain ⟨hg,hel⟩ := hx
 simp only at hg hel hs1 ⊢
 cases n with
 | zero =>
  have hc : ((0 : Int) < ((0 : Nat) : Int)) = False := by simp
  have hs : s = e := by
   cases hg
   rfl
  have hw : IntKind.wrap .i64 (((e : Int) - 1) + 1) = (s : Int) := by rw [wrap_small (by omega) (by omega)]; omega
  simp -implicitDefEqProofs only [hc,hw,
  evx,evy,ofValue,ofCell,List.range,List.range.loop,Array.size,Nat.reduceAdd,Nat.reduceSub,Nat.reduceEqDiff,List.replicate,if_true,if_false,↓reduceIte,reduceCtorEq,elB,evParts,Int.reduceToNat,Int.reduceLE,Int.reduceLT,Int.reduceEq,Nat.reduceMul,Nat.reduceLeDiff,Nat.reduceLT,ty3,ty4,ty9,ty5,ty39,ty22,ty43,ty41,ty58]
  exact le_flat rfl
 | succ n =>
  have hn := segs_le hg
  obtain ⟨e',c,w,rfl,hc,hw,hw2,hg2⟩ := segs_step hg
  obtain ⟨hlt,hr⟩ := rows_get Cel.row hc
  have hwants := ok16 c.op
  rw [hw] at hwants
  have hi : (((e' + 1 : Nat) : Int) - 1) = (e' : Int) := by omega
  have hcc : ((0 : Int) < ((n + 1 : Nat) : Int)) = True := by simp only [eq_iff_iff,iff_true]; omega
  have hw1 : IntKind.wrap .i64 (((n + 1 : Nat) : Int) - 1) = (n : Int) := by rw [wrap_small (by omega) (by omega)]; omega
  have hw3 : IntKind.wrap .i64 ((n : Int) + (w : Int)) = ((n + w : Nat) : Int) := by rw [wrap_small (by omega) (by omega)]; omega
  have hw4 : IntKind.wrap .i64 ((e' : Int) - 1) = (e' : Int) - 1 := wrap_small (by omega) (by omega)
  rw [hi]
  simp -implicitDefEqProofs only [hcc,hw1,hr,Cel.row,
  evx,evy,ofValue,ofCell,List.range,List.range.loop,Array.size,Nat.reduceAdd,Nat.reduceSub,Nat.reduceEqDiff,List.replicate,if_true,if_false,↓reduceIte,reduceCtorEq,elB,evParts,Int.reduceToNat,Int.reduceLE,Int.reduceLT,Int.reduceEq,Nat.reduceMul,Nat.reduceLeDiff,Nat.reduceLT,ty3,ty4,ty9,ty5,ty39,ty22,ty43,ty41,ty58]
  refine callK_ret _ _ _ _ (call_pure (hwants) (fun _ => rfl) (fun _ => rfl)) (ok_nil _ _) ?_
  simp -implicitDefEqProofs only [hw3,hw4,
  evx,evy,ofValue,ofCell,List.range,List.range.loop,Array.size,Nat.reduceAdd,Nat.reduceSub,Nat.reduceEqDiff,List.replicate,if_true,if_false,↓reduceIte,reduceCtorEq,elB,evParts,Int.reduceToNat,Int.reduceLE,Int.reduceLT,Int.reduceEq,Nat.reduceMul,Nat.reduceLeDiff,Nat.reduceLT,ty3,ty4,ty9,ty5,ty39,ty22,ty43,ty41,ty58]
  exact back_intro hs1 (n + w,e') (le_none (by simp [wk]) rfl) ⟨hg2,by simp only; omega⟩ (by simp only; omega)
theorem ok19 (l : List Cel) (hl : l.length ≤ 60) {s e : Nat} {b : Bool} (h : Seg l s e b) : Ok Try.prog 19 [.fv (.lst 5 (l.map Cel.row)),.fv (.int .i64 ((e : Int) - 1))] [] (.ret (.fv (.bool b))) [] := by
 induction h with
 | one i c b h o =>
  obtain ⟨hlt,hr⟩ := rows_get Cel.row h
  have hi : (((i + 1 : Nat) : Int) - 1) = (i : Int) := by omega
  refine ok_start (k := 48) (n0 := 0) (rs := [.tmp 4]) mix Try.func19 rfl rfl rfl rfl rfl rfl rfl ?_
  rw [hi]
  rcases o with ⟨o,rfl⟩ | ⟨o,rfl⟩
  ·have f2 : (c.op = 2) = False := by simp [o]
   have f5 : (c.op = 5) = False := by simp [o]
   have f7 : (c.op = 7) = False := by simp [o]
   have f6 : (c.op = 6) = False := by simp [o]
   have f3 : (c.op = 3) = False := by simp [o]
   have f4 : (c.op = 4) = False := by simp [o]
   simp -implicitDefEqProofs only [hr,Cel.row,f2,f5,f7,f6,f3,f4,
  evx,evy,ofValue,ofCell,List.range,List.range.loop,Array.size,Nat.reduceAdd,Nat.reduceSub,Nat.reduceEqDiff,List.replicate,if_true,if_false,↓reduceIte,reduceCtorEq,elB,evParts,Int.reduceToNat,Int.reduceLE,Int.reduceLT,Int.reduceEq,Nat.reduceMul,Nat.reduceLeDiff,Nat.reduceLT,ty3,ty4,ty9,ty5,ty39,ty22,ty43,ty41,ty58]
   exact le_flat rfl
  ·have f2 : (c.op = 2) = True := by simp [o]
   simp -implicitDefEqProofs only [hr,Cel.row,f2,
  evx,evy,ofValue,ofCell,List.range,List.range.loop,Array.size,Nat.reduceAdd,Nat.reduceSub,Nat.reduceEqDiff,List.replicate,if_true,if_false,↓reduceIte,reduceCtorEq,elB,evParts,Int.reduceToNat,Int.reduceLE,Int.reduceLT,Int.reduceEq,Nat.reduceMul,Nat.reduceLeDiff,Nat.reduceLT,ty3,ty4,ty9,ty5,ty39,ty22,ty43,ty41,ty58]
   exact le_flat rfl
 | star s e a b c x h o ih =>
  obtain ⟨hlt,hr⟩ := rows_get Cel.row h
  have hi : (((e + 1 : Nat) : Int) - 1) = (e : Int) := by omega
  have hw4 : IntKind.wrap .i64 ((e : Int) - 1) = (e : Int) - 1 := wrap_small (by omega) (by omega)
  refine ok_start (k := 48) (n0 := 0) (rs := [.tmp 4]) mix Try.func19 rfl rfl rfl rfl rfl rfl rfl ?_
  rw [hi]
  rcases o with ⟨o | o,rfl⟩ | ⟨o,rfl⟩
  ·have f2 : (c.op = 2) = False := by simp [o]
   have f5 : (c.op = 5) = True := by simp [o]
   simp -implicitDefEqProofs only [hr,Cel.row,f2,f5,
  evx,evy,ofValue,ofCell,List.range,List.range.loop,Array.size,Nat.reduceAdd,Nat.reduceSub,Nat.reduceEqDiff,List.replicate,if_true,if_false,↓reduceIte,reduceCtorEq,elB,evParts,Int.reduceToNat,Int.reduceLE,Int.reduceLT,Int.reduceEq,Nat.reduceMul,Nat.reduceLeDiff,Nat.reduceLT,ty3,ty4,ty9,ty5,ty39,ty22,ty43,ty41,ty58]
   exact le_flat rfl
  ·have f2 : (c.op = 2) = False := by simp [o]
   have f5 : (c.op = 5) = False := by simp [o]
   have f7 : (c.op = 7) = True := by simp [o]
   simp -implicitDefEqProofs only [hr,Cel.row,f2,f5,f7,
  evx,evy,ofValue,ofCell,List.range,List.range.loop,Array.size,Nat.reduceAdd,Nat.reduceSub,Nat.reduceEqDiff,List.replicate,if_true,if_false,↓reduceIte,reduceCtorEq,elB,evParts,Int.reduceToNat,Int.reduceLE,Int.reduceLT,Int.reduceEq,Nat.reduceMul,Nat.reduceLeDiff,Nat.reduceLT,ty3,ty4,ty9,ty5,ty39,ty22,ty43,ty41,ty58]
   exact le_flat rfl
  ·have f2 : (c.op = 2) = False := by simp [o]
   have f5 : (c.op = 5) = False := by simp [o]
   have f7 : (c.op = 7) = False := by simp [o]
   have f6 : (c.op = 6) = True := by simp [o]
   simp -implicitDefEqProofs only [hr,Cel.row,f2,f5,f7,f6,hw4,
  evx,evy,ofValue,ofCell,List.range,List.range.loop,Array.size,Nat.reduceAdd,Nat.reduceSub,Nat.reduceEqDiff,List.replicate,if_true,if_false,↓reduceIte,reduceCtorEq,elB,evParts,Int.reduceToNat,Int.reduceLE,Int.reduceLT,Int.reduceEq,Nat.reduceMul,Nat.reduceLeDiff,Nat.reduceLT,ty3,ty4,ty9,ty5,ty39,ty22,ty43,ty41,ty58]
   refine callK_ret _ _ _ _ (call_pure (ih) (fun _ => rfl) (fun _ => rfl)) (ok_nil _ _) ?_
   simp -implicitDefEqProofs only [evx,evy,ofValue,ofCell,List.range,List.range.loop,Array.size,Nat.reduceAdd,Nat.reduceSub,Nat.reduceEqDiff,List.replicate,if_true,if_false,↓reduceIte,reduceCtorEq,elB,evParts,Int.reduceToNat,Int.reduceLE,Int.reduceLT,Int.reduceEq,Nat.reduceMul,Nat.reduceLeDiff,Nat.reduceLT,ty3,ty4,ty9,ty5,ty39,ty22,ty43,ty41,ty58]
   exact le_flat rfl
 | two s m e a1 a2 b c x y h o i1 i2 =>
  have hm := seg_lt x
  obtain ⟨hlt,hr⟩ := rows_get Cel.row h
  have hfrom := ok23 l hl y
  have hi : (((e + 1 : Nat) : Int) - 1) = (e : Int) := by omega
  have hw4 : IntKind.wrap .i64 ((e : Int) - 1) = (e : Int) - 1 := wrap_small (by omega) (by omega)
  have hw5 : IntKind.wrap .i64 ((m : Int) - 1) = (m : Int) - 1 := wrap_small (by omega) (by omega)
  refine ok_start (k := 48) (n0 := 0) (rs := [.tmp 4]) mix Try.func19 rfl rfl rfl rfl rfl rfl rfl ?_
  rw [hi]
  rcases o with ⟨o,rfl⟩ | ⟨o,rfl⟩
  ·have f2 : (c.op = 2) = False := by simp [o]
   have f5 : (c.op = 5) = False := by simp [o]
   have f7 : (c.op = 7) = False := by simp [o]
   have f6 : (c.op = 6) = False := by simp [o]
   have f3 : (c.op = 3) = True := by simp [o]
   cases a2 with
   | false =>
    simp -implicitDefEqProofs only [hr,Cel.row,f2,f5,f7,f6,f3,hw4,
  evx,evy,ofValue,ofCell,List.range,List.range.loop,Array.size,Nat.reduceAdd,Nat.reduceSub,Nat.reduceEqDiff,List.replicate,if_true,if_false,↓reduceIte,reduceCtorEq,elB,evParts,Int.reduceToNat,Int.reduceLE,Int.reduceLT,Int.reduceEq,Nat.reduceMul,Nat.reduceLeDiff,Nat.reduceLT,ty3,ty4,ty9,ty5,ty39,ty22,ty43,ty41,ty58]
    refine callK_ret _ _ _ _ (call_pure (i2) (fun _ => rfl) (fun _ => rfl)) (ok_nil _ _) ?_
    simp -implicitDefEqProofs only [evx,evy,ofValue,ofCell,List.range,List.range.loop,Array.size,Nat.reduceAdd,Nat.reduceSub,Nat.reduceEqDiff,List.replicate,if_true,if_false,↓reduceIte,reduceCtorEq,elB,evParts,Int.reduceToNat,Int.reduceLE,Int.reduceLT,Int.reduceEq,Nat.reduceMul,Nat.reduceLeDiff,Nat.reduceLT,ty3,ty4,ty9,ty5,ty39,ty22,ty43,ty41,ty58]
    cases a1 <;> exact le_flat rfl
   | true =>
    simp -implicitDefEqProofs only [hr,Cel.row,f2,f5,f7,f6,f3,hw4,
  evx,evy,ofValue,ofCell,List.range,List.range.loop,Array.size,Nat.reduceAdd,Nat.reduceSub,Nat.reduceEqDiff,List.replicate,if_true,if_false,↓reduceIte,reduceCtorEq,elB,evParts,Int.reduceToNat,Int.reduceLE,Int.reduceLT,Int.reduceEq,Nat.reduceMul,Nat.reduceLeDiff,Nat.reduceLT,ty3,ty4,ty9,ty5,ty39,ty22,ty43,ty41,ty58]
    refine callK_ret _ _ _ _ (call_pure (i2) (fun _ => rfl) (fun _ => rfl)) (ok_nil _ _) ?_
    simp -implicitDefEqProofs only [hw4,
  evx,evy,ofValue,ofCell,List.range,List.range.loop,Array.size,Nat.reduceAdd,Nat.reduceSub,Nat.reduceEqDiff,List.replicate,if_true,if_false,↓reduceIte,reduceCtorEq,elB,evParts,Int.reduceToNat,Int.reduceLE,Int.reduceLT,Int.reduceEq,Nat.reduceMul,Nat.reduceLeDiff,Nat.reduceLT,ty3,ty4,ty9,ty5,ty39,ty22,ty43,ty41,ty58]
    refine callK_ret _ _ _ _ (call_pure (hfrom) (fun _ => rfl) (fun _ => rfl)) (ok_nil _ _) ?_
    simp -implicitDefEqProofs only [hw5,
  evx,evy,ofValue,ofCell,List.range,List.range.loop,Array.size,Nat.reduceAdd,Nat.reduceSub,Nat.reduceEqDiff,List.replicate,if_true,if_false,↓reduceIte,reduceCtorEq,elB,evParts,Int.reduceToNat,Int.reduceLE,Int.reduceLT,Int.reduceEq,Nat.reduceMul,Nat.reduceLeDiff,Nat.reduceLT,ty3,ty4,ty9,ty5,ty39,ty22,ty43,ty41,ty58]
    refine callK_ret _ _ _ _ (call_pure (i1) (fun _ => rfl) (fun _ => rfl)) (ok_nil _ _) ?_
    simp -implicitDefEqProofs only [evx,evy,ofValue,ofCell,List.range,List.range.loop,Array.size,Nat.reduceAdd,Nat.reduceSub,Nat.reduceEqDiff,List.replicate,if_true,if_false,↓reduceIte,reduceCtorEq,elB,evParts,Int.reduceToNat,Int.reduceLE,Int.reduceLT,Int.reduceEq,Nat.reduceMul,Nat.reduceLeDiff,Nat.reduceLT,ty3,ty4,ty9,ty5,ty39,ty22,ty43,ty41,ty58]
    cases a1 <;> exact le_flat rfl
  ·have f2 : (c.op = 2) = False := by simp [o]
   have f5 : (c.op = 5) = False := by simp [o]
   have f7 : (c.op = 7) = False := by simp [o]
   have f6 : (c.op = 6) = False := by simp [o]
   have f3 : (c.op = 3) = False := by simp [o]
   have f4 : (c.op = 4) = True := by simp [o]
   cases a2 with
   | true =>
    simp -implicitDefEqProofs only [hr,Cel.row,f2,f5,f7,f6,f3,f4,hw4,
  evx,evy,ofValue,ofCell,List.range,List.range.loop,Array.size,Nat.reduceAdd,Nat.reduceSub,Nat.reduceEqDiff,List.replicate,if_true,if_false,↓reduceIte,reduceCtorEq,elB,evParts,Int.reduceToNat,Int.reduceLE,Int.reduceLT,Int.reduceEq,Nat.reduceMul,Nat.reduceLeDiff,Nat.reduceLT,ty3,ty4,ty9,ty5,ty39,ty22,ty43,ty41,ty58]
    refine callK_ret _ _ _ _ (call_pure (i2) (fun _ => rfl) (fun _ => rfl)) (ok_nil _ _) ?_
    simp -implicitDefEqProofs only [evx,evy,ofValue,ofCell,List.range,List.range.loop,Array.size,Nat.reduceAdd,Nat.reduceSub,Nat.reduceEqDiff,List.replicate,if_true,if_false,↓reduceIte,reduceCtorEq,elB,evParts,Int.reduceToNat,Int.reduceLE,Int.reduceLT,Int.reduceEq,Nat.reduceMul,Nat.reduceLeDiff,Nat.reduceLT,ty3,ty4,ty9,ty5,ty39,ty22,ty43,ty41,ty58]
    cases a1 <;> exact le_flat rfl
   | false =>
    simp -implicitDefEqProofs only [hr,Cel.row,f2,f5,f7,f6,f3,f4,hw4,
  evx,evy,ofValue,ofCell,List.range,List.range.loop,Array.size,Nat.reduceAdd,Nat.reduceSub,Nat.reduceEqDiff,List.replicate,if_true,if_false,↓reduceIte,reduceCtorEq,elB,evParts,Int.reduceToNat,Int.reduceLE,Int.reduceLT,Int.reduceEq,Nat.reduceMul,Nat.reduceLeDiff,Nat.reduceLT,ty3,ty4,ty9,ty5,ty39,ty22,ty43,ty41,ty58]
    refine callK_ret _ _ _ _ (call_pure (i2) (fun _ => rfl) (fun _ => rfl)) (ok_nil _ _) ?_
    simp -implicitDefEqProofs only [hw4,
  evx,evy,ofValue,ofCell,List.range,List.range.loop,Array.size,Nat.reduceAdd,Nat.reduceSub,Nat.reduceEqDiff,List.replicate,if_true,if_false,↓reduceIte,reduceCtorEq,elB,evParts,Int.reduceToNat,Int.reduceLE,Int.reduceLT,Int.reduceEq,Nat.reduceMul,Nat.reduceLeDiff,Nat.reduceLT,ty3,ty4,ty9,ty5,ty39,ty22,ty43,ty41,ty58]
    refine callK_ret _ _ _ _ (call_pure (hfrom) (fun _ => rfl) (fun _ => rfl)) (ok_nil _ _) ?_
    simp -implicitDefEqProofs only [hw5,
  evx,evy,ofValue,ofCell,List.range,List.range.loop,Array.size,Nat.reduceAdd,Nat.reduceSub,Nat.reduceEqDiff,List.replicate,if_true,if_false,↓reduceIte,reduceCtorEq,elB,evParts,Int.reduceToNat,Int.reduceLE,Int.reduceLT,Int.reduceEq,Nat.reduceMul,Nat.reduceLeDiff,Nat.reduceLT,ty3,ty4,ty9,ty5,ty39,ty22,ty43,ty41,ty58]
    refine callK_ret _ _ _ _ (call_pure (i1) (fun _ => rfl) (fun _ => rfl)) (ok_nil _ _) ?_
    simp -implicitDefEqProofs only [evx,evy,ofValue,ofCell,List.range,List.range.loop,Array.size,Nat.reduceAdd,Nat.reduceSub,Nat.reduceEqDiff,List.replicate,if_true,if_false,↓reduceIte,reduceCtorEq,elB,evParts,Int.reduceToNat,Int.reduceLE,Int.reduceLT,Int.reduceEq,Nat.reduceMul,Nat.reduceLeDiff,Nat.reduceLT,ty3,ty4,ty9,ty5,ty39,ty22,ty43,ty41,ty58]
    cases a1 <;> exact le_flat rfl
end Go.Abs
