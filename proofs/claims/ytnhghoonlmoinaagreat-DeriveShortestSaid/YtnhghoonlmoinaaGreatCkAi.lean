/- Words: bytes that stand in a text; letters, blanks. -/
import Derived.Test.YtnhghoonlmoinaaGreatTyTryzi
import Derived.Test.YtnhghoonlmoinaaGreatDrTryzi
import Derived.Test.YtnhghoonlmoinaaGreatAbsZ
import Derived.Test.YtnhghoonlmoinaaGreatTopGi
import Derived.Test.YtnhghoonlmoinaaGreatTopA
import Derived.Test.YtnhghoonlmoinaaGreatTopWi
import Derived.Test.YtnhghoonlmoinaaGreatZopHi
namespace Go.Abs
open Go.Proofs
set_option linter.unusedVariables false
set_option linter.unusedSimpArgs false
set_option maxRecDepth 100000
set_option maxHeartbeats 1000000
def isB (o : Option (AOut × List Blk)) (b : Bool) : Bool := match o with
 | some (.ret (.fv (.bool c)),[]) => c == b
 | _ => false
theorem isB_eq {o : Option (AOut × List Blk)} {b : Bool} (h : isB o b = true) : o = some (.ret (.fv (.bool b)),[]) := by
 unfold isB at h
 split at h
 ·simp at h; subst h; rfl
 ·cases h
/-- A function of one byte, tried at each. -/
theorem of_bytes {f : FuncId} {r : UInt8 → Bool} (h : ((List.range 256).all fun n => isB (goFn Tryz.prog exts hooks 1000 60 f [.fv (.int .u8 (n : Int))] []) (r (UInt8.ofNat n))) = true) (c : UInt8) :
  Ok Tryz.prog f [.fv (.int .u8 (c.toNat : Int))] [] (.ret (.fv (.bool (r c)))) [] := by
 have h1 := List.all_eq_true.1 h c.toNat (List.mem_range.2 (UInt8.toNat_lt c))
 have h2 := isB_eq h1
 rw [show UInt8.ofNat c.toNat = c from by simp] at h2
 exact reckoned h2
theorem ok114 (c : UInt8) : Ok Tryz.prog 114 [.fv (.int .u8 (c.toNat : Int))] [] (.ret (.fv (.bool (letterB c)))) [] := of_bytes (by kernel_rfl) c
theorem ok123 (c : UInt8) : Ok Tryz.prog 123 [.fv (.int .u8 (c.toNat : Int))] [] (.ret (.fv (.bool (letterB c)))) [] := of_bytes (by kernel_rfl) c
theorem ok147 (s : Bs) (c : UInt8) : Ok Tryz.prog 147 [.fv (.str s),.fv (.int .u8 (c.toNat : Int))] [] (.ret (.fv (.int .i64 (idxB c.toNat s 0)))) [] := by
 refine ok_start (k := 6) (n0 := 0) (rs := [.tmp 4]) mix Tryz.func147 rfl rfl rfl rfl rfl rfl rfl ?_
 simp -implicitDefEqProofs only [evx,evy,ofValue,ofCell,List.range,List.range.loop,Array.size,Nat.reduceAdd,Nat.reduceSub,Nat.reduceEqDiff,List.replicate,if_true,if_false,↓reduceIte,reduceCtorEq,elB,evParts,Int.reduceToNat,Int.reduceLE,Int.reduceLT,Int.reduceEq,Nat.reduceMul,Nat.reduceLeDiff,Nat.reduceLT,ty3,ty4,ty9,ty5]
 refine callK_ret _ _ _ _ (ext_call (exts_ok 162 .idxByte rfl) (v := .fv (.int .i64 (idxB c.toNat s 0))) (h' := []) (W := []) ?_) (ok_nil _ _) ?_
 ·have := UInt8.toNat_lt c
  simp only [extF]
  rw [if_pos (by omega)]
  simp
 simp -implicitDefEqProofs only [evx,evy,ofValue,ofCell,List.range,List.range.loop,Array.size,Nat.reduceAdd,Nat.reduceSub,Nat.reduceEqDiff,List.replicate,if_true,if_false,↓reduceIte,reduceCtorEq,elB,evParts,Int.reduceToNat,Int.reduceLE,Int.reduceLT,Int.reduceEq,Nat.reduceMul,Nat.reduceLeDiff,Nat.reduceLT,ty3,ty4,ty9,ty5]
 exact le_flat rfl
theorem ok113 (s : Bs) (c : UInt8) : Ok Tryz.prog 113 [.fv (.str s),.fv (.int .u8 (c.toNat : Int))] [] (.ret (.fv (.int .i64 (idxB c.toNat s 0)))) [] := by
 refine ok_start (k := 6) (n0 := 0) (rs := [.tmp 4]) mix Tryz.func113 rfl rfl rfl rfl rfl rfl rfl ?_
 simp -implicitDefEqProofs only [evx,evy,ofValue,ofCell,List.range,List.range.loop,Array.size,Nat.reduceAdd,Nat.reduceSub,Nat.reduceEqDiff,List.replicate,if_true,if_false,↓reduceIte,reduceCtorEq,elB,evParts,Int.reduceToNat,Int.reduceLE,Int.reduceLT,Int.reduceEq,Nat.reduceMul,Nat.reduceLeDiff,Nat.reduceLT,ty3,ty4,ty9,ty5]
 refine callK_ret _ _ _ _ (call_pure (ok147 s c) (fun _ => rfl) (fun _ => rfl)) (ok_nil _ _) ?_
 simp -implicitDefEqProofs only [evx,evy,ofValue,ofCell,List.range,List.range.loop,Array.size,Nat.reduceAdd,Nat.reduceSub,Nat.reduceEqDiff,List.replicate,if_true,if_false,↓reduceIte,reduceCtorEq,elB,evParts,Int.reduceToNat,Int.reduceLE,Int.reduceLT,Int.reduceEq,Nat.reduceMul,Nat.reduceLeDiff,Nat.reduceLT,ty3,ty4,ty9,ty5]
 exact le_flat rfl
theorem drop_cons {s : Bs} {n : Nat} (h : n < s.length) : s.drop n = s[n] :: s.drop (n + 1) := List.drop_eq_getElem_cons h
theorem idx_str {s : Bs} {n : Nat} (h : n < s.length) : s[n]? = some s[n] := List.getElem?_eq_getElem h
theorem blank_ix (c : UInt8) : (0 ≤ idxB c.toNat [9,10,13,32] 0) = (isBl c = true) := by
 have h : ∀ n,n < 256 → decide (0 ≤ idxB n [9,10,13,32] 0) = (n == 9 || n == 10 || n == 13 || n == 32) := fun n hn => by
  have : ((List.range 256).all fun n => decide (0 ≤ idxB n [9,10,13,32] 0) == (n == 9 || n == 10 || n == 13 || n == 32)) = true := by kernel_rfl
  simpa using List.all_eq_true.1 this n (List.mem_range.2 hn)
 have := h c.toNat (UInt8.toNat_lt c)
 unfold isBl
 rw [← this]
 simp
theorem ok86 (s : Bs) (hs : s.length ≤ 4000) : Ok Tryz.prog 86 [.fv (.str s)] [] (.ret (.fv (.int .i64 (blankN s)))) [] := by
 refine ok_start (k := 34) (n0 := 0) (rs := [.tmp 2]) mix Tryz.func86 rfl rfl rfl rfl rfl rfl rfl ?_
 simp -implicitDefEqProofs only [evx,evy,ofValue,ofCell,List.range,List.range.loop,Array.size,Nat.reduceAdd,Nat.reduceSub,Nat.reduceEqDiff,List.replicate,if_true,if_false,↓reduceIte,reduceCtorEq,elB,evParts,Int.reduceToNat,Int.reduceLE,Int.reduceLT,Int.reduceEq,Nat.reduceMul,Nat.reduceLeDiff,Nat.reduceLT,ty3,ty4,ty9,ty5]
 refine loop_rule (fun n : Nat => ⟨[.fv (.str s),.any,.any,.fv (.int .i64 n),.any,.any,.any,.any,.any,.any,.any,.any,.any,.any,.any,.any,.any,.any,.any,.any,.any,.any,.any,.any,.any,.any,.any,.any,.any,.any,.any,.any,.any,.any,.any],[],[]⟩)
  (fun n => n ≤ s.length ∧ blankN s = n + blankG false (s.drop n)) (fun n => s.length - n) 0 (le_wk (by simp [wk])) (by simp [blankN]) (fun n hn st hst => ?_)
 obtain ⟨hn,hb⟩ := hn
 by_cases hlt : n < s.length
 ·have hix := idx_str hlt
  rw [drop_cons hlt] at hb
  have h22 := ok113 [9,10,13,32] s[n]
  have hbl := blank_ix s[n]
  generalize hc : s[n] = c at hix hb h22 hbl
  simp -implicitDefEqProofs only [lt_true hlt,hix,
  evx,evy,ofValue,ofCell,List.range,List.range.loop,Array.size,Nat.reduceAdd,Nat.reduceSub,Nat.reduceEqDiff,List.replicate,if_true,if_false,↓reduceIte,reduceCtorEq,elB,evParts,Int.reduceToNat,Int.reduceLE,Int.reduceLT,Int.reduceEq,Nat.reduceMul,Nat.reduceLeDiff,Nat.reduceLT,ty3,ty4,ty9,ty5]
  refine callK_ret _ _ _ _ (call_pure (h22) (fun _ => rfl) (fun _ => rfl)) (ok_nil _ _) ?_
  cases hisb : isBl c with
  | true =>
   have hbt : (0 ≤ idxB c.toNat [9,10,13,32] 0) = True := by rw [hbl]; simp [hisb]
   simp -implicitDefEqProofs only [hbt,wsucc n (by omega),
  evx,evy,ofValue,ofCell,List.range,List.range.loop,Array.size,Nat.reduceAdd,Nat.reduceSub,Nat.reduceEqDiff,List.replicate,if_true,if_false,↓reduceIte,reduceCtorEq,elB,evParts,Int.reduceToNat,Int.reduceLE,Int.reduceLT,Int.reduceEq,Nat.reduceMul,Nat.reduceLeDiff,Nat.reduceLT,ty3,ty4,ty9,ty5]
   refine back_intro hst (n + 1) (le_none (by simp [wk]) rfl) ⟨by omega,?_⟩ (by omega)
   rw [hb,blankG,if_pos hisb]; omega
  | false =>
   have hbf : (0 ≤ idxB c.toNat [9,10,13,32] 0) = False := by rw [hbl]; simp [hisb]
   by_cases h35 : c.toNat = 35
   ·have h35t : ((c.toNat : Int) = 35) = True := by simpa using (by omega : (c.toNat : Int) = 35)
    simp -implicitDefEqProofs only [hbf,hix,h35t,
  evx,evy,ofValue,ofCell,List.range,List.range.loop,Array.size,Nat.reduceAdd,Nat.reduceSub,Nat.reduceEqDiff,List.replicate,if_true,if_false,↓reduceIte,reduceCtorEq,elB,evParts,Int.reduceToNat,Int.reduceLE,Int.reduceLT,Int.reduceEq,Nat.reduceMul,Nat.reduceLeDiff,Nat.reduceLT,ty3,ty4,ty9,ty5]
    have hb2 : blankN s = n + 1 + blankG true (s.drop (n + 1)) := by
     rw [hb,blankG,if_neg (by simp [hisb]),if_pos (by simpa using h35)]; omega
    refine loop_rule (fun k : Nat => ⟨[.fv (.str s),.any,.any,.fv (.int .i64 k),.any,.any,.any,.any,.any,.any,.any,.any,.any,.any,.any,.any,.any,.any,.any,.any,.any,.any,.any,.any,.any,.any,.any,.any,.any,.any,.any,.any,.any,.any,.any],[],[]⟩)
     (fun k => k ≤ s.length ∧ n ≤ k ∧ (n < k → blankN s = k + blankG true (s.drop k))) (fun k => s.length - k) n (le_none (by simp [wk]) rfl) ⟨by omega,by omega,by omega⟩ (fun k hk st2 hst2 => ?_)
    obtain ⟨hk,hnk,hkb⟩ := hk
    by_cases hklt : k < s.length
    ·have hix2 := idx_str hklt
     have hdc := drop_cons hklt
     have hkn : k = n → s[k] = c := fun e => by subst e; exact hc
     generalize s[k] = d at hix2 hdc hkn
     by_cases h10 : d.toNat = 10
     ·have h10t : ((d.toNat : Int) ≠ 10) = False := by simpa using (by omega : (d.toNat : Int) = 10)
      have hlt2 : n < k := by
       rcases Nat.lt_or_ge n k with h | h
       ·exact h
       ·have := hkn (by omega); subst this; omega
      simp -implicitDefEqProofs only [lt_true hklt,hix2,h10t,
  evx,evy,ofValue,ofCell,List.range,List.range.loop,Array.size,Nat.reduceAdd,Nat.reduceSub,Nat.reduceEqDiff,List.replicate,if_true,if_false,↓reduceIte,reduceCtorEq,elB,evParts,Int.reduceToNat,Int.reduceLE,Int.reduceLT,Int.reduceEq,Nat.reduceMul,Nat.reduceLeDiff,Nat.reduceLT,ty3,ty4,ty9,ty5]
      refine back_intro hst k (le_none (by simp [wk]) rfl) ⟨by omega,?_⟩ (by omega)
      rw [hkb hlt2,hdc,blankG,blankG,if_pos (by simpa using h10),if_pos (by simp [isBl,h10])]
     ·have h10t : ((d.toNat : Int) ≠ 10) = True := by simpa using (by omega : ¬ (d.toNat : Int) = 10)
      simp -implicitDefEqProofs only [lt_true hklt,hix2,h10t,wsucc k (by omega),
  evx,evy,ofValue,ofCell,List.range,List.range.loop,Array.size,Nat.reduceAdd,Nat.reduceSub,Nat.reduceEqDiff,List.replicate,if_true,if_false,↓reduceIte,reduceCtorEq,elB,evParts,Int.reduceToNat,Int.reduceLE,Int.reduceLT,Int.reduceEq,Nat.reduceMul,Nat.reduceLeDiff,Nat.reduceLT,ty3,ty4,ty9,ty5]
      refine back_intro hst2 (k + 1) (le_none (by simp [wk]) rfl) ⟨by omega,by omega,fun _ => ?_⟩ (by omega)
      rcases Nat.lt_or_ge n k with h | h
      ·rw [hkb h,hdc,blankG,if_neg (by simpa using h10)]; omega
      ·obtain rfl : k = n := by omega
       exact hb2
    ·obtain rfl : k = s.length := by omega
     simp -implicitDefEqProofs only [lt_false hklt,
  evx,evy,ofValue,ofCell,List.range,List.range.loop,Array.size,Nat.reduceAdd,Nat.reduceSub,Nat.reduceEqDiff,List.replicate,if_true,if_false,↓reduceIte,reduceCtorEq,elB,evParts,Int.reduceToNat,Int.reduceLE,Int.reduceLT,Int.reduceEq,Nat.reduceMul,Nat.reduceLeDiff,Nat.reduceLT,ty3,ty4,ty9,ty5]
     refine back_intro hst s.length (le_none (by simp [wk]) rfl) ⟨by omega,?_⟩ (by omega)
     rw [hkb hlt]
     simp [blankG]
   ·have h35f : ((c.toNat : Int) = 35) = False := by simpa using (by omega : ¬ (c.toNat : Int) = 35)
    simp -implicitDefEqProofs only [hbf,hix,h35f,
  evx,evy,ofValue,ofCell,List.range,List.range.loop,Array.size,Nat.reduceAdd,Nat.reduceSub,Nat.reduceEqDiff,List.replicate,if_true,if_false,↓reduceIte,reduceCtorEq,elB,evParts,Int.reduceToNat,Int.reduceLE,Int.reduceLT,Int.reduceEq,Nat.reduceMul,Nat.reduceLeDiff,Nat.reduceLT,ty3,ty4,ty9,ty5]
    rw [hb,blankG,if_neg (by simp [hisb]),if_neg (by simpa using h35)]
    exact le_flat rfl
 ·obtain rfl : n = s.length := by omega
  simp -implicitDefEqProofs only [lt_false hlt,
  evx,evy,ofValue,ofCell,List.range,List.range.loop,Array.size,Nat.reduceAdd,Nat.reduceSub,Nat.reduceEqDiff,List.replicate,if_true,if_false,↓reduceIte,reduceCtorEq,elB,evParts,Int.reduceToNat,Int.reduceLE,Int.reduceLT,Int.reduceEq,Nat.reduceMul,Nat.reduceLeDiff,Nat.reduceLT,ty3,ty4,ty9,ty5]
  rw [hb]
  simp [blankG]
  exact le_flat rfl
end Go.Abs
/- Words: a name, a rule, a sign ahead. -/
namespace Go.Abs
open Go.Proofs
set_option linter.unusedVariables false
set_option linter.unusedSimpArgs false
set_option maxRecDepth 100000
set_option maxHeartbeats 1000000
def nmG (n : Nat) (s : Bs) : Nat := if n = 0 then nameLen s else ((s.drop n).takeWhile fun c => letterB c || digitB c).length
theorem nm_yes {s : Bs} {n : Nat} (h : n < s.length) (hc : letterB s[n] = true ∨ (0 < n ∧ digitB s[n] = true)) (hi : nameLen s = n + nmG n s) : nameLen s = n + 1 + nmG (n + 1) s := by
 have hP : (letterB s[n] || digitB s[n]) = true := by
  rcases hc with hc | hc
  ·simp [hc]
  ·simp [hc.2]
 rw [hi]
 unfold nmG
 rw [if_neg (by omega : ¬ n + 1 = 0)]
 by_cases h0 : n = 0
 ·subst h0
  rw [if_pos rfl]
  rcases hc with hc | hc
  ·have e : s = s[0] :: s.drop 1 := by have := drop_cons h; simpa using this
   have e2 : nameLen s = nameLen (s[0] :: s.drop 1) := by rw [← e]
   simp only [Nat.zero_add]
   rw [e2,nameLen,if_pos hc]; omega
  ·omega
 ·rw [if_neg h0,drop_cons h,List.takeWhile_cons,if_pos hP]
  simp only [List.length_cons]; omega
theorem nm_no {s : Bs} {n : Nat} (h : n < s.length) (hl : letterB s[n] = false) (hc : 0 < n → digitB s[n] = false) (hi : nameLen s = n + nmG n s) : nameLen s = n := by
 by_cases h0 : n = 0
 ·subst h0
  have e : s = s[0] :: s.drop 1 := by have := drop_cons h; simpa using this
  have e2 : nameLen s = nameLen (s[0] :: s.drop 1) := by rw [← e]
  rw [e2,nameLen,if_neg (by simp [hl])]
 ·rw [hi]
  unfold nmG
  rw [if_neg h0,drop_cons h,List.takeWhile_cons,if_neg (by simp [hl,hc (by omega)])]
  rfl
theorem nm_end {s : Bs} (hi : nameLen s = s.length + nmG s.length s) : nameLen s = s.length := by
 have := nameLen_le s
 omega
theorem ok87 (s : Bs) (hs : s.length ≤ 4000) : Ok Tryz.prog 87 [.fv (.str s)] [] (.ret (.fv (.int .i64 (nameN s)))) [] := by
 refine ok_start (k := 34) (n0 := 0) (rs := [.tmp 2]) mix Tryz.func87 rfl rfl rfl rfl rfl rfl rfl ?_
 simp -implicitDefEqProofs only [evx,evy,ofValue,ofCell,List.range,List.range.loop,Array.size,Nat.reduceAdd,Nat.reduceSub,Nat.reduceEqDiff,List.replicate,if_true,if_false,↓reduceIte,reduceCtorEq,elB,evParts,Int.reduceToNat,Int.reduceLE,Int.reduceLT,Int.reduceEq,Nat.reduceMul,Nat.reduceLeDiff,Nat.reduceLT,ty3,ty4,ty9,ty5]
 refine loop_rule (fun n : Nat => ⟨[.fv (.str s),.any,.any,.fv (.int .i64 n),.any,.any,.any,.any,.any,.any,.any,.any,.any,.any,.any,.any,.any,.any,.any,.any,.any,.any,.any,.any,.any,.any,.any,.any,.any,.any,.any,.any,.any,.any,.any],[],[]⟩)
  (fun n => n ≤ s.length ∧ nameLen s = n + nmG n s) (fun n => s.length - n) 0 (le_wk (by simp [wk])) (by simp [nmG]) (fun n hn st hst => ?_)
 obtain ⟨hn,hb⟩ := hn
 by_cases hlt : n < s.length
 ·have hix := idx_str hlt
  have hyes := fun h => nm_yes hlt h hb
  have hno := fun h1 h2 => nm_no hlt h1 h2 hb
  have h22 := ok114 s[n]
  generalize hc : s[n] = c at hix hyes hno h22
  simp -implicitDefEqProofs only [lt_true hlt,hix,
  evx,evy,ofValue,ofCell,List.range,List.range.loop,Array.size,Nat.reduceAdd,Nat.reduceSub,Nat.reduceEqDiff,List.replicate,if_true,if_false,↓reduceIte,reduceCtorEq,elB,evParts,Int.reduceToNat,Int.reduceLE,Int.reduceLT,Int.reduceEq,Nat.reduceMul,Nat.reduceLeDiff,Nat.reduceLT,ty3,ty4,ty9,ty5]
  refine callK_ret _ _ _ _ (call_pure (h22) (fun _ => rfl) (fun _ => rfl)) (ok_nil _ _) ?_
  cases hl : letterB c with
  | true =>
   simp -implicitDefEqProofs only [wsucc n (by omega),
  evx,evy,ofValue,ofCell,List.range,List.range.loop,Array.size,Nat.reduceAdd,Nat.reduceSub,Nat.reduceEqDiff,List.replicate,if_true,if_false,↓reduceIte,reduceCtorEq,elB,evParts,Int.reduceToNat,Int.reduceLE,Int.reduceLT,Int.reduceEq,Nat.reduceMul,Nat.reduceLeDiff,Nat.reduceLT,ty3,ty4,ty9,ty5]
   refine back_intro hst (n + 1) (le_none (by simp [wk]) rfl) ⟨by omega,hyes (.inl hl)⟩ (by omega)
  | false =>
   by_cases h0 : 0 < n
   ·have h0t : ((0 : Int) < (n : Int)) = True := by simpa using h0
    by_cases h1 : 48 ≤ c.toNat
    ·have h1t : ((48 : Int) ≤ (c.toNat : Int)) = True := by simpa using (by omega : (48 : Int) ≤ (c.toNat : Int))
     by_cases h2 : c.toNat ≤ 57
     ·have h2t : ((c.toNat : Int) ≤ 57) = True := by simpa using (by omega : (c.toNat : Int) ≤ 57)
      simp -implicitDefEqProofs only [h0t,hix,h1t,h2t,wsucc n (by omega),
  evx,evy,ofValue,ofCell,List.range,List.range.loop,Array.size,Nat.reduceAdd,Nat.reduceSub,Nat.reduceEqDiff,List.replicate,if_true,if_false,↓reduceIte,reduceCtorEq,elB,evParts,Int.reduceToNat,Int.reduceLE,Int.reduceLT,Int.reduceEq,Nat.reduceMul,Nat.reduceLeDiff,Nat.reduceLT,ty3,ty4,ty9,ty5]
      refine back_intro hst (n + 1) (le_none (by simp [wk]) rfl) ⟨by omega,hyes (.inr ⟨h0,by simp [digitB]; omega⟩)⟩ (by omega)
     ·have h2t : ((c.toNat : Int) ≤ 57) = False := by simpa using (by omega : ¬ (c.toNat : Int) ≤ 57)
      have hlen := hno hl (fun _ => by simp [digitB]; omega)
      by_cases h16 : 16 < n
      ·have h16t : ((16 : Int) < (n : Int)) = True := lit_true (by omega)
       simp -implicitDefEqProofs only [h0t,hix,h1t,h2t,h16t,
  evx,evy,ofValue,ofCell,List.range,List.range.loop,Array.size,Nat.reduceAdd,Nat.reduceSub,Nat.reduceEqDiff,List.replicate,if_true,if_false,↓reduceIte,reduceCtorEq,elB,evParts,Int.reduceToNat,Int.reduceLE,Int.reduceLT,Int.reduceEq,Nat.reduceMul,Nat.reduceLeDiff,Nat.reduceLT,ty3,ty4,ty9,ty5]
       rw [nameN,if_pos (by omega)]
       exact le_flat rfl
      ·have h16t : ((16 : Int) < (n : Int)) = False := lit_false (by omega)
       simp -implicitDefEqProofs only [h0t,hix,h1t,h2t,h16t,
  evx,evy,ofValue,ofCell,List.range,List.range.loop,Array.size,Nat.reduceAdd,Nat.reduceSub,Nat.reduceEqDiff,List.replicate,if_true,if_false,↓reduceIte,reduceCtorEq,elB,evParts,Int.reduceToNat,Int.reduceLE,Int.reduceLT,Int.reduceEq,Nat.reduceMul,Nat.reduceLeDiff,Nat.reduceLT,ty3,ty4,ty9,ty5]
       rw [nameN,if_neg (by omega),hlen]
       exact le_flat rfl
    ·have h1t : ((48 : Int) ≤ (c.toNat : Int)) = False := by simpa using (by omega : ¬ (48 : Int) ≤ (c.toNat : Int))
     have hlen := hno hl (fun _ => by simp [digitB]; omega)
     by_cases h16 : 16 < n
     ·have h16t : ((16 : Int) < (n : Int)) = True := lit_true (by omega)
      simp -implicitDefEqProofs only [h0t,hix,h1t,h16t,
  evx,evy,ofValue,ofCell,List.range,List.range.loop,Array.size,Nat.reduceAdd,Nat.reduceSub,Nat.reduceEqDiff,List.replicate,if_true,if_false,↓reduceIte,reduceCtorEq,elB,evParts,Int.reduceToNat,Int.reduceLE,Int.reduceLT,Int.reduceEq,Nat.reduceMul,Nat.reduceLeDiff,Nat.reduceLT,ty3,ty4,ty9,ty5]
      rw [nameN,if_pos (by omega)]
      exact le_flat rfl
     ·have h16t : ((16 : Int) < (n : Int)) = False := lit_false (by omega)
      simp -implicitDefEqProofs only [h0t,hix,h1t,h16t,
  evx,evy,ofValue,ofCell,List.range,List.range.loop,Array.size,Nat.reduceAdd,Nat.reduceSub,Nat.reduceEqDiff,List.replicate,if_true,if_false,↓reduceIte,reduceCtorEq,elB,evParts,Int.reduceToNat,Int.reduceLE,Int.reduceLT,Int.reduceEq,Nat.reduceMul,Nat.reduceLeDiff,Nat.reduceLT,ty3,ty4,ty9,ty5]
      rw [nameN,if_neg (by omega),hlen]
      exact le_flat rfl
   ·obtain rfl : n = 0 := by omega
    have hlen := hno hl (fun h => absurd h (by omega))
    simp -implicitDefEqProofs only [Int.natCast_zero,Int.reduceLT,
  evx,evy,ofValue,ofCell,List.range,List.range.loop,Array.size,Nat.reduceAdd,Nat.reduceSub,Nat.reduceEqDiff,List.replicate,if_true,if_false,↓reduceIte,reduceCtorEq,elB,evParts,Int.reduceToNat,Int.reduceLE,Int.reduceLT,Int.reduceEq,Nat.reduceMul,Nat.reduceLeDiff,Nat.reduceLT,ty3,ty4,ty9,ty5]
    rw [nameN,if_neg (by omega),hlen]
    exact le_flat rfl
 ·obtain rfl : n = s.length := by omega
  have hlen := nm_end hb
  by_cases h16 : 16 < s.length
  ·have h16t : ((16 : Int) < (s.length : Int)) = True := lit_true (by omega)
   simp -implicitDefEqProofs only [lt_false hlt,h16t,
  evx,evy,ofValue,ofCell,List.range,List.range.loop,Array.size,Nat.reduceAdd,Nat.reduceSub,Nat.reduceEqDiff,List.replicate,if_true,if_false,↓reduceIte,reduceCtorEq,elB,evParts,Int.reduceToNat,Int.reduceLE,Int.reduceLT,Int.reduceEq,Nat.reduceMul,Nat.reduceLeDiff,Nat.reduceLT,ty3,ty4,ty9,ty5]
   rw [nameN,if_pos (by omega)]
   exact le_flat rfl
  ·have h16t : ((16 : Int) < (s.length : Int)) = False := lit_false (by omega)
   simp -implicitDefEqProofs only [lt_false hlt,h16t,
  evx,evy,ofValue,ofCell,List.range,List.range.loop,Array.size,Nat.reduceAdd,Nat.reduceSub,Nat.reduceEqDiff,List.replicate,if_true,if_false,↓reduceIte,reduceCtorEq,elB,evParts,Int.reduceToNat,Int.reduceLE,Int.reduceLT,Int.reduceEq,Nat.reduceMul,Nat.reduceLeDiff,Nat.reduceLT,ty3,ty4,ty9,ty5]
   rw [nameN,if_neg (by omega),hlen]
   exact le_flat rfl
theorem ruleG_cons (c : UInt8) (r : Bs) (n : Nat) : ruleG (c :: r) n = if c.toNat == 10 then 0 else if c.toNat == 47 then n + 1 else if c.toNat == 92 then (match r with
   | [] => 0
   | d :: r' => if d.toNat == 10 then 0 else ruleG r' (n + 2)) else ruleG r (n + 1) := by
 rw [ruleG.eq_def]
 cases r <;> rfl
theorem ruleG_nil (n : Nat) : ruleG [] n = 0 := by
 rw [ruleG.eq_def]
theorem sign_ix (c : UInt8) : (idxB c.toNat [58,59,124,37] 0 < 0) = ((c.toNat == 58 || c.toNat == 59 || c.toNat == 124 || c.toNat == 37) = false) := by
 have h : ∀ n,n < 256 → decide (idxB n [58,59,124,37] 0 < 0) = !(n == 58 || n == 59 || n == 124 || n == 37) := fun n hn => by
  have : ((List.range 256).all fun n => decide (idxB n [58,59,124,37] 0 < 0) == !(n == 58 || n == 59 || n == 124 || n == 37)) = true := by kernel_rfl
  simpa using List.all_eq_true.1 this n (List.mem_range.2 hn)
 have := h c.toNat (UInt8.toNat_lt c)
 generalize (c.toNat == 58 || c.toNat == 59 || c.toNat == 124 || c.toNat == 37) = b at this
 cases b <;> simpa using this
theorem ok89 (s : Bs) (hs : 0 < s.length) : Ok Tryz.prog 89 [.fv (.str s)] [] (.ret (.fv (.int .i64 (signN s)))) [] := by
 refine ok_start (k := 6) (n0 := 0) (rs := [.tmp 2]) mix Tryz.func89 rfl rfl rfl rfl rfl rfl rfl ?_
 cases s with
 | nil => simp at hs
 | cons c r =>
  simp -implicitDefEqProofs only [List.getElem?_cons_zero,
  evx,evy,ofValue,ofCell,List.range,List.range.loop,Array.size,Nat.reduceAdd,Nat.reduceSub,Nat.reduceEqDiff,List.replicate,if_true,if_false,↓reduceIte,reduceCtorEq,elB,evParts,Int.reduceToNat,Int.reduceLE,Int.reduceLT,Int.reduceEq,Nat.reduceMul,Nat.reduceLeDiff,Nat.reduceLT,ty3,ty4,ty9,ty5]
  refine callK_ret _ _ _ _ (call_pure (ok113 [58,59,124,37] c) (fun _ => rfl) (fun _ => rfl)) (ok_nil _ _) ?_
  have hx := sign_ix c
  have hv : signN (c :: r) = if (c.toNat == 58 || c.toNat == 59 || c.toNat == 124 || c.toNat == 37) = true then 1 else 0 := rfl
  generalize (c.toNat == 58 || c.toNat == 59 || c.toNat == 124 || c.toNat == 37) = b at hx hv
  cases b with
  | true =>
   have hf : (idxB c.toNat [58,59,124,37] 0 < 0) = False := by rw [hx]; simp
   simp -implicitDefEqProofs only [hf,
  evx,evy,ofValue,ofCell,List.range,List.range.loop,Array.size,Nat.reduceAdd,Nat.reduceSub,Nat.reduceEqDiff,List.replicate,if_true,if_false,↓reduceIte,reduceCtorEq,elB,evParts,Int.reduceToNat,Int.reduceLE,Int.reduceLT,Int.reduceEq,Nat.reduceMul,Nat.reduceLeDiff,Nat.reduceLT,ty3,ty4,ty9,ty5]
   rw [hv]
   exact le_flat (v := .fv (.int .i64 1)) rfl
  | false =>
   have hf : (idxB c.toNat [58,59,124,37] 0 < 0) = True := by rw [hx]; simp
   simp -implicitDefEqProofs only [hf,
  evx,evy,ofValue,ofCell,List.range,List.range.loop,Array.size,Nat.reduceAdd,Nat.reduceSub,Nat.reduceEqDiff,List.replicate,if_true,if_false,↓reduceIte,reduceCtorEq,elB,evParts,Int.reduceToNat,Int.reduceLE,Int.reduceLT,Int.reduceEq,Nat.reduceMul,Nat.reduceLeDiff,Nat.reduceLT,ty3,ty4,ty9,ty5]
   rw [hv]
   exact le_flat (v := .fv (.int .i64 0)) rfl
theorem ok88 (s : Bs) (hs : 0 < s.length) (hs2 : s.length ≤ 4000) : Ok Tryz.prog 88 [.fv (.str s)] [] (.ret (.fv (.int .i64 (ruleN s)))) [] := by
 refine ok_start (k := 44) (n0 := 0) (rs := [.tmp 2]) mix Tryz.func88 rfl rfl rfl rfl rfl rfl rfl ?_
 have hix0 := idx_str hs
 have hr : ruleN s = if s[0].toNat = 47 then ruleG (s.drop 1) 1 else 0 := by
  have e : s = s[0] :: s.drop 1 := by have := drop_cons hs; simpa using this
  have e2 : ruleN s = ruleN (s[0] :: s.drop 1) := by rw [← e]
  rw [e2,ruleN]
  simp
 generalize s[0] = c0 at hix0 hr
 by_cases h47 : c0.toNat = 47
 ·have h47t : ((c0.toNat : Int) ≠ 47) = False := by simpa using (by omega : (c0.toNat : Int) = 47)
  rw [if_pos h47] at hr
  simp -implicitDefEqProofs only [hix0,h47t,
  evx,evy,ofValue,ofCell,List.range,List.range.loop,Array.size,Nat.reduceAdd,Nat.reduceSub,Nat.reduceEqDiff,List.replicate,if_true,if_false,↓reduceIte,reduceCtorEq,elB,evParts,Int.reduceToNat,Int.reduceLE,Int.reduceLT,Int.reduceEq,Nat.reduceMul,Nat.reduceLeDiff,Nat.reduceLT,ty3,ty4,ty9,ty5]
  refine loop_rule (fun n : Nat => ⟨[.fv (.str s),.any,.any,.fv (.int .i64 n),.any,.any,.any,.any,.any,.any,.any,.any,.any,.any,.any,.any,.any,.any,.any,.any,.any,.any,.any,.any,.any,.any,.any,.any,.any,.any,.any,.any,.any,.any,.any,.any,.any,.any,.any,.any,.any,.any,.any,.any,.any],[],[]⟩)
   (fun n => n ≤ s.length ∧ ruleN s = ruleG (s.drop n) n) (fun n => s.length - n) 1 (le_wk (by simp [wk])) ⟨by omega,hr⟩ (fun n hn st hst => ?_)
  obtain ⟨hn,hb⟩ := hn
  by_cases hlt : n < s.length
  ·have hix := idx_str hlt
   rw [drop_cons hlt] at hb
   generalize s[n] = c at hix hb
   by_cases h10 : c.toNat = 10
   ·have h10t : ((c.toNat : Int) ≠ 10) = False := by simpa using (by omega : (c.toNat : Int) = 10)
    simp -implicitDefEqProofs only [lt_true hlt,hix,h10t,
  evx,evy,ofValue,ofCell,List.range,List.range.loop,Array.size,Nat.reduceAdd,Nat.reduceSub,Nat.reduceEqDiff,List.replicate,if_true,if_false,↓reduceIte,reduceCtorEq,elB,evParts,Int.reduceToNat,Int.reduceLE,Int.reduceLT,Int.reduceEq,Nat.reduceMul,Nat.reduceLeDiff,Nat.reduceLT,ty3,ty4,ty9,ty5]
    rw [hb,ruleG_cons,if_pos (by simpa using h10)]
    exact le_flat rfl
   ·have h10t : ((c.toNat : Int) ≠ 10) = True := by simpa using (by omega : ¬ (c.toNat : Int) = 10)
    by_cases h4 : c.toNat = 47
    ·have h4t : ((c.toNat : Int) = 47) = True := by simpa using (by omega : (c.toNat : Int) = 47)
     simp -implicitDefEqProofs only [lt_true hlt,hix,h10t,h4t,wsucc n (by omega),
  evx,evy,ofValue,ofCell,List.range,List.range.loop,Array.size,Nat.reduceAdd,Nat.reduceSub,Nat.reduceEqDiff,List.replicate,if_true,if_false,↓reduceIte,reduceCtorEq,elB,evParts,Int.reduceToNat,Int.reduceLE,Int.reduceLT,Int.reduceEq,Nat.reduceMul,Nat.reduceLeDiff,Nat.reduceLT,ty3,ty4,ty9,ty5]
     rw [hb,ruleG_cons,if_neg (by simpa using h10),if_pos (by simpa using h4)]
     exact le_flat rfl
    ·have h4t : ((c.toNat : Int) = 47) = False := by simpa using (by omega : ¬ (c.toNat : Int) = 47)
     by_cases h9 : c.toNat = 92
     ·have h9t : ((c.toNat : Int) = 92) = True := by simpa using (by omega : (c.toNat : Int) = 92)
      rw [ruleG_cons,if_neg (by simpa using h10),if_neg (by simpa using h4),if_pos (by simpa using h9)] at hb
      by_cases hl2 : n + 1 < s.length
      ·have hix2 := idx_str hl2
       rw [drop_cons hl2] at hb
       simp only at hb
       generalize s[n + 1] = d at hix2 hb
       have hls : (((n + 1 : Nat) : Int) < (s.length : Int)) = True := lt_true hl2
       by_cases hd : d.toNat = 10
       ·have hdt : ((d.toNat : Int) ≠ 10) = False := by simpa using (by omega : (d.toNat : Int) = 10)
        simp -implicitDefEqProofs only [lt_true hlt,hix,h10t,h4t,h9t,wsucc n (by omega),hls,hix2,hdt,
  evx,evy,ofValue,ofCell,List.range,List.range.loop,Array.size,Nat.reduceAdd,Nat.reduceSub,Nat.reduceEqDiff,List.replicate,if_true,if_false,↓reduceIte,reduceCtorEq,elB,evParts,Int.reduceToNat,Int.reduceLE,Int.reduceLT,Int.reduceEq,Nat.reduceMul,Nat.reduceLeDiff,Nat.reduceLT,ty3,ty4,ty9,ty5]
        rw [if_pos (by simpa using hd)] at hb
        refine back_intro hst (n + 1) (le_none (by simp [wk]) rfl) ⟨by omega,?_⟩ (by omega)
        rw [hb,drop_cons hl2]
        rw [ruleG_cons]
        have : s[n + 1] = d := by rw [List.getElem?_eq_getElem hl2] at hix2; simpa using hix2
        rw [this,if_pos (by simpa using hd)]
       ·have hdt : ((d.toNat : Int) ≠ 10) = True := by simpa using (by omega : ¬ (d.toNat : Int) = 10)
        simp -implicitDefEqProofs only [lt_true hlt,hix,h10t,h4t,h9t,wsucc n (by omega),hls,hix2,hdt,wsucc (n + 1) (by omega),
  evx,evy,ofValue,ofCell,List.range,List.range.loop,Array.size,Nat.reduceAdd,Nat.reduceSub,Nat.reduceEqDiff,List.replicate,if_true,if_false,↓reduceIte,reduceCtorEq,elB,evParts,Int.reduceToNat,Int.reduceLE,Int.reduceLT,Int.reduceEq,Nat.reduceMul,Nat.reduceLeDiff,Nat.reduceLT,ty3,ty4,ty9,ty5]
        rw [if_neg (by simpa using hd)] at hb
        refine back_intro hst (n + 1 + 1) (le_none (by simp [wk]) rfl) ⟨by omega,hb⟩ (by omega)
      ·have hls : (((n + 1 : Nat) : Int) < (s.length : Int)) = False := lt_false hl2
       rw [List.drop_eq_nil_of_le (by omega)] at hb
       simp only at hb
       simp -implicitDefEqProofs only [lt_true hlt,hix,h10t,h4t,h9t,wsucc n (by omega),hls,
  evx,evy,ofValue,ofCell,List.range,List.range.loop,Array.size,Nat.reduceAdd,Nat.reduceSub,Nat.reduceEqDiff,List.replicate,if_true,if_false,↓reduceIte,reduceCtorEq,elB,evParts,Int.reduceToNat,Int.reduceLE,Int.reduceLT,Int.reduceEq,Nat.reduceMul,Nat.reduceLeDiff,Nat.reduceLT,ty3,ty4,ty9,ty5]
       refine back_intro hst (n + 1) (le_none (by simp [wk]) rfl) ⟨by omega,?_⟩ (by omega)
       rw [hb,List.drop_eq_nil_of_le (by omega),ruleG_nil]
     ·have h9t : ((c.toNat : Int) = 92) = False := by simpa using (by omega : ¬ (c.toNat : Int) = 92)
      rw [ruleG_cons,if_neg (by simpa using h10),if_neg (by simpa using h4),if_neg (by simpa using h9)] at hb
      simp -implicitDefEqProofs only [lt_true hlt,hix,h10t,h4t,h9t,wsucc n (by omega),
  evx,evy,ofValue,ofCell,List.range,List.range.loop,Array.size,Nat.reduceAdd,Nat.reduceSub,Nat.reduceEqDiff,List.replicate,if_true,if_false,↓reduceIte,reduceCtorEq,elB,evParts,Int.reduceToNat,Int.reduceLE,Int.reduceLT,Int.reduceEq,Nat.reduceMul,Nat.reduceLeDiff,Nat.reduceLT,ty3,ty4,ty9,ty5]
      refine back_intro hst (n + 1) (le_none (by simp [wk]) rfl) ⟨by omega,hb⟩ (by omega)
  ·obtain rfl : n = s.length := by omega
   simp -implicitDefEqProofs only [lt_false hlt,
  evx,evy,ofValue,ofCell,List.range,List.range.loop,Array.size,Nat.reduceAdd,Nat.reduceSub,Nat.reduceEqDiff,List.replicate,if_true,if_false,↓reduceIte,reduceCtorEq,elB,evParts,Int.reduceToNat,Int.reduceLE,Int.reduceLT,Int.reduceEq,Nat.reduceMul,Nat.reduceLeDiff,Nat.reduceLT,ty3,ty4,ty9,ty5]
   rw [hb,List.drop_length,ruleG_nil]
   exact le_flat (v := .fv (.int .i64 0)) rfl
 ·have h47t : ((c0.toNat : Int) ≠ 47) = True := by simpa using (by omega : ¬ (c0.toNat : Int) = 47)
  rw [if_neg h47] at hr
  simp -implicitDefEqProofs only [hix0,h47t,
  evx,evy,ofValue,ofCell,List.range,List.range.loop,Array.size,Nat.reduceAdd,Nat.reduceSub,Nat.reduceEqDiff,List.replicate,if_true,if_false,↓reduceIte,reduceCtorEq,elB,evParts,Int.reduceToNat,Int.reduceLE,Int.reduceLT,Int.reduceEq,Nat.reduceMul,Nat.reduceLeDiff,Nat.reduceLT,ty3,ty4,ty9,ty5]
  rw [hr]
  exact le_flat rfl
end Go.Abs
