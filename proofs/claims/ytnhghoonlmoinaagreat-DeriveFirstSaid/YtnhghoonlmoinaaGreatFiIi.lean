/- What begins a text: the document's answer; symbols of a grammar. -/
import Derived.Test.YtnhghoonlmoinaaGreatTyTryzi
import Derived.Test.YtnhghoonlmoinaaGreatDrTryzi
import Derived.Test.YtnhghoonlmoinaaGreatFiFi
namespace Go.Abs
open Go.Proofs
set_option linter.unusedVariables false
set_option linter.unusedSimpArgs false
set_option maxRecDepth 100000
set_option maxHeartbeats 8000000
def lowN (T : Nat) (l : List Int) : List Int := l.filter fun n => decide (n ≤ (T : Int))
theorem lowN_succ {T : Nat} {l : List Int} {i : Nat} (h : i < l.length) : lowN T (l.take (i + 1)) = if l[i] ≤ (T : Int) then lowN T (l.take i) ++ [l[i]] else lowN T (l.take i) := by
 unfold lowN
 rw [List.take_add_one,List.getElem?_eq_getElem h,List.filter_append]
 split
 ·rename_i e; simp [e]
 ·rename_i e
  have e : ¬ (l[i] ≤ (T : Int)) := e
  simp [e]
theorem lowN_len (T : Nat) (l : List Int) : (lowN T l).length ≤ l.length := List.length_filter_le _ _
open Classical in
theorem gone_those {g : Gra} (hs : Sound g) (text : List Int) : goneB (g.those (Nul g)) text = decide (∀ k ∈ text,Nul g k) := by
 rw [Bool.eq_iff_iff,goneB_iff,decide_eq_true_eq]
 exact ⟨fun h k hk => ((g.mem_those _ _).1 (h k hk)).2,fun h k hk => (g.mem_those _ _).2 ⟨hs.nul (h k hk),h k hk⟩⟩
theorem startsL_len {g : Gra} (hs : Sound g) {null : List Int} (hnull : ∀ n,n ∈ null ↔ Nul g n) {text : List Int} (hsy : ∀ n ∈ text,1 ≤ n ∧ n ≤ (g.all : Int)) : (startsL g null text).length ≤ g.all := by
 have key : ∀ (f : Nat) (todo : List (List Int)) (out : List Int),StaI g text out todo → (startsR g null f todo out).length ≤ g.all := by
  intro f
  induction f with
  | zero => intro todo out h; exact nodup_len h.nd h.rg
  | succ f ih =>
   intro todo out h
   cases todo with
   | nil => exact nodup_len h.nd h.rg
   | cons t todo => exact ih _ _ (h.next hs hnull)
 exact key _ _ _ (staI_start hsy)
open Classical in
theorem ok18 (g : Gra) (hg : Small g 100) (hsd : g.sound = true) (text : List Int) (ht : text.length ≤ 1000) (hsy : g.symsB text = true) : Ok Tryz.prog 18 [g.av,.fv (.lst 1 (ints text))] [] (.ret (.tuple [.fv (.lst 1 (ints (g.firsts text))),.fv (.bool (decide (∀ k ∈ text,Nul g k)))])) [] := by
 have hso := g.sound_iff hsd
 have hal := hso.all_le
 have hnn := hso.nnonts
 have hterms := ok20 g hg.nrules
 have hvan := ok45 g hg hsd
 have hsy2 := symsB_iff.1 hsy
 have hnull : ∀ n,n ∈ g.those (Nul g) ↔ Nul g n := fun n => by rw [g.mem_those]; exact ⟨fun h => h.2,fun h => ⟨hso.nul h,h⟩⟩
 have hnl := g.those_length (Nul g)
 have hst := ok46 g hsd _ hnull (by omega) text ht hsy2
 have hfs := firsts_starts hso hnull hsy2
 have hsl := startsL_len hso hnull hsy2
 have hgo := ok48 (g.those (Nul g)) text (by omega) (by omega)
 rw [gone_those hso] at hgo
 generalize decide (∀ k ∈ text,Nul g k) = nu at hgo
 generalize g.those (Nul g) = null at hvan hst hfs hsl hgo hnl
 generalize startsL g null text = l at hst hfs hsl
 have hil := ints_length l
 change setOf (lowN g.terms l) = g.firsts text at hfs
 refine ok_start (k := 41) (n0 := 0) (rs := [.tmp 4,.tmp 5]) mix Tryz.func18 rfl rfl rfl rfl rfl rfl rfl ?_
 simp -implicitDefEqProofs only [Gra.av,
  evx,evy,ofValue,ofCell,List.range,List.range.loop,Array.size,Nat.reduceAdd,Nat.reduceSub,Nat.reduceEqDiff,List.replicate,if_true,if_false,↓reduceIte,reduceCtorEq,elB,evParts,Int.reduceToNat,Int.reduceLE,Int.reduceLT,Int.reduceEq,Nat.reduceMul,Nat.reduceLeDiff,Nat.reduceLT,ty3,ty4,ty9,ty28,ty85,ty22,ty23,ty24,ty25,ty27,ty63]
 refine callK_ret _ _ _ _ (call_pure (hvan) (fun _ => rfl) (fun _ => rfl)) (ok_nil _ _) ?_
 simp -implicitDefEqProofs only [evx,evy,ofValue,ofCell,List.range,List.range.loop,Array.size,Nat.reduceAdd,Nat.reduceSub,Nat.reduceEqDiff,List.replicate,if_true,if_false,↓reduceIte,reduceCtorEq,elB,evParts,Int.reduceToNat,Int.reduceLE,Int.reduceLT,Int.reduceEq,Nat.reduceMul,Nat.reduceLeDiff,Nat.reduceLT,ty3,ty4,ty9,ty28,ty85,ty22,ty23,ty24,ty25,ty27,ty63]
 refine callK_ret _ _ _ _ (call_pure (hterms) (fun _ => rfl) (fun _ => rfl)) (ok_nil _ _) ?_
 simp -implicitDefEqProofs only [evx,evy,ofValue,ofCell,List.range,List.range.loop,Array.size,Nat.reduceAdd,Nat.reduceSub,Nat.reduceEqDiff,List.replicate,if_true,if_false,↓reduceIte,reduceCtorEq,elB,evParts,Int.reduceToNat,Int.reduceLE,Int.reduceLT,Int.reduceEq,Nat.reduceMul,Nat.reduceLeDiff,Nat.reduceLT,ty3,ty4,ty9,ty28,ty85,ty22,ty23,ty24,ty25,ty27,ty63]
 refine callK_ret _ _ _ _ (call_pure (hst) (fun _ => rfl) (fun _ => rfl)) (ok_nil _ _) ?_
 simp -implicitDefEqProofs only [evx,evy,ofValue,ofCell,List.range,List.range.loop,Array.size,Nat.reduceAdd,Nat.reduceSub,Nat.reduceEqDiff,List.replicate,if_true,if_false,↓reduceIte,reduceCtorEq,elB,evParts,Int.reduceToNat,Int.reduceLE,Int.reduceLT,Int.reduceEq,Nat.reduceMul,Nat.reduceLeDiff,Nat.reduceLT,ty3,ty4,ty9,ty28,ty85,ty22,ty23,ty24,ty25,ty27,ty63]
 refine loop_rule (fun i : Nat => ⟨[.any,.fv (.lst 1 (ints text)),.any,.any,.any,.any,.fv (.lst 1 (ints null)),.fv (.int .i64 g.terms),.ref 1 1 0 (lowN g.terms (l.take i)).length,.fv (.lst 1 (ints l)),.fv (.int .i64 i),.any,.any,.any,.any,.any,.any,.any,.any,.any,.any,.any,.any,.any,.any,.any,.any,.any,.any,.any,.any,.any,.any,.any,.any,.any,.any,.any,.any,.any,.any,.any,.any],[.box g.cells,.plain 1 (ints (lowN g.terms (l.take i)))],[]⟩)
  (fun i => i ≤ l.length) (fun i => l.length - i) 0 (Le.trans (le_virt 8 1 rfl) (le_wk (by simp [wk,Gra.cells,ints,lowN]))) (by simp) (fun i hi s hs => ?_)
 have hll := lowN_len g.terms (l.take i)
 rw [List.length_take] at hll
 have hlil := ints_length (lowN g.terms (l.take i))
 by_cases hlt : i < l.length
 ·have hr := ints_get l i hlt
  have hsu := lowN_succ (T := g.terms) hlt
  generalize l[i] = n at hr hsu
  by_cases hc : n ≤ (g.terms : Int)
  ·have hct : (n ≤ (g.terms : Int)) = True := by simpa using hc
   rw [if_pos hc] at hsu
   simp -implicitDefEqProofs only [hil,lt_true hlt,hr,hct,wsucc i (by omega),
  evx,evy,ofValue,ofCell,List.range,List.range.loop,Array.size,Nat.reduceAdd,Nat.reduceSub,Nat.reduceEqDiff,List.replicate,if_true,if_false,↓reduceIte,reduceCtorEq,elB,evParts,Int.reduceToNat,Int.reduceLE,Int.reduceLT,Int.reduceEq,Nat.reduceMul,Nat.reduceLeDiff,Nat.reduceLT,ty3,ty4,ty9,ty28,ty85,ty22,ty23,ty24,ty25,ty27,ty63]
   refine ⟨⟨by omega,by omega⟩,back_intro hs (i + 1) (le_pk [0,3] rfl (by simp) (by simp) ?_ ?_) (by omega) (by omega)⟩
   ·have e : List.take (lowN g.terms (l.take i)).length (ints (lowN g.terms (l.take i))) ++ [[FV.int IntKind.i64 n]] = ints (lowN g.terms (l.take (i + 1))) := by
     rw [hsu,← hlil,List.take_length,ints_append]; rfl
    simp [subBlk,subAny,subA,mkSub,idx,Gra.cells,e]
   ·rw [hsu]; simp [wk,subAny,subA,mkSub,idx]
  ·have hct : (n ≤ (g.terms : Int)) = False := by simpa using hc
   rw [if_neg hc] at hsu
   simp -implicitDefEqProofs only [hil,lt_true hlt,hr,hct,wsucc i (by omega),
  evx,evy,ofValue,ofCell,List.range,List.range.loop,Array.size,Nat.reduceAdd,Nat.reduceSub,Nat.reduceEqDiff,List.replicate,if_true,if_false,↓reduceIte,reduceCtorEq,elB,evParts,Int.reduceToNat,Int.reduceLE,Int.reduceLT,Int.reduceEq,Nat.reduceMul,Nat.reduceLeDiff,Nat.reduceLT,ty3,ty4,ty9,ty28,ty85,ty22,ty23,ty24,ty25,ty27,ty63]
   refine back_intro hs (i + 1) (le_pk [0,1] rfl (by simp) (by simp) ?_ ?_) (by omega) (by omega)
   ·rw [hsu]; simp [subBlk,subAny,subA,mkSub,idx,Gra.cells]
   ·rw [hsu]; simp [wk,subAny,subA,mkSub,idx]
 ·obtain rfl : i = l.length := by omega
  rw [List.take_length] at hll hlil ⊢
  have hof := ok47 (lowN g.terms l) (by omega)
  rw [hfs] at hof
  generalize lowN g.terms l = o at hof hll hlil hfs
  simp -implicitDefEqProofs only [hil,lt_false hlt,
  evx,evy,ofValue,ofCell,List.range,List.range.loop,Array.size,Nat.reduceAdd,Nat.reduceSub,Nat.reduceEqDiff,List.replicate,if_true,if_false,↓reduceIte,reduceCtorEq,elB,evParts,Int.reduceToNat,Int.reduceLE,Int.reduceLT,Int.reduceEq,Nat.reduceMul,Nat.reduceLeDiff,Nat.reduceLT,ty3,ty4,ty9,ty28,ty85,ty22,ty23,ty24,ty25,ty27,ty63]
  refine callK_ret _ _ _ _ (call_freeze (args' := [.fv (.lst 1 (ints o))]) [1] (by simp) (by simp [subAny,subA,frzSub,← hlil]) rfl
   (call_pure hof (fun _ => rfl) (fun _ => rfl)) [1] (by simp) (by simp) (fun i hi hl => by
    have : i = 0 := by simp at hi hl; omega
    subst this; simp [freezeSt,killAll,subBlk,subAny,subA,Gra.cells])) (ok_none _ _) ?_
  simp -implicitDefEqProofs only [subAny,subA,subL,backSub,back,putBack,subBlk,Option.getD_some,List.map_cons,List.map_nil,Nat.not_lt_zero,Nat.sub_zero,Nat.add_zero,List.length_map,freezeSt,frzSub,killAll,List.contains_cons,List.contains_nil,Nat.reduceBEq,Bool.or_false,
  evx,evy,ofValue,ofCell,List.range,List.range.loop,Array.size,Nat.reduceAdd,Nat.reduceSub,Nat.reduceEqDiff,List.replicate,if_true,if_false,↓reduceIte,reduceCtorEq,elB,evParts,Int.reduceToNat,Int.reduceLE,Int.reduceLT,Int.reduceEq,Nat.reduceMul,Nat.reduceLeDiff,Nat.reduceLT,ty3,ty4,ty9,ty28,ty85,ty22,ty23,ty24,ty25,ty27,ty63]
  refine callK_ret _ _ _ _ (call_pure (hgo) (fun _ => rfl) (fun _ => rfl)) (ok_nil _ _) ?_
  simp -implicitDefEqProofs only [evx,evy,ofValue,ofCell,List.range,List.range.loop,Array.size,Nat.reduceAdd,Nat.reduceSub,Nat.reduceEqDiff,List.replicate,if_true,if_false,↓reduceIte,reduceCtorEq,elB,evParts,Int.reduceToNat,Int.reduceLE,Int.reduceLT,Int.reduceEq,Nat.reduceMul,Nat.reduceLeDiff,Nat.reduceLT,ty3,ty4,ty9,ty28,ty85,ty22,ty23,ty24,ty25,ty27,ty63]
  exact le_to [] [] rfl (by simp) (by simp) (by simp) (by simp) rfl
end Go.Abs
