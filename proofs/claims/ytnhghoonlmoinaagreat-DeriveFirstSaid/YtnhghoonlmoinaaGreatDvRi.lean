/- The law DeriveWords as a contract. -/
import Derived.Test.YtnhghoonlmoinaaGreatTyTryzi
import Derived.Test.YtnhghoonlmoinaaGreatDrTryzi
import Derived.Test.YtnhghoonlmoinaaGreatDvHi
import Derived.Test.YtnhghoonlmoinaaGreatDvIi
import Derived.Test.YtnhghoonlmoinaaGreatDvWi
import Derived.Test.YtnhghoonlmoinaaGreatDvAE
namespace Go.Abs
open Go.Proofs
set_option linter.unusedVariables false
set_option linter.unusedSimpArgs false
set_option maxRecDepth 100000
set_option maxHeartbeats 8000000
theorem replG_len2 {g : Gra} : ∀ (l t : List Int),t.length ≤ 400 → (replG g l t).1.length ≤ 400
 | [],t,h => by rw [replG]; exact h
 | p :: l,t,h => by
  cases hl : lastNt g.terms t t.length with
  | none => rw [replG_none hl]; simp
  | some a =>
   by_cases h2 : t.getD a 0 = (g.pr p).left
   ·by_cases h3 : 400 < (madeT t (g.pr p).right a).length
    ·rw [replG_full hl h2 h3]; simp
    ·rw [replG_go hl h2 h3]
     exact replG_len2 l _ (by omega)
   ·rw [replG_bad hl h2]; simp
theorem replA_len2 (g : Gra) (us : Bool) (l : List Int) : (replA g us l).1.length ≤ 400 := by
 unfold replA
 split
 ·exact replG_len2 _ _ (by simp)
 ·simp
theorem badW_iff {T : Nat} {n : Int} : badW T n = false ↔ 1 ≤ n ∧ n ≤ (T : Int) := by
 simp only [badW,Bool.or_eq_false_iff,decide_eq_false_iff_not]
 omega
theorem anyBad {T : Nat} {l : List Int} (h : l.any (badW T) = false) : ∀ n ∈ l,1 ≤ n ∧ n ≤ (T : Int) := fun n hn => badW_iff.1 (by
 have := List.any_eq_false.1 h n hn
 simpa using this)
theorem memA_words {g : Gra} {l t : List Int} (h : replA g g.usB l = (t,0)) (hb : t.any (badW g.terms) = false) (h40 : t.length ≤ 40) : memA g t = (true,0) := by
 unfold replA at h
 by_cases c : g.usB = true ∧ g.prodsB l = true
 ·rw [if_pos c] at h
  have hd := repl_der (fun n hn => (anyBad hb n hn).2) l [g.start] (prodsB_iff.1 c.2) h
  unfold memA
  rw [if_neg (by rw [c.1,hb]; simp),if_neg (by omega)]
  simp [hd]
 ·rw [if_neg c] at h
  have := congrArg Prod.snd h
  simp at this
theorem lawWords (g : Gra) (list : List Int) : Ok Tryz.prog 4 [g.av,.fv (.lst 1 (ints list))] [] (.ret (.fv (.bool true))) [] := by
 have h7 := ok12 g
 have hil := ints_length list
 refine ok_start (k := 46) (n0 := 0) (rs := [.tmp 4]) mix Tryz.func4 rfl rfl rfl rfl rfl rfl rfl ?_
 simp -implicitDefEqProofs only [Gra.av,
  evx,evy,ofValue,ofCell,List.range,List.range.loop,Array.size,Nat.reduceAdd,Nat.reduceSub,Nat.reduceEqDiff,List.replicate,if_true,if_false,↓reduceIte,reduceCtorEq,elB,evParts,Int.reduceToNat,Int.reduceLE,Int.reduceLT,Int.reduceEq,Nat.reduceMul,Nat.reduceLeDiff,Nat.reduceLT,ty3,ty4,ty9,ty28,ty22,ty23,ty24,ty25,ty27,ty63,ty31]
 refine callK_ret _ _ _ _ (call_pure (okWakes21) (fun _ => rfl) (fun _ => rfl)) (ok_nil _ _) ?_
 cases hl : g.heavyB with
 | true =>
  rw [hl] at h7
  simp -implicitDefEqProofs only [evx,evy,ofValue,ofCell,List.range,List.range.loop,Array.size,Nat.reduceAdd,Nat.reduceSub,Nat.reduceEqDiff,List.replicate,if_true,if_false,↓reduceIte,reduceCtorEq,elB,evParts,Int.reduceToNat,Int.reduceLE,Int.reduceLT,Int.reduceEq,Nat.reduceMul,Nat.reduceLeDiff,Nat.reduceLT,ty3,ty4,ty9,ty28,ty22,ty23,ty24,ty25,ty27,ty63,ty31]
  refine callK_ret _ _ _ _ (call_pure (h7) (fun _ => rfl) (fun _ => rfl)) (ok_nil _ _) ?_
  simp -implicitDefEqProofs only [evx,evy,ofValue,ofCell,List.range,List.range.loop,Array.size,Nat.reduceAdd,Nat.reduceSub,Nat.reduceEqDiff,List.replicate,if_true,if_false,↓reduceIte,reduceCtorEq,elB,evParts,Int.reduceToNat,Int.reduceLE,Int.reduceLT,Int.reduceEq,Nat.reduceMul,Nat.reduceLeDiff,Nat.reduceLT,ty3,ty4,ty9,ty28,ty22,ty23,ty24,ty25,ty27,ty63,ty31]
  exact le_flat rfl
 | false =>
  rw [hl] at h7
  obtain ⟨hg,hpr⟩ := small_heavy hl
  by_cases h3 : (60 : Int) < (list.length : Int)
  ·simp -implicitDefEqProofs only [evx,evy,ofValue,ofCell,List.range,List.range.loop,Array.size,Nat.reduceAdd,Nat.reduceSub,Nat.reduceEqDiff,List.replicate,if_true,if_false,↓reduceIte,reduceCtorEq,elB,evParts,Int.reduceToNat,Int.reduceLE,Int.reduceLT,Int.reduceEq,Nat.reduceMul,Nat.reduceLeDiff,Nat.reduceLT,ty3,ty4,ty9,ty28,ty22,ty23,ty24,ty25,ty27,ty63,ty31]
   refine callK_ret _ _ _ _ (call_pure (h7) (fun _ => rfl) (fun _ => rfl)) (ok_nil _ _) ?_
   simp -implicitDefEqProofs only [hil,lit_true h3,
  evx,evy,ofValue,ofCell,List.range,List.range.loop,Array.size,Nat.reduceAdd,Nat.reduceSub,Nat.reduceEqDiff,List.replicate,if_true,if_false,↓reduceIte,reduceCtorEq,elB,evParts,Int.reduceToNat,Int.reduceLE,Int.reduceLT,Int.reduceEq,Nat.reduceMul,Nat.reduceLeDiff,Nat.reduceLT,ty3,ty4,ty9,ty28,ty22,ty23,ty24,ty25,ty27,ty63,ty31]
   exact le_flat rfl
  have hv := ok15 g hg hpr list (by omega)
  have hlen := replA_len2 g g.usB list
  have hmw := fun t h => memA_words (g := g) (l := list) (t := t) h
  generalize replA g g.usB list = r at hv hlen hmw
  obtain ⟨t,e⟩ := r
  simp only at hv hlen
  have htl := ints_length t
  simp -implicitDefEqProofs only [evx,evy,ofValue,ofCell,List.range,List.range.loop,Array.size,Nat.reduceAdd,Nat.reduceSub,Nat.reduceEqDiff,List.replicate,if_true,if_false,↓reduceIte,reduceCtorEq,elB,evParts,Int.reduceToNat,Int.reduceLE,Int.reduceLT,Int.reduceEq,Nat.reduceMul,Nat.reduceLeDiff,Nat.reduceLT,ty3,ty4,ty9,ty28,ty22,ty23,ty24,ty25,ty27,ty63,ty31]
  refine callK_ret _ _ _ _ (call_pure (h7) (fun _ => rfl) (fun _ => rfl)) (ok_nil _ _) ?_
  simp -implicitDefEqProofs only [hil,lit_false h3,
  evx,evy,ofValue,ofCell,List.range,List.range.loop,Array.size,Nat.reduceAdd,Nat.reduceSub,Nat.reduceEqDiff,List.replicate,if_true,if_false,↓reduceIte,reduceCtorEq,elB,evParts,Int.reduceToNat,Int.reduceLE,Int.reduceLT,Int.reduceEq,Nat.reduceMul,Nat.reduceLeDiff,Nat.reduceLT,ty3,ty4,ty9,ty28,ty22,ty23,ty24,ty25,ty27,ty63,ty31]
  refine callK_ret _ _ _ _ (call_pure (hv) (fun _ => rfl) (fun _ => rfl)) (ok_nil _ _) ?_
  by_cases he : e = 0
  ·subst he
   by_cases h4 : (40 : Int) < (t.length : Int)
   ·simp -implicitDefEqProofs only [htl,lit_true h4,
  evx,evy,ofValue,ofCell,List.range,List.range.loop,Array.size,Nat.reduceAdd,Nat.reduceSub,Nat.reduceEqDiff,List.replicate,if_true,if_false,↓reduceIte,reduceCtorEq,elB,evParts,Int.reduceToNat,Int.reduceLE,Int.reduceLT,Int.reduceEq,Nat.reduceMul,Nat.reduceLeDiff,Nat.reduceLT,ty3,ty4,ty9,ty28,ty22,ty23,ty24,ty25,ty27,ty63,ty31]
    exact le_flat rfl
   have hwo := ok16 g hg t (by omega)
   have hm := ok13 g hg hpr t (by omega)
   simp -implicitDefEqProofs only [htl,lit_false h4,
  evx,evy,ofValue,ofCell,List.range,List.range.loop,Array.size,Nat.reduceAdd,Nat.reduceSub,Nat.reduceEqDiff,List.replicate,if_true,if_false,↓reduceIte,reduceCtorEq,elB,evParts,Int.reduceToNat,Int.reduceLE,Int.reduceLT,Int.reduceEq,Nat.reduceMul,Nat.reduceLeDiff,Nat.reduceLT,ty3,ty4,ty9,ty28,ty22,ty23,ty24,ty25,ty27,ty63,ty31]
   refine callK_ret _ _ _ _ (call_pure (hwo) (fun _ => rfl) (fun _ => rfl)) (ok_nil _ _) ?_
   cases hb : t.any (badW g.terms) with
   | true =>
    simp -implicitDefEqProofs only [evx,evy,ofValue,ofCell,List.range,List.range.loop,Array.size,Nat.reduceAdd,Nat.reduceSub,Nat.reduceEqDiff,List.replicate,if_true,if_false,↓reduceIte,reduceCtorEq,elB,evParts,Int.reduceToNat,Int.reduceLE,Int.reduceLT,Int.reduceEq,Nat.reduceMul,Nat.reduceLeDiff,Nat.reduceLT,ty3,ty4,ty9,ty28,ty22,ty23,ty24,ty25,ty27,ty63,ty31]
    exact le_flat rfl
   | false =>
    rw [hmw t rfl hb (by omega)] at hm
    simp -implicitDefEqProofs only [evx,evy,ofValue,ofCell,List.range,List.range.loop,Array.size,Nat.reduceAdd,Nat.reduceSub,Nat.reduceEqDiff,List.replicate,if_true,if_false,↓reduceIte,reduceCtorEq,elB,evParts,Int.reduceToNat,Int.reduceLE,Int.reduceLT,Int.reduceEq,Nat.reduceMul,Nat.reduceLeDiff,Nat.reduceLT,ty3,ty4,ty9,ty28,ty22,ty23,ty24,ty25,ty27,ty63,ty31]
    refine callK_ret _ _ _ _ (call_pure (hm) (fun _ => rfl) (fun _ => rfl)) (ok_nil _ _) ?_
    simp -implicitDefEqProofs only [evx,evy,ofValue,ofCell,List.range,List.range.loop,Array.size,Nat.reduceAdd,Nat.reduceSub,Nat.reduceEqDiff,List.replicate,if_true,if_false,↓reduceIte,reduceCtorEq,elB,evParts,Int.reduceToNat,Int.reduceLE,Int.reduceLT,Int.reduceEq,Nat.reduceMul,Nat.reduceLeDiff,Nat.reduceLT,ty3,ty4,ty9,ty28,ty22,ty23,ty24,ty25,ty27,ty63,ty31]
    exact le_flat rfl
  ·have het : (e = 0) = False := eq_false he
   simp -implicitDefEqProofs only [het,
  evx,evy,ofValue,ofCell,List.range,List.range.loop,Array.size,Nat.reduceAdd,Nat.reduceSub,Nat.reduceEqDiff,List.replicate,if_true,if_false,↓reduceIte,reduceCtorEq,elB,evParts,Int.reduceToNat,Int.reduceLE,Int.reduceLT,Int.reduceEq,Nat.reduceMul,Nat.reduceLeDiff,Nat.reduceLT,ty3,ty4,ty9,ty28,ty22,ty23,ty24,ty25,ty27,ty63,ty31]
   exact le_flat rfl
end Go.Abs
