/- The law DeriveWords as a contract. -/
import Derived.Test.YtnhghoonlmoinaaGreatTyTryzi
import Derived.Test.YtnhghoonlmoinaaGreatDrTryzi
import Derived.Test.YtnhghoonlmoinaaGreatDvHi
import Derived.Test.YtnhghoonlmoinaaGreatDvIi
import Derived.Test.YtnhghoonlmoinaaGreatDvWi
import Derived.Test.YtnhghoonlmoinaaGreatDvAE
import Derived.Test.YtnhghoonlmoinaaGreatDvVi
namespace Go.Abs
open Go.Proofs
set_option linter.unusedVariables false
set_option linter.unusedSimpArgs false
set_option maxRecDepth 100000
set_option maxHeartbeats 8000000
theorem badW_iff {T : Nat} {n : Int} : badW T n = false ↔ 1 ≤ n ∧ n ≤ (T : Int) := by
 simp only [badW,Bool.or_eq_false_iff,decide_eq_false_iff_not]
 omega
end Go.Abs
/- The law DeriveShortest as a contract. -/
namespace Go.Abs
open Go.Proofs
set_option linter.unusedVariables false
set_option linter.unusedSimpArgs false
set_option maxRecDepth 100000
set_option maxHeartbeats 8000000
theorem cmpL_self5 : ∀ l : List Int,cmpL l l = 0
 | [] => rfl
 | x :: l => by
  have h : cmpI x x = 0 := by simp [cmpI]
  rw [cmpL,if_pos h,cmpL_self5 l]
theorem short_mem {g : Gra} {w : List Int} (h : shortA g = (w,0)) (h40 : w.length ≤ 40) : memA g w = (true,0) := by
 unfold shortA at h
 by_cases hu : g.usB = false
 ·rw [if_pos hu] at h; have := congrArg Prod.snd h; simp at this
 ·rw [if_neg hu] at h
  have hu2 : g.usB = true := by simpa using hu
  by_cases hx : ∃ w,Least g w
  ·rw [dif_pos hx] at h
   have e : hx.choose = w := congrArg Prod.fst h
   have hL := hx.choose_spec
   rw [e] at hL
   obtain ⟨hst,hps⟩ := us_facts hu2
   have hok := hL.1.ok (graF_of hu2).right (by simp; omega)
   have hd := hL.1.der (fun p hp => (hps p hp).1.1) [] []
   simp only [List.nil_append,List.append_nil,List.length_nil,Nat.zero_add] at hd
   have hb : w.any (badW g.terms) = false := by
    rw [List.any_eq_false]
    intro n hn
    rw [badW_iff.2 (hok n hn)]
    simp
   unfold memA
   rw [if_neg (by simp [hu2,hb]),if_neg (by omega)]
   simp [hd]
  ·rw [dif_neg hx] at h
   split at h <;> (have := congrArg Prod.snd h; simp at this)
theorem short_len {g : Gra} : (shortA g).1.length ≤ 400 := by
 unfold shortA
 split
 ·simp
 ·split
  ·rename_i hx; exact hx.choose_spec.2.1
  ·split <;> simp
theorem lawShortest (g : Gra) : Ok Tryz.prog 10 [g.av] [] (.ret (.fv (.bool true))) [] := by
 have h7 := ok12 g
 refine ok_start (k := 49) (n0 := 0) (rs := [.tmp 2]) mix Tryz.func10 rfl rfl rfl rfl rfl rfl rfl ?_
 simp -implicitDefEqProofs only [Gra.av,
  evx,evy,ofValue,ofCell,List.range,List.range.loop,Array.size,Nat.reduceAdd,Nat.reduceSub,Nat.reduceEqDiff,List.replicate,if_true,if_false,↓reduceIte,reduceCtorEq,elB,evParts,Int.reduceToNat,Int.reduceLE,Int.reduceLT,Int.reduceEq,Nat.reduceMul,Nat.reduceLeDiff,Nat.reduceLT,ty3,ty4,ty9,ty28,ty22,ty23,ty24,ty25,ty27,ty63,ty31]
 refine callK_ret _ _ _ _ (call_pure (okWakes21) (fun _ => rfl) (fun _ => rfl)) (ok_nil _ _) ?_
 cases hl : g.heavyB with
 | true =>
  rw [hl] at h7
  simp -implicitDefEqProofs only [evx,evy,ofValue,ofCell,List.range,List.range.loop,Array.size,Nat.reduceAdd,Nat.reduceSub,Nat.reduceEqDiff,List.replicate,if_true,if_false,↓reduceIte,reduceCtorEq,elB,evParts,Int.reduceToNat,Int.reduceLE,Int.reduceLT,Int.reduceEq,Nat.reduceMul,Nat.reduceLeDiff,Nat.reduceLT,ty3,ty4,ty9,ty28,ty22,ty23,ty24,ty25,ty27,ty63,ty31]
  refine callK_ret _ _ _ _ (call_pure (h7) (fun _ => rfl) (fun _ => rfl)) (ok_nil _ _) ?_
  simp -implicitDefEqProofs only [evx,evy,ofValue,ofCell,List.range,List.range.loop,Array.size,Nat.reduceAdd,Nat.reduceSub,Nat.reduceEqDiff,List.replicate,if_true,if_false,↓reduceIte,reduceCtorEq,elB,evParts,Int.reduceToNat,Int.reduceLE,Int.reduceLT,Int.reduceEq,Nat.reduceMul,Nat.reduceLeDiff,Nat.reduceLT,ty3,ty4,ty9,ty28,ty22,ty23,ty24,ty25,ty27,ty63,ty31]
  exact le_flat rfl
 | false =>
  rw [hl] at h7
  obtain ⟨hg,hpr⟩ := small_heavy hl
  have hv := ok31 g hg
  have hr := ok32 g hg
  have hlen := short_len (g := g)
  have hmm := fun w h => short_mem (g := g) (w := w) h
  generalize shortA g = r at hv hr hlen hmm
  obtain ⟨w,e⟩ := r
  simp only at hv hr hlen
  have s1 := ok33 w w (by omega) (by omega)
  rw [cmpL_self5] at s1
  have hil := ints_length w
  have e5 : (e = e) = True := eq_self e
  simp -implicitDefEqProofs only [evx,evy,ofValue,ofCell,List.range,List.range.loop,Array.size,Nat.reduceAdd,Nat.reduceSub,Nat.reduceEqDiff,List.replicate,if_true,if_false,↓reduceIte,reduceCtorEq,elB,evParts,Int.reduceToNat,Int.reduceLE,Int.reduceLT,Int.reduceEq,Nat.reduceMul,Nat.reduceLeDiff,Nat.reduceLT,ty3,ty4,ty9,ty28,ty22,ty23,ty24,ty25,ty27,ty63,ty31]
  refine callK_ret _ _ _ _ (call_pure (h7) (fun _ => rfl) (fun _ => rfl)) (ok_nil _ _) ?_
  simp -implicitDefEqProofs only [Gra.cells,
  evx,evy,ofValue,ofCell,List.range,List.range.loop,Array.size,Nat.reduceAdd,Nat.reduceSub,Nat.reduceEqDiff,List.replicate,if_true,if_false,↓reduceIte,reduceCtorEq,elB,evParts,Int.reduceToNat,Int.reduceLE,Int.reduceLT,Int.reduceEq,Nat.reduceMul,Nat.reduceLeDiff,Nat.reduceLT,ty3,ty4,ty9,ty28,ty22,ty23,ty24,ty25,ty27,ty63,ty31]
  refine callK_ret _ _ _ _ (call_pure (hv) (fun _ => rfl) (fun _ => rfl)) (ok_nil _ _) ?_
  simp -implicitDefEqProofs only [Gra.cells,
  evx,evy,ofValue,ofCell,List.range,List.range.loop,Array.size,Nat.reduceAdd,Nat.reduceSub,Nat.reduceEqDiff,List.replicate,if_true,if_false,↓reduceIte,reduceCtorEq,elB,evParts,Int.reduceToNat,Int.reduceLE,Int.reduceLT,Int.reduceEq,Nat.reduceMul,Nat.reduceLeDiff,Nat.reduceLT,ty3,ty4,ty9,ty28,ty22,ty23,ty24,ty25,ty27,ty63,ty31]
  refine callK_ret _ _ _ _ (call_pure (hr) (fun _ => rfl) (fun _ => rfl)) (ok_nil _ _) ?_
  simp -implicitDefEqProofs only [evx,evy,ofValue,ofCell,List.range,List.range.loop,Array.size,Nat.reduceAdd,Nat.reduceSub,Nat.reduceEqDiff,List.replicate,if_true,if_false,↓reduceIte,reduceCtorEq,elB,evParts,Int.reduceToNat,Int.reduceLE,Int.reduceLT,Int.reduceEq,Nat.reduceMul,Nat.reduceLeDiff,Nat.reduceLT,ty3,ty4,ty9,ty28,ty22,ty23,ty24,ty25,ty27,ty63,ty31]
  refine callK_ret _ _ _ _ (call_pure (s1) (fun _ => rfl) (fun _ => rfl)) (ok_nil _ _) ?_
  by_cases he : e = 0
  ·subst he
   by_cases h4 : (40 : Int) < (w.length : Int)
   ·simp -implicitDefEqProofs only [e5,hil,lit_true h4,
  evx,evy,ofValue,ofCell,List.range,List.range.loop,Array.size,Nat.reduceAdd,Nat.reduceSub,Nat.reduceEqDiff,List.replicate,if_true,if_false,↓reduceIte,reduceCtorEq,elB,evParts,Int.reduceToNat,Int.reduceLE,Int.reduceLT,Int.reduceEq,Nat.reduceMul,Nat.reduceLeDiff,Nat.reduceLT,ty3,ty4,ty9,ty28,ty22,ty23,ty24,ty25,ty27,ty63,ty31]
    exact le_flat rfl
   ·have hm := ok13 g hg hpr w (by omega)
    rw [hmm w rfl (by omega)] at hm
    simp -implicitDefEqProofs only [e5,hil,lit_false h4,Gra.cells,
  evx,evy,ofValue,ofCell,List.range,List.range.loop,Array.size,Nat.reduceAdd,Nat.reduceSub,Nat.reduceEqDiff,List.replicate,if_true,if_false,↓reduceIte,reduceCtorEq,elB,evParts,Int.reduceToNat,Int.reduceLE,Int.reduceLT,Int.reduceEq,Nat.reduceMul,Nat.reduceLeDiff,Nat.reduceLT,ty3,ty4,ty9,ty28,ty22,ty23,ty24,ty25,ty27,ty63,ty31]
    refine callK_ret _ _ _ _ (call_pure (hm) (fun _ => rfl) (fun _ => rfl)) (ok_nil _ _) ?_
    simp -implicitDefEqProofs only [evx,evy,ofValue,ofCell,List.range,List.range.loop,Array.size,Nat.reduceAdd,Nat.reduceSub,Nat.reduceEqDiff,List.replicate,if_true,if_false,↓reduceIte,reduceCtorEq,elB,evParts,Int.reduceToNat,Int.reduceLE,Int.reduceLT,Int.reduceEq,Nat.reduceMul,Nat.reduceLeDiff,Nat.reduceLT,ty3,ty4,ty9,ty28,ty22,ty23,ty24,ty25,ty27,ty63,ty31]
    exact le_flat rfl
  ·have het : (e = 0) = False := eq_false he
   simp -implicitDefEqProofs only [e5,het,
  evx,evy,ofValue,ofCell,List.range,List.range.loop,Array.size,Nat.reduceAdd,Nat.reduceSub,Nat.reduceEqDiff,List.replicate,if_true,if_false,↓reduceIte,reduceCtorEq,elB,evParts,Int.reduceToNat,Int.reduceLE,Int.reduceLT,Int.reduceEq,Nat.reduceMul,Nat.reduceLeDiff,Nat.reduceLT,ty3,ty4,ty9,ty28,ty22,ty23,ty24,ty25,ty27,ty63,ty31]
   exact le_flat rfl
end Go.Abs
