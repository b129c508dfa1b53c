/- The law DeriveFirst as a contract. -/
import Derived.Test.YtnhghoonlmoinaaGreatTyTryzi
import Derived.Test.YtnhghoonlmoinaaGreatDrTryzi
import Derived.Test.YtnhghoonlmoinaaGreatDvRi
import Derived.Test.YtnhghoonlmoinaaGreatFiIi
namespace Go.Abs
open Go.Proofs
set_option linter.unusedVariables false
set_option linter.unusedSimpArgs false
set_option maxRecDepth 100000
set_option maxHeartbeats 8000000
open Classical in
theorem lawFirst (g : Gra) (word : List Int) : Ok Tryz.prog 5 [g.av,.fv (.lst 1 (ints word))] [] (.ret (.fv (.bool true))) [] := by
 have h7 := ok12 g
 have hil := ints_length word
 refine ok_start (k := 74) (n0 := 0) (rs := [.tmp 4]) mix Tryz.func5 rfl rfl rfl rfl rfl rfl rfl ?_
 simp -implicitDefEqProofs only [awp_draw _ _ Tryzdr5_10,Gra.av,
  evx,evy,ofValue,ofCell,List.range,List.range.loop,Array.size,Nat.reduceAdd,Nat.reduceSub,Nat.reduceEqDiff,List.replicate,if_true,if_false,↓reduceIte,reduceCtorEq,elB,evParts,Int.reduceToNat,Int.reduceLE,Int.reduceLT,Int.reduceEq,Nat.reduceMul,Nat.reduceLeDiff,Nat.reduceLT,ty3,ty4,ty9,ty28,ty22,ty23,ty24,ty25,ty27,ty63,ty31]
 refine callK_ret _ _ _ _ (call_pure (okWakes21) (fun _ => rfl) (fun _ => rfl)) (ok_nil _ _) ?_
 cases hl : g.heavyB with
 | true =>
  rw [hl] at h7
  simp -implicitDefEqProofs only [awp_draw _ _ Tryzdr5_10,
  evx,evy,ofValue,ofCell,List.range,List.range.loop,Array.size,Nat.reduceAdd,Nat.reduceSub,Nat.reduceEqDiff,List.replicate,if_true,if_false,↓reduceIte,reduceCtorEq,elB,evParts,Int.reduceToNat,Int.reduceLE,Int.reduceLT,Int.reduceEq,Nat.reduceMul,Nat.reduceLeDiff,Nat.reduceLT,ty3,ty4,ty9,ty28,ty22,ty23,ty24,ty25,ty27,ty63,ty31]
  refine callK_ret _ _ _ _ (call_pure (h7) (fun _ => rfl) (fun _ => rfl)) (ok_nil _ _) ?_
  simp -implicitDefEqProofs only [awp_draw _ _ Tryzdr5_10,
  evx,evy,ofValue,ofCell,List.range,List.range.loop,Array.size,Nat.reduceAdd,Nat.reduceSub,Nat.reduceEqDiff,List.replicate,if_true,if_false,↓reduceIte,reduceCtorEq,elB,evParts,Int.reduceToNat,Int.reduceLE,Int.reduceLT,Int.reduceEq,Nat.reduceMul,Nat.reduceLeDiff,Nat.reduceLT,ty3,ty4,ty9,ty28,ty22,ty23,ty24,ty25,ty27,ty63,ty31]
  exact le_flat rfl
 | false =>
  rw [hl] at h7
  obtain ⟨hg,hpr⟩ := small_heavy hl
  by_cases h3 : (12 : Int) < (word.length : Int)
  ·simp -implicitDefEqProofs only [awp_draw _ _ Tryzdr5_10,
  evx,evy,ofValue,ofCell,List.range,List.range.loop,Array.size,Nat.reduceAdd,Nat.reduceSub,Nat.reduceEqDiff,List.replicate,if_true,if_false,↓reduceIte,reduceCtorEq,elB,evParts,Int.reduceToNat,Int.reduceLE,Int.reduceLT,Int.reduceEq,Nat.reduceMul,Nat.reduceLeDiff,Nat.reduceLT,ty3,ty4,ty9,ty28,ty22,ty23,ty24,ty25,ty27,ty63,ty31]
   refine callK_ret _ _ _ _ (call_pure (h7) (fun _ => rfl) (fun _ => rfl)) (ok_nil _ _) ?_
   simp -implicitDefEqProofs only [awp_draw _ _ Tryzdr5_10,hil,lit_true h3,
  evx,evy,ofValue,ofCell,List.range,List.range.loop,Array.size,Nat.reduceAdd,Nat.reduceSub,Nat.reduceEqDiff,List.replicate,if_true,if_false,↓reduceIte,reduceCtorEq,elB,evParts,Int.reduceToNat,Int.reduceLE,Int.reduceLT,Int.reduceEq,Nat.reduceMul,Nat.reduceLeDiff,Nat.reduceLT,ty3,ty4,ty9,ty28,ty22,ty23,ty24,ty25,ty27,ty63,ty31]
   exact le_flat rfl
  have hus := ok17 g hg
  cases hu : g.usB with
  | false =>
   rw [hu] at hus
   simp -implicitDefEqProofs only [awp_draw _ _ Tryzdr5_10,
  evx,evy,ofValue,ofCell,List.range,List.range.loop,Array.size,Nat.reduceAdd,Nat.reduceSub,Nat.reduceEqDiff,List.replicate,if_true,if_false,↓reduceIte,reduceCtorEq,elB,evParts,Int.reduceToNat,Int.reduceLE,Int.reduceLT,Int.reduceEq,Nat.reduceMul,Nat.reduceLeDiff,Nat.reduceLT,ty3,ty4,ty9,ty28,ty22,ty23,ty24,ty25,ty27,ty63,ty31]
   refine callK_ret _ _ _ _ (call_pure (h7) (fun _ => rfl) (fun _ => rfl)) (ok_nil _ _) ?_
   simp -implicitDefEqProofs only [awp_draw _ _ Tryzdr5_10,hil,lit_false h3,Gra.cells,
  evx,evy,ofValue,ofCell,List.range,List.range.loop,Array.size,Nat.reduceAdd,Nat.reduceSub,Nat.reduceEqDiff,List.replicate,if_true,if_false,↓reduceIte,reduceCtorEq,elB,evParts,Int.reduceToNat,Int.reduceLE,Int.reduceLT,Int.reduceEq,Nat.reduceMul,Nat.reduceLeDiff,Nat.reduceLT,ty3,ty4,ty9,ty28,ty22,ty23,ty24,ty25,ty27,ty63,ty31]
   refine callK_ret _ _ _ _ (call_pure (hus) (fun _ => rfl) (fun _ => rfl)) (ok_nil _ _) ?_
   simp -implicitDefEqProofs only [awp_draw _ _ Tryzdr5_10,
  evx,evy,ofValue,ofCell,List.range,List.range.loop,Array.size,Nat.reduceAdd,Nat.reduceSub,Nat.reduceEqDiff,List.replicate,if_true,if_false,↓reduceIte,reduceCtorEq,elB,evParts,Int.reduceToNat,Int.reduceLE,Int.reduceLT,Int.reduceEq,Nat.reduceMul,Nat.reduceLeDiff,Nat.reduceLT,ty3,ty4,ty9,ty28,ty22,ty23,ty24,ty25,ty27,ty63,ty31]
   exact le_flat rfl
  | true =>
   rw [hu] at hus
   obtain ⟨hst,hps⟩ := us_facts hu
   have hsd : g.sound = true := by
    simp only [Gra.usB,Bool.and_eq_true] at hu
    exact hu.2
   have hof := ok18 g hg hsd [g.start] (by simp) (by simp [Gra.symsB]; omega)
   have hm := ok13 g hg hpr word (by omega)
   have hn := ok13 g hg hpr [] (by simp)
   simp -implicitDefEqProofs only [awp_draw _ _ Tryzdr5_10,
  evx,evy,ofValue,ofCell,List.range,List.range.loop,Array.size,Nat.reduceAdd,Nat.reduceSub,Nat.reduceEqDiff,List.replicate,if_true,if_false,↓reduceIte,reduceCtorEq,elB,evParts,Int.reduceToNat,Int.reduceLE,Int.reduceLT,Int.reduceEq,Nat.reduceMul,Nat.reduceLeDiff,Nat.reduceLT,ty3,ty4,ty9,ty28,ty22,ty23,ty24,ty25,ty27,ty63,ty31]
   refine callK_ret _ _ _ _ (call_pure (h7) (fun _ => rfl) (fun _ => rfl)) (ok_nil _ _) ?_
   simp -implicitDefEqProofs only [awp_draw _ _ Tryzdr5_10,hil,lit_false h3,Gra.cells,
  evx,evy,ofValue,ofCell,List.range,List.range.loop,Array.size,Nat.reduceAdd,Nat.reduceSub,Nat.reduceEqDiff,List.replicate,if_true,if_false,↓reduceIte,reduceCtorEq,elB,evParts,Int.reduceToNat,Int.reduceLE,Int.reduceLT,Int.reduceEq,Nat.reduceMul,Nat.reduceLeDiff,Nat.reduceLT,ty3,ty4,ty9,ty28,ty22,ty23,ty24,ty25,ty27,ty63,ty31]
   refine callK_ret _ _ _ _ (call_pure (hus) (fun _ => rfl) (fun _ => rfl)) (ok_nil _ _) ?_
   simp -implicitDefEqProofs only [awp_draw _ _ Tryzdr5_10,
  evx,evy,ofValue,ofCell,List.range,List.range.loop,Array.size,Nat.reduceAdd,Nat.reduceSub,Nat.reduceEqDiff,List.replicate,if_true,if_false,↓reduceIte,reduceCtorEq,elB,evParts,Int.reduceToNat,Int.reduceLE,Int.reduceLT,Int.reduceEq,Nat.reduceMul,Nat.reduceLeDiff,Nat.reduceLT,ty3,ty4,ty9,ty28,ty22,ty23,ty24,ty25,ty27,ty63,ty31]
   have hnul := Der.null_iff (g := g) (fun p hp => (hps p hp).1.1) (n := g.start)
   have hmn : memA g [] = (decide (∀ k ∈ [g.start],Nul g k),0) := by
    unfold memA
    rw [if_neg (by simp [hu]),if_neg (by simp)]
    congr 1
    rw [Bool.eq_iff_iff]
    simp only [decide_eq_true_eq,List.length_nil]
    exact hnul
   have hmf : ∀ b e,memA g word = (b,e) → (b = false ∨ (b = true ∧ e = 0 ∧ (word = [] ∨ ∃ n l,word = n :: l ∧ n ∈ g.firsts [g.start] ∧ n ≤ (g.terms : Int)))) := fun b e h => by
    unfold memA at h
    by_cases c : g.usB = false ∨ word.any (badW g.terms) = true
    ·rw [if_pos c] at h
     exact .inl (congrArg Prod.fst h).symm
    ·rw [if_neg c,if_neg (by omega)] at h
     cases b with
     | false => exact .inl rfl
     | true =>
      refine .inr ⟨rfl,(congrArg Prod.snd h).symm,?_⟩
      have hd : Der g word [g.start] 0 word.length := by
       have := congrArg Prod.fst h
       simpa using this
      cases word with
      | nil => exact .inl rfl
      | cons n l =>
       obtain ⟨t,h1,h2⟩ := hd.fst (by simp)
       obtain rfl : n = t := by simpa using h1
       have hb := anyBad (T := g.terms) (l := n :: l) (by simpa using fun h => c (.inr h)) n (by simp)
       exact .inr ⟨n,l,rfl,(g.mem_firsts _ _).2 ⟨hb,h2⟩,hb.2⟩
   have hfl := g.firsts_length [g.start]
   have htr : g.terms ≤ g.rules.length := List.length_filter_le _ _
   have hnr := hg.nrules
   rw [hmn] at hn
   have hnn : Ok Tryz.prog 13 [g.av,.fv .nils] [] (.ret (.tuple [.fv (.bool (decide (∀ k ∈ [g.start],Nul g k))),.fv (.int .i64 0)])) [] := ok_args hn fun w S m vs h => ⟨h.1,fun i v x hv hx => by
    match i,hx with
    | 0,hx => exact h.2 0 v _ hv hx
    | 1,hx => simp at hx; subst hx; exact nils_lst 1 (h.2 1 v _ hv rfl)
    | i + 2,hx => simp at hx⟩
   have hterms := ok20 g hg.nrules
   have hhas := fun n => ok19 (g.firsts [g.start]) n (by omega)
   generalize memA g word = r at hm hmf
   obtain ⟨b,e⟩ := r
   have hmg := hmf b e rfl
   clear hmf
   simp only at hm
   generalize decide (∀ k ∈ [g.start],Nul g k) = nu at hof hnn
   generalize g.firsts [g.start] = F at hof hmg hfl hhas
   refine callK_ret _ _ _ _ (call_freeze (args' := [g.av,.fv (.lst 1 (ints [g.start]))]) [1] (fun i hi => by simp at hi; subst hi; exact ⟨_,_,rfl⟩) (by simp [subAny,subA,subL,frzSub,Gra.av,ints,iRow]) rfl
    (call_pure hof (fun _ => rfl) (fun _ => rfl)) [1] (by simp) (by simp) (fun i hi hl => by
     match i,hi,hl with
     | 0,_,_ => simp [freezeSt,killAll,subBlk,subAny,subA]
     | 1,hi,_ => exact absurd (by simp) hi
     | i + 2,_,hl => simp at hl; omega)) (by first | exact ok_none _ _ | exact ok_nil _ _) ?_
   simp -implicitDefEqProofs only [awp_draw _ _ Tryzdr5_10,subAny,subA,subL,backSub,back,putBack,subBlk,Option.getD_some,List.map_cons,List.map_nil,Nat.not_lt_zero,Nat.sub_zero,Nat.add_zero,List.length_map,freezeSt,frzSub,killAll,List.contains_cons,List.contains_nil,Nat.reduceBEq,Bool.or_false,
  evx,evy,ofValue,ofCell,List.range,List.range.loop,Array.size,Nat.reduceAdd,Nat.reduceSub,Nat.reduceEqDiff,List.replicate,if_true,if_false,↓reduceIte,reduceCtorEq,elB,evParts,Int.reduceToNat,Int.reduceLE,Int.reduceLT,Int.reduceEq,Nat.reduceMul,Nat.reduceLeDiff,Nat.reduceLT,ty3,ty4,ty9,ty28,ty22,ty23,ty24,ty25,ty27,ty63,ty31]
   refine callK_ret _ _ _ _ (call_pure (hm) (fun _ => rfl) (fun _ => rfl)) (ok_nil _ _) ?_
   simp -implicitDefEqProofs only [awp_draw _ _ Tryzdr5_10,
  evx,evy,ofValue,ofCell,List.range,List.range.loop,Array.size,Nat.reduceAdd,Nat.reduceSub,Nat.reduceEqDiff,List.replicate,if_true,if_false,↓reduceIte,reduceCtorEq,elB,evParts,Int.reduceToNat,Int.reduceLE,Int.reduceLT,Int.reduceEq,Nat.reduceMul,Nat.reduceLeDiff,Nat.reduceLT,ty3,ty4,ty9,ty28,ty22,ty23,ty24,ty25,ty27,ty63,ty31]
   refine callK_ret _ _ _ _ (call_pure (hnn) (fun _ => rfl) (fun _ => rfl)) (ok_nil _ _) ?_
   rcases hmg with rfl | ⟨rfl,rfl,hmg⟩
   ·simp -implicitDefEqProofs only [awp_draw _ _ Tryzdr5_10,neqB_,beq_self_eq_true,
  evx,evy,ofValue,ofCell,List.range,List.range.loop,Array.size,Nat.reduceAdd,Nat.reduceSub,Nat.reduceEqDiff,List.replicate,if_true,if_false,↓reduceIte,reduceCtorEq,elB,evParts,Int.reduceToNat,Int.reduceLE,Int.reduceLT,Int.reduceEq,Nat.reduceMul,Nat.reduceLeDiff,Nat.reduceLT,ty3,ty4,ty9,ty28,ty22,ty23,ty24,ty25,ty27,ty63,ty31]
    exact le_flat rfl
   ·rcases hmg with rfl | ⟨n,l,rfl,hin,hle⟩
    ·have z0 : (((0 : Nat) : Int) = 0) = True := eq_true rfl
     simp -implicitDefEqProofs only [awp_draw _ _ Tryzdr5_10,neqB_,beq_self_eq_true,hil,z0,
  evx,evy,ofValue,ofCell,List.range,List.range.loop,Array.size,Nat.reduceAdd,Nat.reduceSub,Nat.reduceEqDiff,List.replicate,if_true,if_false,↓reduceIte,reduceCtorEq,elB,evParts,Int.reduceToNat,Int.reduceLE,Int.reduceLT,Int.reduceEq,Nat.reduceMul,Nat.reduceLeDiff,Nat.reduceLT,ty3,ty4,ty9,ty28,ty22,ty23,ty24,ty25,ty27,ty63,ty31]
     exact le_flat rfl
    ·have hz : (((l.length + 1 : Nat) : Int) = 0) = False := eq_false (by omega)
     have hr0 : (ints (n :: l))[0]? = some [.int .i64 n] := rfl
     have hh := hhas n
     rw [decide_eq_true hin] at hh
     have hlet : (n ≤ (g.terms : Int)) = True := eq_true hle
     simp -implicitDefEqProofs only [awp_draw _ _ Tryzdr5_10,neqB_,beq_self_eq_true,hil,hz,hr0,
  evx,evy,ofValue,ofCell,List.range,List.range.loop,Array.size,Nat.reduceAdd,Nat.reduceSub,Nat.reduceEqDiff,List.replicate,if_true,if_false,↓reduceIte,reduceCtorEq,elB,evParts,Int.reduceToNat,Int.reduceLE,Int.reduceLT,Int.reduceEq,Nat.reduceMul,Nat.reduceLeDiff,Nat.reduceLT,ty3,ty4,ty9,ty28,ty22,ty23,ty24,ty25,ty27,ty63,ty31]
     refine callK_ret _ _ _ _ (call_pure (hh) (fun _ => rfl) (fun _ => rfl)) (ok_nil _ _) ?_
     simp -implicitDefEqProofs only [awp_draw _ _ Tryzdr5_10,Gra.cells,hr0,
  evx,evy,ofValue,ofCell,List.range,List.range.loop,Array.size,Nat.reduceAdd,Nat.reduceSub,Nat.reduceEqDiff,List.replicate,if_true,if_false,↓reduceIte,reduceCtorEq,elB,evParts,Int.reduceToNat,Int.reduceLE,Int.reduceLT,Int.reduceEq,Nat.reduceMul,Nat.reduceLeDiff,Nat.reduceLT,ty3,ty4,ty9,ty28,ty22,ty23,ty24,ty25,ty27,ty63,ty31]
     refine callK_ret _ _ _ _ (call_pure (hterms) (fun _ => rfl) (fun _ => rfl)) (ok_nil _ _) ?_
     simp -implicitDefEqProofs only [awp_draw _ _ Tryzdr5_10,hlet,
  evx,evy,ofValue,ofCell,List.range,List.range.loop,Array.size,Nat.reduceAdd,Nat.reduceSub,Nat.reduceEqDiff,List.replicate,if_true,if_false,↓reduceIte,reduceCtorEq,elB,evParts,Int.reduceToNat,Int.reduceLE,Int.reduceLT,Int.reduceEq,Nat.reduceMul,Nat.reduceLeDiff,Nat.reduceLT,ty3,ty4,ty9,ty28,ty22,ty23,ty24,ty25,ty27,ty63,ty31]
     exact le_flat rfl
end Go.Abs
