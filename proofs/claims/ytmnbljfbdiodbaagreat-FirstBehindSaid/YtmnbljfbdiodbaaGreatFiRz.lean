/- What may stand behind symbols: the program's way. -/
import Derived.Test.YtmnbljfbdiodbaaGreatTyTryzz
import Derived.Test.YtmnbljfbdiodbaaGreatDrTryzz
import Derived.Test.YtmnbljfbdiodbaaGreatFiFz
import Derived.Test.YtmnbljfbdiodbaaGreatFiA
import Derived.Test.YtmnbljfbdiodbaaGreatCkOz
import Derived.Test.YtmnbljfbdiodbaaGreatFiIz
import Derived.Test.YtmnbljfbdiodbaaGreatFiWz
namespace Go.Abs
open Go.Proofs
set_option linter.unusedVariables false
set_option linter.unusedSimpArgs false
set_option maxRecDepth 100000
set_option maxHeartbeats 8000000
theorem thaw_one : ∀ l : List FV,thaw (l.map fun x => [x]) = l.map .fv
 | [] => rfl
 | x :: l => by
  have := thaw_one l
  unfold thaw at this ⊢
  rw [List.map_cons,List.flatten_cons,List.map_append,this]
  rfl
theorem thaw_nils (n : Nat) : thaw (List.replicate n [FV.nils]) = List.replicate n (.fv .nils) := by simp [thaw]
theorem ok17 (a : List Int) (x : Int) (ha : a.length < 4611686018427387904) : Ok Tryz.prog 17 [.fv (.lst 1 (ints a)),.fv (.int .i64 x)] [] (.ret (.fv (.bool (decide (x ∈ a))))) [] := by
 have h := ok42 a x ha
 refine ok_start (k := 6) (n0 := 0) (rs := [.tmp 4]) mix Tryz.func17 rfl rfl rfl rfl rfl rfl rfl ?_
 simp -implicitDefEqProofs only [evx,evy,ofValue,ofCell,List.range,List.range.loop,Array.size,Nat.reduceAdd,Nat.reduceSub,Nat.reduceEqDiff,List.replicate,if_true,if_false,↓reduceIte,reduceCtorEq,elB,evParts,Int.reduceToNat,Int.reduceLE,Int.reduceLT,Int.reduceEq,Nat.reduceMul,Nat.reduceLeDiff,Nat.reduceLT,ty3,ty4,ty9,ty36,ty30,ty46,ty53,ty48,ty22,ty23,ty24,ty25,ty27,ty45]
 refine callK_ret _ _ _ _ (call_pure (h) (fun _ => rfl) (fun _ => rfl)) (ok_nil _ _) ?_
 simp -implicitDefEqProofs only [evx,evy,ofValue,ofCell,List.range,List.range.loop,Array.size,Nat.reduceAdd,Nat.reduceSub,Nat.reduceEqDiff,List.replicate,if_true,if_false,↓reduceIte,reduceCtorEq,elB,evParts,Int.reduceToNat,Int.reduceLE,Int.reduceLT,Int.reduceEq,Nat.reduceMul,Nat.reduceLeDiff,Nat.reduceLT,ty3,ty4,ty9,ty36,ty30,ty46,ty53,ty48,ty22,ty23,ty24,ty25,ty27,ty45]
 exact le_flat rfl
noncomputable def behL (g : Gra) : List (List Int) := if g.nonts = [] then List.replicate (g.all + 1) [] else g.behRows
theorem rows_nil (n : Nat) : rowsOf (List.replicate n []) = List.replicate n [.lst 1 []] := by unfold rowsOf; rw [List.map_replicate]; rfl
theorem ok6_bad (g : Gra) (hg : Small g 100) (hsd : g.sound = false) : Ok Tryz.prog 6 [g.av] [] (.ret (.fv .nils)) [] := by
 have hs := ok14 g hg
 rw [hsd] at hs
 refine ok_start (k := 86) (n0 := 0) (rs := [.tmp 2]) mix Tryz.func6 rfl rfl rfl rfl rfl rfl rfl ?_
 simp -implicitDefEqProofs only [awp_draw _ _ Tryzdr6_19,awp_draw _ _ Tryzdr6_22,Gra.av,
  evx,evy,ofValue,ofCell,List.range,List.range.loop,Array.size,Nat.reduceAdd,Nat.reduceSub,Nat.reduceEqDiff,List.replicate,if_true,if_false,↓reduceIte,reduceCtorEq,elB,evParts,Int.reduceToNat,Int.reduceLE,Int.reduceLT,Int.reduceEq,Nat.reduceMul,Nat.reduceLeDiff,Nat.reduceLT,ty3,ty4,ty9,ty36,ty30,ty46,ty53,ty48,ty22,ty23,ty24,ty25,ty27,ty45]
 refine callK_ret _ _ _ _ (call_pure (hs) (fun _ => rfl) (fun _ => rfl)) (ok_nil _ _) ?_
 simp -implicitDefEqProofs only [awp_draw _ _ Tryzdr6_19,awp_draw _ _ Tryzdr6_22,
  evx,evy,ofValue,ofCell,List.range,List.range.loop,Array.size,Nat.reduceAdd,Nat.reduceSub,Nat.reduceEqDiff,List.replicate,if_true,if_false,↓reduceIte,reduceCtorEq,elB,evParts,Int.reduceToNat,Int.reduceLE,Int.reduceLT,Int.reduceEq,Nat.reduceMul,Nat.reduceLeDiff,Nat.reduceLT,ty3,ty4,ty9,ty36,ty30,ty46,ty53,ty48,ty22,ty23,ty24,ty25,ty27,ty45]
 exact le_flat rfl
open Classical in
theorem ok6 (g : Gra) (hg : Small g 100) (hsd : g.sound = true) : Ok Tryz.prog 6 [g.av] [] (.ret (.fv (.lst 1 (rowsOf (behL g))))) [] := by
 have hso := g.sound_iff hsd
 have hal := hso.all_le
 have htl := hso.terms_le
 have hnp := hso.nprods
 obtain ⟨hI,hC⟩ := tabs_fin hso
 have hs := ok14 g hg
 rw [hsd] at hs
 have hmade := ok15 g hg hsd
 have hreach := ok16 g hg
 have hlN := hI.lenN
 have hlF := hI.lenF
 obtain ⟨n,hn⟩ : ∃ n : Nat,n = g.all + 1 := ⟨_,rfl⟩
 have hof := fun (text : List Int) (ht : text.length ≤ 1000) (hsy2 : ∀ n ∈ text,1 ≤ n ∧ n ≤ (g.all : Int)) => by
  have := ok18 (tabs g).1 (tabs g).2 text (by omega) ht (fun m hm => by have := hsy2 m hm; omega) (fun q hq => by
      obtain ⟨j,hj,e⟩ := List.getElem_of_mem hq
      have := hI.len (n := j) (l := q) (by rw [List.getElem?_eq_getElem hj,e])
      omega)
  rw [hC.ofT hso (fun n hn => (hsy2 n hn).1),ofT_null,hC.all] at this
  exact this
 rw [show (tabs g).1.length = n from by omega,show (tabs g).2.length = n from by omega] at hmade hof
 generalize (tabs g).1 = N at hmade hof hlN
 generalize (tabs g).2 = F at hmade hof hlF
 have hlb : (N.map boRow).length = n := by rw [List.length_map]; omega
 refine ok_start (k := 86) (n0 := 0) (rs := [.tmp 2]) mix Tryz.func6 rfl rfl rfl rfl rfl rfl rfl ?_
 simp -implicitDefEqProofs only [awp_draw _ _ Tryzdr6_19,awp_draw _ _ Tryzdr6_22,Gra.av,
  evx,evy,ofValue,ofCell,List.range,List.range.loop,Array.size,Nat.reduceAdd,Nat.reduceSub,Nat.reduceEqDiff,List.replicate,if_true,if_false,↓reduceIte,reduceCtorEq,elB,evParts,Int.reduceToNat,Int.reduceLE,Int.reduceLT,Int.reduceEq,Nat.reduceMul,Nat.reduceLeDiff,Nat.reduceLT,ty3,ty4,ty9,ty36,ty30,ty46,ty53,ty48,ty22,ty23,ty24,ty25,ty27,ty45]
 refine callK_ret _ _ _ _ (call_pure (hs) (fun _ => rfl) (fun _ => rfl)) (ok_nil _ _) ?_
 simp -implicitDefEqProofs only [awp_draw _ _ Tryzdr6_19,awp_draw _ _ Tryzdr6_22,
  evx,evy,ofValue,ofCell,List.range,List.range.loop,Array.size,Nat.reduceAdd,Nat.reduceSub,Nat.reduceEqDiff,List.replicate,if_true,if_false,↓reduceIte,reduceCtorEq,elB,evParts,Int.reduceToNat,Int.reduceLE,Int.reduceLT,Int.reduceEq,Nat.reduceMul,Nat.reduceLeDiff,Nat.reduceLT,ty3,ty4,ty9,ty36,ty30,ty46,ty53,ty48,ty22,ty23,ty24,ty25,ty27,ty45]
 refine callK_ret _ _ _ _ (call_lent [] hmade rfl rfl (by simp) (by simp)) (ok_nil _ _) ?_
 simp -implicitDefEqProofs only [awp_draw _ _ Tryzdr6_19,awp_draw _ _ Tryzdr6_22,subAny,subA,subL,backSub,back,putBack,subBlk,Option.getD_some,List.map_cons,List.map_nil,Nat.not_lt_zero,Nat.sub_zero,Nat.add_zero,List.length_map,stB_boxA,splice_all,List.all_cons,List.all_nil,Gra.cells,List.length_map,
  evx,evy,ofValue,ofCell,List.range,List.range.loop,Array.size,Nat.reduceAdd,Nat.reduceSub,Nat.reduceEqDiff,List.replicate,if_true,if_false,↓reduceIte,reduceCtorEq,elB,evParts,Int.reduceToNat,Int.reduceLE,Int.reduceLT,Int.reduceEq,Nat.reduceMul,Nat.reduceLeDiff,Nat.reduceLT,ty3,ty4,ty9,ty36,ty30,ty46,ty53,ty48,ty22,ty23,ty24,ty25,ty27,ty45]
 have hrep : rowsOf (List.replicate n []) = List.replicate n [.lst 1 []] := rows_nil n
 refine ⟨⟨by omega,by omega⟩,?_⟩
 by_cases hne : g.nonts = []
 ·have hl0 : ((g.nonts.length : Int) = 0) = True := by simp [hne]
  have e : behL g = List.replicate n [] := by unfold behL; rw [if_pos hne,hn]
  rw [e,hrep]
  simp -implicitDefEqProofs only [awp_draw _ _ Tryzdr6_19,awp_draw _ _ Tryzdr6_22,hl0,
  evx,evy,ofValue,ofCell,List.range,List.range.loop,Array.size,Nat.reduceAdd,Nat.reduceSub,Nat.reduceEqDiff,List.replicate,if_true,if_false,↓reduceIte,reduceCtorEq,elB,evParts,Int.reduceToNat,Int.reduceLE,Int.reduceLT,Int.reduceEq,Nat.reduceMul,Nat.reduceLeDiff,Nat.reduceLT,ty3,ty4,ty9,ty36,ty30,ty46,ty53,ty48,ty22,ty23,ty24,ty25,ty27,ty45]
  refine Le.trans (le_nilrows 4 1 1 _ rfl) ?_
  refine le_lst (rows := List.replicate n [.lst 1 []]) ?_ (by simp) (by simp)
  simp [fixNil]
 have hl0 : ((g.nonts.length : Int) = 0) = False := by simp [hne]
 have e : behL g = g.behRows := by unfold behL; rw [if_neg hne]
 rw [e]
 have hst := hso.start.2 hne
 obtain ⟨st0,hst0⟩ : ∃ k : Nat,g.start = k := ⟨g.start.toNat,by omega⟩
 have hsr : (List.replicate n [FV.nils])[st0]? = some [.nils] := by rw [List.getElem?_replicate,if_pos (by omega)]
 have hk : st0 * 1 + 0 < (thaw (List.replicate n [FV.nils])).length := by rw [show thaw (List.replicate n [FV.nils]) = List.replicate n (.fv .nils) from by simp [thaw]]; simp; omega
 have hc0 : (g.start < (n : Int)) = True := eq_true (by omega)
 have hc1 : (0 ≤ g.start) = True := eq_true (by omega)
 have hto : g.start.toNat = st0 := by omega
 simp -implicitDefEqProofs only [awp_draw _ _ Tryzdr6_19,awp_draw _ _ Tryzdr6_22,hl0,hc0,hc1,hto,stB_ref1 (hk := hk),
  evx,evy,ofValue,ofCell,List.range,List.range.loop,Array.size,Nat.reduceAdd,Nat.reduceSub,Nat.reduceEqDiff,List.replicate,if_true,if_false,↓reduceIte,reduceCtorEq,elB,evParts,Int.reduceToNat,Int.reduceLE,Int.reduceLT,Int.reduceEq,Nat.reduceMul,Nat.reduceLeDiff,Nat.reduceLT,ty3,ty4,ty9,ty36,ty30,ty46,ty53,ty48,ty22,ty23,ty24,ty25,ty27,ty45]
 refine callK_ret _ _ _ _ (call_pure (hreach) (fun _ => rfl) (fun _ => rfl)) (ok_nil _ _) ?_
 simp -implicitDefEqProofs only [awp_draw _ _ Tryzdr6_19,awp_draw _ _ Tryzdr6_22,
  evx,evy,ofValue,ofCell,List.range,List.range.loop,Array.size,Nat.reduceAdd,Nat.reduceSub,Nat.reduceEqDiff,List.replicate,if_true,if_false,↓reduceIte,reduceCtorEq,elB,evParts,Int.reduceToNat,Int.reduceLE,Int.reduceLT,Int.reduceEq,Nat.reduceMul,Nat.reduceLeDiff,Nat.reduceLT,ty3,ty4,ty9,ty36,ty30,ty46,ty53,ty48,ty22,ty23,ty24,ty25,ty27,ty45]
 have hB0 := behI_start hso hne
 rw [← hn,hto] at hB0
 have hrl : reachL g = g.those (Reach g) := by unfold reachL; rw [if_pos hsd]
 have hlm : ∀ p ∈ g.prods,(p.left ∈ reachL g ↔ Reach g p.left) := fun p hp => by
  rw [hrl,g.mem_those]
  have := hso.prods p hp
  exact ⟨fun h => h.2,fun h => ⟨by omega,h⟩⟩
 have hll : (reachL g).length ≤ 16 := by
  rw [hrl]
  have := g.those_length (Reach g)
  have := hso.nnonts
  omega
 generalize reachL g = live at hlm hll
 refine loop_rule (fun x : Bool × List (List Int) => ⟨[.any,.ptr 0 0 0 0,.any,.ptr 3 0 0 0,.ref 4 1 0 n,.fv (.lst 1 (ints live)),.fv (.bool x.1),.any,.any,.any,.any,.any,.any,.any,.any,.any,.any,.any,.any,.any,.any,.any,.any,.any,.any,.any,.any,.any,.any,.any,.any,.any,.any,.any,.any,.any,.any,.any,.any,.any,.any,.any,.any,.any,.any,.any,.any,.any,.any,.any,.any,.any,.any,.any,.any,.any,.any,.any,.any,.any,.any,.any,.any,.any,.any,.any,.any,.any,.any,.any,.any,.any,.any,.any,.any,.any,.any,.any,.any,.any,.any,.any,.any,.any,.any,.any,.any],[.box g.cells,.plain 1 (N.map boRow),.plain 1 (rowsOf F),.box [.ref 1 1 0 n,.ref 2 1 0 n],.plain 1 (rowsOf x.2)],[]⟩)
  (fun x => BehI g x.2 ∧ (x.1 = false → x.2 = g.behRows)) (fun x => if x.1 then 1 + (behB g - behW x.2) else 0) (true,(List.replicate n []).set st0 [0]) ?_ ⟨hB0,by simp⟩ (fun x hx s1 hs1 => ?_)
 ·refine Le.trans (le_wk (t' := [.any,.ptr 0 0 0 0,.any,.ptr 3 0 0 0,.ref 4 1 0 n,.fv (.lst 1 (ints live)),.fv (.bool true),.any,.any,.any,.any,.any,.any,.any,.any,.any,.any,.any,.any,.any,.any,.any,.any,.any,.any,.any,.any,.any,.any,.any,.any,.any,.any,.any,.any,.any,.any,.any,.any,.any,.any,.any,.any,.any,.any,.any,.any,.any,.any,.any,.any,.any,.any,.any,.any,.any,.any,.any,.any,.any,.any,.any,.any,.any,.any,.any,.any,.any,.any,.any,.any,.any,.any,.any,.any,.any,.any,.any,.any,.any,.any,.any,.any,.any,.any,.any,.any]) (by simp [wk])) ?_
  refine Le.trans (le_freeze [5] (fun k hk => by simp at hk; subst hk; exact ⟨_,_,rfl⟩)) (Le.trans (le_eq (s' := ⟨[.any,.ptr 0 0 0 0,.any,.ptr 3 0 0 0,.ref 4 1 0 n,.fv (.lst 1 (ints live)),.fv (.bool true),.any,.any,.any,.any,.any,.any,.any,.any,.any,.any,.any,.any,.any,.any,.any,.any,.any,.any,.any,.any,.any,.any,.any,.any,.any,.any,.any,.any,.any,.any,.any,.any,.any,.any,.any,.any,.any,.any,.any,.any,.any,.any,.any,.any,.any,.any,.any,.any,.any,.any,.any,.any,.any,.any,.any,.any,.any,.any,.any,.any,.any,.any,.any,.any,.any,.any,.any,.any,.any,.any,.any,.any,.any,.any,.any,.any,.any,.any,.any,.any],[.box g.cells,.plain 1 (N.map boRow),.plain 1 (rowsOf F),.box [.ref 1 1 0 n,.ref 2 1 0 n],.box (thaw (((List.replicate n FV.nils).set st0 (.lst 1 [[.int .i64 0]])).map fun x => [x])),.dead],[]⟩) ?_) ?_)
  ·rw [thaw_one,thaw_nils]
   simp [freezeSt,killAll,subBlk,subAny,subA,frzSub,List.map_set,Gra.cells]
  ·refine Le.trans (le_plain 4 1 _ rfl (fun r hr => by simp only [List.mem_map] at hr; obtain ⟨_,_,rfl⟩ := hr; rfl)) (Le.trans (le_nilrows 4 1 1 _ rfl) (le_pk [0,1,2,3,4] rfl (by simp) (by simp) ?_ ?_))
   ·simp [subBlk,subAny,subA,mkSub,idx,Gra.cells,rowsOf,List.map_set,fixNil,ints]
   ·simp [wk,subAny,subA,mkSub,idx]
 obtain ⟨grew,O0⟩ := x
 obtain ⟨hI0,hfin⟩ := hx
 simp only at hI0 hfin hs1 ⊢
 have hlO := hI0.len
 cases grew with
 | false =>
  rw [hfin rfl] at hlO ⊢
  simp -implicitDefEqProofs only [awp_draw _ _ Tryzdr6_19,awp_draw _ _ Tryzdr6_22,
  evx,evy,ofValue,ofCell,List.range,List.range.loop,Array.size,Nat.reduceAdd,Nat.reduceSub,Nat.reduceEqDiff,List.replicate,if_true,if_false,↓reduceIte,reduceCtorEq,elB,evParts,Int.reduceToNat,Int.reduceLE,Int.reduceLT,Int.reduceEq,Nat.reduceMul,Nat.reduceLeDiff,Nat.reduceLT,ty3,ty4,ty9,ty36,ty30,ty46,ty53,ty48,ty22,ty23,ty24,ty25,ty27,ty45]
  refine le_lst (rows := rowsOf g.behRows) rfl ?_ ?_
  ·unfold rowsOf; rw [List.length_map]; omega
  ·unfold rowsOf; rw [List.drop_zero,List.take_of_length_le (by rw [List.length_map]; omega)]
 | true =>
  simp -implicitDefEqProofs only [awp_draw _ _ Tryzdr6_19,awp_draw _ _ Tryzdr6_22,Gra.cells,List.length_map,
  evx,evy,ofValue,ofCell,List.range,List.range.loop,Array.size,Nat.reduceAdd,Nat.reduceSub,Nat.reduceEqDiff,List.replicate,if_true,if_false,↓reduceIte,reduceCtorEq,elB,evParts,Int.reduceToNat,Int.reduceLE,Int.reduceLT,Int.reduceEq,Nat.reduceMul,Nat.reduceLeDiff,Nat.reduceLT,ty3,ty4,ty9,ty36,ty30,ty46,ty53,ty48,ty22,ty23,ty24,ty25,ty27,ty45]
  refine loop_rule (fun x : Nat × Bool × List (List Int) => ⟨[.any,.ptr 0 0 0 0,.any,.ptr 3 0 0 0,.ref 4 1 0 n,.fv (.lst 1 (ints live)),.fv (.bool x.2.1),.any,.any,.any,.any,.any,.any,.any,.any,.any,.any,.any,.any,.any,.any,.any,.any,.any,.any,.any,.any,.any,.any,.any,.any,.any,.any,.any,.any,.any,.fv (.lst 3 (g.prods.map Prd.row)),.fv (.int .i64 g.prods.length),.fv (.int .i64 x.1),.any,.any,.any,.any,.any,.any,.any,.any,.any,.any,.any,.any,.any,.any,.any,.any,.any,.any,.any,.any,.any,.any,.any,.any,.any,.any,.any,.any,.any,.any,.any,.any,.any,.any,.any,.any,.any,.any,.any,.any,.any,.any,.any,.any,.any,.any,.any,.any],[.box g.cells,.plain 1 (N.map boRow),.plain 1 (rowsOf F),.box [.ref 1 1 0 n,.ref 2 1 0 n],.plain 1 (rowsOf x.2.2)],[]⟩)
   (fun x => x.1 ≤ g.prods.length ∧ InnI g O0 (∀ p ∈ g.prods.take x.1,Reach g p.left → OccC g O0 p p.right.length) ⟨0,[],0⟩ 0 x.2.1 x.2.2) (fun x => g.prods.length - x.1) (0,false,O0) (le_wk (by simp [wk,Gra.cells])) ⟨by simp,hI0,Nat.le_refl _,fun _ => ⟨rfl,by simp,.zero⟩,by simp⟩ (fun x hx s2 hs2 => ?_)
  obtain ⟨i,gr,O⟩ := x
  obtain ⟨hi2,hIn⟩ := hx
  simp only at hi2 hIn hs2 ⊢
  by_cases hilt : i < g.prods.length
  ·have hrow := rows_at Prd.row g.prods i hilt
   have hpm := List.getElem_mem hilt
   have hpr := hso.prods _ hpm
   have htk : g.prods.take (i + 1) = g.prods.take i ++ [g.prods[i]] := List.take_succ_eq_append_getElem hilt
   generalize g.prods[i] = p at hrow hpr hpm htk
   have hlive := hlm p hpm
   have hhas := ok17 live p.left (by omega)
   by_cases hl : p.left ∈ live
   ·rw [decide_eq_true hl] at hhas
    simp -implicitDefEqProofs only [awp_draw _ _ Tryzdr6_19,awp_draw _ _ Tryzdr6_22,Gra.cells,List.length_map,stB_boxA,splice_all,List.all_cons,List.all_nil,lt_true hilt,hrow,Prd.row,
  evx,evy,ofValue,ofCell,List.range,List.range.loop,Array.size,Nat.reduceAdd,Nat.reduceSub,Nat.reduceEqDiff,List.replicate,if_true,if_false,↓reduceIte,reduceCtorEq,elB,evParts,Int.reduceToNat,Int.reduceLE,Int.reduceLT,Int.reduceEq,Nat.reduceMul,Nat.reduceLeDiff,Nat.reduceLT,ty3,ty4,ty9,ty36,ty30,ty46,ty53,ty48,ty22,ty23,ty24,ty25,ty27,ty45]
    refine callK_ret _ _ _ _ (call_pure (hhas) (fun _ => rfl) (fun _ => rfl)) (ok_nil _ _) ?_
    simp -implicitDefEqProofs only [awp_draw _ _ Tryzdr6_19,awp_draw _ _ Tryzdr6_22,List.length_map,
  evx,evy,ofValue,ofCell,List.range,List.range.loop,Array.size,Nat.reduceAdd,Nat.reduceSub,Nat.reduceEqDiff,List.replicate,if_true,if_false,↓reduceIte,reduceCtorEq,elB,evParts,Int.reduceToNat,Int.reduceLE,Int.reduceLT,Int.reduceEq,Nat.reduceMul,Nat.reduceLeDiff,Nat.reduceLT,ty3,ty4,ty9,ty36,ty30,ty46,ty53,ty48,ty22,ty23,ty24,ty25,ty27,ty45]
    refine loop_rule (fun x : Nat × Bool × List (List Int) => ⟨[.any,.ptr 0 0 0 0,.any,.ptr 3 0 0 0,.ref 4 1 0 n,.fv (.lst 1 (ints live)),.fv (.bool x.2.1),.any,.ptr 5 0 0 0,.any,.any,.any,.any,.any,.any,.any,.any,.any,.any,.any,.any,.any,.any,.any,.any,.any,.any,.any,.any,.any,.any,.any,.any,.any,.any,.any,.fv (.lst 3 (g.prods.map Prd.row)),.fv (.int .i64 g.prods.length),.fv (.int .i64 i),.any,.any,.any,.any,.any,.any,.any,.any,.any,.fv (.lst 1 (ints p.right)),.fv (.int .i64 p.right.length),.fv (.int .i64 x.1),.any,.any,.any,.any,.any,.any,.any,.any,.any,.any,.any,.any,.any,.any,.any,.any,.any,.any,.any,.any,.any,.any,.any,.any,.any,.any,.any,.any,.any,.any,.any,.any,.any,.any,.any,.any],[.box g.cells,.plain 1 (N.map boRow),.plain 1 (rowsOf F),.box [.ref 1 1 0 n,.ref 2 1 0 n],.plain 1 (rowsOf x.2.2),.box [.fv (.int .i64 p.left),.fv (.lst 1 (ints p.right)),.fv (.int .i64 p.prec)]],[]⟩)
     (fun x => x.1 ≤ p.right.length ∧ InnI g O0 (∀ p ∈ g.prods.take i,Reach g p.left → OccC g O0 p p.right.length) p x.1 x.2.1 x.2.2) (fun x => p.right.length - x.1) (0,gr,O) (le_wk (by simp [wk,Gra.cells,ints,iRow])) ⟨by omega,hIn.done fun _ h _ => h⟩ (fun x hx s3 hs3 => ?_)
    obtain ⟨j,gr2,O1⟩ := x
    obtain ⟨hj2,hIn2⟩ := hx
    simp only at hj2 hIn2 hs3 ⊢
    by_cases hjlt : j < p.right.length
    ·have hrow2 := ints_get p.right j hjlt
     have hgj : p.right[j]? = some p.right[j] := List.getElem?_eq_getElem hjlt
     obtain ⟨hst1,hst2⟩ := hIn2.step hso hne hpm (hlive.1 hl) hgj
     have hm := hpr.2.2.2.2.2 _ (List.getElem_mem hjlt)
     have hB := hIn2.beh
     have hB1 := hB.put hso hne (n := p.right[j]) (by omega) hm.2 (l := g.firsts (p.right.drop (j + 1))) (fun x hx => .first p (p.right.take j) (p.right.drop (j + 1)) _ x hpm (hlive.1 hl) (by rw [← List.drop_eq_getElem_cons hjlt,List.take_append_drop]) ((g.mem_firsts _ x).1 hx).2)
     generalize p.right[j] = m at hrow2 hst1 hst2 hm hB1 hgj
     have hofj := hof (p.right.drop (j + 1)) (by rw [List.length_drop]; omega) (fun k hk => hpr.2.2.2.2.2 k (List.mem_of_mem_drop hk))
     have hdr : (ints p.right).drop (j + 1) = ints (p.right.drop (j + 1)) := by unfold ints; rw [List.map_drop]
     have hfl := g.firsts_length (p.right.drop (j + 1))
     generalize p.right.drop (j + 1) = b at hofj hdr hfl hst1 hst2 hB1
     generalize g.firsts b = fs at hofj hfl hst1 hst2 hB1
     obtain ⟨km,hkm,hkml,hkO⟩ := fAt_get (F := O1) (n := m) (by omega) (by rw [hB.len]; omega)
     have hlen1 : (fAt O1 m).length ≤ g.terms + 1 := hB.lenle hso hne hkO
     have hmore1 := ok19_row O1 km (fAt O1 m) fs hkO (by omega) (by omega)
     have hp1 : O1.set km (setOf (fAt O1 m ++ fs)) = putB O1 m fs := by unfold putB; rw [show m.toNat = km from by omega]
     have hc1 : decide ((fAt O1 m).length < (setOf (fAt O1 m ++ fs)).length) = chgB O1 m fs := rfl
     rw [hp1,hc1] at hmore1
     generalize chgB O1 m fs = c1 at hmore1 hst1 hst2
     generalize putB O1 m fs = O2 at hmore1 hst1 hst2 hB1
     obtain ⟨km2,hkm2,hkm2l,hkO2⟩ := fAt_get (F := O2) (n := m) (by omega) (by rw [hB1.len]; omega)
     obtain ⟨kl,hkl,hkll,hklO⟩ := fAt_get (F := O2) (n := p.left) (by omega) (by rw [hB1.len]; omega)
     obtain rfl : km2 = km := by omega
     have hlen2 : (fAt O2 m).length ≤ g.terms + 1 := hB1.lenle hso hne hkO2
     have hlen3 : (fAt O2 p.left).length ≤ g.terms + 1 := hB1.lenle hso hne hklO
     have hmore2 := ok19_row O2 km2 (fAt O2 m) (fAt O2 p.left) hkO2 (by omega) (by omega)
     have hp2 : O2.set km2 (setOf (fAt O2 m ++ fAt O2 p.left)) = putB O2 m (fAt O2 p.left) := by unfold putB; rw [show m.toNat = km2 from by omega]
     have hc2 : decide ((fAt O2 m).length < (setOf (fAt O2 m ++ fAt O2 p.left)).length) = chgB O2 m (fAt O2 p.left) := rfl
     rw [hp2,hc2] at hmore2
     have hFr := rowsOf_at hklO
     generalize fAt O2 p.left = ol at hmore2 hst2 hFr
     generalize chgB O2 m ol = c2 at hmore2 hst2
     generalize putB O2 m ol = O3 at hmore2 hst2
     have hcm : ((km2 : Int) < (n : Int)) = True := eq_true (by omega)
     have hcl : (p.left < (n : Int)) = True := eq_true (by omega)
     have hcl0 : (0 ≤ p.left) = True := eq_true (by omega)
     have hcl1 : p.left.toNat = kl := by omega
     have hb1 : (j + 1 ≤ p.right.length) = True := eq_true (by omega)
     have hpl := ints_length p.right
     have htk1 : (ints p.right).take p.right.length = ints p.right := by rw [← hpl,List.take_length]
     have hb2 : (0 ≤ j + 1) = True := eq_true (by omega)
     subst hkm
     simp -implicitDefEqProofs only [awp_draw _ _ Tryzdr6_19,awp_draw _ _ Tryzdr6_22,lt_true hjlt,hrow2,wsucc j (by omega),hdr,hb1,hb2,hpl,htk1,Nat.le_refl,
  evx,evy,ofValue,ofCell,List.range,List.range.loop,Array.size,Nat.reduceAdd,Nat.reduceSub,Nat.reduceEqDiff,List.replicate,if_true,if_false,↓reduceIte,reduceCtorEq,elB,evParts,Int.reduceToNat,Int.reduceLE,Int.reduceLT,Int.reduceEq,Nat.reduceMul,Nat.reduceLeDiff,Nat.reduceLT,ty3,ty4,ty9,ty36,ty30,ty46,ty53,ty48,ty22,ty23,ty24,ty25,ty27,ty45]
     refine callK_ret _ _ _ _ (call_lent [1,2] hofj rfl rfl (by simp) (by simp [Blk.live])) (by first | exact ok_none _ _ | exact ok_nil _ _ | kernel_rfl) ?_
     by_cases hnul : ∀ k ∈ b,Nul g k
     ·rw [decide_eq_true hnul]
      have hfin2 := hst2 hnul
      simp -implicitDefEqProofs only [awp_draw _ _ Tryzdr6_19,awp_draw _ _ Tryzdr6_22,subAny,subA,subL,backSub,back,putBack,subBlk,Option.getD_some,List.map_cons,List.map_nil,Nat.not_lt_zero,Nat.sub_zero,Nat.add_zero,List.length_map,hcm,hcl,hcl0,hcl1,hFr,wsucc j (by omega),
  evx,evy,ofValue,ofCell,List.range,List.range.loop,Array.size,Nat.reduceAdd,Nat.reduceSub,Nat.reduceEqDiff,List.replicate,if_true,if_false,↓reduceIte,reduceCtorEq,elB,evParts,Int.reduceToNat,Int.reduceLE,Int.reduceLT,Int.reduceEq,Nat.reduceMul,Nat.reduceLeDiff,Nat.reduceLT,ty3,ty4,ty9,ty36,ty30,ty46,ty53,ty48,ty22,ty23,ty24,ty25,ty27,ty45]
      refine callK_ret _ _ _ _ (call_lent [4,6] hmore1 rfl rfl (by simp) (by simp [Blk.live])) (by first | exact ok_none _ _ | exact ok_nil _ _ | kernel_rfl) ?_
      cases c1 with
      | false =>
       simp -implicitDefEqProofs only [awp_draw _ _ Tryzdr6_19,awp_draw _ _ Tryzdr6_22,subAny,subA,subL,backSub,back,putBack,subBlk,Option.getD_some,List.map_cons,List.map_nil,Nat.not_lt_zero,Nat.sub_zero,Nat.add_zero,List.length_map,hcm,hcl,hcl0,hcl1,hFr,wsucc j (by omega),
  evx,evy,ofValue,ofCell,List.range,List.range.loop,Array.size,Nat.reduceAdd,Nat.reduceSub,Nat.reduceEqDiff,List.replicate,if_true,if_false,↓reduceIte,reduceCtorEq,elB,evParts,Int.reduceToNat,Int.reduceLE,Int.reduceLT,Int.reduceEq,Nat.reduceMul,Nat.reduceLeDiff,Nat.reduceLT,ty3,ty4,ty9,ty36,ty30,ty46,ty53,ty48,ty22,ty23,ty24,ty25,ty27,ty45]
       refine callK_ret _ _ _ _ (call_lent [4,7] hmore2 rfl rfl (by simp) (by simp [Blk.live])) (by first | exact ok_none _ _ | exact ok_nil _ _ | kernel_rfl) ?_
       cases c2 with
       | false =>
        simp -implicitDefEqProofs only [awp_draw _ _ Tryzdr6_19,awp_draw _ _ Tryzdr6_22,subAny,subA,subL,backSub,back,putBack,subBlk,Option.getD_some,List.map_cons,List.map_nil,Nat.not_lt_zero,Nat.sub_zero,Nat.add_zero,List.length_map,hcm,hcl,hcl0,hcl1,hFr,wsucc j (by omega),
  evx,evy,ofValue,ofCell,List.range,List.range.loop,Array.size,Nat.reduceAdd,Nat.reduceSub,Nat.reduceEqDiff,List.replicate,if_true,if_false,↓reduceIte,reduceCtorEq,elB,evParts,Int.reduceToNat,Int.reduceLE,Int.reduceLT,Int.reduceEq,Nat.reduceMul,Nat.reduceLeDiff,Nat.reduceLT,ty3,ty4,ty9,ty36,ty30,ty46,ty53,ty48,ty22,ty23,ty24,ty25,ty27,ty45]
        refine back_intro hs3 (j + 1,gr2,O3) (le_pk [0,1,2,3,4,5] rfl (by simp) (by simp) ?_ ?_) ⟨by simp only; omega,by simpa using hfin2⟩ (by show p.right.length - (j + 1) < p.right.length - j; omega)
        ·simp [subBlk,subAny,subA,mkSub,idx,Gra.cells]
        ·simp [wk,subAny,subA,mkSub,idx,Gra.cells]
       | true =>
        simp -implicitDefEqProofs only [awp_draw _ _ Tryzdr6_19,awp_draw _ _ Tryzdr6_22,subAny,subA,subL,backSub,back,putBack,subBlk,Option.getD_some,List.map_cons,List.map_nil,Nat.not_lt_zero,Nat.sub_zero,Nat.add_zero,List.length_map,hcm,hcl,hcl0,hcl1,hFr,wsucc j (by omega),
  evx,evy,ofValue,ofCell,List.range,List.range.loop,Array.size,Nat.reduceAdd,Nat.reduceSub,Nat.reduceEqDiff,List.replicate,if_true,if_false,↓reduceIte,reduceCtorEq,elB,evParts,Int.reduceToNat,Int.reduceLE,Int.reduceLT,Int.reduceEq,Nat.reduceMul,Nat.reduceLeDiff,Nat.reduceLT,ty3,ty4,ty9,ty36,ty30,ty46,ty53,ty48,ty22,ty23,ty24,ty25,ty27,ty45]
        refine back_intro hs3 (j + 1,true,O3) (le_pk [0,1,2,3,4,5] rfl (by simp) (by simp) ?_ ?_) ⟨by simp only; omega,by simpa using hfin2⟩ (by show p.right.length - (j + 1) < p.right.length - j; omega)
        ·simp [subBlk,subAny,subA,mkSub,idx,Gra.cells]
        ·simp [wk,subAny,subA,mkSub,idx,Gra.cells]
      | true =>
       simp -implicitDefEqProofs only [awp_draw _ _ Tryzdr6_19,awp_draw _ _ Tryzdr6_22,subAny,subA,subL,backSub,back,putBack,subBlk,Option.getD_some,List.map_cons,List.map_nil,Nat.not_lt_zero,Nat.sub_zero,Nat.add_zero,List.length_map,hcm,hcl,hcl0,hcl1,hFr,wsucc j (by omega),
  evx,evy,ofValue,ofCell,List.range,List.range.loop,Array.size,Nat.reduceAdd,Nat.reduceSub,Nat.reduceEqDiff,List.replicate,if_true,if_false,↓reduceIte,reduceCtorEq,elB,evParts,Int.reduceToNat,Int.reduceLE,Int.reduceLT,Int.reduceEq,Nat.reduceMul,Nat.reduceLeDiff,Nat.reduceLT,ty3,ty4,ty9,ty36,ty30,ty46,ty53,ty48,ty22,ty23,ty24,ty25,ty27,ty45]
       refine callK_ret _ _ _ _ (call_lent [4,7] hmore2 rfl rfl (by simp) (by simp [Blk.live])) (by first | exact ok_none _ _ | exact ok_nil _ _ | kernel_rfl) ?_
       cases c2 with
       | false =>
        simp -implicitDefEqProofs only [awp_draw _ _ Tryzdr6_19,awp_draw _ _ Tryzdr6_22,subAny,subA,subL,backSub,back,putBack,subBlk,Option.getD_some,List.map_cons,List.map_nil,Nat.not_lt_zero,Nat.sub_zero,Nat.add_zero,List.length_map,hcm,hcl,hcl0,hcl1,hFr,wsucc j (by omega),
  evx,evy,ofValue,ofCell,List.range,List.range.loop,Array.size,Nat.reduceAdd,Nat.reduceSub,Nat.reduceEqDiff,List.replicate,if_true,if_false,↓reduceIte,reduceCtorEq,elB,evParts,Int.reduceToNat,Int.reduceLE,Int.reduceLT,Int.reduceEq,Nat.reduceMul,Nat.reduceLeDiff,Nat.reduceLT,ty3,ty4,ty9,ty36,ty30,ty46,ty53,ty48,ty22,ty23,ty24,ty25,ty27,ty45]
        refine back_intro hs3 (j + 1,true,O3) (le_pk [0,1,2,3,4,5] rfl (by simp) (by simp) ?_ ?_) ⟨by simp only; omega,by simpa using hfin2⟩ (by show p.right.length - (j + 1) < p.right.length - j; omega)
        ·simp [subBlk,subAny,subA,mkSub,idx,Gra.cells]
        ·simp [wk,subAny,subA,mkSub,idx,Gra.cells]
       | true =>
        simp -implicitDefEqProofs only [awp_draw _ _ Tryzdr6_19,awp_draw _ _ Tryzdr6_22,subAny,subA,subL,backSub,back,putBack,subBlk,Option.getD_some,List.map_cons,List.map_nil,Nat.not_lt_zero,Nat.sub_zero,Nat.add_zero,List.length_map,hcm,hcl,hcl0,hcl1,hFr,wsucc j (by omega),
  evx,evy,ofValue,ofCell,List.range,List.range.loop,Array.size,Nat.reduceAdd,Nat.reduceSub,Nat.reduceEqDiff,List.replicate,if_true,if_false,↓reduceIte,reduceCtorEq,elB,evParts,Int.reduceToNat,Int.reduceLE,Int.reduceLT,Int.reduceEq,Nat.reduceMul,Nat.reduceLeDiff,Nat.reduceLT,ty3,ty4,ty9,ty36,ty30,ty46,ty53,ty48,ty22,ty23,ty24,ty25,ty27,ty45]
        refine back_intro hs3 (j + 1,true,O3) (le_pk [0,1,2,3,4,5] rfl (by simp) (by simp) ?_ ?_) ⟨by simp only; omega,by simpa using hfin2⟩ (by show p.right.length - (j + 1) < p.right.length - j; omega)
        ·simp [subBlk,subAny,subA,mkSub,idx,Gra.cells]
        ·simp [wk,subAny,subA,mkSub,idx,Gra.cells]
     ·rw [decide_eq_false hnul]
      have hfin2 := hst1 hnul
      simp -implicitDefEqProofs only [awp_draw _ _ Tryzdr6_19,awp_draw _ _ Tryzdr6_22,subAny,subA,subL,backSub,back,putBack,subBlk,Option.getD_some,List.map_cons,List.map_nil,Nat.not_lt_zero,Nat.sub_zero,Nat.add_zero,List.length_map,hcm,hcl,hcl0,hcl1,hFr,wsucc j (by omega),
  evx,evy,ofValue,ofCell,List.range,List.range.loop,Array.size,Nat.reduceAdd,Nat.reduceSub,Nat.reduceEqDiff,List.replicate,if_true,if_false,↓reduceIte,reduceCtorEq,elB,evParts,Int.reduceToNat,Int.reduceLE,Int.reduceLT,Int.reduceEq,Nat.reduceMul,Nat.reduceLeDiff,Nat.reduceLT,ty3,ty4,ty9,ty36,ty30,ty46,ty53,ty48,ty22,ty23,ty24,ty25,ty27,ty45]
      refine callK_ret _ _ _ _ (call_lent [4,6] hmore1 rfl rfl (by simp) (by simp [Blk.live])) (by first | exact ok_none _ _ | exact ok_nil _ _ | kernel_rfl) ?_
      cases c1 with
      | false =>
       simp -implicitDefEqProofs only [awp_draw _ _ Tryzdr6_19,awp_draw _ _ Tryzdr6_22,subAny,subA,subL,backSub,back,putBack,subBlk,Option.getD_some,List.map_cons,List.map_nil,Nat.not_lt_zero,Nat.sub_zero,Nat.add_zero,List.length_map,hcm,hcl,hcl0,hcl1,hFr,wsucc j (by omega),
  evx,evy,ofValue,ofCell,List.range,List.range.loop,Array.size,Nat.reduceAdd,Nat.reduceSub,Nat.reduceEqDiff,List.replicate,if_true,if_false,↓reduceIte,reduceCtorEq,elB,evParts,Int.reduceToNat,Int.reduceLE,Int.reduceLT,Int.reduceEq,Nat.reduceMul,Nat.reduceLeDiff,Nat.reduceLT,ty3,ty4,ty9,ty36,ty30,ty46,ty53,ty48,ty22,ty23,ty24,ty25,ty27,ty45]
       refine back_intro hs3 (j + 1,gr2,O2) (le_pk [0,1,2,3,4,5] rfl (by simp) (by simp) ?_ ?_) ⟨by simp only; omega,by simpa using hfin2⟩ (by show p.right.length - (j + 1) < p.right.length - j; omega)
       ·simp [subBlk,subAny,subA,mkSub,idx,Gra.cells]
       ·simp [wk,subAny,subA,mkSub,idx,Gra.cells]
      | true =>
       simp -implicitDefEqProofs only [awp_draw _ _ Tryzdr6_19,awp_draw _ _ Tryzdr6_22,subAny,subA,subL,backSub,back,putBack,subBlk,Option.getD_some,List.map_cons,List.map_nil,Nat.not_lt_zero,Nat.sub_zero,Nat.add_zero,List.length_map,hcm,hcl,hcl0,hcl1,hFr,wsucc j (by omega),
  evx,evy,ofValue,ofCell,List.range,List.range.loop,Array.size,Nat.reduceAdd,Nat.reduceSub,Nat.reduceEqDiff,List.replicate,if_true,if_false,↓reduceIte,reduceCtorEq,elB,evParts,Int.reduceToNat,Int.reduceLE,Int.reduceLT,Int.reduceEq,Nat.reduceMul,Nat.reduceLeDiff,Nat.reduceLT,ty3,ty4,ty9,ty36,ty30,ty46,ty53,ty48,ty22,ty23,ty24,ty25,ty27,ty45]
       refine back_intro hs3 (j + 1,true,O2) (le_pk [0,1,2,3,4,5] rfl (by simp) (by simp) ?_ ?_) ⟨by simp only; omega,by simpa using hfin2⟩ (by show p.right.length - (j + 1) < p.right.length - j; omega)
       ·simp [subBlk,subAny,subA,mkSub,idx,Gra.cells]
       ·simp [wk,subAny,subA,mkSub,idx,Gra.cells]
    ·obtain rfl : j = p.right.length := by omega
     simp -implicitDefEqProofs only [awp_draw _ _ Tryzdr6_19,awp_draw _ _ Tryzdr6_22,lt_false hjlt,wsucc i (by omega),
  evx,evy,ofValue,ofCell,List.range,List.range.loop,Array.size,Nat.reduceAdd,Nat.reduceSub,Nat.reduceEqDiff,List.replicate,if_true,if_false,↓reduceIte,reduceCtorEq,elB,evParts,Int.reduceToNat,Int.reduceLE,Int.reduceLT,Int.reduceEq,Nat.reduceMul,Nat.reduceLeDiff,Nat.reduceLT,ty3,ty4,ty9,ty36,ty30,ty46,ty53,ty48,ty22,ty23,ty24,ty25,ty27,ty45]
     refine back_intro hs2 (i + 1,gr2,O1) (le_pk [0,1,2,3,4] rfl (by simp) (by simp) ?_ ?_) ⟨by simp only; omega,hIn2.done fun eO hD hc => ?_⟩ (by simp only; omega)
     ·simp [subBlk,subAny,subA,mkSub,idx,Gra.cells]
     ·simp [wk,subAny,subA,mkSub,idx]
     ·intro q hq hr
      rw [htk] at hq
      rcases List.mem_append.1 hq with hq | hq
      ·exact hD q hq hr
      ·obtain rfl : q = p := by simpa using hq
       rw [← eO]
       exact hc
   ·rw [decide_eq_false hl] at hhas
    simp -implicitDefEqProofs only [awp_draw _ _ Tryzdr6_19,awp_draw _ _ Tryzdr6_22,Gra.cells,List.length_map,stB_boxA,splice_all,List.all_cons,List.all_nil,lt_true hilt,hrow,Prd.row,
  evx,evy,ofValue,ofCell,List.range,List.range.loop,Array.size,Nat.reduceAdd,Nat.reduceSub,Nat.reduceEqDiff,List.replicate,if_true,if_false,↓reduceIte,reduceCtorEq,elB,evParts,Int.reduceToNat,Int.reduceLE,Int.reduceLT,Int.reduceEq,Nat.reduceMul,Nat.reduceLeDiff,Nat.reduceLT,ty3,ty4,ty9,ty36,ty30,ty46,ty53,ty48,ty22,ty23,ty24,ty25,ty27,ty45]
    refine callK_ret _ _ _ _ (call_pure (hhas) (fun _ => rfl) (fun _ => rfl)) (ok_nil _ _) ?_
    simp -implicitDefEqProofs only [awp_draw _ _ Tryzdr6_19,awp_draw _ _ Tryzdr6_22,wsucc i (by omega),
  evx,evy,ofValue,ofCell,List.range,List.range.loop,Array.size,Nat.reduceAdd,Nat.reduceSub,Nat.reduceEqDiff,List.replicate,if_true,if_false,↓reduceIte,reduceCtorEq,elB,evParts,Int.reduceToNat,Int.reduceLE,Int.reduceLT,Int.reduceEq,Nat.reduceMul,Nat.reduceLeDiff,Nat.reduceLT,ty3,ty4,ty9,ty36,ty30,ty46,ty53,ty48,ty22,ty23,ty24,ty25,ty27,ty45]
    refine back_intro hs2 (i + 1,gr,O) (le_pk [0,1,2,3,4] rfl (by simp) (by simp) ?_ ?_) ⟨by simp only; omega,hIn.done fun _ hD _ => ?_⟩ (by simp only; omega)
    ·simp [subBlk,subAny,subA,mkSub,idx,Gra.cells]
    ·simp [wk,subAny,subA,mkSub,idx]
    ·intro q hq hr
     rw [htk] at hq
     rcases List.mem_append.1 hq with hq | hq
     ·exact hD q hq hr
     ·obtain rfl : q = p := by simpa using hq
      exact absurd (hlive.2 hr) hl
  ·obtain rfl : i = g.prods.length := by omega
   rw [List.take_length] at hIn
   simp -implicitDefEqProofs only [awp_draw _ _ Tryzdr6_19,awp_draw _ _ Tryzdr6_22,Gra.cells,List.length_map,lt_false hilt,
  evx,evy,ofValue,ofCell,List.range,List.range.loop,Array.size,Nat.reduceAdd,Nat.reduceSub,Nat.reduceEqDiff,List.replicate,if_true,if_false,↓reduceIte,reduceCtorEq,elB,evParts,Int.reduceToNat,Int.reduceLE,Int.reduceLT,Int.reduceEq,Nat.reduceMul,Nat.reduceLeDiff,Nat.reduceLT,ty3,ty4,ty9,ty36,ty30,ty46,ty53,ty48,ty22,ty23,ty24,ty25,ty27,ty45]
   refine back_intro hs1 (gr,O) (le_wk (by simp [wk,Gra.cells])) ⟨hIn.beh,fun h => ?_⟩ ?_
   ·obtain ⟨rfl,h2,_⟩ := hIn.no h
    exact beh_fin hso hne hIn.beh h2
   ·have hw := hIn.beh.weight hso hne
    cases gr with
    | false => simp only [Bool.false_eq_true,if_false,if_true]; omega
    | true =>
     have := hIn.yes rfl
     simp only [if_true]
     omega
end Go.Abs
/- What may stand behind symbols: the document's way. -/
namespace Go.Abs
open Go.Proofs
set_option linter.unusedVariables false
set_option linter.unusedSimpArgs false
set_option maxRecDepth 100000
set_option maxHeartbeats 8000000
noncomputable def behN (g : Gra) (s : Nat) : List (List Int) := (List.range (g.all + 1)).map fun j : Nat => if 1 ≤ j ∧ j < s then g.behs (j : Int) else []
theorem behN_one (g : Gra) : behN g 1 = List.replicate (g.all + 1) [] := by
 unfold behN
 refine List.ext_getElem? fun i => ?_
 rw [List.getElem?_map,List.getElem?_replicate]
 by_cases h : i < g.all + 1
 ·rw [List.getElem?_range h,if_pos h,Option.map_some,if_neg (by omega)]
 ·rw [List.getElem?_eq_none (by simp; omega),if_neg h]; rfl
theorem behN_succ {g : Gra} {k : Nat} (h1 : 1 ≤ k) (h : k ≤ g.all) : behN g (k + 1) = (behN g k).set k (g.behs (k : Int)) := by
 unfold behN
 refine List.ext_getElem? fun i => ?_
 rw [List.getElem?_set,List.getElem?_map,List.getElem?_map]
 by_cases e : k = i
 ·subst e
  rw [if_pos rfl,if_pos (by simp; omega),List.getElem?_range (by omega),Option.map_some,if_pos (by omega)]
 ·rw [if_neg e]
  by_cases hi : i < g.all + 1
  ·rw [List.getElem?_range hi,Option.map_some,Option.map_some]
   congr 1
   by_cases c : 1 ≤ i ∧ i < k
   ·rw [if_pos c,if_pos (by omega)]
   ·rw [if_neg c,if_neg (by omega)]
  ·rw [List.getElem?_eq_none (by simp; omega)]; rfl
theorem behN_fin {g : Gra} (hs : Sound g) (hne : g.nonts ≠ []) : behN g (g.all + 1) = g.behRows := by
 unfold behN Gra.behRows
 refine List.map_congr_left fun i hi => ?_
 rw [List.mem_range] at hi
 by_cases h : 1 ≤ i
 ·rw [if_pos (by omega)]
 ·rw [if_neg (by omega)]
  refine (List.eq_nil_iff_forall_not_mem.2 fun x hx => ?_).symm
  have := (hs.beh hne ((g.mem_behs _ x).1 hx).2).1
  omega
theorem behN_at {g : Gra} {k : Nat} (h : k ≤ g.all) : (behN g k)[k]? = some [] := by
 unfold behN
 rw [List.getElem?_map,List.getElem?_range (by omega),Option.map_some,if_neg (by omega)]
theorem rimI_start (g : Gra) (s : Int) : RimI g s [s] [] := by
 refine ⟨by simp,fun x hx => ?_,by simp,by simp⟩
 obtain rfl : x = s := by simpa using hx
 exact .here
theorem ok9 (g : Gra) (hg : Small g 100) (hsd : g.sound = true) : Ok Tryz.prog 9 [g.av] [] (.ret (.fv (.lst 1 (rowsOf (behL g))))) [] := by
 have hso := g.sound_iff hsd
 have hal := hso.all_le
 have htl := hso.terms_le
 have hnp := hso.nprods
 have hterms := ok21 g hg.nrules
 have hvan := ok22 g hg hsd
 have hreach := ok23 g hg hsd
 have hvl := g.those_length (Nul g)
 have hrl := g.those_length (Reach g)
 have hnn := hso.nnonts
 obtain ⟨n,hn⟩ : ∃ n : Nat,n = g.all + 1 := ⟨_,rfl⟩
 have hwn : IntKind.wrap .i64 (((g.terms + g.nonts.length : Nat) : Int) + 1) = (n : Int) := by rw [hn]; exact wsucc _ (by omega)
 have hrep : rowsOf (List.replicate n []) = List.replicate n [.lst 1 []] := rows_nil n
 refine ok_start (k := 133) (n0 := 0) (rs := [.tmp 2]) mix Tryz.func9 rfl rfl rfl rfl rfl rfl rfl ?_
 simp -implicitDefEqProofs only [awp_draw _ _ Tryzdr9_17,awp_draw _ _ Tryzdr9_26,awp_draw _ _ Tryzdr9_27,Gra.av,
  evx,evy,ofValue,ofCell,List.range,List.range.loop,Array.size,Nat.reduceAdd,Nat.reduceSub,Nat.reduceEqDiff,List.replicate,if_true,if_false,↓reduceIte,reduceCtorEq,elB,evParts,Int.reduceToNat,Int.reduceLE,Int.reduceLT,Int.reduceEq,Nat.reduceMul,Nat.reduceLeDiff,Nat.reduceLT,ty3,ty4,ty9,ty36,ty30,ty46,ty53,ty22,ty23,ty24,ty25,ty27,ty45]
 refine callK_ret _ _ _ _ (call_pure (hterms) (fun _ => rfl) (fun _ => rfl)) (ok_nil _ _) ?_
 simp -implicitDefEqProofs only [awp_draw _ _ Tryzdr9_17,awp_draw _ _ Tryzdr9_26,awp_draw _ _ Tryzdr9_27,Gra.cells,List.length_map,wsum g.terms g.nonts.length (by omega),hwn,
  evx,evy,ofValue,ofCell,List.range,List.range.loop,Array.size,Nat.reduceAdd,Nat.reduceSub,Nat.reduceEqDiff,List.replicate,if_true,if_false,↓reduceIte,reduceCtorEq,elB,evParts,Int.reduceToNat,Int.reduceLE,Int.reduceLT,Int.reduceEq,Nat.reduceMul,Nat.reduceLeDiff,Nat.reduceLT,ty3,ty4,ty9,ty36,ty30,ty46,ty53,ty22,ty23,ty24,ty25,ty27,ty45]
 refine ⟨⟨by omega,by omega⟩,?_⟩
 by_cases hne : g.nonts = []
 ·have hl0 : ((g.nonts.length : Int) = 0) = True := by simp [hne]
  have e : behL g = List.replicate n [] := by unfold behL; rw [if_pos hne,hn]
  rw [e,hrep]
  simp -implicitDefEqProofs only [awp_draw _ _ Tryzdr9_17,awp_draw _ _ Tryzdr9_26,awp_draw _ _ Tryzdr9_27,hl0,
  evx,evy,ofValue,ofCell,List.range,List.range.loop,Array.size,Nat.reduceAdd,Nat.reduceSub,Nat.reduceEqDiff,List.replicate,if_true,if_false,↓reduceIte,reduceCtorEq,elB,evParts,Int.reduceToNat,Int.reduceLE,Int.reduceLT,Int.reduceEq,Nat.reduceMul,Nat.reduceLeDiff,Nat.reduceLT,ty3,ty4,ty9,ty36,ty30,ty46,ty53,ty22,ty23,ty24,ty25,ty27,ty45]
  refine Le.trans (le_nilrows 1 1 1 _ rfl) ?_
  refine le_lst (rows := List.replicate n [.lst 1 []]) ?_ (by simp) (by simp)
  simp [fixNil]
 have hl0 : ((g.nonts.length : Int) = 0) = False := by simp [hne]
 have e : behL g = g.behRows := by unfold behL; rw [if_neg hne]
 rw [e,← behN_fin hso hne]
 simp -implicitDefEqProofs only [awp_draw _ _ Tryzdr9_17,awp_draw _ _ Tryzdr9_26,awp_draw _ _ Tryzdr9_27,hl0,
  evx,evy,ofValue,ofCell,List.range,List.range.loop,Array.size,Nat.reduceAdd,Nat.reduceSub,Nat.reduceEqDiff,List.replicate,if_true,if_false,↓reduceIte,reduceCtorEq,elB,evParts,Int.reduceToNat,Int.reduceLE,Int.reduceLT,Int.reduceEq,Nat.reduceMul,Nat.reduceLeDiff,Nat.reduceLT,ty3,ty4,ty9,ty36,ty30,ty46,ty53,ty22,ty23,ty24,ty25,ty27,ty45]
 refine callK_ret _ _ _ _ (call_pure (hvan) (fun _ => rfl) (fun _ => rfl)) (ok_nil _ _) ?_
 simp -implicitDefEqProofs only [awp_draw _ _ Tryzdr9_17,awp_draw _ _ Tryzdr9_26,awp_draw _ _ Tryzdr9_27,
  evx,evy,ofValue,ofCell,List.range,List.range.loop,Array.size,Nat.reduceAdd,Nat.reduceSub,Nat.reduceEqDiff,List.replicate,if_true,if_false,↓reduceIte,reduceCtorEq,elB,evParts,Int.reduceToNat,Int.reduceLE,Int.reduceLT,Int.reduceEq,Nat.reduceMul,Nat.reduceLeDiff,Nat.reduceLT,ty3,ty4,ty9,ty36,ty30,ty46,ty53,ty22,ty23,ty24,ty25,ty27,ty45]
 refine callK_ret _ _ _ _ (call_pure (hreach) (fun _ => rfl) (fun _ => rfl)) (ok_nil _ _) ?_
 simp -implicitDefEqProofs only [awp_draw _ _ Tryzdr9_17,awp_draw _ _ Tryzdr9_26,awp_draw _ _ Tryzdr9_27,
  evx,evy,ofValue,ofCell,List.range,List.range.loop,Array.size,Nat.reduceAdd,Nat.reduceSub,Nat.reduceEqDiff,List.replicate,if_true,if_false,↓reduceIte,reduceCtorEq,elB,evParts,Int.reduceToNat,Int.reduceLE,Int.reduceLT,Int.reduceEq,Nat.reduceMul,Nat.reduceLeDiff,Nat.reduceLT,ty3,ty4,ty9,ty36,ty30,ty46,ty53,ty22,ty23,ty24,ty25,ty27,ty45]
 have hlm : ∀ p ∈ g.prods,(p.left ∈ g.those (Reach g) ↔ Reach g p.left) := fun p hp => by
  rw [g.mem_those]
  have := hso.prods p hp
  exact ⟨fun h => h.2,fun h => ⟨by omega,h⟩⟩
 have hnm : ∀ b : List Int,(∀ k ∈ b,1 ≤ k ∧ k ≤ (g.all : Int)) → goneB (g.those (Nul g)) b = true ∨ goneB (g.those (Nul g)) b = false := fun b _ => by cases goneB (g.those (Nul g)) b <;> simp
 have hgone : ∀ b : List Int,(goneB (g.those (Nul g)) b = true ↔ ∀ k ∈ b,Nul g k) := fun b => by
  unfold goneB
  rw [List.all_eq_true]
  exact ⟨fun h k hk => ((g.mem_those _ k).1 (of_decide_eq_true (h k hk))).2,fun h k hk => decide_eq_true ((g.mem_those _ k).2 ⟨hso.nul (h k hk),h k hk⟩)⟩
 generalize g.those (Nul g) = null at hvl hgone
 generalize g.those (Reach g) = live at hrl hlm
 refine loop_rule (fun s : Nat => ⟨[.any,.ptr 0 0 0 0,.any,.any,.fv (.int .i64 n),.ref 1 1 0 n,.fv (.lst 1 (ints null)),.fv (.lst 1 (ints live)),.fv (.int .i64 s),.any,.any,.any,.any,.any,.any,.any,.any,.any,.any,.any,.any,.any,.any,.any,.any,.any,.any,.any,.any,.any,.any,.any,.any,.any,.any,.any,.any,.any,.any,.any,.any,.any,.any,.any,.any,.any,.any,.any,.any,.any,.any,.any,.any,.any,.any,.any,.any,.any,.any,.any,.any,.any,.any,.any,.any,.any,.any,.any,.any,.any,.any,.any,.any,.any,.any,.any,.any,.any,.any,.any,.any,.any,.any,.any,.any,.any,.any,.any,.any,.any,.any,.any,.any,.any,.any,.any,.any,.any,.any,.any,.any,.any,.any,.any,.any,.any,.any,.any,.any,.any,.any,.any,.any,.any,.any,.any,.any,.any,.any,.any,.any,.any,.any,.any,.any,.any,.any,.any,.any,.any,.any,.any,.any,.any],[.box g.cells,.plain 1 (rowsOf (behN g s))],[]⟩)
  (fun s => 1 ≤ s ∧ s ≤ n) (fun s => n - s) 1 ?_ (by omega) (fun s hs0 st1 hs1 => ?_)
 ·refine Le.trans (le_wk (t' := [.any,.ptr 0 0 0 0,.any,.any,.fv (.int .i64 n),.ref 1 1 0 n,.fv (.lst 1 (ints null)),.fv (.lst 1 (ints live)),.fv (.int .i64 (1 : Nat)),.any,.any,.any,.any,.any,.any,.any,.any,.any,.any,.any,.any,.any,.any,.any,.any,.any,.any,.any,.any,.any,.any,.any,.any,.any,.any,.any,.any,.any,.any,.any,.any,.any,.any,.any,.any,.any,.any,.any,.any,.any,.any,.any,.any,.any,.any,.any,.any,.any,.any,.any,.any,.any,.any,.any,.any,.any,.any,.any,.any,.any,.any,.any,.any,.any,.any,.any,.any,.any,.any,.any,.any,.any,.any,.any,.any,.any,.any,.any,.any,.any,.any,.any,.any,.any,.any,.any,.any,.any,.any,.any,.any,.any,.any,.any,.any,.any,.any,.any,.any,.any,.any,.any,.any,.any,.any,.any,.any,.any,.any,.any,.any,.any,.any,.any,.any,.any,.any,.any,.any,.any,.any,.any,.any,.any]) (by simp [wk])) (Le.trans (le_nilrows 1 1 1 _ rfl) (le_eq ?_))
  rw [behN_one,← hn,hrep]
  simp [fixNil,Gra.cells]
 by_cases hslt : s < n
 ·have hc := lt_true hslt
  simp -implicitDefEqProofs only [awp_draw _ _ Tryzdr9_17,awp_draw _ _ Tryzdr9_26,awp_draw _ _ Tryzdr9_27,hc,
  evx,evy,ofValue,ofCell,List.range,List.range.loop,Array.size,Nat.reduceAdd,Nat.reduceSub,Nat.reduceEqDiff,List.replicate,if_true,if_false,↓reduceIte,reduceCtorEq,elB,evParts,Int.reduceToNat,Int.reduceLE,Int.reduceLT,Int.reduceEq,Nat.reduceMul,Nat.reduceLeDiff,Nat.reduceLT,ty3,ty4,ty9,ty36,ty30,ty46,ty53,ty22,ty23,ty24,ty25,ty27,ty45]
  refine loop_rule (fun x : Nat × List Int × List Int => ⟨[.any,.ptr 0 0 0 0,.any,.any,.fv (.int .i64 n),.ref 1 1 0 n,.fv (.lst 1 (ints null)),.fv (.lst 1 (ints live)),.fv (.int .i64 s),.ref 2 1 0 x.2.1.length,.ref 3 1 0 x.2.2.length,.fv (.int .i64 x.1),.any,.any,.any,.any,.any,.any,.any,.any,.any,.any,.any,.any,.any,.any,.any,.any,.any,.any,.any,.any,.any,.any,.any,.any,.any,.any,.any,.any,.any,.any,.any,.any,.any,.any,.any,.any,.any,.any,.any,.any,.any,.any,.any,.any,.any,.any,.any,.any,.any,.any,.any,.any,.any,.any,.any,.any,.any,.any,.any,.any,.any,.any,.any,.any,.any,.any,.any,.any,.any,.any,.any,.any,.any,.any,.any,.any,.any,.any,.any,.any,.any,.any,.any,.any,.any,.any,.any,.any,.any,.any,.any,.any,.any,.any,.any,.any,.any,.any,.any,.any,.any,.any,.any,.any,.any,.any,.any,.any,.any,.any,.any,.any,.any,.any,.any,.any,.any,.any,.any,.any,.any,.any],[.box g.cells,.plain 1 (rowsOf (behN g s)),.plain 1 (ints x.2.1),.plain 1 (ints x.2.2)],[]⟩)
   (fun x => x.1 ≤ x.2.1.length ∧ RimI g s x.2.1 x.2.2 ∧ x.2.2.length ≤ x.1 * 5200 ∧ ∀ e ∈ x.2.1.take x.1,CovE g e x.2.1 x.2.2) (fun x => 33 - x.1) (0,[(s : Int)],[]) ?_ ⟨by simp,rimI_start g s,by simp,by simp⟩ (fun x hx st2 hs2 => ?_)
  ·refine Le.trans (le_virt 10 1 rfl) (le_pk [0,1,3,4] rfl (by simp) (by simp) ?_ ?_)
   ·simp [subBlk,subAny,subA,mkSub,idx,Gra.cells,ints]
   ·simp [wk,subAny,subA,mkSub,idx]
  obtain ⟨i,ends,all⟩ := x
  obtain ⟨hi,hR,hal2,hcov⟩ := hx
  simp only at hi hR hal2 hcov hs2 ⊢
  have hlen := hR.len hso ⟨by omega,by omega⟩
  have hel := ints_length ends
  have hll := ints_length all
  by_cases hilt : i < ends.length
  ·have hrow := ints_get ends i hilt
   have hge : ends[i]? = some ends[i] := List.getElem?_eq_getElem hilt
   have htk : ends.take (i + 1) = ends.take i ++ [ends[i]] := List.take_succ_eq_append_getElem hilt
   generalize ends[i] = e0 at hrow hge htk
   have hM0 := midI_start (p := ⟨0,[],0⟩) hR hge hcov
   have hsl : (allS g e0 all).length ≤ all.length + 1 := by unfold allS; split <;> simp
   have hb1 : all.length + 1 ≤ 9223372036854775807 := by omega
   have hb2 : ((all.length + 1) * 8 ≤ 140737488355328) = True := eq_true (by omega)
   simp -implicitDefEqProofs only [awp_draw _ _ Tryzdr9_17,awp_draw _ _ Tryzdr9_26,awp_draw _ _ Tryzdr9_27,lt_true hilt,hrow,Gra.cells,hll,Nat.le_refl,hb2,
  evx,evy,ofValue,ofCell,List.range,List.range.loop,Array.size,Nat.reduceAdd,Nat.reduceSub,Nat.reduceEqDiff,List.replicate,if_true,if_false,↓reduceIte,reduceCtorEq,elB,evParts,Int.reduceToNat,Int.reduceLE,Int.reduceLT,Int.reduceEq,Nat.reduceMul,Nat.reduceLeDiff,Nat.reduceLT,ty3,ty4,ty9,ty36,ty30,ty46,ty53,ty22,ty23,ty24,ty25,ty27,ty45]
   refine ite_st (n0 := 0) ⟨[.any,.ptr 0 0 0 0,.any,.any,.fv (.int .i64 n),.ref 1 1 0 n,.fv (.lst 1 (ints null)),.fv (.lst 1 (ints live)),.fv (.int .i64 s),.ref 2 1 0 ends.length,.ref 3 1 0 (allS g e0 all).length,.fv (.int .i64 i),.fv (.int .i64 0),.any,.any,.any,.any,.any,.any,.any,.any,.any,.any,.any,.any,.any,.any,.any,.any,.any,.any,.any,.any,.any,.any,.any,.any,.any,.any,.any,.any,.any,.any,.any,.any,.any,.any,.any,.any,.any,.any,.any,.any,.any,.any,.any,.any,.any,.any,.any,.any,.any,.any,.any,.any,.any,.any,.any,.any,.any,.any,.any,.any,.any,.any,.any,.any,.any,.any,.any,.any,.any,.any,.any,.any,.any,.any,.any,.any,.any,.any,.any,.any,.any,.any,.any,.any,.any,.any,.any,.any,.any,.any,.any,.any,.any,.any,.any,.any,.any,.any,.any,.any,.any,.any,.any,.any,.any,.any,.any,.any,.any,.any,.any,.any,.any,.any,.any,.any,.any,.any,.any,.any,.any],[.box g.cells,.plain 1 (rowsOf (behN g s)),.plain 1 (ints ends),.plain 1 (ints (allS g e0 all))],[]⟩ (fun hp => ?_) (fun hp => ?_) (fun st0 hle0 => ?_)
   ·have e : allS g e0 all = all ++ [0] := by unfold allS; rw [if_pos hp]
    rw [e]
    refine le_pk [0,1,2,5] rfl (by simp) (by simp) ?_ ?_
    ·have e2 : List.take all.length (ints all) ++ [[FV.int IntKind.i64 0]] = ints (all ++ [0]) := by rw [← hll,List.take_length,ints_append]; rfl
     rw [e2]
     simp [subBlk,subAny,subA,mkSub,idx,Gra.cells]
    ·simp [wk,subAny,subA,mkSub,idx]
   ·have e : allS g e0 all = all := by unfold allS; rw [if_neg hp]
    rw [e]
    exact le_wk (by simp [wk,Gra.cells])
   refine loop_rule (fun x : Nat × List Int × List Int => ⟨[.any,.ptr 0 0 0 0,.any,.any,.fv (.int .i64 n),.ref 1 1 0 n,.fv (.lst 1 (ints null)),.fv (.lst 1 (ints live)),.fv (.int .i64 s),.ref 2 1 0 x.2.1.length,.ref 3 1 0 x.2.2.length,.fv (.int .i64 i),.fv (.int .i64 x.1),.any,.any,.any,.any,.any,.any,.any,.any,.any,.any,.any,.any,.any,.any,.any,.any,.any,.any,.any,.any,.any,.any,.any,.any,.any,.any,.any,.any,.any,.any,.any,.any,.any,.any,.any,.any,.any,.any,.any,.any,.any,.any,.any,.any,.any,.any,.any,.any,.any,.any,.any,.any,.any,.any,.any,.any,.any,.any,.any,.any,.any,.any,.any,.any,.any,.any,.any,.any,.any,.any,.any,.any,.any,.any,.any,.any,.any,.any,.any,.any,.any,.any,.any,.any,.any,.any,.any,.any,.any,.any,.any,.any,.any,.any,.any,.any,.any,.any,.any,.any,.any,.any,.any,.any,.any,.any,.any,.any,.any,.any,.any,.any,.any,.any,.any,.any,.any,.any,.any,.any,.any],[.box g.cells,.plain 1 (rowsOf (behN g s)),.plain 1 (ints x.2.1),.plain 1 (ints x.2.2)],[]⟩)
    (fun x => x.1 ≤ g.prods.length ∧ MidI g s (ends.take i) (ends.take i ++ [e0]) e0 i (g.prods.take x.1) ⟨0,[],0⟩ 0 x.2.1 x.2.2 ∧ x.2.2.length ≤ i * 5200 + 1 + x.1 * 128) (fun x => g.prods.length - x.1) (0,ends,allS g e0 all) hle0 ⟨by omega,by rw [← htk]; exact hM0,by simp only; omega⟩ (fun x hx st3 hs3 => ?_)
   obtain ⟨k,ends1,all1⟩ := x
   obtain ⟨hk2,hM1,hal3⟩ := hx
   simp only at hk2 hM1 hal3 hs3 ⊢
   by_cases hklt : k < g.prods.length
   ·have hrowp := rows_at Prd.row g.prods k hklt
    have hpm := List.getElem_mem hklt
    have hpr := hso.prods _ hpm
    have htkp : g.prods.take (k + 1) = g.prods.take k ++ [g.prods[k]] := List.take_succ_eq_append_getElem hklt
    generalize g.prods[k] = p at hrowp hpr hpm htkp
    have hlive := hlm p hpm
    have hhas := ok24 live p.left (by omega)
    simp -implicitDefEqProofs only [awp_draw _ _ Tryzdr9_17,awp_draw _ _ Tryzdr9_26,awp_draw _ _ Tryzdr9_27,lt_true hklt,hrowp,Prd.row,Gra.cells,List.length_map,stB_boxA,splice_all,List.all_cons,List.all_nil,Bool.and_self,
  evx,evy,ofValue,ofCell,List.range,List.range.loop,Array.size,Nat.reduceAdd,Nat.reduceSub,Nat.reduceEqDiff,List.replicate,if_true,if_false,↓reduceIte,reduceCtorEq,elB,evParts,Int.reduceToNat,Int.reduceLE,Int.reduceLT,Int.reduceEq,Nat.reduceMul,Nat.reduceLeDiff,Nat.reduceLT,ty3,ty4,ty9,ty36,ty30,ty46,ty53,ty22,ty23,ty24,ty25,ty27,ty45]
    refine loop_rule (fun x : Nat × List Int × List Int => ⟨[.any,.ptr 0 0 0 0,.any,.any,.fv (.int .i64 n),.ref 1 1 0 n,.fv (.lst 1 (ints null)),.fv (.lst 1 (ints live)),.fv (.int .i64 s),.ref 2 1 0 x.2.1.length,.ref 3 1 0 x.2.2.length,.fv (.int .i64 i),.fv (.int .i64 k),.ptr 4 0 0 0,.fv (.int .i64 x.1),.any,.any,.any,.any,.any,.any,.any,.any,.any,.any,.any,.any,.any,.any,.any,.any,.any,.any,.any,.any,.any,.any,.any,.any,.any,.any,.any,.any,.any,.any,.any,.any,.any,.any,.any,.any,.any,.any,.any,.any,.any,.any,.any,.any,.any,.any,.any,.any,.any,.any,.any,.any,.any,.any,.any,.any,.any,.any,.any,.any,.any,.any,.any,.any,.any,.any,.any,.any,.any,.any,.any,.any,.any,.any,.any,.any,.any,.any,.any,.any,.any,.any,.any,.any,.any,.any,.any,.any,.any,.any,.any,.any,.any,.any,.any,.any,.any,.any,.any,.any,.any,.any,.any,.any,.any,.any,.any,.any,.any,.any,.any,.any,.any,.any,.any,.any,.any,.any,.any],[.box g.cells,.plain 1 (rowsOf (behN g s)),.plain 1 (ints x.2.1),.plain 1 (ints x.2.2),.box [.fv (.int .i64 p.left),.fv (.lst 1 (ints p.right)),.fv (.int .i64 p.prec)]],[]⟩)
     (fun x => x.1 ≤ p.right.length ∧ MidI g s (ends.take i) (ends.take i ++ [e0]) e0 i (g.prods.take k) p x.1 x.2.1 x.2.2 ∧ x.2.2.length ≤ i * 5200 + 1 + k * 128 + x.1 * 16 ∧ (0 < x.1 → Reach g p.left)) (fun x => p.right.length - x.1) (0,ends1,all1) ?_ ⟨by omega,hM1.next hM1.cur,by simp only; omega,by simp⟩ (fun x hx st4 hs4 => ?_)
    ·exact le_wk (by simp [wk,Gra.cells,ints,iRow])
    obtain ⟨j,ends2,all2⟩ := x
    obtain ⟨hj2,hM2,hal4,hpos⟩ := hx
    simp only at hj2 hM2 hal4 hpos hs4 ⊢
    have hel2 := ints_length ends2
    have hll2 := ints_length all2
    have hlen2 := hM2.rim.len hso ⟨by omega,by omega⟩
    by_cases hjlt : j < p.right.length
    ·by_cases hl : p.left ∈ live
     ·rw [decide_eq_true hl] at hhas
      have hrow2 := ints_get p.right j hjlt
      have hgj : p.right[j]? = some p.right[j] := List.getElem?_eq_getElem hjlt
      have hge2 : ends2[i]? = some e0 := by
       have h1 := hM2.tk
       have h2 : (ends2.take (i + 1))[i]? = some e0 := by rw [h1,List.getElem?_append_right (by simp; omega)]; simp [Nat.min_eq_left (Nat.le_of_lt hilt)]
       rw [List.getElem?_take] at h2
       split at h2
       ·exact h2
       ·cases h2
      have hrow3 : (ints ends2)[i]? = some [.int .i64 e0] := by unfold ints; rw [List.getElem?_map,hge2]; rfl
      have hin := hM2.len
      have hput := fun (e : p.right[j] = e0) => hM2.put hso hpm (hlive.1 hl) (by rw [hgj,e])
      have hskip := fun (e : p.right[j] ≠ e0) => hM2.skip hgj e
      generalize p.right[j] = m at hrow2 hgj hput hskip
      have hsy : ∀ k ∈ p.right.drop (j + 1),1 ≤ k ∧ k ≤ (g.all : Int) := fun k hk => hpr.2.2.2.2.2 k (List.mem_of_mem_drop hk)
      have hdl : (p.right.drop (j + 1)).length ≤ 8 := by rw [List.length_drop]; omega
      have hof := ok25 g hg hsd (p.right.drop (j + 1)) (by omega) (symsB_iff.2 hsy)
      have hgo := ok26 null (p.right.drop (j + 1)) (by omega) (by omega)
      have hgn := hgone (p.right.drop (j + 1))
      have hdr : (ints p.right).drop (j + 1) = ints (p.right.drop (j + 1)) := by unfold ints; rw [List.map_drop]
      have hfl := g.firsts_length (p.right.drop (j + 1))
      generalize p.right.drop (j + 1) = b at hof hgo hgn hdr hfl hput
      generalize g.firsts b = fs at hof hfl hput
      generalize goneB null b = gn at hgo hgn
      have hhe := ok24 ends2 p.left (by omega)
      have hfs := ints_length fs
      have hpl := ints_length p.right
      have htk1 : (ints p.right).take p.right.length = ints p.right := by rw [← hpl,List.take_length]
      have hb0 : (j + 1 ≤ p.right.length) = True := eq_true (by omega)
      have hb2 : (0 ≤ j + 1) = True := eq_true (by omega)
      have hb3 : ((all2.length + fs.length) * 8 ≤ 140737488355328) = True := eq_true (by omega)
      have hb4 : ((ends2.length + 1) * 8 ≤ 140737488355328) = True := eq_true (by omega)
      have hia := lt_true hin
      have ha2 : List.take all2.length (ints all2) ++ ints fs = ints (all2 ++ fs) := by rw [← hll2,List.take_length,ints_append]
      have he2 : List.take ends2.length (ints ends2) ++ [[FV.int IntKind.i64 p.left]] = ints (ends2 ++ [p.left]) := by rw [← hel2,List.take_length,ints_append]; rfl
      by_cases hme : m = e0
      ·have hmt := eq_true hme
       obtain ⟨hp1,hp2⟩ := hput hme
       simp -implicitDefEqProofs only [awp_draw _ _ Tryzdr9_17,awp_draw _ _ Tryzdr9_26,awp_draw _ _ Tryzdr9_27,lt_true hjlt,hpl,
  evx,evy,ofValue,ofCell,List.range,List.range.loop,Array.size,Nat.reduceAdd,Nat.reduceSub,Nat.reduceEqDiff,List.replicate,if_true,if_false,↓reduceIte,reduceCtorEq,elB,evParts,Int.reduceToNat,Int.reduceLE,Int.reduceLT,Int.reduceEq,Nat.reduceMul,Nat.reduceLeDiff,Nat.reduceLT,ty3,ty4,ty9,ty36,ty30,ty46,ty53,ty22,ty23,ty24,ty25,ty27,ty45]
       refine callK_ret _ _ _ _ (call_pure (hhas) (fun _ => rfl) (fun _ => rfl)) (ok_nil _ _) ?_
       simp -implicitDefEqProofs only [awp_draw _ _ Tryzdr9_17,awp_draw _ _ Tryzdr9_26,awp_draw _ _ Tryzdr9_27,Gra.cells,hrow2,hrow3,hia,hmt,lt_true hjlt,hpl,wsucc j (by omega),hdr,htk1,hb0,hb2,Nat.le_refl,hll2,hel2,hb3,hb4,hfs,
  evx,evy,ofValue,ofCell,List.range,List.range.loop,Array.size,Nat.reduceAdd,Nat.reduceSub,Nat.reduceEqDiff,List.replicate,if_true,if_false,↓reduceIte,reduceCtorEq,elB,evParts,Int.reduceToNat,Int.reduceLE,Int.reduceLT,Int.reduceEq,Nat.reduceMul,Nat.reduceLeDiff,Nat.reduceLT,ty3,ty4,ty9,ty36,ty30,ty46,ty53,ty22,ty23,ty24,ty25,ty27,ty45]
       refine callK_ret _ _ _ _ (call_pure hof (fun _ => rfl) (fun _ => rfl)) (by first | exact ok_none _ _ | exact ok_nil _ _ | kernel_rfl) ?_
       simp -implicitDefEqProofs only [awp_draw _ _ Tryzdr9_17,awp_draw _ _ Tryzdr9_26,awp_draw _ _ Tryzdr9_27,Gra.cells,hrow2,hrow3,hia,hmt,lt_true hjlt,hpl,wsucc j (by omega),hdr,htk1,hb0,hb2,Nat.le_refl,hll2,hel2,hb3,hb4,hfs,
  evx,evy,ofValue,ofCell,List.range,List.range.loop,Array.size,Nat.reduceAdd,Nat.reduceSub,Nat.reduceEqDiff,List.replicate,if_true,if_false,↓reduceIte,reduceCtorEq,elB,evParts,Int.reduceToNat,Int.reduceLE,Int.reduceLT,Int.reduceEq,Nat.reduceMul,Nat.reduceLeDiff,Nat.reduceLT,ty3,ty4,ty9,ty36,ty30,ty46,ty53,ty22,ty23,ty24,ty25,ty27,ty45]
       refine callK_ret _ _ _ _ (call_pure hgo (fun _ => rfl) (fun _ => rfl)) (by first | exact ok_none _ _ | exact ok_nil _ _ | kernel_rfl) ?_
       cases gn with
       | false =>
        simp -implicitDefEqProofs only [awp_draw _ _ Tryzdr9_17,awp_draw _ _ Tryzdr9_26,awp_draw _ _ Tryzdr9_27,Gra.cells,hrow2,hrow3,hia,hmt,lt_true hjlt,hpl,wsucc j (by omega),hdr,htk1,hb0,hb2,Nat.le_refl,hll2,hel2,hb3,hb4,hfs,
  evx,evy,ofValue,ofCell,List.range,List.range.loop,Array.size,Nat.reduceAdd,Nat.reduceSub,Nat.reduceEqDiff,List.replicate,if_true,if_false,↓reduceIte,reduceCtorEq,elB,evParts,Int.reduceToNat,Int.reduceLE,Int.reduceLT,Int.reduceEq,Nat.reduceMul,Nat.reduceLeDiff,Nat.reduceLT,ty3,ty4,ty9,ty36,ty30,ty46,ty53,ty22,ty23,ty24,ty25,ty27,ty45]
        refine back_intro hs4 (j + 1,ends2,all2 ++ fs) (le_pk [0,1,2,5,4] rfl (by simp) (by simp) ?_ ?_) ⟨by simp only; omega,hp2 (fun h => by have := hgn.2 h.1; cases this),by simp only [List.length_append]; omega,fun _ => hlive.1 hl⟩ (by simp only; omega)
        ·simp [subBlk,subAny,subA,mkSub,idx,Gra.cells,← ha2,← he2]
        ·simp [wk,subAny,subA,mkSub,idx,Gra.cells]
       | true =>
        simp -implicitDefEqProofs only [awp_draw _ _ Tryzdr9_17,awp_draw _ _ Tryzdr9_26,awp_draw _ _ Tryzdr9_27,Gra.cells,hrow2,hrow3,hia,hmt,lt_true hjlt,hpl,wsucc j (by omega),hdr,htk1,hb0,hb2,Nat.le_refl,hll2,hel2,hb3,hb4,hfs,
  evx,evy,ofValue,ofCell,List.range,List.range.loop,Array.size,Nat.reduceAdd,Nat.reduceSub,Nat.reduceEqDiff,List.replicate,if_true,if_false,↓reduceIte,reduceCtorEq,elB,evParts,Int.reduceToNat,Int.reduceLE,Int.reduceLT,Int.reduceEq,Nat.reduceMul,Nat.reduceLeDiff,Nat.reduceLT,ty3,ty4,ty9,ty36,ty30,ty46,ty53,ty22,ty23,ty24,ty25,ty27,ty45]
        refine callK_ret _ _ _ _ (call_look [2] hhe (by simp [subAny,subA,mkSub,idx,← hel2]) (fun k hk => by simp at hk; subst hk; exact ⟨_,_,rfl⟩) rfl) (by first | exact ok_none _ _ | exact ok_nil _ _ | kernel_rfl) ?_
        by_cases hmm : p.left ∈ ends2
        ·rw [decide_eq_true hmm]
         simp -implicitDefEqProofs only [awp_draw _ _ Tryzdr9_17,awp_draw _ _ Tryzdr9_26,awp_draw _ _ Tryzdr9_27,Gra.cells,hrow2,hrow3,hia,hmt,lt_true hjlt,hpl,wsucc j (by omega),hdr,htk1,hb0,hb2,Nat.le_refl,hll2,hel2,hb3,hb4,hfs,
  evx,evy,ofValue,ofCell,List.range,List.range.loop,Array.size,Nat.reduceAdd,Nat.reduceSub,Nat.reduceEqDiff,List.replicate,if_true,if_false,↓reduceIte,reduceCtorEq,elB,evParts,Int.reduceToNat,Int.reduceLE,Int.reduceLT,Int.reduceEq,Nat.reduceMul,Nat.reduceLeDiff,Nat.reduceLT,ty3,ty4,ty9,ty36,ty30,ty46,ty53,ty22,ty23,ty24,ty25,ty27,ty45]
         refine back_intro hs4 (j + 1,ends2,all2 ++ fs) (le_pk [0,1,2,5,4] rfl (by simp) (by simp) ?_ ?_) ⟨by simp only; omega,hp2 fun h => h.2 hmm,by simp only [List.length_append]; omega,fun _ => hlive.1 hl⟩ (by simp only; omega)
         ·simp [subBlk,subAny,subA,mkSub,idx,Gra.cells,← ha2,← he2]
         ·simp [wk,subAny,subA,mkSub,idx,Gra.cells]
        ·rw [decide_eq_false hmm]
         simp -implicitDefEqProofs only [awp_draw _ _ Tryzdr9_17,awp_draw _ _ Tryzdr9_26,awp_draw _ _ Tryzdr9_27,Gra.cells,hrow2,hrow3,hia,hmt,lt_true hjlt,hpl,wsucc j (by omega),hdr,htk1,hb0,hb2,Nat.le_refl,hll2,hel2,hb3,hb4,hfs,
  evx,evy,ofValue,ofCell,List.range,List.range.loop,Array.size,Nat.reduceAdd,Nat.reduceSub,Nat.reduceEqDiff,List.replicate,if_true,if_false,↓reduceIte,reduceCtorEq,elB,evParts,Int.reduceToNat,Int.reduceLE,Int.reduceLT,Int.reduceEq,Nat.reduceMul,Nat.reduceLeDiff,Nat.reduceLT,ty3,ty4,ty9,ty36,ty30,ty46,ty53,ty22,ty23,ty24,ty25,ty27,ty45]
         refine back_intro hs4 (j + 1,ends2 ++ [p.left],all2 ++ fs) (le_pk [0,1,7,5,4] rfl (by simp) (by simp) ?_ ?_) ⟨by simp only; omega,hp1 (hgn.1 rfl) hmm,by simp only [List.length_append]; omega,fun _ => hlive.1 hl⟩ (by simp only; omega)
         ·simp [subBlk,subAny,subA,mkSub,idx,Gra.cells,← ha2,← he2]
         ·simp [wk,subAny,subA,mkSub,idx,Gra.cells]
      ·have hmt := eq_false hme
       simp -implicitDefEqProofs only [awp_draw _ _ Tryzdr9_17,awp_draw _ _ Tryzdr9_26,awp_draw _ _ Tryzdr9_27,lt_true hjlt,hpl,
  evx,evy,ofValue,ofCell,List.range,List.range.loop,Array.size,Nat.reduceAdd,Nat.reduceSub,Nat.reduceEqDiff,List.replicate,if_true,if_false,↓reduceIte,reduceCtorEq,elB,evParts,Int.reduceToNat,Int.reduceLE,Int.reduceLT,Int.reduceEq,Nat.reduceMul,Nat.reduceLeDiff,Nat.reduceLT,ty3,ty4,ty9,ty36,ty30,ty46,ty53,ty22,ty23,ty24,ty25,ty27,ty45]
       refine callK_ret _ _ _ _ (call_pure (hhas) (fun _ => rfl) (fun _ => rfl)) (ok_nil _ _) ?_
       simp -implicitDefEqProofs only [awp_draw _ _ Tryzdr9_17,awp_draw _ _ Tryzdr9_26,awp_draw _ _ Tryzdr9_27,hrow2,hrow3,hia,hmt,lt_true hjlt,hpl,wsucc j (by omega),
  evx,evy,ofValue,ofCell,List.range,List.range.loop,Array.size,Nat.reduceAdd,Nat.reduceSub,Nat.reduceEqDiff,List.replicate,if_true,if_false,↓reduceIte,reduceCtorEq,elB,evParts,Int.reduceToNat,Int.reduceLE,Int.reduceLT,Int.reduceEq,Nat.reduceMul,Nat.reduceLeDiff,Nat.reduceLT,ty3,ty4,ty9,ty36,ty30,ty46,ty53,ty22,ty23,ty24,ty25,ty27,ty45]
       refine back_intro hs4 (j + 1,ends2,all2) (le_wk (by simp [wk,Gra.cells])) ⟨by simp only; omega,hskip hme,by simp only; omega,fun _ => hlive.1 hl⟩ (by simp only; omega)
     ·rw [decide_eq_false hl] at hhas
      have hpl := ints_length p.right
      simp -implicitDefEqProofs only [awp_draw _ _ Tryzdr9_17,awp_draw _ _ Tryzdr9_26,awp_draw _ _ Tryzdr9_27,lt_true hjlt,hpl,
  evx,evy,ofValue,ofCell,List.range,List.range.loop,Array.size,Nat.reduceAdd,Nat.reduceSub,Nat.reduceEqDiff,List.replicate,if_true,if_false,↓reduceIte,reduceCtorEq,elB,evParts,Int.reduceToNat,Int.reduceLE,Int.reduceLT,Int.reduceEq,Nat.reduceMul,Nat.reduceLeDiff,Nat.reduceLT,ty3,ty4,ty9,ty36,ty30,ty46,ty53,ty22,ty23,ty24,ty25,ty27,ty45]
      refine callK_ret _ _ _ _ (call_pure (hhas) (fun _ => rfl) (fun _ => rfl)) (ok_nil _ _) ?_
      simp -implicitDefEqProofs only [awp_draw _ _ Tryzdr9_17,awp_draw _ _ Tryzdr9_26,awp_draw _ _ Tryzdr9_27,wsucc k (by omega),
  evx,evy,ofValue,ofCell,List.range,List.range.loop,Array.size,Nat.reduceAdd,Nat.reduceSub,Nat.reduceEqDiff,List.replicate,if_true,if_false,↓reduceIte,reduceCtorEq,elB,evParts,Int.reduceToNat,Int.reduceLE,Int.reduceLT,Int.reduceEq,Nat.reduceMul,Nat.reduceLeDiff,Nat.reduceLT,ty3,ty4,ty9,ty36,ty30,ty46,ty53,ty22,ty23,ty24,ty25,ty27,ty45]
      refine back_intro hs3 (k + 1,ends2,all2) (le_pk [0,1,2,3] rfl (by simp) (by simp) ?_ ?_) ⟨by simp only; omega,hM2.next fun q hq hr => ?_,by simp only; omega⟩ (by simp only; omega)
      ·simp [subBlk,subAny,subA,mkSub,idx,Gra.cells]
      ·simp [wk,subAny,subA,mkSub,idx,Gra.cells]
      ·rw [htkp] at hq
       rcases List.mem_append.1 hq with hq | hq
       ·exact hM2.cur q hq hr
       ·obtain rfl : q = p := by simpa using hq
        exact absurd (hlive.2 hr) hl
    ·obtain rfl : j = p.right.length := by omega
     have hpl := ints_length p.right
     simp -implicitDefEqProofs only [awp_draw _ _ Tryzdr9_17,awp_draw _ _ Tryzdr9_26,awp_draw _ _ Tryzdr9_27,lt_false hjlt,hpl,wsucc k (by omega),
  evx,evy,ofValue,ofCell,List.range,List.range.loop,Array.size,Nat.reduceAdd,Nat.reduceSub,Nat.reduceEqDiff,List.replicate,if_true,if_false,↓reduceIte,reduceCtorEq,elB,evParts,Int.reduceToNat,Int.reduceLE,Int.reduceLT,Int.reduceEq,Nat.reduceMul,Nat.reduceLeDiff,Nat.reduceLT,ty3,ty4,ty9,ty36,ty30,ty46,ty53,ty22,ty23,ty24,ty25,ty27,ty45]
     refine back_intro hs3 (k + 1,ends2,all2) (le_pk [0,1,2,3] rfl (by simp) (by simp) ?_ ?_) ⟨by simp only; omega,hM2.next fun q hq hr => ?_,by simp only; omega⟩ (by simp only; omega)
     ·simp [subBlk,subAny,subA,mkSub,idx,Gra.cells]
     ·simp [wk,subAny,subA,mkSub,idx,Gra.cells]
     ·rw [htkp] at hq
      rcases List.mem_append.1 hq with hq | hq
      ·exact hM2.cur q hq hr
      ·obtain rfl : q = p := by simpa using hq
       exact hM2.now
   ·obtain rfl : k = g.prods.length := by omega
    simp -implicitDefEqProofs only [awp_draw _ _ Tryzdr9_17,awp_draw _ _ Tryzdr9_26,awp_draw _ _ Tryzdr9_27,lt_false hklt,Gra.cells,List.length_map,wsucc i (by omega),
  evx,evy,ofValue,ofCell,List.range,List.range.loop,Array.size,Nat.reduceAdd,Nat.reduceSub,Nat.reduceEqDiff,List.replicate,if_true,if_false,↓reduceIte,reduceCtorEq,elB,evParts,Int.reduceToNat,Int.reduceLE,Int.reduceLT,Int.reduceEq,Nat.reduceMul,Nat.reduceLeDiff,Nat.reduceLT,ty3,ty4,ty9,ty36,ty30,ty46,ty53,ty22,ty23,ty24,ty25,ty27,ty45]
    rw [List.take_length] at hM1
    refine back_intro hs2 (i + 1,ends1,all1) (le_wk (by simp [wk,Gra.cells])) ⟨by have := hM1.len; simp only; omega,hM1.rim,by simp only; omega,hM1.fin⟩ (by simp only; omega)
  ·obtain rfl : i = ends.length := by omega
   have hof := ok27 all (by omega)
   rw [rim_fin hso hne hR (by rw [List.take_length] at hcov; exact hcov)] at hof
   have hr := rowsOf_at (behN_at (g := g) (k := s) (by omega))
   simp -implicitDefEqProofs only [awp_draw _ _ Tryzdr9_17,awp_draw _ _ Tryzdr9_26,awp_draw _ _ Tryzdr9_27,lt_false hilt,hr,hc,
  evx,evy,ofValue,ofCell,List.range,List.range.loop,Array.size,Nat.reduceAdd,Nat.reduceSub,Nat.reduceEqDiff,List.replicate,if_true,if_false,↓reduceIte,reduceCtorEq,elB,evParts,Int.reduceToNat,Int.reduceLE,Int.reduceLT,Int.reduceEq,Nat.reduceMul,Nat.reduceLeDiff,Nat.reduceLT,ty3,ty4,ty9,ty36,ty30,ty46,ty53,ty22,ty23,ty24,ty25,ty27,ty45]
   refine callK_ret _ _ _ _ (call_freeze (args' := [.fv (.lst 1 (ints all))]) [3] (fun i hi => by simp at hi; subst hi; exact ⟨_,_,rfl⟩) (by simp [subAny,subA,frzSub,ints,List.take_of_length_le]) rfl
    (call_pure hof (fun _ => rfl) (fun _ => rfl)) [3] (by simp) (by simp) (fun i hi hl => by
     match i,hi,hl with
     | 0,_,_ => simp [freezeSt,killAll,subBlk,subAny,subA,Gra.cells]
     | 1,_,_ => simp [freezeSt,killAll,subBlk,subAny,subA]
     | 2,_,_ => simp [freezeSt,killAll,subBlk,subAny,subA]
     | 3,hi,_ => exact absurd (by simp) hi
     | i + 4,_,hl => simp at hl; omega)) (by first | exact ok_none _ _ | exact ok_nil _ _ | kernel_rfl) ?_
   simp -implicitDefEqProofs only [awp_draw _ _ Tryzdr9_17,awp_draw _ _ Tryzdr9_26,awp_draw _ _ Tryzdr9_27,subAny,subA,subL,backSub,back,putBack,subBlk,Option.getD_some,List.map_cons,List.map_nil,Nat.not_lt_zero,Nat.sub_zero,Nat.add_zero,List.length_map,freezeSt,frzSub,killAll,List.contains_cons,List.contains_nil,Nat.reduceBEq,Bool.or_false,hr,hc,wsucc s (by omega),
  evx,evy,ofValue,ofCell,List.range,List.range.loop,Array.size,Nat.reduceAdd,Nat.reduceSub,Nat.reduceEqDiff,List.replicate,if_true,if_false,↓reduceIte,reduceCtorEq,elB,evParts,Int.reduceToNat,Int.reduceLE,Int.reduceLT,Int.reduceEq,Nat.reduceMul,Nat.reduceLeDiff,Nat.reduceLT,ty3,ty4,ty9,ty36,ty30,ty46,ty53,ty22,ty23,ty24,ty25,ty27,ty45]
   have hset : (rowsOf (behN g s)).set s [.lst 1 (ints (g.behs s))] = rowsOf (behN g (s + 1)) := by rw [behN_succ (by omega) (by omega)]; unfold rowsOf; rw [List.map_set]
   refine back_intro hs1 (s + 1) (le_pk [0,1] rfl (by simp) (by simp) ?_ ?_) (by omega) (by omega)
   ·rw [← hset]
    simp [subBlk,subAny,subA,mkSub,idx,Gra.cells]
   ·simp [wk,subAny,subA,mkSub,idx,Gra.cells]
 ·obtain rfl : s = n := by omega
  simp -implicitDefEqProofs only [awp_draw _ _ Tryzdr9_17,awp_draw _ _ Tryzdr9_26,awp_draw _ _ Tryzdr9_27,lt_false hslt,
  evx,evy,ofValue,ofCell,List.range,List.range.loop,Array.size,Nat.reduceAdd,Nat.reduceSub,Nat.reduceEqDiff,List.replicate,if_true,if_false,↓reduceIte,reduceCtorEq,elB,evParts,Int.reduceToNat,Int.reduceLE,Int.reduceLT,Int.reduceEq,Nat.reduceMul,Nat.reduceLeDiff,Nat.reduceLT,ty3,ty4,ty9,ty36,ty30,ty46,ty53,ty22,ty23,ty24,ty25,ty27,ty45]
  rw [hn]
  refine le_lst (rows := rowsOf (behN g (g.all + 1))) rfl ?_ ?_
  ·unfold rowsOf behN; simp
  ·unfold rowsOf behN; rw [List.drop_zero,List.take_of_length_le (by simp)]
end Go.Abs
/- The law FirstBehind as a contract. -/
namespace Go.Abs
open Go.Proofs
set_option linter.unusedVariables false
set_option linter.unusedSimpArgs false
set_option maxRecDepth 100000
set_option maxHeartbeats 8000000
theorem cmpL_selfB : ∀ l : List Int,cmpL l l = 0
 | [] => rfl
 | x :: l => by
  have h : cmpI x x = 0 := by simp [cmpI]
  rw [cmpL,if_pos h,cmpL_selfB l]
theorem ok8_self (L : List (List Int)) (hL : L.length ≤ 1000) (hl : ∀ l ∈ L,l.length ≤ 1000) : Ok Tryz.prog 8 [.fv (.lst 1 (rowsOf L)),.fv (.lst 1 (rowsOf L))] [] (.ret (.fv (.bool true))) [] := by
 have hrl : (rowsOf L).length = L.length := by unfold rowsOf; rw [List.length_map]
 have e0 : ((L.length : Int) = (L.length : Int)) = True := eq_true rfl
 refine ok_start (k := 25) (n0 := 0) (rs := [.tmp 4]) mix Tryz.func8 rfl rfl rfl rfl rfl rfl rfl ?_
 simp -implicitDefEqProofs only [awp_draw _ _ Tryzdr8_6,hrl,e0,
  evx,evy,ofValue,ofCell,List.range,List.range.loop,Array.size,Nat.reduceAdd,Nat.reduceSub,Nat.reduceEqDiff,List.replicate,if_true,if_false,↓reduceIte,reduceCtorEq,elB,evParts,Int.reduceToNat,Int.reduceLE,Int.reduceLT,Int.reduceEq,Nat.reduceMul,Nat.reduceLeDiff,Nat.reduceLT,ty3,ty4,ty9,ty36,ty30,ty22,ty23,ty24,ty25,ty27,ty45]
 refine loop_rule (fun i : Nat => ⟨[.fv (.lst 1 (rowsOf L)),.fv (.lst 1 (rowsOf L)),.any,.any,.any,.fv (.int .i64 i),.any,.any,.any,.any,.any,.any,.any,.any,.any,.any,.any,.any,.any,.any,.any,.any,.any,.any,.any,.any,.any],[],[]⟩) (fun i => i ≤ L.length) (fun i => L.length - i) 0 (le_wk (by simp [wk])) (by omega) (fun i hi s hs => ?_)
 by_cases hlt : i < L.length
 ·have hr := rowsOf_at (List.getElem?_eq_getElem hlt)
  have hll := hl _ (List.getElem_mem hlt)
  generalize L[i] = l at hr hll
  have s1 := ok12 l l (by omega) (by omega)
  rw [cmpL_selfB] at s1
  simp -implicitDefEqProofs only [awp_draw _ _ Tryzdr8_6,hrl,lt_true hlt,hr,
  evx,evy,ofValue,ofCell,List.range,List.range.loop,Array.size,Nat.reduceAdd,Nat.reduceSub,Nat.reduceEqDiff,List.replicate,if_true,if_false,↓reduceIte,reduceCtorEq,elB,evParts,Int.reduceToNat,Int.reduceLE,Int.reduceLT,Int.reduceEq,Nat.reduceMul,Nat.reduceLeDiff,Nat.reduceLT,ty3,ty4,ty9,ty36,ty30,ty22,ty23,ty24,ty25,ty27,ty45]
  refine callK_ret _ _ _ _ (call_pure s1 (fun _ => rfl) (fun _ => rfl)) (by first | exact ok_none _ _ | exact ok_nil _ _ | kernel_rfl) ?_
  simp -implicitDefEqProofs only [awp_draw _ _ Tryzdr8_6,wsucc i (by omega),
  evx,evy,ofValue,ofCell,List.range,List.range.loop,Array.size,Nat.reduceAdd,Nat.reduceSub,Nat.reduceEqDiff,List.replicate,if_true,if_false,↓reduceIte,reduceCtorEq,elB,evParts,Int.reduceToNat,Int.reduceLE,Int.reduceLT,Int.reduceEq,Nat.reduceMul,Nat.reduceLeDiff,Nat.reduceLT,ty3,ty4,ty9,ty36,ty30,ty22,ty23,ty24,ty25,ty27,ty45]
  exact back_intro hs (i + 1) (le_wk (by simp [wk])) (by omega) (by omega)
 ·obtain rfl : i = L.length := by omega
  simp -implicitDefEqProofs only [awp_draw _ _ Tryzdr8_6,hrl,lt_false hlt,
  evx,evy,ofValue,ofCell,List.range,List.range.loop,Array.size,Nat.reduceAdd,Nat.reduceSub,Nat.reduceEqDiff,List.replicate,if_true,if_false,↓reduceIte,reduceCtorEq,elB,evParts,Int.reduceToNat,Int.reduceLE,Int.reduceLT,Int.reduceEq,Nat.reduceMul,Nat.reduceLeDiff,Nat.reduceLT,ty3,ty4,ty9,ty36,ty30,ty22,ty23,ty24,ty25,ty27,ty45]
  exact le_flat rfl
theorem behL_len (g : Gra) : (behL g).length = g.all + 1 := by
 unfold behL Gra.behRows
 split <;> simp
theorem behL_rows {g : Gra} (l : List Int) (h : l ∈ behL g) : l.length ≤ g.terms + 1 := by
 unfold behL at h
 split at h
 ·rw [List.mem_replicate] at h
  rw [h.2]
  simp
 ·unfold Gra.behRows at h
  obtain ⟨i,_,rfl⟩ := List.mem_map.1 h
  unfold Gra.behs
  refine Nat.le_trans (List.length_filter_le _ _) ?_
  simp
theorem lawBehind (g : Gra) : Ok Tryz.prog 3 [g.av] [] (.ret (.fv (.bool true))) [] := by
 have h7 := ok5 g
 refine ok_start (k := 19) (n0 := 0) (rs := [.tmp 2]) mix Tryz.func3 rfl rfl rfl rfl rfl rfl rfl ?_
 simp -implicitDefEqProofs only [Gra.av,
  evx,evy,ofValue,ofCell,List.range,List.range.loop,Array.size,Nat.reduceAdd,Nat.reduceSub,Nat.reduceEqDiff,List.replicate,if_true,if_false,↓reduceIte,reduceCtorEq,elB,evParts,Int.reduceToNat,Int.reduceLE,Int.reduceLT,Int.reduceEq,Nat.reduceMul,Nat.reduceLeDiff,Nat.reduceLT,ty3,ty4,ty9,ty36,ty30,ty22,ty23,ty24,ty25,ty27,ty45]
 refine callK_ret _ _ _ _ (call_pure (okWakes15) (fun _ => rfl) (fun _ => rfl)) (ok_nil _ _) ?_
 cases hl : g.longB 60 with
 | true =>
  rw [hl] at h7
  simp -implicitDefEqProofs only [evx,evy,ofValue,ofCell,List.range,List.range.loop,Array.size,Nat.reduceAdd,Nat.reduceSub,Nat.reduceEqDiff,List.replicate,if_true,if_false,↓reduceIte,reduceCtorEq,elB,evParts,Int.reduceToNat,Int.reduceLE,Int.reduceLT,Int.reduceEq,Nat.reduceMul,Nat.reduceLeDiff,Nat.reduceLT,ty3,ty4,ty9,ty36,ty30,ty22,ty23,ty24,ty25,ty27,ty45]
  refine callK_ret _ _ _ _ (call_pure (h7) (fun _ => rfl) (fun _ => rfl)) (ok_nil _ _) ?_
  simp -implicitDefEqProofs only [evx,evy,ofValue,ofCell,List.range,List.range.loop,Array.size,Nat.reduceAdd,Nat.reduceSub,Nat.reduceEqDiff,List.replicate,if_true,if_false,↓reduceIte,reduceCtorEq,elB,evParts,Int.reduceToNat,Int.reduceLE,Int.reduceLT,Int.reduceEq,Nat.reduceMul,Nat.reduceLeDiff,Nat.reduceLT,ty3,ty4,ty9,ty36,ty30,ty22,ty23,ty24,ty25,ty27,ty45]
  exact le_flat rfl
 | false =>
  rw [hl] at h7
  have hg := (small_of hl).up (m := 100) (by omega)
  have hs := ok7 g hg
  cases hsd : g.sound with
  | false =>
   rw [hsd] at hs
   have hv := ok6_bad g hg hsd
   have e4 : ((0 : Int) = 0) = True := by simp
   simp -implicitDefEqProofs only [evx,evy,ofValue,ofCell,List.range,List.range.loop,Array.size,Nat.reduceAdd,Nat.reduceSub,Nat.reduceEqDiff,List.replicate,if_true,if_false,↓reduceIte,reduceCtorEq,elB,evParts,Int.reduceToNat,Int.reduceLE,Int.reduceLT,Int.reduceEq,Nat.reduceMul,Nat.reduceLeDiff,Nat.reduceLT,ty3,ty4,ty9,ty36,ty30,ty22,ty23,ty24,ty25,ty27,ty45]
   refine callK_ret _ _ _ _ (call_pure (h7) (fun _ => rfl) (fun _ => rfl)) (ok_nil _ _) ?_
   simp -implicitDefEqProofs only [evx,evy,ofValue,ofCell,List.range,List.range.loop,Array.size,Nat.reduceAdd,Nat.reduceSub,Nat.reduceEqDiff,List.replicate,if_true,if_false,↓reduceIte,reduceCtorEq,elB,evParts,Int.reduceToNat,Int.reduceLE,Int.reduceLT,Int.reduceEq,Nat.reduceMul,Nat.reduceLeDiff,Nat.reduceLT,ty3,ty4,ty9,ty36,ty30,ty22,ty23,ty24,ty25,ty27,ty45]
   refine callK_ret _ _ _ _ (call_pure (hv) (fun _ => rfl) (fun _ => rfl)) (ok_nil _ _) ?_
   simp -implicitDefEqProofs only [evx,evy,ofValue,ofCell,List.range,List.range.loop,Array.size,Nat.reduceAdd,Nat.reduceSub,Nat.reduceEqDiff,List.replicate,if_true,if_false,↓reduceIte,reduceCtorEq,elB,evParts,Int.reduceToNat,Int.reduceLE,Int.reduceLT,Int.reduceEq,Nat.reduceMul,Nat.reduceLeDiff,Nat.reduceLT,ty3,ty4,ty9,ty36,ty30,ty22,ty23,ty24,ty25,ty27,ty45]
   refine callK_ret _ _ _ _ (call_pure (hs) (fun _ => rfl) (fun _ => rfl)) (ok_nil _ _) ?_
   simp -implicitDefEqProofs only [e4,
  evx,evy,ofValue,ofCell,List.range,List.range.loop,Array.size,Nat.reduceAdd,Nat.reduceSub,Nat.reduceEqDiff,List.replicate,if_true,if_false,↓reduceIte,reduceCtorEq,elB,evParts,Int.reduceToNat,Int.reduceLE,Int.reduceLT,Int.reduceEq,Nat.reduceMul,Nat.reduceLeDiff,Nat.reduceLT,ty3,ty4,ty9,ty36,ty30,ty22,ty23,ty24,ty25,ty27,ty45]
   exact le_flat rfl
  | true =>
   rw [hsd] at hs
   have hso := g.sound_iff hsd
   have hal := hso.all_le
   have htl := hso.terms_le
   have hv := ok6 g hg hsd
   have hr := ok9 g hg hsd
   have hsl := ok8_self (behL g) (by rw [behL_len]; omega) (fun l h => by have := behL_rows l h; omega)
   simp -implicitDefEqProofs only [evx,evy,ofValue,ofCell,List.range,List.range.loop,Array.size,Nat.reduceAdd,Nat.reduceSub,Nat.reduceEqDiff,List.replicate,if_true,if_false,↓reduceIte,reduceCtorEq,elB,evParts,Int.reduceToNat,Int.reduceLE,Int.reduceLT,Int.reduceEq,Nat.reduceMul,Nat.reduceLeDiff,Nat.reduceLT,ty3,ty4,ty9,ty36,ty30,ty22,ty23,ty24,ty25,ty27,ty45]
   refine callK_ret _ _ _ _ (call_pure (h7) (fun _ => rfl) (fun _ => rfl)) (ok_nil _ _) ?_
   simp -implicitDefEqProofs only [evx,evy,ofValue,ofCell,List.range,List.range.loop,Array.size,Nat.reduceAdd,Nat.reduceSub,Nat.reduceEqDiff,List.replicate,if_true,if_false,↓reduceIte,reduceCtorEq,elB,evParts,Int.reduceToNat,Int.reduceLE,Int.reduceLT,Int.reduceEq,Nat.reduceMul,Nat.reduceLeDiff,Nat.reduceLT,ty3,ty4,ty9,ty36,ty30,ty22,ty23,ty24,ty25,ty27,ty45]
   refine callK_ret _ _ _ _ (call_pure (hv) (fun _ => rfl) (fun _ => rfl)) (ok_nil _ _) ?_
   simp -implicitDefEqProofs only [evx,evy,ofValue,ofCell,List.range,List.range.loop,Array.size,Nat.reduceAdd,Nat.reduceSub,Nat.reduceEqDiff,List.replicate,if_true,if_false,↓reduceIte,reduceCtorEq,elB,evParts,Int.reduceToNat,Int.reduceLE,Int.reduceLT,Int.reduceEq,Nat.reduceMul,Nat.reduceLeDiff,Nat.reduceLT,ty3,ty4,ty9,ty36,ty30,ty22,ty23,ty24,ty25,ty27,ty45]
   refine callK_ret _ _ _ _ (call_pure (hs) (fun _ => rfl) (fun _ => rfl)) (ok_nil _ _) ?_
   simp -implicitDefEqProofs only [evx,evy,ofValue,ofCell,List.range,List.range.loop,Array.size,Nat.reduceAdd,Nat.reduceSub,Nat.reduceEqDiff,List.replicate,if_true,if_false,↓reduceIte,reduceCtorEq,elB,evParts,Int.reduceToNat,Int.reduceLE,Int.reduceLT,Int.reduceEq,Nat.reduceMul,Nat.reduceLeDiff,Nat.reduceLT,ty3,ty4,ty9,ty36,ty30,ty22,ty23,ty24,ty25,ty27,ty45]
   refine callK_ret _ _ _ _ (call_pure (hr) (fun _ => rfl) (fun _ => rfl)) (ok_nil _ _) ?_
   simp -implicitDefEqProofs only [evx,evy,ofValue,ofCell,List.range,List.range.loop,Array.size,Nat.reduceAdd,Nat.reduceSub,Nat.reduceEqDiff,List.replicate,if_true,if_false,↓reduceIte,reduceCtorEq,elB,evParts,Int.reduceToNat,Int.reduceLE,Int.reduceLT,Int.reduceEq,Nat.reduceMul,Nat.reduceLeDiff,Nat.reduceLT,ty3,ty4,ty9,ty36,ty30,ty22,ty23,ty24,ty25,ty27,ty45]
   refine callK_ret _ _ _ _ (call_pure (hsl) (fun _ => rfl) (fun _ => rfl)) (ok_nil _ _) ?_
   simp -implicitDefEqProofs only [evx,evy,ofValue,ofCell,List.range,List.range.loop,Array.size,Nat.reduceAdd,Nat.reduceSub,Nat.reduceEqDiff,List.replicate,if_true,if_false,↓reduceIte,reduceCtorEq,elB,evParts,Int.reduceToNat,Int.reduceLE,Int.reduceLT,Int.reduceEq,Nat.reduceMul,Nat.reduceLeDiff,Nat.reduceLT,ty3,ty4,ty9,ty36,ty30,ty22,ty23,ty24,ty25,ty27,ty45]
   exact le_flat rfl
end Go.Abs
