/- The law SpotsAny as a contract. -/
import Derived.Test.YtmnbljfbdiodbaaTyTrys
import Derived.Test.YtmnbljfbdiodbaaDrTrys
import Derived.Test.YtmnbljfbdiodbaaSpCs
import Derived.Test.YtmnbljfbdiodbaaSpVs
import Derived.Test.YtmnbljfbdiodbaaSpXs
namespace Go.Abs
open Go.Proofs
set_option linter.unusedVariables false
set_option linter.unusedSimpArgs false
set_option maxRecDepth 100000
set_option maxHeartbeats 8000000
theorem eqlB2 (x y one : Bool) : binA Try.prog .eql 4 one (.fv (.bool x)) (.fv (.bool y)) = some (.fv (.bool (x == y))) := by
 simp only [binA,eqA,ty4,negB]
theorem lawAny (p : Spo) (s : List UInt8) : Ok Try.prog 4 [p.av,.fv (.str s)] [] (.ret (.fv (.bool true))) [] := by
 have hrl : (rowsOf p.follow).length = p.follow.length := by unfold rowsOf; rw [List.length_map]
 have if1 := ints_length p.first
 have il1 := ints_length p.last
 refine ok_start (k := 54) (n0 := 0) (rs := [.tmp 4]) mix Try.func4 rfl rfl rfl rfl rfl rfl rfl ?_
 simp -implicitDefEqProofs only [awp_draw _ _ Trydr4_11,Spo.av,Spo.cells,
  evx,evy,ofValue,ofCell,List.range,List.range.loop,Array.size,Nat.reduceAdd,Nat.reduceSub,Nat.reduceEqDiff,List.replicate,if_true,if_false,↓reduceIte,reduceCtorEq,elB,evParts,Int.reduceToNat,Int.reduceLE,Int.reduceLT,Int.reduceEq,Nat.reduceMul,Nat.reduceLeDiff,Nat.reduceLT,ty3,ty4,ty5,ty9,ty39,ty40,ty41,ty23,ty24,ty25,ty27,ty58]
 refine callK_ret _ _ _ _ (call_pure (okWakes07) (fun _ => rfl) (fun _ => rfl)) (ok_nil _ _) ?_
 by_cases a1 : (60 : Int) < (p.sets.length : Int)
 ·have a1t : ((60 : Int) < (p.sets.length : Int)) = True := eq_true a1
  simp -implicitDefEqProofs only [awp_draw _ _ Trydr4_11,Spo.cells,List.length_map,a1t,
  evx,evy,ofValue,ofCell,List.range,List.range.loop,Array.size,Nat.reduceAdd,Nat.reduceSub,Nat.reduceEqDiff,List.replicate,if_true,if_false,↓reduceIte,reduceCtorEq,elB,evParts,Int.reduceToNat,Int.reduceLE,Int.reduceLT,Int.reduceEq,Nat.reduceMul,Nat.reduceLeDiff,Nat.reduceLT,ty3,ty4,ty5,ty9,ty39,ty40,ty41,ty23,ty24,ty25,ty27,ty58]
  exact le_flat rfl
 have a1t : ((60 : Int) < (p.sets.length : Int)) = False := eq_false a1
 by_cases a2 : (60 : Int) < (p.follow.length : Int)
 ·have a2t : ((60 : Int) < (p.follow.length : Int)) = True := eq_true a2
  simp -implicitDefEqProofs only [awp_draw _ _ Trydr4_11,Spo.cells,List.length_map,hrl,a1t,a2t,
  evx,evy,ofValue,ofCell,List.range,List.range.loop,Array.size,Nat.reduceAdd,Nat.reduceSub,Nat.reduceEqDiff,List.replicate,if_true,if_false,↓reduceIte,reduceCtorEq,elB,evParts,Int.reduceToNat,Int.reduceLE,Int.reduceLT,Int.reduceEq,Nat.reduceMul,Nat.reduceLeDiff,Nat.reduceLT,ty3,ty4,ty5,ty9,ty39,ty40,ty41,ty23,ty24,ty25,ty27,ty58]
  exact le_flat rfl
 have a2t : ((60 : Int) < (p.follow.length : Int)) = False := eq_false a2
 by_cases a3 : (100 : Int) < (s.length : Int)
 ·have a3t : ((100 : Int) < (s.length : Int)) = True := eq_true a3
  simp -implicitDefEqProofs only [awp_draw _ _ Trydr4_11,Spo.cells,List.length_map,hrl,a1t,a2t,a3t,
  evx,evy,ofValue,ofCell,List.range,List.range.loop,Array.size,Nat.reduceAdd,Nat.reduceSub,Nat.reduceEqDiff,List.replicate,if_true,if_false,↓reduceIte,reduceCtorEq,elB,evParts,Int.reduceToNat,Int.reduceLE,Int.reduceLT,Int.reduceEq,Nat.reduceMul,Nat.reduceLeDiff,Nat.reduceLT,ty3,ty4,ty5,ty9,ty39,ty40,ty41,ty23,ty24,ty25,ty27,ty58]
  exact le_flat rfl
 have a3t : ((100 : Int) < (s.length : Int)) = False := eq_false a3
 by_cases a4 : (100 : Int) < (p.first.length : Int)
 ·have a4t : ((100 : Int) < (p.first.length : Int)) = True := eq_true a4
  simp -implicitDefEqProofs only [awp_draw _ _ Trydr4_11,Spo.cells,List.length_map,hrl,if1,a1t,a2t,a3t,a4t,
  evx,evy,ofValue,ofCell,List.range,List.range.loop,Array.size,Nat.reduceAdd,Nat.reduceSub,Nat.reduceEqDiff,List.replicate,if_true,if_false,↓reduceIte,reduceCtorEq,elB,evParts,Int.reduceToNat,Int.reduceLE,Int.reduceLT,Int.reduceEq,Nat.reduceMul,Nat.reduceLeDiff,Nat.reduceLT,ty3,ty4,ty5,ty9,ty39,ty40,ty41,ty23,ty24,ty25,ty27,ty58]
  exact le_flat rfl
 have a4t : ((100 : Int) < (p.first.length : Int)) = False := eq_false a4
 by_cases a5 : (100 : Int) < (p.last.length : Int)
 ·have a5t : ((100 : Int) < (p.last.length : Int)) = True := eq_true a5
  simp -implicitDefEqProofs only [awp_draw _ _ Trydr4_11,Spo.cells,List.length_map,hrl,if1,il1,a1t,a2t,a3t,a4t,a5t,
  evx,evy,ofValue,ofCell,List.range,List.range.loop,Array.size,Nat.reduceAdd,Nat.reduceSub,Nat.reduceEqDiff,List.replicate,if_true,if_false,↓reduceIte,reduceCtorEq,elB,evParts,Int.reduceToNat,Int.reduceLE,Int.reduceLT,Int.reduceEq,Nat.reduceMul,Nat.reduceLeDiff,Nat.reduceLT,ty3,ty4,ty5,ty9,ty39,ty40,ty41,ty23,ty24,ty25,ty27,ty58]
  exact le_flat rfl
 have a5t : ((100 : Int) < (p.last.length : Int)) = False := eq_false a5
 simp -implicitDefEqProofs only [awp_draw _ _ Trydr4_11,Spo.cells,List.length_map,hrl,if1,il1,a1t,a2t,a3t,a4t,a5t,
  evx,evy,ofValue,ofCell,List.range,List.range.loop,Array.size,Nat.reduceAdd,Nat.reduceSub,Nat.reduceEqDiff,List.replicate,if_true,if_false,↓reduceIte,reduceCtorEq,elB,evParts,Int.reduceToNat,Int.reduceLE,Int.reduceLT,Int.reduceEq,Nat.reduceMul,Nat.reduceLeDiff,Nat.reduceLT,ty3,ty4,ty5,ty9,ty39,ty40,ty41,ty23,ty24,ty25,ty27,ty58]
 refine loop_rule (fun i : Nat => ⟨[.any,.fv (.str s),.ptr 0 0 0 0,.any,.any,.any,.any,.any,.any,.any,.any,.any,.any,.any,.any,.any,.any,.any,.any,.any,.any,.any,.any,.any,.any,.any,.any,.any,.any,.any,.any,.any,.any,.any,.any,.any,.any,.fv (.int .i64 p.follow.length),.fv (.int .i64 i),.any,.any,.any,.any,.any,.any,.any,.any,.any,.any,.any,.any,.any,.any,.any,.any,.any],[.box p.cells],[]⟩)
  (fun i => i ≤ p.follow.length ∧ ∀ j,(h : j < p.follow.length) → j < i → (p.follow[j]).length ≤ 100) (fun i => p.follow.length - i) 0 (le_eqwk rfl (by simp [wk])) ⟨by omega,by omega⟩ (fun i hi s1 hs1 => ?_)
 obtain ⟨hi,ha⟩ := hi
 by_cases hlt : i < p.follow.length
 ·have hr := rowsAt hlt
  have hil := ints_length p.follow[i]
  by_cases b1 : (100 : Int) < ((p.follow[i]).length : Int)
  ·have b1t : ((100 : Int) < ((p.follow[i]).length : Int)) = True := eq_true b1
   simp -implicitDefEqProofs only [awp_draw _ _ Trydr4_11,lt_true hlt,Spo.cells,hr,hil,b1t,
  evx,evy,ofValue,ofCell,List.range,List.range.loop,Array.size,Nat.reduceAdd,Nat.reduceSub,Nat.reduceEqDiff,List.replicate,if_true,if_false,↓reduceIte,reduceCtorEq,elB,evParts,Int.reduceToNat,Int.reduceLE,Int.reduceLT,Int.reduceEq,Nat.reduceMul,Nat.reduceLeDiff,Nat.reduceLT,ty3,ty4,ty5,ty9,ty39,ty40,ty41,ty23,ty24,ty25,ty27,ty58]
   exact le_flat rfl
  ·have b1t : ((100 : Int) < ((p.follow[i]).length : Int)) = False := eq_false b1
   simp -implicitDefEqProofs only [awp_draw _ _ Trydr4_11,lt_true hlt,Spo.cells,hr,hil,b1t,wsucc i (by omega),
  evx,evy,ofValue,ofCell,List.range,List.range.loop,Array.size,Nat.reduceAdd,Nat.reduceSub,Nat.reduceEqDiff,List.replicate,if_true,if_false,↓reduceIte,reduceCtorEq,elB,evParts,Int.reduceToNat,Int.reduceLE,Int.reduceLT,Int.reduceEq,Nat.reduceMul,Nat.reduceLeDiff,Nat.reduceLT,ty3,ty4,ty5,ty9,ty39,ty40,ty41,ty23,ty24,ty25,ty27,ty58]
   refine back_intro hs1 (i + 1) (le_eqwk rfl (by simp [wk])) ⟨by omega,fun j h hj => ?_⟩ (by omega)
   by_cases hji : j = i
   ·subst hji; omega
   ·exact ha j h (by omega)
 ·obtain rfl : i = p.follow.length := by omega
  have hsm : p.Small 100 := ⟨by omega,by omega,fun l hl => by
   obtain ⟨j,hj,rfl⟩ := List.getElem_of_mem hl
   exact ha j hj hj,by omega,by omega⟩
  have h1 := ok10 p s hsm (by omega)
  have h2 := ok11 p s hsm (by omega)
  have e5 : (p.fits s == p.fits s) = true := by simp
  simp -implicitDefEqProofs only [awp_draw _ _ Trydr4_11,lt_false hlt,Spo.cells,
  evx,evy,ofValue,ofCell,List.range,List.range.loop,Array.size,Nat.reduceAdd,Nat.reduceSub,Nat.reduceEqDiff,List.replicate,if_true,if_false,↓reduceIte,reduceCtorEq,elB,evParts,Int.reduceToNat,Int.reduceLE,Int.reduceLT,Int.reduceEq,Nat.reduceMul,Nat.reduceLeDiff,Nat.reduceLT,ty3,ty4,ty5,ty9,ty39,ty40,ty41,ty23,ty24,ty25,ty27,ty58]
  refine callK_ret _ _ _ _ (call_pure (h1) (fun _ => rfl) (fun _ => rfl)) (ok_nil _ _) ?_
  simp -implicitDefEqProofs only [awp_draw _ _ Trydr4_11,
  evx,evy,ofValue,ofCell,List.range,List.range.loop,Array.size,Nat.reduceAdd,Nat.reduceSub,Nat.reduceEqDiff,List.replicate,if_true,if_false,↓reduceIte,reduceCtorEq,elB,evParts,Int.reduceToNat,Int.reduceLE,Int.reduceLT,Int.reduceEq,Nat.reduceMul,Nat.reduceLeDiff,Nat.reduceLT,ty3,ty4,ty5,ty9,ty39,ty40,ty41,ty23,ty24,ty25,ty27,ty58]
  refine callK_ret _ _ _ _ (call_pure (h2) (fun _ => rfl) (fun _ => rfl)) (ok_nil _ _) ?_
  simp -implicitDefEqProofs only [awp_draw _ _ Trydr4_11,eqlB2,e5,
  evx,evy,ofValue,ofCell,List.range,List.range.loop,Array.size,Nat.reduceAdd,Nat.reduceSub,Nat.reduceEqDiff,List.replicate,if_true,if_false,↓reduceIte,reduceCtorEq,elB,evParts,Int.reduceToNat,Int.reduceLE,Int.reduceLT,Int.reduceEq,Nat.reduceMul,Nat.reduceLeDiff,Nat.reduceLT,ty3,ty4,ty5,ty9,ty39,ty40,ty41,ty23,ty24,ty25,ty27,ty58]
  exact le_flat rfl
end Go.Abs
