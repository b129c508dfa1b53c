/- What begins a text: the program's tables. -/
import Derived.Test.YtmnbljfbdiodbaaGreatTyTryzz
import Derived.Test.YtmnbljfbdiodbaaGreatDrTryzz
import Derived.Test.YtmnbljfbdiodbaaGreatFiCz
import Derived.Test.YtmnbljfbdiodbaaGreatFiA
import Derived.Test.YtmnbljfbdiodbaaGreatCkCz
import Derived.Test.YtmnbljfbdiodbaaGreatCkLz
namespace Go.Abs
open Go.Proofs
set_option linter.unusedVariables false
set_option linter.unusedSimpArgs false
set_option maxRecDepth 100000
set_option maxHeartbeats 8000000
theorem dropN (i : Nat) : Held.drop ([] : Held) i = [] := rfl
theorem mvs0 (ops : Array Oper) : mvs ops [] = true := rfl
theorem stB_ref1 {d : TypeDesc} {b : Nat} {z : Option (List FV)} (h : List Blk) {rows : List (List FV)} (id : Nat) {es r off : Nat} (id' es' off' n : Nat) (hk : r * es + off < (thaw rows).length) :
  stB ⟨d,1,b,z⟩ h (some (.plain es rows)) id es r off (.ref id' es' off' n) = some (.undef,h.set id (.box ((thaw rows).set (r * es + off) (.ref id' es' off' n))),[id]) := by
 have hr : rowOf (.ref id' es' off' n) = none := rfl
 simp only [stB,if_true,hr,stBx,cellsA,Option.bind_some]
 rw [if_pos ⟨rfl,by omega,rfl⟩,splice_one,if_pos hk]
 rfl
theorem thaw_rows (F : List (List Int)) : thaw (rowsOf F) = F.map fun l => .fv (.lst 1 (ints l)) := by
 unfold rowsOf thaw
 induction F with
 | nil => rfl
 | cons a F ih => rw [List.map_cons,List.flatten_cons,List.map_append,ih]; rfl
theorem rows_one (F : List (List Int)) : ∀ row ∈ rowsOf F,row.length = 1 := fun row h => by
 simp only [rowsOf,List.mem_map] at h
 obtain ⟨_,_,rfl⟩ := h
 rfl
theorem map_sub_lsts (σ : Nat → Option Sb) (F : List (List Int)) : (F.map fun l => AV.fv (.lst 1 (ints l))).map (subAny σ) = F.map fun l => .fv (.lst 1 (ints l)) := by
 rw [List.map_map]
 rfl
theorem ok15 (g : Gra) (hg : Small g 100) (hsd : g.sound = true) : Ok Tryz.prog 15 [g.av] [] (.ret (.agg [.ref 0 1 0 (tabs g).1.length,.ref 1 1 0 (tabs g).2.length])) [.plain 1 ((tabs g).1.map boRow),.plain 1 (rowsOf (tabs g).2)] := by
 have hso := g.sound_iff hsd
 have hnn := hso.nnonts
 have hnp := hso.nprods
 have htl := hso.terms_le
 have hal := hso.all_le
 have hterms := ok38 g hg.nrules
 have htl2 : g.terms ≤ g.all := by unfold Gra.all; omega
 obtain ⟨n,hn⟩ : ∃ n : Nat,n = g.all + 1 := ⟨_,rfl⟩
 have hwn : IntKind.wrap .i64 (((g.terms + g.nonts.length : Nat) : Int) + 1) = (n : Int) := by rw [hn]; exact wsucc _ (by omega)
 refine ok_start (k := 75) (n0 := 0) (rs := [.cell 2 48]) mix Tryz.func15 rfl rfl rfl rfl rfl rfl rfl ?_
 simp -implicitDefEqProofs only [Gra.av,
  evx,evy,ofValue,ofCell,List.range,List.range.loop,Array.size,Nat.reduceAdd,Nat.reduceSub,Nat.reduceEqDiff,List.replicate,if_true,if_false,↓reduceIte,reduceCtorEq,elB,evParts,Int.reduceToNat,Int.reduceLE,Int.reduceLT,Int.reduceEq,Nat.reduceMul,Nat.reduceLeDiff,Nat.reduceLT,ty3,ty4,ty9,ty36,ty30,ty46,ty53,ty48,ty22,ty23,ty24,ty25,ty27,ty45]
 refine callK_ret _ _ _ _ (call_pure (hterms) (fun _ => rfl) (fun _ => rfl)) (ok_nil _ _) ?_
 simp -implicitDefEqProofs only [Gra.cells,List.length_map,wsum g.terms g.nonts.length (by omega),hwn,
  evx,evy,ofValue,ofCell,List.range,List.range.loop,Array.size,Nat.reduceAdd,Nat.reduceSub,Nat.reduceEqDiff,List.replicate,if_true,if_false,↓reduceIte,reduceCtorEq,elB,evParts,Int.reduceToNat,Int.reduceLE,Int.reduceLT,Int.reduceEq,Nat.reduceMul,Nat.reduceLeDiff,Nat.reduceLT,ty3,ty4,ty9,ty36,ty30,ty46,ty53,ty48,ty22,ty23,ty24,ty25,ty27,ty45]
 refine awp_forks3 (t := .fork3 [(0,true),(2,true)] 1 (.fork [] 3 (.fork [] 4 (.lin [(5,false),(6,false)]) 5 (.lin [(4,false),(6,false)])) 5 (.lin [(3,false),(4,false),(6,false)])) 3 (.fork [] 1 (.fork [] 4 (.lin [(5,false),(6,false)]) 5 (.lin [(4,false),(6,false)])) 5 (.lin [(1,false),(4,false),(6,false)])) 5 (.fork [] 1 (.lin [(3,false),(4,false),(6,false)]) 3 (.lin [(1,false),(4,false),(6,false)])))
  (by kernel_rfl) (by kernel_rfl) (by kernel_rfl)
  ⟨[.any,.ptr 0 0 0 0,.ptr 1 0 0 0,.fv (.int .i64 g.terms),.any,.ptr 2 0 0 0,.any,.any,.any,.any,.any,.any,.any,.any,.any,.any,.any,.any,.any,.any,.any,.any,.any,.any,.any,.any,.any,.any,.any,.any,.any,.any,.any,.any,.any,.any,.any,.any,.any,.any,.any,.any,.any,.any,.any,.any,.any,.any,.any,.any,.any,.any,.any,.any,.any,.any,.any,.any,.any,.any,.any,.any,.any,.any,.any,.any,.any,.any,.any,.any,.any,.any,.any,.any,.any,.any],[.box g.cells,.box [.fv .nils,.fv .nils],.box [.ref 3 1 0 n,.ref 4 1 0 n],.plain 1 (List.replicate n [.bool false]),.plain 1 (List.replicate n [.nils])],[]⟩ ?_ ?_
 ·simp only [ord4G]
  refine ⟨by kernel_rfl,?_⟩
  try simp -implicitDefEqProofs only [Gra.cells,
  evx,evy,ofValue,ofCell,List.range,List.range.loop,Array.size,Nat.reduceAdd,Nat.reduceSub,Nat.reduceEqDiff,List.replicate,if_true,if_false,↓reduceIte,reduceCtorEq,elB,evParts,Int.reduceToNat,Int.reduceLE,Int.reduceLT,Int.reduceEq,Nat.reduceMul,Nat.reduceLeDiff,Nat.reduceLT,ty3,ty4,ty9,ty36,ty30,ty46,ty53,ty48,ty22,ty23,ty24,ty25,ty27,ty45]
  try simp only [onN,mvs0,true_and,dropN]
  refine ⟨?_,?_,?_⟩
  ·try simp -implicitDefEqProofs only [dropN,stB_boxA,splice_all,List.all_cons,List.all_nil,
  evx,evy,ofValue,ofCell,List.range,List.range.loop,Array.size,Nat.reduceAdd,Nat.reduceSub,Nat.reduceEqDiff,List.replicate,if_true,if_false,↓reduceIte,reduceCtorEq,elB,evParts,Int.reduceToNat,Int.reduceLE,Int.reduceLT,Int.reduceEq,Nat.reduceMul,Nat.reduceLeDiff,Nat.reduceLT,ty3,ty4,ty9,ty36,ty30,ty46,ty53,ty48,ty22,ty23,ty24,ty25,ty27,ty45]
   refine ⟨by omega,?_⟩
   try simp only [onN,mvs0,true_and,dropN]
   try simp -implicitDefEqProofs only [dropN,stB_boxA,splice_all,List.all_cons,List.all_nil,
  evx,evy,ofValue,ofCell,List.range,List.range.loop,Array.size,Nat.reduceAdd,Nat.reduceSub,Nat.reduceEqDiff,List.replicate,if_true,if_false,↓reduceIte,reduceCtorEq,elB,evParts,Int.reduceToNat,Int.reduceLE,Int.reduceLT,Int.reduceEq,Nat.reduceMul,Nat.reduceLeDiff,Nat.reduceLT,ty3,ty4,ty9,ty36,ty30,ty46,ty53,ty48,ty22,ty23,ty24,ty25,ty27,ty45]
   try simp only [onN,mvs0,true_and,dropN]
   refine ⟨?_,?_⟩
   ·try simp -implicitDefEqProofs only [dropN,stB_boxA,splice_all,List.all_cons,List.all_nil,
  evx,evy,ofValue,ofCell,List.range,List.range.loop,Array.size,Nat.reduceAdd,Nat.reduceSub,Nat.reduceEqDiff,List.replicate,if_true,if_false,↓reduceIte,reduceCtorEq,elB,evParts,Int.reduceToNat,Int.reduceLE,Int.reduceLT,Int.reduceEq,Nat.reduceMul,Nat.reduceLeDiff,Nat.reduceLT,ty3,ty4,ty9,ty36,ty30,ty46,ty53,ty48,ty22,ty23,ty24,ty25,ty27,ty45]
    refine ⟨by omega,?_⟩
    try simp only [onN,mvs0,true_and,dropN]
    try simp -implicitDefEqProofs only [dropN,stB_boxA,splice_all,List.all_cons,List.all_nil,
  evx,evy,ofValue,ofCell,List.range,List.range.loop,Array.size,Nat.reduceAdd,Nat.reduceSub,Nat.reduceEqDiff,List.replicate,if_true,if_false,↓reduceIte,reduceCtorEq,elB,evParts,Int.reduceToNat,Int.reduceLE,Int.reduceLT,Int.reduceEq,Nat.reduceMul,Nat.reduceLeDiff,Nat.reduceLT,ty3,ty4,ty9,ty36,ty30,ty46,ty53,ty48,ty22,ty23,ty24,ty25,ty27,ty45]
    try simp only [onN,mvs0,true_and,dropN]
    refine ⟨?_,?_⟩
    ·try simp -implicitDefEqProofs only [dropN,stB_boxA,splice_all,List.all_cons,List.all_nil,
  evx,evy,ofValue,ofCell,List.range,List.range.loop,Array.size,Nat.reduceAdd,Nat.reduceSub,Nat.reduceEqDiff,List.replicate,if_true,if_false,↓reduceIte,reduceCtorEq,elB,evParts,Int.reduceToNat,Int.reduceLE,Int.reduceLT,Int.reduceEq,Nat.reduceMul,Nat.reduceLeDiff,Nat.reduceLT,ty3,ty4,ty9,ty36,ty30,ty46,ty53,ty48,ty22,ty23,ty24,ty25,ty27,ty45]
     try simp only [onN,mvs0,true_and,dropN]
     try simp -implicitDefEqProofs only [dropN,stB_boxA,splice_all,List.all_cons,List.all_nil,
  evx,evy,ofValue,ofCell,List.range,List.range.loop,Array.size,Nat.reduceAdd,Nat.reduceSub,Nat.reduceEqDiff,List.replicate,if_true,if_false,↓reduceIte,reduceCtorEq,elB,evParts,Int.reduceToNat,Int.reduceLE,Int.reduceLT,Int.reduceEq,Nat.reduceMul,Nat.reduceLeDiff,Nat.reduceLT,ty3,ty4,ty9,ty36,ty30,ty46,ty53,ty48,ty22,ty23,ty24,ty25,ty27,ty45]
     exact le_pk [0,1,4,2,3] rfl (by simp) (by simp) (by simp [subBlk,subAny,subA,subL,mkSub,idx,Gra.cells]) (by simp [wk,subAny,subA,mkSub,idx])
    ·try simp -implicitDefEqProofs only [dropN,stB_boxA,splice_all,List.all_cons,List.all_nil,
  evx,evy,ofValue,ofCell,List.range,List.range.loop,Array.size,Nat.reduceAdd,Nat.reduceSub,Nat.reduceEqDiff,List.replicate,if_true,if_false,↓reduceIte,reduceCtorEq,elB,evParts,Int.reduceToNat,Int.reduceLE,Int.reduceLT,Int.reduceEq,Nat.reduceMul,Nat.reduceLeDiff,Nat.reduceLT,ty3,ty4,ty9,ty36,ty30,ty46,ty53,ty48,ty22,ty23,ty24,ty25,ty27,ty45]
     try simp only [onN,mvs0,true_and,dropN]
     try simp -implicitDefEqProofs only [dropN,stB_boxA,splice_all,List.all_cons,List.all_nil,
  evx,evy,ofValue,ofCell,List.range,List.range.loop,Array.size,Nat.reduceAdd,Nat.reduceSub,Nat.reduceEqDiff,List.replicate,if_true,if_false,↓reduceIte,reduceCtorEq,elB,evParts,Int.reduceToNat,Int.reduceLE,Int.reduceLT,Int.reduceEq,Nat.reduceMul,Nat.reduceLeDiff,Nat.reduceLT,ty3,ty4,ty9,ty36,ty30,ty46,ty53,ty48,ty22,ty23,ty24,ty25,ty27,ty45]
     exact le_pk [0,1,4,2,3] rfl (by simp) (by simp) (by simp [subBlk,subAny,subA,subL,mkSub,idx,Gra.cells]) (by simp [wk,subAny,subA,mkSub,idx])
   ·try simp -implicitDefEqProofs only [dropN,stB_boxA,splice_all,List.all_cons,List.all_nil,
  evx,evy,ofValue,ofCell,List.range,List.range.loop,Array.size,Nat.reduceAdd,Nat.reduceSub,Nat.reduceEqDiff,List.replicate,if_true,if_false,↓reduceIte,reduceCtorEq,elB,evParts,Int.reduceToNat,Int.reduceLE,Int.reduceLT,Int.reduceEq,Nat.reduceMul,Nat.reduceLeDiff,Nat.reduceLT,ty3,ty4,ty9,ty36,ty30,ty46,ty53,ty48,ty22,ty23,ty24,ty25,ty27,ty45]
    try simp only [onN,mvs0,true_and,dropN]
    try simp -implicitDefEqProofs only [dropN,stB_boxA,splice_all,List.all_cons,List.all_nil,
  evx,evy,ofValue,ofCell,List.range,List.range.loop,Array.size,Nat.reduceAdd,Nat.reduceSub,Nat.reduceEqDiff,List.replicate,if_true,if_false,↓reduceIte,reduceCtorEq,elB,evParts,Int.reduceToNat,Int.reduceLE,Int.reduceLT,Int.reduceEq,Nat.reduceMul,Nat.reduceLeDiff,Nat.reduceLT,ty3,ty4,ty9,ty36,ty30,ty46,ty53,ty48,ty22,ty23,ty24,ty25,ty27,ty45]
    refine ⟨by omega,?_⟩
    exact le_pk [0,1,3,2,4] rfl (by simp) (by simp) (by simp [subBlk,subAny,subA,subL,mkSub,idx,Gra.cells]) (by simp [wk,subAny,subA,mkSub,idx])
  ·try simp -implicitDefEqProofs only [dropN,stB_boxA,splice_all,List.all_cons,List.all_nil,
  evx,evy,ofValue,ofCell,List.range,List.range.loop,Array.size,Nat.reduceAdd,Nat.reduceSub,Nat.reduceEqDiff,List.replicate,if_true,if_false,↓reduceIte,reduceCtorEq,elB,evParts,Int.reduceToNat,Int.reduceLE,Int.reduceLT,Int.reduceEq,Nat.reduceMul,Nat.reduceLeDiff,Nat.reduceLT,ty3,ty4,ty9,ty36,ty30,ty46,ty53,ty48,ty22,ty23,ty24,ty25,ty27,ty45]
   refine ⟨by omega,?_⟩
   try simp only [onN,mvs0,true_and,dropN]
   try simp -implicitDefEqProofs only [dropN,stB_boxA,splice_all,List.all_cons,List.all_nil,
  evx,evy,ofValue,ofCell,List.range,List.range.loop,Array.size,Nat.reduceAdd,Nat.reduceSub,Nat.reduceEqDiff,List.replicate,if_true,if_false,↓reduceIte,reduceCtorEq,elB,evParts,Int.reduceToNat,Int.reduceLE,Int.reduceLT,Int.reduceEq,Nat.reduceMul,Nat.reduceLeDiff,Nat.reduceLT,ty3,ty4,ty9,ty36,ty30,ty46,ty53,ty48,ty22,ty23,ty24,ty25,ty27,ty45]
   try simp only [onN,mvs0,true_and,dropN]
   refine ⟨?_,?_⟩
   ·try simp -implicitDefEqProofs only [dropN,stB_boxA,splice_all,List.all_cons,List.all_nil,
  evx,evy,ofValue,ofCell,List.range,List.range.loop,Array.size,Nat.reduceAdd,Nat.reduceSub,Nat.reduceEqDiff,List.replicate,if_true,if_false,↓reduceIte,reduceCtorEq,elB,evParts,Int.reduceToNat,Int.reduceLE,Int.reduceLT,Int.reduceEq,Nat.reduceMul,Nat.reduceLeDiff,Nat.reduceLT,ty3,ty4,ty9,ty36,ty30,ty46,ty53,ty48,ty22,ty23,ty24,ty25,ty27,ty45]
    refine ⟨by omega,?_⟩
    try simp only [onN,mvs0,true_and,dropN]
    try simp -implicitDefEqProofs only [dropN,stB_boxA,splice_all,List.all_cons,List.all_nil,
  evx,evy,ofValue,ofCell,List.range,List.range.loop,Array.size,Nat.reduceAdd,Nat.reduceSub,Nat.reduceEqDiff,List.replicate,if_true,if_false,↓reduceIte,reduceCtorEq,elB,evParts,Int.reduceToNat,Int.reduceLE,Int.reduceLT,Int.reduceEq,Nat.reduceMul,Nat.reduceLeDiff,Nat.reduceLT,ty3,ty4,ty9,ty36,ty30,ty46,ty53,ty48,ty22,ty23,ty24,ty25,ty27,ty45]
    try simp only [onN,mvs0,true_and,dropN]
    refine ⟨?_,?_⟩
    ·try simp -implicitDefEqProofs only [dropN,stB_boxA,splice_all,List.all_cons,List.all_nil,
  evx,evy,ofValue,ofCell,List.range,List.range.loop,Array.size,Nat.reduceAdd,Nat.reduceSub,Nat.reduceEqDiff,List.replicate,if_true,if_false,↓reduceIte,reduceCtorEq,elB,evParts,Int.reduceToNat,Int.reduceLE,Int.reduceLT,Int.reduceEq,Nat.reduceMul,Nat.reduceLeDiff,Nat.reduceLT,ty3,ty4,ty9,ty36,ty30,ty46,ty53,ty48,ty22,ty23,ty24,ty25,ty27,ty45]
     try simp only [onN,mvs0,true_and,dropN]
     try simp -implicitDefEqProofs only [dropN,stB_boxA,splice_all,List.all_cons,List.all_nil,
  evx,evy,ofValue,ofCell,List.range,List.range.loop,Array.size,Nat.reduceAdd,Nat.reduceSub,Nat.reduceEqDiff,List.replicate,if_true,if_false,↓reduceIte,reduceCtorEq,elB,evParts,Int.reduceToNat,Int.reduceLE,Int.reduceLT,Int.reduceEq,Nat.reduceMul,Nat.reduceLeDiff,Nat.reduceLT,ty3,ty4,ty9,ty36,ty30,ty46,ty53,ty48,ty22,ty23,ty24,ty25,ty27,ty45]
     exact le_pk [0,1,4,3,2] rfl (by simp) (by simp) (by simp [subBlk,subAny,subA,subL,mkSub,idx,Gra.cells]) (by simp [wk,subAny,subA,mkSub,idx])
    ·try simp -implicitDefEqProofs only [dropN,stB_boxA,splice_all,List.all_cons,List.all_nil,
  evx,evy,ofValue,ofCell,List.range,List.range.loop,Array.size,Nat.reduceAdd,Nat.reduceSub,Nat.reduceEqDiff,List.replicate,if_true,if_false,↓reduceIte,reduceCtorEq,elB,evParts,Int.reduceToNat,Int.reduceLE,Int.reduceLT,Int.reduceEq,Nat.reduceMul,Nat.reduceLeDiff,Nat.reduceLT,ty3,ty4,ty9,ty36,ty30,ty46,ty53,ty48,ty22,ty23,ty24,ty25,ty27,ty45]
     try simp only [onN,mvs0,true_and,dropN]
     try simp -implicitDefEqProofs only [dropN,stB_boxA,splice_all,List.all_cons,List.all_nil,
  evx,evy,ofValue,ofCell,List.range,List.range.loop,Array.size,Nat.reduceAdd,Nat.reduceSub,Nat.reduceEqDiff,List.replicate,if_true,if_false,↓reduceIte,reduceCtorEq,elB,evParts,Int.reduceToNat,Int.reduceLE,Int.reduceLT,Int.reduceEq,Nat.reduceMul,Nat.reduceLeDiff,Nat.reduceLT,ty3,ty4,ty9,ty36,ty30,ty46,ty53,ty48,ty22,ty23,ty24,ty25,ty27,ty45]
     exact le_pk [0,1,4,3,2] rfl (by simp) (by simp) (by simp [subBlk,subAny,subA,subL,mkSub,idx,Gra.cells]) (by simp [wk,subAny,subA,mkSub,idx])
   ·try simp -implicitDefEqProofs only [dropN,stB_boxA,splice_all,List.all_cons,List.all_nil,
  evx,evy,ofValue,ofCell,List.range,List.range.loop,Array.size,Nat.reduceAdd,Nat.reduceSub,Nat.reduceEqDiff,List.replicate,if_true,if_false,↓reduceIte,reduceCtorEq,elB,evParts,Int.reduceToNat,Int.reduceLE,Int.reduceLT,Int.reduceEq,Nat.reduceMul,Nat.reduceLeDiff,Nat.reduceLT,ty3,ty4,ty9,ty36,ty30,ty46,ty53,ty48,ty22,ty23,ty24,ty25,ty27,ty45]
    try simp only [onN,mvs0,true_and,dropN]
    try simp -implicitDefEqProofs only [dropN,stB_boxA,splice_all,List.all_cons,List.all_nil,
  evx,evy,ofValue,ofCell,List.range,List.range.loop,Array.size,Nat.reduceAdd,Nat.reduceSub,Nat.reduceEqDiff,List.replicate,if_true,if_false,↓reduceIte,reduceCtorEq,elB,evParts,Int.reduceToNat,Int.reduceLE,Int.reduceLT,Int.reduceEq,Nat.reduceMul,Nat.reduceLeDiff,Nat.reduceLT,ty3,ty4,ty9,ty36,ty30,ty46,ty53,ty48,ty22,ty23,ty24,ty25,ty27,ty45]
    refine ⟨by omega,?_⟩
    exact le_pk [0,1,3,4,2] rfl (by simp) (by simp) (by simp [subBlk,subAny,subA,subL,mkSub,idx,Gra.cells]) (by simp [wk,subAny,subA,mkSub,idx])
  ·try simp -implicitDefEqProofs only [dropN,stB_boxA,splice_all,List.all_cons,List.all_nil,
  evx,evy,ofValue,ofCell,List.range,List.range.loop,Array.size,Nat.reduceAdd,Nat.reduceSub,Nat.reduceEqDiff,List.replicate,if_true,if_false,↓reduceIte,reduceCtorEq,elB,evParts,Int.reduceToNat,Int.reduceLE,Int.reduceLT,Int.reduceEq,Nat.reduceMul,Nat.reduceLeDiff,Nat.reduceLT,ty3,ty4,ty9,ty36,ty30,ty46,ty53,ty48,ty22,ty23,ty24,ty25,ty27,ty45]
   try simp only [onN,mvs0,true_and,dropN]
   try simp -implicitDefEqProofs only [dropN,stB_boxA,splice_all,List.all_cons,List.all_nil,
  evx,evy,ofValue,ofCell,List.range,List.range.loop,Array.size,Nat.reduceAdd,Nat.reduceSub,Nat.reduceEqDiff,List.replicate,if_true,if_false,↓reduceIte,reduceCtorEq,elB,evParts,Int.reduceToNat,Int.reduceLE,Int.reduceLT,Int.reduceEq,Nat.reduceMul,Nat.reduceLeDiff,Nat.reduceLT,ty3,ty4,ty9,ty36,ty30,ty46,ty53,ty48,ty22,ty23,ty24,ty25,ty27,ty45]
   try simp only [onN,mvs0,true_and,dropN]
   refine ⟨?_,?_⟩
   ·try simp -implicitDefEqProofs only [dropN,stB_boxA,splice_all,List.all_cons,List.all_nil,
  evx,evy,ofValue,ofCell,List.range,List.range.loop,Array.size,Nat.reduceAdd,Nat.reduceSub,Nat.reduceEqDiff,List.replicate,if_true,if_false,↓reduceIte,reduceCtorEq,elB,evParts,Int.reduceToNat,Int.reduceLE,Int.reduceLT,Int.reduceEq,Nat.reduceMul,Nat.reduceLeDiff,Nat.reduceLT,ty3,ty4,ty9,ty36,ty30,ty46,ty53,ty48,ty22,ty23,ty24,ty25,ty27,ty45]
    refine ⟨by omega,?_⟩
    try simp only [onN,mvs0,true_and,dropN]
    try simp -implicitDefEqProofs only [dropN,stB_boxA,splice_all,List.all_cons,List.all_nil,
  evx,evy,ofValue,ofCell,List.range,List.range.loop,Array.size,Nat.reduceAdd,Nat.reduceSub,Nat.reduceEqDiff,List.replicate,if_true,if_false,↓reduceIte,reduceCtorEq,elB,evParts,Int.reduceToNat,Int.reduceLE,Int.reduceLT,Int.reduceEq,Nat.reduceMul,Nat.reduceLeDiff,Nat.reduceLT,ty3,ty4,ty9,ty36,ty30,ty46,ty53,ty48,ty22,ty23,ty24,ty25,ty27,ty45]
    refine ⟨by omega,?_⟩
    exact le_pk [0,1,2,3,4] rfl (by simp) (by simp) (by simp [subBlk,subAny,subA,subL,mkSub,idx,Gra.cells]) (by simp [wk,subAny,subA,mkSub,idx])
   ·try simp -implicitDefEqProofs only [dropN,stB_boxA,splice_all,List.all_cons,List.all_nil,
  evx,evy,ofValue,ofCell,List.range,List.range.loop,Array.size,Nat.reduceAdd,Nat.reduceSub,Nat.reduceEqDiff,List.replicate,if_true,if_false,↓reduceIte,reduceCtorEq,elB,evParts,Int.reduceToNat,Int.reduceLE,Int.reduceLT,Int.reduceEq,Nat.reduceMul,Nat.reduceLeDiff,Nat.reduceLT,ty3,ty4,ty9,ty36,ty30,ty46,ty53,ty48,ty22,ty23,ty24,ty25,ty27,ty45]
    refine ⟨by omega,?_⟩
    try simp only [onN,mvs0,true_and,dropN]
    try simp -implicitDefEqProofs only [dropN,stB_boxA,splice_all,List.all_cons,List.all_nil,
  evx,evy,ofValue,ofCell,List.range,List.range.loop,Array.size,Nat.reduceAdd,Nat.reduceSub,Nat.reduceEqDiff,List.replicate,if_true,if_false,↓reduceIte,reduceCtorEq,elB,evParts,Int.reduceToNat,Int.reduceLE,Int.reduceLT,Int.reduceEq,Nat.reduceMul,Nat.reduceLeDiff,Nat.reduceLT,ty3,ty4,ty9,ty36,ty30,ty46,ty53,ty48,ty22,ty23,ty24,ty25,ty27,ty45]
    refine ⟨by omega,?_⟩
    exact le_pk [0,1,2,4,3] rfl (by simp) (by simp) (by simp [subBlk,subAny,subA,subL,mkSub,idx,Gra.cells]) (by simp [wk,subAny,subA,mkSub,idx])
 ·simp -implicitDefEqProofs only [evx,evy,ofValue,ofCell,List.range,List.range.loop,Array.size,Nat.reduceAdd,Nat.reduceSub,Nat.reduceEqDiff,List.replicate,if_true,if_false,↓reduceIte,reduceCtorEq,elB,evParts,Int.reduceToNat,Int.reduceLE,Int.reduceLT,Int.reduceEq,Nat.reduceMul,Nat.reduceLeDiff,Nat.reduceLT,ty3,ty4,ty9,ty36,ty30,ty46,ty53,ty48,ty22,ty23,ty24,ty25,ty27,ty45]
  have hrep : rowsOf (tabF g 1) = List.replicate n [.lst 1 []] := by unfold rowsOf; rw [tabF_one,List.map_replicate,hn]; rfl
  refine loop_rule (fun i : Nat => ⟨[.any,.ptr 0 0 0 0,.ptr 1 0 0 0,.fv (.int .i64 g.terms),.any,.ptr 2 0 0 0,.fv (.int .i64 i),.any,.any,.any,.any,.any,.any,.any,.any,.any,.any,.any,.any,.any,.any,.any,.any,.any,.any,.any,.any,.any,.any,.any,.any,.any,.any,.any,.any,.any,.any,.any,.any,.any,.any,.any,.any,.any,.any,.any,.any,.any,.any,.any,.any,.any,.any,.any,.any,.any,.any,.any,.any,.any,.any,.any,.any,.any,.any,.any,.any,.any,.any,.any,.any,.any,.any,.any,.any,.any],[.box g.cells,.box [.fv .nils,.fv .nils],.box [.ref 3 1 0 n,.ref 4 1 0 n],.plain 1 (List.replicate n [.bool false]),.plain 1 (rowsOf (tabF g i))],[]⟩)
   (fun i => 1 ≤ i ∧ i ≤ g.terms + 1) (fun i => g.terms + 1 - i) 1 (Le.trans (le_nilrows 4 1 1 _ rfl) (Le.trans (le_eq (s' := ⟨[.any,.ptr 0 0 0 0,.ptr 1 0 0 0,.fv (.int .i64 g.terms),.any,.ptr 2 0 0 0,.fv (.int .i64 ((1 : Nat) : Int)),.any,.any,.any,.any,.any,.any,.any,.any,.any,.any,.any,.any,.any,.any,.any,.any,.any,.any,.any,.any,.any,.any,.any,.any,.any,.any,.any,.any,.any,.any,.any,.any,.any,.any,.any,.any,.any,.any,.any,.any,.any,.any,.any,.any,.any,.any,.any,.any,.any,.any,.any,.any,.any,.any,.any,.any,.any,.any,.any,.any,.any,.any,.any,.any,.any,.any,.any,.any,.any],[.box g.cells,.box [.fv .nils,.fv .nils],.box [.ref 3 1 0 n,.ref 4 1 0 n],.plain 1 (List.replicate n [.bool false]),.plain 1 (rowsOf (tabF g 1))],[]⟩) (by rw [hrep]; simp [fixNil])) (Le.refl _ _))) (by omega) (fun i hi s hs => ?_)
  by_cases hlt : i ≤ g.terms
  ·have hc : ((i : Int) ≤ (g.terms : Int)) = True := by simp; omega
   have hc2 : ((i : Int) < (n : Int)) = True := by simp; omega
   have hF := tabF_at (g := g) (k := i) (n := i) (by omega)
   rw [if_neg (by omega)] at hF
   have hr := rowsOf_at hF
   have hk : i * 1 + 0 < (thaw (rowsOf (tabF g i))).length := by rw [thaw_rows,List.length_map,tabF_length]; omega
   simp -implicitDefEqProofs only [hc,hc2,hr,stB_ref1 (hk := hk),wsucc i (by omega),
  evx,evy,ofValue,ofCell,List.range,List.range.loop,Array.size,Nat.reduceAdd,Nat.reduceSub,Nat.reduceEqDiff,List.replicate,if_true,if_false,↓reduceIte,reduceCtorEq,elB,evParts,Int.reduceToNat,Int.reduceLE,Int.reduceLT,Int.reduceEq,Nat.reduceMul,Nat.reduceLeDiff,Nat.reduceLT,ty3,ty4,ty9,ty36,ty30,ty46,ty53,ty48,ty22,ty23,ty24,ty25,ty27,ty45]
   refine back_intro hs (i + 1) ?_ (by omega) (by omega)
   refine Le.trans (le_wk (t' := [.any,.ptr 0 0 0 0,.ptr 1 0 0 0,.fv (.int .i64 g.terms),.any,.ptr 2 0 0 0,.fv (.int .i64 ((i + 1 : Nat) : Int)),.any,.any,.any,.any,.any,.any,.any,.any,.any,.any,.any,.any,.any,.any,.any,.any,.any,.any,.any,.any,.any,.any,.any,.any,.any,.any,.any,.any,.any,.any,.any,.any,.any,.any,.any,.any,.any,.any,.any,.any,.any,.any,.any,.any,.any,.any,.any,.any,.any,.any,.any,.any,.any,.any,.any,.any,.any,.any,.any,.any,.any,.any,.any,.any,.any,.any,.any,.any,.any]) (by simp [wk])) ?_
   refine Le.trans (le_freeze [5] (fun k hk => by simp at hk; subst hk; exact ⟨_,_,rfl⟩)) (Le.trans (le_eq (s' := ⟨[.any,.ptr 0 0 0 0,.ptr 1 0 0 0,.fv (.int .i64 g.terms),.any,.ptr 2 0 0 0,.fv (.int .i64 ((i + 1 : Nat) : Int)),.any,.any,.any,.any,.any,.any,.any,.any,.any,.any,.any,.any,.any,.any,.any,.any,.any,.any,.any,.any,.any,.any,.any,.any,.any,.any,.any,.any,.any,.any,.any,.any,.any,.any,.any,.any,.any,.any,.any,.any,.any,.any,.any,.any,.any,.any,.any,.any,.any,.any,.any,.any,.any,.any,.any,.any,.any,.any,.any,.any,.any,.any,.any,.any,.any,.any,.any,.any,.any],[.box g.cells,.box [.fv .nils,.fv .nils],.box [.ref 3 1 0 n,.ref 4 1 0 n],.plain 1 (List.replicate n [.bool false]),.box (thaw (rowsOf (tabF g (i + 1)))),.dead],[]⟩) ?_) ?_)
   ·rw [tabF_succ hi.1 (by omega),thaw_rows,thaw_rows,List.map_set]
    simp [freezeSt,killAll,subBlk,subAny,subA,frzSub,List.map_set,Gra.cells,ints,map_sub_lsts]
    rfl
   ·refine Le.trans (le_plain 4 1 _ rfl (rows_one _)) (le_pk [0,1,2,3,4] rfl (by simp) (by simp) ?_ ?_)
    ·simp [subBlk,subAny,subA,mkSub,idx,Gra.cells]
    ·simp [wk,subAny,subA,mkSub,idx]
  ·obtain rfl : i = g.terms + 1 := by omega
   have hc : (((g.terms + 1 : Nat) : Int) ≤ (g.terms : Int)) = False := by simp; omega
   simp -implicitDefEqProofs only [hc,
  evx,evy,ofValue,ofCell,List.range,List.range.loop,Array.size,Nat.reduceAdd,Nat.reduceSub,Nat.reduceEqDiff,List.replicate,if_true,if_false,↓reduceIte,reduceCtorEq,elB,evParts,Int.reduceToNat,Int.reduceLE,Int.reduceLT,Int.reduceEq,Nat.reduceMul,Nat.reduceLeDiff,Nat.reduceLT,ty3,ty4,ty9,ty36,ty30,ty46,ty53,ty48,ty22,ty23,ty24,ty25,ty27,ty45]
   have hT0 := tab0_inv g
   have hrep2 : List.replicate n [FV.bool false] = (tab0 g).1.map boRow := by simp [tab0,boRow,hn]
   rw [hrep2]
   refine loop_rule (fun x : Bool × Tab => ⟨[.any,.ptr 0 0 0 0,.ptr 1 0 0 0,.any,.any,.ptr 2 0 0 0,.any,.fv (.bool x.1),.any,.any,.any,.any,.any,.any,.any,.any,.any,.any,.any,.any,.any,.any,.any,.any,.any,.any,.any,.any,.any,.any,.any,.any,.any,.any,.any,.any,.any,.any,.any,.any,.any,.any,.any,.any,.any,.any,.any,.any,.any,.any,.any,.any,.any,.any,.any,.any,.any,.any,.any,.any,.any,.any,.any,.any,.any,.any,.any,.any,.any,.any,.any,.any,.any,.any,.any,.any],[.box g.cells,.box [.fv .nils,.fv .nils],.box [.ref 3 1 0 n,.ref 4 1 0 n],.plain 1 (x.2.1.map boRow),.plain 1 (rowsOf x.2.2)],[]⟩)
    (fun x => TabI g x.2.1 x.2.2 ∧ (∃ k,tabs g = iter (passT g) k x.2 ∧ tabB g + 1 ≤ k + tabW x.2.1 x.2.2) ∧ (x.1 = false → x.2 = tabs g)) (fun x => if x.1 then 1 + (tabB g - tabW x.2.1 x.2.2) else 0) (true,tab0 g)
    (le_wk (by simp [wk])) ⟨hT0,⟨tabB g + 1,rfl,by omega⟩,by simp⟩ (fun x hx s1 hs1 => ?_)
   obtain ⟨grew,s0⟩ := x
   obtain ⟨hI,⟨k,hk,hkw⟩,hfin⟩ := hx
   simp only at hI hk hkw hfin hs1 ⊢
   cases grew with
   | false =>
    obtain rfl := hfin rfl
    have hlN := hI.lenN
    have hlF := hI.lenF
    simp -implicitDefEqProofs only [stB_boxA,splice_all,List.all_cons,List.all_nil,
  evx,evy,ofValue,ofCell,List.range,List.range.loop,Array.size,Nat.reduceAdd,Nat.reduceSub,Nat.reduceEqDiff,List.replicate,if_true,if_false,↓reduceIte,reduceCtorEq,elB,evParts,Int.reduceToNat,Int.reduceLE,Int.reduceLT,Int.reduceEq,Nat.reduceMul,Nat.reduceLeDiff,Nat.reduceLT,ty3,ty4,ty9,ty36,ty30,ty46,ty53,ty48,ty22,ty23,ty24,ty25,ty27,ty45]
    have e1 : (tabs g).1.length = n := by omega
    have e2 : (tabs g).2.length = n := by omega
    rw [e1,e2]
    refine le_pk [3,4] rfl (by simp) (by simp) ?_ ?_
    ·simp [subBlk]
    ·simp [wk,subAny,subA,subL,mkSub,idx]
   | true =>
    simp -implicitDefEqProofs only [Gra.cells,List.length_map,
  evx,evy,ofValue,ofCell,List.range,List.range.loop,Array.size,Nat.reduceAdd,Nat.reduceSub,Nat.reduceEqDiff,List.replicate,if_true,if_false,↓reduceIte,reduceCtorEq,elB,evParts,Int.reduceToNat,Int.reduceLE,Int.reduceLT,Int.reduceEq,Nat.reduceMul,Nat.reduceLeDiff,Nat.reduceLT,ty3,ty4,ty9,ty36,ty30,ty46,ty53,ty48,ty22,ty23,ty24,ty25,ty27,ty45]
    refine loop_rule (fun x : Nat × Bool × Tab => ⟨[.any,.ptr 0 0 0 0,.ptr 1 0 0 0,.any,.any,.ptr 2 0 0 0,.any,.fv (.bool x.2.1),.any,.any,.any,.any,.any,.any,.any,.any,.any,.any,.any,.any,.any,.any,.any,.any,.any,.any,.any,.any,.any,.any,.any,.any,.any,.any,.any,.any,.any,.any,.fv (.lst 3 (g.prods.map Prd.row)),.fv (.int .i64 g.prods.length),.fv (.int .i64 x.1),.any,.any,.any,.any,.any,.any,.any,.any,.any,.any,.any,.any,.any,.any,.any,.any,.any,.any,.any,.any,.any,.any,.any,.any,.any,.any,.any,.any,.any,.any,.any,.any,.any,.any,.any],[.box g.cells,.box [.fv .nils,.fv .nils],.box [.ref 3 1 0 n,.ref 4 1 0 n],.plain 1 (x.2.2.1.map boRow),.plain 1 (rowsOf x.2.2.2)],[]⟩)
     (fun x => x.1 ≤ g.prods.length ∧ x.2.2 = (g.prods.take x.1).foldl stepT s0 ∧ TabI g x.2.2.1 x.2.2.2 ∧ tabW s0.1 s0.2 ≤ tabW x.2.2.1 x.2.2.2 ∧ (x.2.1 = false → x.2.2 = s0) ∧ (x.2.1 = true → tabW s0.1 s0.2 < tabW x.2.2.1 x.2.2.2)) (fun x => g.prods.length - x.1) (0,false,s0) (le_wk (by simp [wk,Gra.cells])) ⟨by omega,rfl,hI,Nat.le_refl _,by simp,by simp⟩ (fun x hx s2 hs2 => ?_)
    obtain ⟨i,gr,N,F⟩ := x
    obtain ⟨hi2,hfold,hI2,hle,hgf,hgt⟩ := hx
    simp only at hi2 hfold hI2 hle hgf hgt hs2 ⊢
    by_cases hilt : i < g.prods.length
    ·have hrow := rows_at Prd.row g.prods i hilt
     have hpm := List.getElem_mem hilt
     have hpr := hso.prods _ hpm
     have hstep := foldl_take_succ stepT g.prods s0 hilt
     rw [← hfold] at hstep
     generalize g.prods[i] = p at hrow hpr hstep hpm
     have hlN := hI2.lenN
     have hlF := hI2.lenF
     have hmm := stepT_more (s := (N,F)) hso hI2 hpm
     have hinv := stepT_inv (s := (N,F)) hso hI2 hpm
     have hsame := fun h => stepT_same (s := (N,F)) hso hI2 hpm h
     obtain ⟨kl,hkl,hkl2,hkF⟩ := fAt_get (F := F) (n := p.left) (by omega) (by omega)
     obtain ⟨kl',hkl',_,hkN⟩ := nAt_get (N := N) (n := p.left) (by omega) (by omega)
     obtain rfl : kl = kl' := by omega
     have hof := ok18 N F p.right (by omega) (by omega) (fun m hm => by have := hpr.2.2.2.2.2 m hm; omega) (fun q hq => by
      obtain ⟨j,hj,e⟩ := List.getElem_of_mem hq
      have := hI2.len (n := j) (l := q) (by rw [List.getElem?_eq_getElem hj,e])
      omega)
     have hll : (ofT N F p.right []).1.length ≤ g.terms := rises_len (a := 0) (ofT_rises .nil) fun x hx => by
      rw [ofT_mem] at hx
      rcases hx with hx | hx
      ·simp at hx
      ·have := (hI2.beg (fun m hm => (hpr.2.2.2.2.2 m hm).1) hx).2
       omega
     have hol : (fAt F p.left).length ≤ g.terms := hI2.len hkF
     have hcn : chgN (N,F) p = ((ofT N F p.right []).2 && !nAt N p.left) := by unfold chgN; rw [ofT_null]
     have hcfe : chgF (N,F) p = decide ((fAt F p.left).length < (setOf (fAt F p.left ++ (ofT N F p.right []).1)).length) := rfl
     have hsN : stepN N p = if (ofT N F p.right []).2 = true then N.set kl true else N := by unfold stepN; rw [ofT_null,show p.left.toNat = kl from by omega]
     have hsF : stepF N F p = F.set kl (setOf (fAt F p.left ++ (ofT N F p.right []).1)) := by unfold stepF; rw [show p.left.toNat = kl from by omega]
     have hst : stepT (N,F) p = (stepN N p,stepF N F p) := rfl
     rw [hsN,hsF] at hst
     generalize (ofT N F p.right []).2 = nu at hof hcn hst
     generalize (ofT N F p.right []).1 = l at hof hcfe hst hll
     generalize nAt N p.left = b at hkN hcn
     generalize fAt F p.left = o at hkF hcfe hst hol
     have hmore := ok19_row F kl o l hkF (by omega) (by omega)
     rw [← hcfe] at hmore
     have hNr := boRow_at hkN
     have hFr := rowsOf_at hkF
     have hc1 : ((kl : Int) < (n : Int)) = True := by simp; omega
     rw [show N.length = n from by omega,show F.length = n from by omega] at hof
     have hset : (N.map boRow).set kl [.bool true] = (N.set kl true).map boRow := by rw [List.map_set]; rfl
     simp -implicitDefEqProofs only [Gra.cells,List.length_map,stB_boxA,splice_all,List.all_cons,List.all_nil,lt_true hilt,hrow,Prd.row,hkl,
  evx,evy,ofValue,ofCell,List.range,List.range.loop,Array.size,Nat.reduceAdd,Nat.reduceSub,Nat.reduceEqDiff,List.replicate,if_true,if_false,↓reduceIte,reduceCtorEq,elB,evParts,Int.reduceToNat,Int.reduceLE,Int.reduceLT,Int.reduceEq,Nat.reduceMul,Nat.reduceLeDiff,Nat.reduceLT,ty3,ty4,ty9,ty36,ty30,ty46,ty53,ty48,ty22,ty23,ty24,ty25,ty27,ty45]
     refine callK_ret _ _ _ _ (call_lent [3,4] hof rfl rfl (by simp) (by simp [Blk.live])) (ok_none _ _) ?_
     cases nu with
     | false =>
      rw [if_neg (by simp)] at hst
      rw [Bool.false_and] at hcn
      simp -implicitDefEqProofs only [subAny,subA,subL,backSub,back,putBack,subBlk,Option.getD_some,List.map_cons,List.map_nil,Nat.not_lt_zero,Nat.sub_zero,Nat.add_zero,List.length_map,hc1,
  evx,evy,ofValue,ofCell,List.range,List.range.loop,Array.size,Nat.reduceAdd,Nat.reduceSub,Nat.reduceEqDiff,List.replicate,if_true,if_false,↓reduceIte,reduceCtorEq,elB,evParts,Int.reduceToNat,Int.reduceLE,Int.reduceLT,Int.reduceEq,Nat.reduceMul,Nat.reduceLeDiff,Nat.reduceLT,ty3,ty4,ty9,ty36,ty30,ty46,ty53,ty48,ty22,ty23,ty24,ty25,ty27,ty45]
      refine callK_ret _ _ _ _ (call_lent [4,6] hmore rfl rfl (by simp) (by simp [Blk.live])) (ok_none _ _) ?_
      cases hcf : chgF (N,F) p with
      | false =>
       simp -implicitDefEqProofs only [subAny,subA,subL,backSub,back,putBack,subBlk,Option.getD_some,List.map_cons,List.map_nil,Nat.not_lt_zero,Nat.sub_zero,Nat.add_zero,List.length_map,wsucc i (by omega),
  evx,evy,ofValue,ofCell,List.range,List.range.loop,Array.size,Nat.reduceAdd,Nat.reduceSub,Nat.reduceEqDiff,List.replicate,if_true,if_false,↓reduceIte,reduceCtorEq,elB,evParts,Int.reduceToNat,Int.reduceLE,Int.reduceLT,Int.reduceEq,Nat.reduceMul,Nat.reduceLeDiff,Nat.reduceLT,ty3,ty4,ty9,ty36,ty30,ty46,ty53,ty48,ty22,ty23,ty24,ty25,ty27,ty45]
       refine back_intro hs2 (i + 1,gr,(N,F.set kl (setOf (o ++ l)))) (le_pk [0,1,2,3,4] rfl (by simp) (by simp) ?_ ?_) ?_ (by simp only; omega)
       ·simp [subBlk,subAny,subA,mkSub,idx,Gra.cells]
       ·simp [wk,subAny,subA,mkSub,idx]
       ·rw [hcf] at hmm hsame
        exact ⟨by simp only; omega,by rw [hstep,hst],by rw [hst] at hinv; exact hinv,by rw [hst] at hmm; simp only at hmm ⊢; omega,fun h => by rw [← hst,hsame hcn rfl]; exact hgf h,fun h => by rw [hst] at hmm; have := hgt h; simp only at hmm ⊢; omega⟩
      | true =>
       simp -implicitDefEqProofs only [subAny,subA,subL,backSub,back,putBack,subBlk,Option.getD_some,List.map_cons,List.map_nil,Nat.not_lt_zero,Nat.sub_zero,Nat.add_zero,List.length_map,wsucc i (by omega),
  evx,evy,ofValue,ofCell,List.range,List.range.loop,Array.size,Nat.reduceAdd,Nat.reduceSub,Nat.reduceEqDiff,List.replicate,if_true,if_false,↓reduceIte,reduceCtorEq,elB,evParts,Int.reduceToNat,Int.reduceLE,Int.reduceLT,Int.reduceEq,Nat.reduceMul,Nat.reduceLeDiff,Nat.reduceLT,ty3,ty4,ty9,ty36,ty30,ty46,ty53,ty48,ty22,ty23,ty24,ty25,ty27,ty45]
       refine back_intro hs2 (i + 1,true,(N,F.set kl (setOf (o ++ l)))) (le_pk [0,1,2,3,4] rfl (by simp) (by simp) ?_ ?_) ?_ (by simp only; omega)
       ·simp [subBlk,subAny,subA,mkSub,idx,Gra.cells]
       ·simp [wk,subAny,subA,mkSub,idx]
       ·rw [hcf] at hmm
        exact ⟨by simp only; omega,by rw [hstep,hst],by rw [hst] at hinv; exact hinv,by rw [hst] at hmm; simp only at hmm ⊢; omega,by simp,fun h => by rw [hst] at hmm; simp only [Bool.toNat_true] at hmm ⊢; omega⟩
     | true =>
      rw [if_pos rfl] at hst
      rw [Bool.true_and] at hcn
      cases b with
      | true =>
       have hNs : N.set kl true = N := set_self hkN
       rw [hNs] at hst
       simp -implicitDefEqProofs only [subAny,subA,subL,backSub,back,putBack,subBlk,Option.getD_some,List.map_cons,List.map_nil,Nat.not_lt_zero,Nat.sub_zero,Nat.add_zero,List.length_map,hc1,hNr,
  evx,evy,ofValue,ofCell,List.range,List.range.loop,Array.size,Nat.reduceAdd,Nat.reduceSub,Nat.reduceEqDiff,List.replicate,if_true,if_false,↓reduceIte,reduceCtorEq,elB,evParts,Int.reduceToNat,Int.reduceLE,Int.reduceLT,Int.reduceEq,Nat.reduceMul,Nat.reduceLeDiff,Nat.reduceLT,ty3,ty4,ty9,ty36,ty30,ty46,ty53,ty48,ty22,ty23,ty24,ty25,ty27,ty45]
       have hcn : chgN (N,F) p = false := by rw [hcn]; rfl
       refine callK_ret _ _ _ _ (call_lent [4,6] hmore rfl rfl (by simp) (by simp [Blk.live])) (ok_none _ _) ?_
       cases hcf : chgF (N,F) p with
       | false =>
        simp -implicitDefEqProofs only [subAny,subA,subL,backSub,back,putBack,subBlk,Option.getD_some,List.map_cons,List.map_nil,Nat.not_lt_zero,Nat.sub_zero,Nat.add_zero,List.length_map,wsucc i (by omega),
  evx,evy,ofValue,ofCell,List.range,List.range.loop,Array.size,Nat.reduceAdd,Nat.reduceSub,Nat.reduceEqDiff,List.replicate,if_true,if_false,↓reduceIte,reduceCtorEq,elB,evParts,Int.reduceToNat,Int.reduceLE,Int.reduceLT,Int.reduceEq,Nat.reduceMul,Nat.reduceLeDiff,Nat.reduceLT,ty3,ty4,ty9,ty36,ty30,ty46,ty53,ty48,ty22,ty23,ty24,ty25,ty27,ty45]
        refine back_intro hs2 (i + 1,gr,(N,F.set kl (setOf (o ++ l)))) (le_pk [0,1,2,3,4] rfl (by simp) (by simp) ?_ ?_) ?_ (by simp only; omega)
        ·simp [subBlk,subAny,subA,mkSub,idx,Gra.cells]
        ·simp [wk,subAny,subA,mkSub,idx]
        ·rw [hcf] at hmm hsame
         exact ⟨by simp only; omega,by rw [hstep,hst],by rw [hst] at hinv; exact hinv,by rw [hst] at hmm; simp only at hmm ⊢; omega,fun h => by rw [← hst,hsame hcn rfl]; exact hgf h,fun h => by rw [hst] at hmm; have := hgt h; simp only at hmm ⊢; omega⟩
       | true =>
        simp -implicitDefEqProofs only [subAny,subA,subL,backSub,back,putBack,subBlk,Option.getD_some,List.map_cons,List.map_nil,Nat.not_lt_zero,Nat.sub_zero,Nat.add_zero,List.length_map,wsucc i (by omega),
  evx,evy,ofValue,ofCell,List.range,List.range.loop,Array.size,Nat.reduceAdd,Nat.reduceSub,Nat.reduceEqDiff,List.replicate,if_true,if_false,↓reduceIte,reduceCtorEq,elB,evParts,Int.reduceToNat,Int.reduceLE,Int.reduceLT,Int.reduceEq,Nat.reduceMul,Nat.reduceLeDiff,Nat.reduceLT,ty3,ty4,ty9,ty36,ty30,ty46,ty53,ty48,ty22,ty23,ty24,ty25,ty27,ty45]
        refine back_intro hs2 (i + 1,true,(N,F.set kl (setOf (o ++ l)))) (le_pk [0,1,2,3,4] rfl (by simp) (by simp) ?_ ?_) ?_ (by simp only; omega)
        ·simp [subBlk,subAny,subA,mkSub,idx,Gra.cells]
        ·simp [wk,subAny,subA,mkSub,idx]
        ·rw [hcf] at hmm
         exact ⟨by simp only; omega,by rw [hstep,hst],by rw [hst] at hinv; exact hinv,by rw [hst] at hmm; simp only at hmm ⊢; omega,by simp,fun h => by rw [hst] at hmm; simp only [Bool.toNat_true] at hmm ⊢; omega⟩
      | false =>
       simp -implicitDefEqProofs only [subAny,subA,subL,backSub,back,putBack,subBlk,Option.getD_some,List.map_cons,List.map_nil,Nat.not_lt_zero,Nat.sub_zero,Nat.add_zero,List.length_map,hc1,hNr,hset,
  evx,evy,ofValue,ofCell,List.range,List.range.loop,Array.size,Nat.reduceAdd,Nat.reduceSub,Nat.reduceEqDiff,List.replicate,if_true,if_false,↓reduceIte,reduceCtorEq,elB,evParts,Int.reduceToNat,Int.reduceLE,Int.reduceLT,Int.reduceEq,Nat.reduceMul,Nat.reduceLeDiff,Nat.reduceLT,ty3,ty4,ty9,ty36,ty30,ty46,ty53,ty48,ty22,ty23,ty24,ty25,ty27,ty45]
       have hcn : chgN (N,F) p = true := by rw [hcn]; rfl
       refine callK_ret _ _ _ _ (call_lent [4,6] hmore rfl rfl (by simp) (by simp [Blk.live])) (ok_none _ _) ?_
       cases hcf : chgF (N,F) p with
       | false =>
        simp -implicitDefEqProofs only [subAny,subA,subL,backSub,back,putBack,subBlk,Option.getD_some,List.map_cons,List.map_nil,Nat.not_lt_zero,Nat.sub_zero,Nat.add_zero,List.length_map,wsucc i (by omega),
  evx,evy,ofValue,ofCell,List.range,List.range.loop,Array.size,Nat.reduceAdd,Nat.reduceSub,Nat.reduceEqDiff,List.replicate,if_true,if_false,↓reduceIte,reduceCtorEq,elB,evParts,Int.reduceToNat,Int.reduceLE,Int.reduceLT,Int.reduceEq,Nat.reduceMul,Nat.reduceLeDiff,Nat.reduceLT,ty3,ty4,ty9,ty36,ty30,ty46,ty53,ty48,ty22,ty23,ty24,ty25,ty27,ty45]
        refine back_intro hs2 (i + 1,true,(N.set kl true,F.set kl (setOf (o ++ l)))) (le_pk [0,1,2,3,4] rfl (by simp) (by simp) ?_ ?_) ?_ (by simp only; omega)
        ·simp [subBlk,subAny,subA,mkSub,idx,Gra.cells]
        ·simp [wk,subAny,subA,mkSub,idx]
        ·rw [hcf] at hmm hsame
         exact ⟨by simp only; omega,by rw [hstep,hst],by rw [hst] at hinv; exact hinv,by rw [hst] at hmm; simp only at hmm ⊢; omega,by simp,fun h => by rw [hst,hcn] at hmm; simp at hmm ⊢; omega⟩
       | true =>
        simp -implicitDefEqProofs only [subAny,subA,subL,backSub,back,putBack,subBlk,Option.getD_some,List.map_cons,List.map_nil,Nat.not_lt_zero,Nat.sub_zero,Nat.add_zero,List.length_map,wsucc i (by omega),
  evx,evy,ofValue,ofCell,List.range,List.range.loop,Array.size,Nat.reduceAdd,Nat.reduceSub,Nat.reduceEqDiff,List.replicate,if_true,if_false,↓reduceIte,reduceCtorEq,elB,evParts,Int.reduceToNat,Int.reduceLE,Int.reduceLT,Int.reduceEq,Nat.reduceMul,Nat.reduceLeDiff,Nat.reduceLT,ty3,ty4,ty9,ty36,ty30,ty46,ty53,ty48,ty22,ty23,ty24,ty25,ty27,ty45]
        refine back_intro hs2 (i + 1,true,(N.set kl true,F.set kl (setOf (o ++ l)))) (le_pk [0,1,2,3,4] rfl (by simp) (by simp) ?_ ?_) ?_ (by simp only; omega)
        ·simp [subBlk,subAny,subA,mkSub,idx,Gra.cells]
        ·simp [wk,subAny,subA,mkSub,idx]
        ·rw [hcf] at hmm
         exact ⟨by simp only; omega,by rw [hstep,hst],by rw [hst] at hinv; exact hinv,by rw [hst] at hmm; simp only at hmm ⊢; omega,by simp,fun h => by rw [hst] at hmm; simp only [Bool.toNat_true] at hmm ⊢; omega⟩
    ·obtain rfl : i = g.prods.length := by omega
     rw [List.take_length] at hfold
     simp -implicitDefEqProofs only [Gra.cells,List.length_map,lt_false hilt,
  evx,evy,ofValue,ofCell,List.range,List.range.loop,Array.size,Nat.reduceAdd,Nat.reduceSub,Nat.reduceEqDiff,List.replicate,if_true,if_false,↓reduceIte,reduceCtorEq,elB,evParts,Int.reduceToNat,Int.reduceLE,Int.reduceLT,Int.reduceEq,Nat.reduceMul,Nat.reduceLeDiff,Nat.reduceLT,ty3,ty4,ty9,ty36,ty30,ty46,ty53,ty48,ty22,ty23,ty24,ty25,ty27,ty45]
     have hps : (N,F) = passT g s0 := hfold
     have hw := hI2.weight
     have hw0 := hI.weight
     refine back_intro hs1 (gr,(N,F)) (le_wk (by simp [wk,Gra.cells])) ⟨hI2,?_,?_⟩ ?_
     ·cases gr with
      | false => rw [hgf rfl]; exact ⟨k,hk,hkw⟩
      | true =>
       obtain ⟨k',rfl⟩ : ∃ k',k = k' + 1 := ⟨k - 1,by omega⟩
       exact ⟨k',by rw [hk,iter,← hps],by have := hgt rfl; simp only; omega⟩
     ·intro h
      have e := hgf h
      rw [e,hk]
      exact (iter_fix (passT g) (by rw [← hps,e]) k).symm
     ·cases gr with
      | false => simp only [Bool.false_eq_true,if_false,if_true]; omega
      | true =>
       have := hgt rfl
       simp only [if_true]
       omega
end Go.Abs
