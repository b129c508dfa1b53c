/- A rule's spots: the program's answer. -/
import Derived.Test.YtmnbljfbdiodbaaTyTrys
import Derived.Test.YtmnbljfbdiodbaaDrTrys
import Derived.Test.YtmnbljfbdiodbaaSpXs
import Derived.Test.YtmnbljfbdiodbaaAbsNil
import Derived.Test.YtmnbljfbdiodbaaAbsTree
import Derived.Test.YtmnbljfbdiodbaaAbsW
namespace Go.Abs
open Go.Proofs
set_option linter.unusedVariables false
set_option linter.unusedSimpArgs false
set_option maxRecDepth 100000
set_option maxHeartbeats 8000000
theorem linkL_snoc (F : List (List Int)) (fr : List Int) (k : Int) (to_ : List Int) : linkL F (fr ++ [k]) to_ = (linkL F fr to_).set k.toNat (setOf ((linkL F fr to_).getD k.toNat [] ++ to_)) := by
 unfold linkL
 rw [List.foldl_append]
 rfl
theorem rowsOf_set (F : List (List Int)) (k : Nat) (l : List Int) : (rowsOf F).set k [.lst 1 (ints l)] = rowsOf (F.set k l) := by
 unfold rowsOf
 rw [List.map_set]
theorem rowsOf_len (F : List (List Int)) : (rowsOf F).length = F.length := by unfold rowsOf; rw [List.length_map]
def pcells (n : Nat) (a b : Nat) : List AV := [.ref a 4 0 n,.fv (.bool false),.fv .nils,.fv .nils,.ref b 1 0 n]
theorem ok13 (n : Nat) (hn : n ≤ 100) (S : List (List FV)) (F : List (List Int)) (fr to_ : List Int) (hF : FI n F) (hFl : F.length = n) (hfr : ∀ k ∈ fr,inB n k = true) (hfl : fr.length ≤ 100) (htb : ∀ k ∈ to_,inB n k = true) (htl : to_.length ≤ 100) :
  Ok Try.prog 13 [.fv (.lst 1 (ints fr)),.fv (.lst 1 (ints to_)),.ptr 0 0 0 0] [.box (pcells n 1 2),.plain 4 S,.plain 1 (rowsOf F)] (.ret (.tuple [])) [.box (pcells n 1 2),.plain 4 S,.plain 1 (rowsOf (linkL F fr to_))] := by
 have hil := ints_length fr
 refine ok_start (k := 22) (n0 := 3) (rs := []) mix Try.func13 rfl rfl rfl rfl rfl rfl rfl ?_
 simp -implicitDefEqProofs only [awp_draw _ _ Trydr13_3,
  evx,evy,ofValue,ofCell,List.range,List.range.loop,Array.size,Nat.reduceAdd,Nat.reduceSub,Nat.reduceEqDiff,List.replicate,if_true,if_false,↓reduceIte,reduceCtorEq,elB,evParts,Int.reduceToNat,Int.reduceLE,Int.reduceLT,Int.reduceEq,Nat.reduceMul,Nat.reduceLeDiff,Nat.reduceLT,ty3,ty4,ty5,ty9,ty39,ty40,ty41,ty23,ty24,ty25,ty27,ty22,ty43,ty38,ty45,ty28]
 refine loop_rule (fun j : Nat => ⟨[.any,.fv (.lst 1 (ints to_)),.ptr 0 0 0 0,.any,.any,.any,.any,.fv (.lst 1 (ints fr)),.fv (.int .i64 fr.length),.fv (.int .i64 j),.any,.any,.any,.any,.any,.any,.any,.any,.any,.any,.any,.any,.any,.any,.any],[.box (pcells n 1 2),.plain 4 S,.plain 1 (rowsOf (linkL F (fr.take j) to_))],[]⟩)
  (fun j => j ≤ fr.length) (fun j => fr.length - j) 0 (le_wk (by simp [wk,hil])) (by omega) (fun j hj s hs => ?_)
 obtain ⟨hI,hIl⟩ := FI.link htb (fr.take j) F hF
 by_cases hlt : j < fr.length
 ·have hr := ints_get fr j hlt
  obtain ⟨k,hk,hkn⟩ := inB_nat (hfr _ (List.getElem_mem hlt))
  have hts := List.take_succ_eq_append_getElem hlt
  rw [hk] at hr hts
  have hsn := linkL_snoc F (fr.take j) (k : Int) to_
  rw [← hts,Int.toNat_natCast] at hsn
  generalize linkL F (fr.take j) to_ = G at hI hIl hsn ⊢
  have hkG : k < G.length := by omega
  have hGr := rowsAt hkG
  have hGd : G.getD k [] = G[k] := by rw [List.getD_eq_getElem?_getD,List.getElem?_eq_getElem hkG]; rfl
  rw [hGd] at hsn
  have hIk := hI _ (List.getElem_mem hkG)
  have hgl := inB_len hIk.1 hIk.2
  generalize G[k] = g at hGr hsn hIk hgl
  have hun := ok14 g to_ (by omega) (by omega)
  have hrs := rowsOf_set G k (setOf (g ++ to_))
  simp -implicitDefEqProofs only [awp_draw _ _ Trydr13_3,lt_true hlt,hr,pcells,hGr,lt_true hkn,lt_true hkG,
  evx,evy,ofValue,ofCell,List.range,List.range.loop,Array.size,Nat.reduceAdd,Nat.reduceSub,Nat.reduceEqDiff,List.replicate,if_true,if_false,↓reduceIte,reduceCtorEq,elB,evParts,Int.reduceToNat,Int.reduceLE,Int.reduceLT,Int.reduceEq,Nat.reduceMul,Nat.reduceLeDiff,Nat.reduceLT,ty3,ty4,ty5,ty9,ty39,ty40,ty41,ty23,ty24,ty25,ty27,ty22,ty43,ty38,ty45,ty28]
  refine callK_ret _ _ _ _ (call_pure (hun) (fun _ => rfl) (fun _ => rfl)) (ok_nil _ _) ?_
  simp -implicitDefEqProofs only [awp_draw _ _ Trydr13_3,rowsOf_len,lt_true hkn,lt_true hkG,hGr,hrs,wsucc j (by omega),
  evx,evy,ofValue,ofCell,List.range,List.range.loop,Array.size,Nat.reduceAdd,Nat.reduceSub,Nat.reduceEqDiff,List.replicate,if_true,if_false,↓reduceIte,reduceCtorEq,elB,evParts,Int.reduceToNat,Int.reduceLE,Int.reduceLT,Int.reduceEq,Nat.reduceMul,Nat.reduceLeDiff,Nat.reduceLT,ty3,ty4,ty5,ty9,ty39,ty40,ty41,ty23,ty24,ty25,ty27,ty22,ty43,ty38,ty45,ty28]
  refine ⟨by kernel_rfl,?_⟩
  exact back_intro hs (j + 1) (le_eqwk (by rw [hsn]; try rfl) (by simp [wk])) (by omega) (by omega)
 ·obtain rfl : j = fr.length := by omega
  simp -implicitDefEqProofs only [awp_draw _ _ Trydr13_3,lt_false hlt,
  evx,evy,ofValue,ofCell,List.range,List.range.loop,Array.size,Nat.reduceAdd,Nat.reduceSub,Nat.reduceEqDiff,List.replicate,if_true,if_false,↓reduceIte,reduceCtorEq,elB,evParts,Int.reduceToNat,Int.reduceLE,Int.reduceLT,Int.reduceEq,Nat.reduceMul,Nat.reduceLeDiff,Nat.reduceLT,ty3,ty4,ty5,ty9,ty39,ty40,ty41,ty23,ty24,ty25,ty27,ty22,ty43,ty38,ty45,ty28]
  rw [List.take_length]
  exact le_pk [0,1,2] rfl (by simp) (by simp) (by simp [subBlk,subAny,subA,mkSub,idx,pcells]) (by simp [wk,subAny,subA,subL,mkSub,idx])
theorem ok5_bad (l : List Cel) (hr : rightB l = false) : Ok Try.prog 5 [.fv (.lst 5 (l.map Cel.row))] [] (.ret (.tuple [.agg [.fv .nils,.fv (.bool false),.fv .nils,.fv .nils,.fv .nils],.fv (.int .i64 1)])) [] := by
 have hrt := ok12 l
 rw [hr] at hrt
 refine ok_start (k := 204) (n0 := 0) (rs := [.cell 2 27,.tmp 3]) mix Try.func5 rfl rfl rfl rfl rfl rfl rfl ?_
 simp -implicitDefEqProofs only [awp_draw _ _ Trydr5_23,awp_draw _ _ Trydr5_27,awp_draw _ _ Trydr5_36,awp_draw _ _ Trydr5_38,
  evx,evy,ofValue,ofCell,List.range,List.range.loop,Array.size,Nat.reduceAdd,Nat.reduceSub,Nat.reduceEqDiff,List.replicate,if_true,if_false,↓reduceIte,reduceCtorEq,elB,evParts,Int.reduceToNat,Int.reduceLE,Int.reduceLT,Int.reduceEq,Nat.reduceMul,Nat.reduceLeDiff,Nat.reduceLT,ty3,ty4,ty5,ty9,ty39,ty40,ty41,ty23,ty24,ty25,ty27,ty22,ty43,ty38,ty45,ty28]
 refine callK_ret _ _ _ _ (call_pure (hrt) (fun _ => rfl) (fun _ => rfl)) (ok_nil _ _) ?_
 simp -implicitDefEqProofs only [awp_draw _ _ Trydr5_23,awp_draw _ _ Trydr5_27,awp_draw _ _ Trydr5_36,awp_draw _ _ Trydr5_38,stB_boxA,splice_all,List.all_cons,List.all_nil,
  evx,evy,ofValue,ofCell,List.range,List.range.loop,Array.size,Nat.reduceAdd,Nat.reduceSub,Nat.reduceEqDiff,List.replicate,if_true,if_false,↓reduceIte,reduceCtorEq,elB,evParts,Int.reduceToNat,Int.reduceLE,Int.reduceLT,Int.reduceEq,Nat.reduceMul,Nat.reduceLeDiff,Nat.reduceLT,ty3,ty4,ty5,ty9,ty39,ty40,ty41,ty23,ty24,ty25,ty27,ty22,ty43,ty38,ty45,ty28]
 exact le_pk [] rfl (by simp) (by simp) (by simp) (by simp [wk,subAny,subA,subL,mkSub,idx])
theorem bsE_set {dd : TypeDesc} {b : Nat} (x y z w : Int) (h : List Blk) : bsE (some ⟨dd,4,b,some [.int .u64 0,.int .u64 0,.int .u64 0,.int .u64 0]⟩) 1 h (some [(0,.agg [.fv (.int .u64 x),.fv (.int .u64 y),.fv (.int .u64 z),.fv (.int .u64 w)])]) = some (.ref h.length 4 0 1,h ++ [.plain 4 [[.int .u64 x,.int .u64 y,.int .u64 z,.int .u64 w]]],[]) :=
 bsE_r1 b dd 4 [.int .u64 0,.int .u64 0,.int .u64 0,.int .u64 0] [.int .u64 x,.int .u64 y,.int .u64 z,.int .u64 w] h rfl (by omega) (by omega) rfl
theorem bsE_part {dd : TypeDesc} {b : Nat} (x : Bool) (i m j k : Nat) (h : List Blk) : bsE (some ⟨dd,3,b,some [.bool false,.nils,.nils]⟩) 1 h (some [(0,.agg [.fv (.bool x),.ref i 1 0 m,.ref j 1 0 k])]) = some (.ref h.length 3 0 1,h ++ [.box [.fv (.bool x),.ref i 1 0 m,.ref j 1 0 k]],[]) := by
 simp [bsE,bsK,fillA,flatN,splice,cellsA,toFs,okCell]
theorem thaw_okc (rows : List (List FV)) : (thaw rows).all okCell = true := by
 unfold thaw
 rw [List.all_map,List.all_eq_true]
 intro x _
 rfl
def srcX (o : Option Blk) : Option (List AV) := match o with
 | some (.box cs) => if 3 ≤ cs.length then (if (cs.take 3).all okCell = true then some (cs.take 3) else none) else none
 | some (.plain 3 rows) => if 1 ≤ rows.length then some (thaw (rows.take 1)) else none
 | _ => none
theorem srcC_ref {f : TypeId} {p q : Nat} {z : Option (List FV)} (h : List Blk) (id : Nat) : srcCells ⟨.slice f,p,q,z⟩ 3 h (.ref id 3 0 1) = srcX h[id]? := by
 simp only [srcCells,refCells,srcX,if_true]
 rw [if_neg (by omega)]
 cases h[id]? with
 | none => rfl
 | some b =>
  cases b with
  | plain es rows =>
   simp only [Nat.zero_add,List.drop_zero]
   by_cases he : es = 3
   ·subst he
    simp only [true_and]
    split
    ·simp only [Option.bind_some,thaw_okc,if_true]
    ·rfl
   ·rw [if_neg (fun h => he h.1)]
    split
    ·rename_i hh; simp at hh
    ·rename_i hh; simp at hh; exact absurd hh.1 he
    ·rfl
  | box cs =>
   simp only [Nat.zero_add,Nat.zero_mul,List.drop_zero,Nat.one_mul]
   split <;> simp
  | _ => rfl
theorem srcX_box (a b c : AV) : srcX (some (.box [a,b,c])) = if (okCell a && (okCell b && okCell c)) = true then some [a,b,c] else none := by
 simp [srcX]
def appB0 (ie : TI) (h : List Blk) (s : AV) (ys : List AV) : Option (AV × List Blk × List Nat) := appendB ie h s ys
def appBX (ie : TI) (h : List Blk) (o : Option Blk) (id n : Nat) (ys : List AV) : Option (AV × List Blk × List Nat) := match o with
 | some (.plain 3 rows) => if n ≤ rows.length ∧ (n + 1) * ie.bytes ≤ 140737488355328 then some (.ref h.length 3 0 (n + 1),h.set id .dead ++ [.box (thaw (rows.take n) ++ ys)],[id]) else none
 | _ => appB0 ie h (.ref id 3 0 n) ys
theorem appB_ref {dd : TypeDesc} {by_ : Nat} {z : Option (List FV)} (h : List Blk) (id n : Nat) (a b c : AV) : appendB ⟨dd,3,by_,z⟩ h (.ref id 3 0 n) [a,b,c] = appBX ⟨dd,3,by_,z⟩ h h[id]? id n [a,b,c] := by
 unfold appBX
 split
 ·rename_i rows hid
  simp only [appendB,List.length_cons,List.length_nil,refCells,hid,true_and,Nat.zero_add,List.drop_zero]
  rw [if_neg (by omega),if_pos (by decide)]
  have e : (0 + 1 + 1 + 1) / 3 = 1 := rfl
  simp only [e]
  by_cases h1 : (n + 1) * by_ ≤ 140737488355328
  ·by_cases h2 : n ≤ rows.length
   ·simp only [h1,h2,if_true,and_self,Option.bind_some,thaw_okc]
   ·simp [h1,h2]
  ·simp [h1]
 ·rfl
theorem appBX_plain {dd : TypeDesc} {by_ : Nat} {z : Option (List FV)} (h : List Blk) (rows : List (List FV)) (id n : Nat) (ys : List AV) : appBX ⟨dd,3,by_,z⟩ h (some (.plain 3 rows)) id n ys = if n ≤ rows.length ∧ (n + 1) * by_ ≤ 140737488355328 then some (.ref h.length 3 0 (n + 1),h.set id .dead ++ [.box (thaw (rows.take n) ++ ys)],[id]) else none := rfl
theorem stkP_len {l : List Cel} : ∀ (st : List Prt) (e : Nat),StkP l st e → st.length ≤ e
 | [],e,_ => by simp
 | x :: st,e,⟨m,ho,h⟩ => by
  have h1 := stkP_len st m h
  have h2 := seg_lt (opd_seg ho)
  rw [List.length_cons]
  omega
theorem thaw_sub (σ : Nat → Option Sb) (rows : List (List FV)) : (thaw rows).map (subAny σ) = thaw rows := by
 unfold thaw
 rw [List.map_map]
 rfl
theorem thaw_app (a : List (List FV)) (r : List FV) : thaw (a ++ [r]) = thaw a ++ r.map .fv := by
 unfold thaw
 simp
theorem fix_rows (F : List (List Int)) : (rowsOf F).map (fun r => r.map (fixNil 1)) = rowsOf F := by
 unfold rowsOf
 rw [List.map_map]
 rfl
theorem fix_prts (S : List Prt) : (S.map Prt.row).map (fun r => r.map (fixNil 1)) = S.map Prt.row := by
 rw [List.map_map]
 rfl
theorem prt_rows (S : List Prt) : ∀ row ∈ S.map Prt.row,row.length = 3 := fun row h => by
 simp only [List.mem_map] at h
 obtain ⟨_,_,rfl⟩ := h
 rfl
theorem le_stk {n0 : Nat} {t : List AV} {b0 b1 b2 : Blk} {F : List (List Int)} {S : List Prt} : Le n0 ⟨t,[b0,b1,b2,.plain 1 (rowsOf F ++ [[.nils]]),.box (thaw (S.map Prt.row))],[]⟩ ⟨t,[b0,b1,b2,.plain 1 (rowsOf (F ++ [[]])),.plain 3 (S.map Prt.row)],[]⟩ := by
 refine Le.trans (le_nilrows 3 1 1 _ rfl) (Le.trans (le_eq (s' := ⟨t,[b0,b1,b2,.plain 1 (rowsOf (F ++ [[]])),.box (thaw (S.map Prt.row))],[]⟩) ?_) (le_plain 4 3 _ rfl (prt_rows S)))
 rw [List.map_append,fix_rows]
 simp [rowsOf,fixNil,ints]
theorem le_stk2 {n0 : Nat} {t : List AV} {b0 b1 b2 b3 : Blk} {S : List Prt} : Le n0 ⟨t,[b0,b1,b2,b3,.plain 3 (S.map Prt.row ++ [[.bool true,.nils,.nils]])],[]⟩ ⟨t,[b0,b1,b2,b3,.plain 3 ((S ++ [Prt.mk true [] []]).map Prt.row)],[]⟩ := by
 refine Le.trans (le_nilrows 4 3 1 _ rfl) (le_eq ?_)
 rw [List.map_append,fix_prts]
 simp [Prt.row,fixNil,ints]
theorem prt_at (S : List Prt) (q : List FV) : (S.map Prt.row ++ [q])[S.length]? = some q := by
 rw [List.getElem?_append_right (by simp)]
 simp
theorem prt_set (S : List Prt) (q r : List FV) : (S.map Prt.row ++ [q]).set S.length r = S.map Prt.row ++ [r] := by
 rw [List.set_append_right _ _ (by simp)]
 simp
theorem bsE_prow {dd : TypeDesc} {b : Nat} (x y z : FV) (h : List Blk) : bsE (some ⟨dd,3,b,some [.bool false,.nils,.nils]⟩) 1 h (some [(0,.agg [.fv x,.fv y,.fv z])]) = some (.ref h.length 3 0 1,h ++ [.plain 3 [[x,y,z]]],[]) :=
 bsE_r1 b dd 3 [.bool false,.nils,.nils] [x,y,z] h rfl (by omega) (by omega) rfl
def zero5 : List AV := [.fv .nils,.fv (.bool false),.fv .nils,.fv .nils,.fv .nils]
theorem prt_atx (S : List Prt) (q r : List FV) : (S.map Prt.row ++ [q,r])[S.length]? = some q := by
 rw [List.getElem?_append_right (by simp)]
 simp
theorem prt_aty (S : List Prt) (q r : List FV) : (S.map Prt.row ++ [q,r])[S.length + 1]? = some r := by
 rw [List.getElem?_append_right (by simp)]
 simp
theorem prt_take (S : List Prt) (R : List (List FV)) : (S.map Prt.row ++ R).take S.length = S.map Prt.row := List.take_left' (by simp)
theorem nckS (id es r off : Nat) : nckA (.ptr id es r off) = some (.ptr id es r off) := nck_solid rfl
theorem ok5 (l : List Cel) (hk : ∀ c ∈ l,c.okk) (hr : rightB l = true) : Ok Try.prog 5 [.fv (.lst 5 (l.map Cel.row))] [] (.ret (.tuple [(spotsL l).av,.fv (.int .i64 0)])) [] := by
 have hrt := ok12 l
 rw [hr] at hrt
 have hl := (rightB_get hr).1
 refine ok_start (k := 204) (n0 := 0) (rs := [.cell 2 27,.tmp 3]) mix Try.func5 rfl rfl rfl rfl rfl rfl rfl ?_
 simp -implicitDefEqProofs only [awp_draw _ _ Trydr5_23,awp_draw _ _ Trydr5_27,awp_draw _ _ Trydr5_36,awp_draw _ _ Trydr5_38,
  evx,evy,ofValue,ofCell,List.range,List.range.loop,Array.size,Nat.reduceAdd,Nat.reduceSub,Nat.reduceEqDiff,List.replicate,if_true,if_false,↓reduceIte,reduceCtorEq,elB,evParts,Int.reduceToNat,Int.reduceLE,Int.reduceLT,Int.reduceEq,Nat.reduceMul,Nat.reduceLeDiff,Nat.reduceLT,ty3,ty4,ty5,ty9,ty39,ty40,ty41,ty23,ty24,ty25,ty27,ty22,ty43,ty38,ty45,ty28]
 refine callK_ret _ _ _ _ (call_pure (hrt) (fun _ => rfl) (fun _ => rfl)) (ok_nil _ _) ?_
 simp -implicitDefEqProofs only [awp_draw _ _ Trydr5_23,awp_draw _ _ Trydr5_27,awp_draw _ _ Trydr5_36,awp_draw _ _ Trydr5_38,List.length_map,
  evx,evy,ofValue,ofCell,List.range,List.range.loop,Array.size,Nat.reduceAdd,Nat.reduceSub,Nat.reduceEqDiff,List.replicate,if_true,if_false,↓reduceIte,reduceCtorEq,elB,evParts,Int.reduceToNat,Int.reduceLE,Int.reduceLT,Int.reduceEq,Nat.reduceMul,Nat.reduceLeDiff,Nat.reduceLT,ty3,ty4,ty5,ty9,ty39,ty40,ty41,ty23,ty24,ty25,ty27,ty22,ty43,ty38,ty45,ty28]
 refine loop_rule (fun x : Nat × Bld => ⟨[.any,.any,.ptr 0 0 0 0,.any,.ptr 1 0 0 0,.func 13 [.ptr 1 0 0 0],.ref 4 3 0 x.2.stk.length,.any,.any,.any,.any,.any,.any,.any,.any,.any,.any,.any,.any,.any,.any,.any,.fv (.lst 5 (l.map Cel.row)),.fv (.int .i64 l.length),.fv (.int .i64 x.1),.any,.any,.any,.any,.any,.any,.any,.any,.any,.any,.any,.any,.any,.any,.any,.any,.any,.any,.any,.any,.any,.any,.any,.any,.any,.any,.any,.any,.any,.any,.any,.any,.any,.any,.any,.any,.any,.any,.any,.any,.any,.any,.any,.any,.any,.any,.any,.any,.any,.any,.any,.any,.any,.any,.any,.any,.any,.any,.any,.any,.any,.any,.any,.any,.any,.any,.any,.any,.any,.any,.any,.any,.any,.any,.any,.any,.any,.any,.any,.any,.any,.any,.any,.any,.any,.any,.any,.any,.any,.any,.any,.any,.any,.any,.any,.any,.any,.any,.any,.any,.any,.any,.any,.any,.any,.any,.any,.any,.any,.any,.any,.any,.any,.any,.any,.any,.any,.any,.any,.any,.any,.any,.any,.any,.any,.any,.any,.any,.any,.any,.any,.any,.any,.any,.any,.any,.any,.any,.any,.any,.any,.any,.any,.any,.any,.any,.any,.any,.any,.any,.any,.any,.any,.any,.any,.any,.any,.any,.any,.any,.any,.any,.any,.any,.any,.any,.any,.any,.any,.any,.any,.any,.any,.any,.any,.any,.any,.any,.any,.any],
   [.box zero5,.box (pcells x.2.sets.length 2 3),.plain 4 (x.2.sets.map srow),.plain 1 (rowsOf x.2.fol),.plain 3 (x.2.stk.reverse.map Prt.row)],[]⟩)
  (fun x => x.1 ≤ l.length ∧ x.2 = buildAt l x.1) (fun x => l.length - x.1) (0,buildAt l 0) ?_ ⟨by simp only; omega,rfl⟩ (fun x hx s hs => ?_)
 ·refine Le.trans (le_virt_box 1 4 0 _ rfl rfl) (Le.trans (le_virt_box 1 1 4 _ rfl rfl) (Le.trans (le_virt 6 3 rfl) ?_))
  exact le_eqwk (by simp [buildAt,zero5,pcells,rowsOf]) (by simp [wk,buildAt])
 obtain ⟨i,b⟩ := x
 obtain ⟨hi,hb⟩ := hx
 simp only at hi hb hs ⊢
 have hI := buildAt_inv hr i hi
 rw [← hb] at hI
 by_cases hlt : i < l.length
 ·have hrow := rows_at Cel.row l i hlt
  have hsuc := buildAt_succ hlt
  rw [← hb] at hsuc
  have hck := hk _ (List.getElem_mem hlt)
  have hcases := stepB_cases hI hlt rfl
  have hcn := hI.cnt
  have hct := cnt1_le (l.take i)
  rw [List.length_take] at hct
  have hnf := hI.nf
  have hpr := hI.prt
  have hfo := hI.fol
  generalize hc : l[i] = c at hrow hsuc hck hcases
  have hpset := pset_row hck
  obtain ⟨sets,fol,stk⟩ := b
  simp only at hcn hct hnf hpr hfo hcases ⊢
  have hsk : (stk.reverse.map Prt.row).length = stk.length := by simp
  have hsl := stkP_len _ _ hI.stk
  simp only at hsl
  rcases hcases with ⟨o,e⟩ | ⟨o,e⟩ | ⟨y,st,es,⟨o,e⟩ | ⟨o,e⟩⟩ | ⟨y,x,st,es,⟨o,e⟩ | ⟨o,e⟩⟩
  ·have f1 : (c.op = 1) = True := eq_true o
   simp -implicitDefEqProofs only [awp_draw _ _ Trydr5_23,awp_draw _ _ Trydr5_27,awp_draw _ _ Trydr5_36,awp_draw _ _ Trydr5_38,lt_true hlt,hrow,Cel.row,stB_boxA,splice_all,List.all_cons,List.all_nil,f1,pcells,bsE_set,
  evx,evy,ofValue,ofCell,List.range,List.range.loop,Array.size,Nat.reduceAdd,Nat.reduceSub,Nat.reduceEqDiff,List.replicate,if_true,if_false,↓reduceIte,reduceCtorEq,elB,evParts,Int.reduceToNat,Int.reduceLE,Int.reduceLT,Int.reduceEq,Nat.reduceMul,Nat.reduceLeDiff,Nat.reduceLT,ty3,ty4,ty5,ty9,ty39,ty40,ty41,ty23,ty24,ty25,ty27,ty22,ty43,ty38,ty45,ty28]
   refine ⟨⟨by simp,by omega⟩,⟨by rw [rowsOf_len]; omega,by omega⟩,?_⟩
   simp -implicitDefEqProofs only [awp_draw _ _ Trydr5_23,awp_draw _ _ Trydr5_27,awp_draw _ _ Trydr5_36,awp_draw _ _ Trydr5_38,bsE_part,Bool.false_or,Bool.or_true,srcC_ref,srcX_box,appB_ref,appBX_plain,wsucc i (by omega),
  evx,evy,ofValue,ofCell,List.range,List.range.loop,Array.size,Nat.reduceAdd,Nat.reduceSub,Nat.reduceEqDiff,List.replicate,if_true,if_false,↓reduceIte,reduceCtorEq,elB,evParts,Int.reduceToNat,Int.reduceLE,Int.reduceLT,Int.reduceEq,Nat.reduceMul,Nat.reduceLeDiff,Nat.reduceLT,ty3,ty4,ty5,ty9,ty39,ty40,ty41,ty23,ty24,ty25,ty27,ty22,ty43,ty38,ty45,ty28]
   refine ⟨⟨by simp,by omega⟩,?_⟩
   refine back_intro hs (i + 1,stepB ⟨sets,fol,stk⟩ c) ?_ ⟨by simp only; omega,hsuc.symm⟩ (by simp only; omega)
   rw [e]
   refine Le.trans (le_pkfz (t' := [.any,.any,.ptr 0 0 0 0,.any,.ptr 1 0 0 0,.func 13 [.ptr 1 0 0 0],.ref 4 3 0 (stk.length + 1),.any,.any,.any,.any,.any,.any,.any,.any,.any,.any,.any,.any,.any,.any,.any,.fv (.lst 5 (l.map Cel.row)),.fv (.int .i64 l.length),.fv (.int .i64 ((i + 1 : Nat) : Int)),.any,.any,.any,.any,.any,.any,.any,.any,.any,.any,.any,.any,.any,.any,.any,.any,.any,.any,.any,.any,.any,.any,.any,.any,.any,.any,.any,.any,.any,.any,.any,.any,.any,.any,.any,.any,.any,.any,.any,.any,.any,.any,.any,.any,.any,.any,.any,.any,.any,.any,.any,.any,.any,.any,.any,.any,.any,.any,.any,.any,.any,.any,.any,.any,.any,.any,.any,.any,.any,.any,.any,.any,.any,.any,.any,.any,.any,.any,.any,.any,.any,.any,.any,.any,.any,.any,.any,.any,.any,.any,.any,.any,.any,.any,.any,.any,.any,.any,.any,.any,.any,.any,.any,.any,.any,.any,.any,.any,.any,.any,.any,.any,.any,.any,.any,.any,.any,.any,.any,.any,.any,.any,.any,.any,.any,.any,.any,.any,.any,.any,.any,.any,.any,.any,.any,.any,.any,.any,.any,.any,.any,.any,.any,.any,.any,.any,.any,.any,.any,.any,.any,.any,.any,.any,.any,.any,.any,.any,.any,.any,.any,.any,.any,.any,.any,.any,.any,.any,.any,.any,.any,.any,.any,.any,.any,.any,.any,.any,.any,.any])
    (h' := [.box zero5,.box (pcells (sets.length + 1) 2 3),.plain 4 ((sets ++ [c.pset]).map srow),.plain 1 (rowsOf fol ++ [[.nils]]),.box (thaw ((stk.reverse ++ [Prt.mk false [(sets.length : Int)] [(sets.length : Int)]]).map Prt.row))]) [0,1,7,9,13] [10,11] rfl (by simp) (by simp) (by simp) rfl ?_ ?_) ?_
   ·have e1 : (sets ++ [c.pset]).map srow = sets.map srow ++ [[.int .u64 c.a,.int .u64 c.b,.int .u64 c.c,.int .u64 c.d]] := by rw [List.map_append,List.map_cons,List.map_nil,hpset]
    have e2 : thaw ((stk.reverse ++ [Prt.mk false [(sets.length : Int)] [(sets.length : Int)]]).map Prt.row) = thaw (stk.reverse.map Prt.row) ++ [.fv (.bool false),.fv (.lst 1 (ints [(sets.length : Int)])),.fv (.lst 1 (ints [(sets.length : Int)]))] := by
     rw [List.map_append,List.map_cons,List.map_nil,thaw_app]
     rfl
    rw [e1,e2]
    simp [subBlk,subAny,subA,mkSub,idx,zero5,pcells,thaw_sub,Prt.row,ints,List.take_of_length_le,rowsOf_len,hnf]
   ·simp [wk,subAny,subA,subL,mkSub,idx]
   ·refine Le.trans le_stk (le_eq ?_)
    simp [pcells]
  ·have f1 : (c.op = 1) = False := by simp [o]
   have f2 : (c.op = 2) = True := by simp [o]
   simp -implicitDefEqProofs only [awp_draw _ _ Trydr5_23,awp_draw _ _ Trydr5_27,awp_draw _ _ Trydr5_36,awp_draw _ _ Trydr5_38,lt_true hlt,hrow,Cel.row,stB_boxA,splice_all,List.all_cons,List.all_nil,f1,f2,bsE_prow,wsucc i (by omega),
  evx,evy,ofValue,ofCell,List.range,List.range.loop,Array.size,Nat.reduceAdd,Nat.reduceSub,Nat.reduceEqDiff,List.replicate,if_true,if_false,↓reduceIte,reduceCtorEq,elB,evParts,Int.reduceToNat,Int.reduceLE,Int.reduceLT,Int.reduceEq,Nat.reduceMul,Nat.reduceLeDiff,Nat.reduceLT,ty3,ty4,ty5,ty9,ty39,ty40,ty41,ty23,ty24,ty25,ty27,ty22,ty43,ty38,ty45,ty28]
   refine ⟨⟨by simp,by omega⟩,?_⟩
   refine back_intro hs (i + 1,stepB ⟨sets,fol,stk⟩ c) ?_ ⟨by simp only; omega,hsuc.symm⟩ (by simp only; omega)
   rw [e]
   refine Le.trans (le_pk (t' := [.any,.any,.ptr 0 0 0 0,.any,.ptr 1 0 0 0,.func 13 [.ptr 1 0 0 0],.ref 4 3 0 (stk.length + 1),.any,.any,.any,.any,.any,.any,.any,.any,.any,.any,.any,.any,.any,.any,.any,.fv (.lst 5 (l.map Cel.row)),.fv (.int .i64 l.length),.fv (.int .i64 ((i + 1 : Nat) : Int)),.any,.any,.any,.any,.any,.any,.any,.any,.any,.any,.any,.any,.any,.any,.any,.any,.any,.any,.any,.any,.any,.any,.any,.any,.any,.any,.any,.any,.any,.any,.any,.any,.any,.any,.any,.any,.any,.any,.any,.any,.any,.any,.any,.any,.any,.any,.any,.any,.any,.any,.any,.any,.any,.any,.any,.any,.any,.any,.any,.any,.any,.any,.any,.any,.any,.any,.any,.any,.any,.any,.any,.any,.any,.any,.any,.any,.any,.any,.any,.any,.any,.any,.any,.any,.any,.any,.any,.any,.any,.any,.any,.any,.any,.any,.any,.any,.any,.any,.any,.any,.any,.any,.any,.any,.any,.any,.any,.any,.any,.any,.any,.any,.any,.any,.any,.any,.any,.any,.any,.any,.any,.any,.any,.any,.any,.any,.any,.any,.any,.any,.any,.any,.any,.any,.any,.any,.any,.any,.any,.any,.any,.any,.any,.any,.any,.any,.any,.any,.any,.any,.any,.any,.any,.any,.any,.any,.any,.any,.any,.any,.any,.any,.any,.any,.any,.any,.any,.any,.any,.any,.any,.any,.any,.any,.any,.any,.any,.any,.any,.any])
    (h' := [.box zero5,.box (pcells sets.length 2 3),.plain 4 (sets.map srow),.plain 1 (rowsOf fol),.plain 3 (stk.reverse.map Prt.row ++ [[.bool true,.nils,.nils]])]) [0,1,2,3,7] rfl (by simp) (by simp) ?_ ?_) ?_
   ·simp [subBlk,subAny,subA,mkSub,idx,zero5,pcells,List.take_of_length_le]
   ·simp [wk,subAny,subA,subL,mkSub,idx]
   ·refine Le.trans le_stk2 (le_eq ?_)
    simp
  ·have f1 : (c.op = 1) = False := by simp [o]
   have f2 : (c.op = 2) = False := by simp [o]
   have f7 : (c.op = 7) = True := by simp [o]
   subst es
   rw [List.length_cons] at hsl
   have hw : IntKind.wrap .i64 (((st.length + 1 : Nat) : Int) - 1) = (st.length : Int) := by rw [wrap_small (by omega) (by omega)]; omega
   have hpa := prt_at st.reverse
   rw [List.length_reverse] at hpa
   have hps := prt_set st.reverse
   rw [List.length_reverse] at hps
   simp -implicitDefEqProofs only [awp_draw _ _ Trydr5_23,awp_draw _ _ Trydr5_27,awp_draw _ _ Trydr5_36,awp_draw _ _ Trydr5_38,lt_true hlt,hrow,Cel.row,stB_boxA,splice_all,List.all_cons,List.all_nil,f1,f2,f7,List.reverse_cons,List.map_append,hw,hpa,hps,wsucc i (by omega),
  evx,evy,ofValue,ofCell,List.range,List.range.loop,Array.size,Nat.reduceAdd,Nat.reduceSub,Nat.reduceEqDiff,List.replicate,if_true,if_false,↓reduceIte,reduceCtorEq,elB,evParts,Int.reduceToNat,Int.reduceLE,Int.reduceLT,Int.reduceEq,Nat.reduceMul,Nat.reduceLeDiff,Nat.reduceLT,ty3,ty4,ty5,ty9,ty39,ty40,ty41,ty23,ty24,ty25,ty27,ty22,ty43,ty38,ty45,ty28]
   refine ⟨by omega,by simp [Prt.row],?_⟩
   refine back_intro hs (i + 1,stepB ⟨sets,fol,y :: st⟩ c) ?_ ⟨by simp only; omega,hsuc.symm⟩ (by simp only; omega)
   rw [e]
   refine le_pk [0,1,2,3,4] rfl (by simp) (by simp) ?_ ?_
   ·simp [subBlk,subAny,subA,mkSub,idx,zero5,pcells,Prt.row]
   ·simp [wk,subAny,subA,subL,mkSub,idx]
  ·have f1 : (c.op = 1) = False := by simp; omega
   have f2 : (c.op = 2) = False := by simp; omega
   have f7 : (c.op = 7) = False := by simp; omega
   subst es
   rw [List.length_cons] at hsl
   have hw : IntKind.wrap .i64 (((st.length + 1 : Nat) : Int) - 1) = (st.length : Int) := by rw [wrap_small (by omega) (by omega)]; omega
   have hpa := prt_at st.reverse
   rw [List.length_reverse] at hpa
   have hps := prt_set st.reverse
   rw [List.length_reverse] at hps
   have hy := hpr y (by simp)
   have hlk := ok13 sets.length (by omega) (sets.map srow) fol y.last y.first hfo hnf hy.lb (by have := inB_len hy.lr hy.lb; omega) hy.fb (by have := inB_len hy.fr hy.fb; omega)
   have hl1 : st.length < st.length + 1 := by omega
   obtain ⟨yn,yf,yl⟩ := y
   simp only at hlk e
   rcases o with o | o
   ·have f5 : (c.op = 5) = True := by simp [o]
    have f6 : (c.op = 6) = False := by simp [o]
    simp -implicitDefEqProofs only [awp_draw _ _ Trydr5_23,awp_draw _ _ Trydr5_27,awp_draw _ _ Trydr5_36,awp_draw _ _ Trydr5_38,lt_true hlt,hrow,Cel.row,stB_boxA,splice_all,List.all_cons,List.all_nil,f1,f2,f7,f5,f6,List.reverse_cons,List.map_append,hw,hpa,nckS,lt_true hl1,Prt.row,
  evx,evy,ofValue,ofCell,List.range,List.range.loop,Array.size,Nat.reduceAdd,Nat.reduceSub,Nat.reduceEqDiff,List.replicate,if_true,if_false,↓reduceIte,reduceCtorEq,elB,evParts,Int.reduceToNat,Int.reduceLE,Int.reduceLT,Int.reduceEq,Nat.reduceMul,Nat.reduceLeDiff,Nat.reduceLT,ty3,ty4,ty5,ty9,ty39,ty40,ty41,ty23,ty24,ty25,ty27,ty22,ty43,ty38,ty45,ty28]
    refine callK_ret _ _ _ _ (call_lent [1,2,3] hlk (by simp [subAny,subA,mkSub,idx]) (by simp [subBlk,subAny,subA,mkSub,idx,pcells]) (by simp) (by simp [Blk.live])) (by kernel_rfl) ?_
    simp -implicitDefEqProofs only [awp_draw _ _ Trydr5_23,awp_draw _ _ Trydr5_27,awp_draw _ _ Trydr5_36,awp_draw _ _ Trydr5_38,subAny,subA,subL,backSub,back,putBack,subBlk,Option.getD_some,List.map_cons,List.map_nil,Nat.not_lt_zero,Nat.sub_zero,Nat.add_zero,List.length_map,nckS,
  evx,evy,ofValue,ofCell,List.range,List.range.loop,Array.size,Nat.reduceAdd,Nat.reduceSub,Nat.reduceEqDiff,List.replicate,if_true,if_false,↓reduceIte,reduceCtorEq,elB,evParts,Int.reduceToNat,Int.reduceLE,Int.reduceLT,Int.reduceEq,Nat.reduceMul,Nat.reduceLeDiff,Nat.reduceLT,ty3,ty4,ty5,ty9,ty39,ty40,ty41,ty23,ty24,ty25,ty27,ty22,ty43,ty38,ty45,ty28]
    cases yn with
    | true =>
     simp -implicitDefEqProofs only [awp_draw _ _ Trydr5_23,awp_draw _ _ Trydr5_27,awp_draw _ _ Trydr5_36,awp_draw _ _ Trydr5_38,hpa,hps,nckS,lt_true hl1,wsucc i (by omega),
  evx,evy,ofValue,ofCell,List.range,List.range.loop,Array.size,Nat.reduceAdd,Nat.reduceSub,Nat.reduceEqDiff,List.replicate,if_true,if_false,↓reduceIte,reduceCtorEq,elB,evParts,Int.reduceToNat,Int.reduceLE,Int.reduceLT,Int.reduceEq,Nat.reduceMul,Nat.reduceLeDiff,Nat.reduceLT,ty3,ty4,ty5,ty9,ty39,ty40,ty41,ty23,ty24,ty25,ty27,ty22,ty43,ty38,ty45,ty28]
     refine back_intro hs (i + 1,stepB ⟨sets,fol,_⟩ c) ?_ ⟨by simp only; omega,hsuc.symm⟩ (by simp only; omega)
     rw [e]
     refine le_pk [0,1,2,3,4] rfl (by simp) (by simp) ?_ ?_
     ·simp [subBlk,subAny,subA,mkSub,idx,zero5,pcells,Prt.row,backSub,back,f5,f6]
     ·simp [wk,subAny,subA,subL,mkSub,idx]
    | false =>
     simp -implicitDefEqProofs only [awp_draw _ _ Trydr5_23,awp_draw _ _ Trydr5_27,awp_draw _ _ Trydr5_36,awp_draw _ _ Trydr5_38,hpa,hps,nckS,lt_true hl1,f5,f6,wsucc i (by omega),
  evx,evy,ofValue,ofCell,List.range,List.range.loop,Array.size,Nat.reduceAdd,Nat.reduceSub,Nat.reduceEqDiff,List.replicate,if_true,if_false,↓reduceIte,reduceCtorEq,elB,evParts,Int.reduceToNat,Int.reduceLE,Int.reduceLT,Int.reduceEq,Nat.reduceMul,Nat.reduceLeDiff,Nat.reduceLT,ty3,ty4,ty5,ty9,ty39,ty40,ty41,ty23,ty24,ty25,ty27,ty22,ty43,ty38,ty45,ty28]
     refine back_intro hs (i + 1,stepB ⟨sets,fol,_⟩ c) ?_ ⟨by simp only; omega,hsuc.symm⟩ (by simp only; omega)
     rw [e]
     refine le_pk [0,1,2,3,4] rfl (by simp) (by simp) ?_ ?_
     ·simp [subBlk,subAny,subA,mkSub,idx,zero5,pcells,Prt.row,backSub,back,f5,f6]
     ·simp [wk,subAny,subA,subL,mkSub,idx]
   ·have f5 : (c.op = 5) = False := by simp [o]
    have f6 : (c.op = 6) = True := by simp [o]
    simp -implicitDefEqProofs only [awp_draw _ _ Trydr5_23,awp_draw _ _ Trydr5_27,awp_draw _ _ Trydr5_36,awp_draw _ _ Trydr5_38,lt_true hlt,hrow,Cel.row,stB_boxA,splice_all,List.all_cons,List.all_nil,f1,f2,f7,f5,f6,List.reverse_cons,List.map_append,hw,hpa,nckS,lt_true hl1,Prt.row,
  evx,evy,ofValue,ofCell,List.range,List.range.loop,Array.size,Nat.reduceAdd,Nat.reduceSub,Nat.reduceEqDiff,List.replicate,if_true,if_false,↓reduceIte,reduceCtorEq,elB,evParts,Int.reduceToNat,Int.reduceLE,Int.reduceLT,Int.reduceEq,Nat.reduceMul,Nat.reduceLeDiff,Nat.reduceLT,ty3,ty4,ty5,ty9,ty39,ty40,ty41,ty23,ty24,ty25,ty27,ty22,ty43,ty38,ty45,ty28]
    refine callK_ret _ _ _ _ (call_lent [1,2,3] hlk (by simp [subAny,subA,mkSub,idx]) (by simp [subBlk,subAny,subA,mkSub,idx,pcells]) (by simp) (by simp [Blk.live])) (by kernel_rfl) ?_
    simp -implicitDefEqProofs only [awp_draw _ _ Trydr5_23,awp_draw _ _ Trydr5_27,awp_draw _ _ Trydr5_36,awp_draw _ _ Trydr5_38,subAny,subA,subL,backSub,back,putBack,subBlk,Option.getD_some,List.map_cons,List.map_nil,Nat.not_lt_zero,Nat.sub_zero,Nat.add_zero,List.length_map,nckS,
  evx,evy,ofValue,ofCell,List.range,List.range.loop,Array.size,Nat.reduceAdd,Nat.reduceSub,Nat.reduceEqDiff,List.replicate,if_true,if_false,↓reduceIte,reduceCtorEq,elB,evParts,Int.reduceToNat,Int.reduceLE,Int.reduceLT,Int.reduceEq,Nat.reduceMul,Nat.reduceLeDiff,Nat.reduceLT,ty3,ty4,ty5,ty9,ty39,ty40,ty41,ty23,ty24,ty25,ty27,ty22,ty43,ty38,ty45,ty28]
    cases yn with
    | true =>
     simp -implicitDefEqProofs only [awp_draw _ _ Trydr5_23,awp_draw _ _ Trydr5_27,awp_draw _ _ Trydr5_36,awp_draw _ _ Trydr5_38,hpa,hps,nckS,lt_true hl1,wsucc i (by omega),
  evx,evy,ofValue,ofCell,List.range,List.range.loop,Array.size,Nat.reduceAdd,Nat.reduceSub,Nat.reduceEqDiff,List.replicate,if_true,if_false,↓reduceIte,reduceCtorEq,elB,evParts,Int.reduceToNat,Int.reduceLE,Int.reduceLT,Int.reduceEq,Nat.reduceMul,Nat.reduceLeDiff,Nat.reduceLT,ty3,ty4,ty5,ty9,ty39,ty40,ty41,ty23,ty24,ty25,ty27,ty22,ty43,ty38,ty45,ty28]
     refine back_intro hs (i + 1,stepB ⟨sets,fol,_⟩ c) ?_ ⟨by simp only; omega,hsuc.symm⟩ (by simp only; omega)
     rw [e]
     refine le_pk [0,1,2,3,4] rfl (by simp) (by simp) ?_ ?_
     ·simp [subBlk,subAny,subA,mkSub,idx,zero5,pcells,Prt.row,backSub,back,f5,f6]
     ·simp [wk,subAny,subA,subL,mkSub,idx]
    | false =>
     simp -implicitDefEqProofs only [awp_draw _ _ Trydr5_23,awp_draw _ _ Trydr5_27,awp_draw _ _ Trydr5_36,awp_draw _ _ Trydr5_38,hpa,hps,nckS,lt_true hl1,f5,f6,wsucc i (by omega),
  evx,evy,ofValue,ofCell,List.range,List.range.loop,Array.size,Nat.reduceAdd,Nat.reduceSub,Nat.reduceEqDiff,List.replicate,if_true,if_false,↓reduceIte,reduceCtorEq,elB,evParts,Int.reduceToNat,Int.reduceLE,Int.reduceLT,Int.reduceEq,Nat.reduceMul,Nat.reduceLeDiff,Nat.reduceLT,ty3,ty4,ty5,ty9,ty39,ty40,ty41,ty23,ty24,ty25,ty27,ty22,ty43,ty38,ty45,ty28]
     refine back_intro hs (i + 1,stepB ⟨sets,fol,_⟩ c) ?_ ⟨by simp only; omega,hsuc.symm⟩ (by simp only; omega)
     rw [e]
     refine le_pk [0,1,2,3,4] rfl (by simp) (by simp) ?_ ?_
     ·simp [subBlk,subAny,subA,mkSub,idx,zero5,pcells,Prt.row,backSub,back,f5,f6]
     ·simp [wk,subAny,subA,subL,mkSub,idx]
  ·have f1 : (c.op = 1) = False := by simp [o]
   have f2 : (c.op = 2) = False := by simp [o]
   have f7 : (c.op = 7) = False := by simp [o]
   have f5 : (c.op = 5) = False := by simp [o]
   have f6 : (c.op = 6) = False := by simp [o]
   have f4 : (c.op = 4) = True := by simp [o]
   have f3 : (c.op = 3) = False := by simp [o]
   subst es
   rw [List.length_cons,List.length_cons] at hsl
   have hw1 : IntKind.wrap .i64 (((st.length + 1 + 1 : Nat) : Int) - 1) = ((st.length + 1 : Nat) : Int) := by rw [wrap_small (by omega) (by omega)]; omega
   have hw2 : IntKind.wrap .i64 (((st.length + 1 + 1 : Nat) : Int) - 2) = (st.length : Int) := by rw [wrap_small (by omega) (by omega)]; omega
   have hy := hpr y (by simp)
   have hx := hpr x (by simp)
   have hpx := prt_atx st.reverse
   rw [List.length_reverse] at hpx
   have hpy := prt_aty st.reverse
   rw [List.length_reverse] at hpy
   have hl1 : st.length < st.length + 1 + 1 := by omega
   have hl2 : st.length + 1 < st.length + 1 + 1 := by omega
   have lxf := inB_len hx.fr hx.fb
   have lxl := inB_len hx.lr hx.lb
   have lyf := inB_len hy.fr hy.fb
   have lyl := inB_len hy.lr hy.lb
   have hlk := ok13 sets.length (by omega) (sets.map srow) fol x.last y.first hfo hnf hx.lb (by omega) hy.fb (by omega)
   have hu1 := ok14 x.first y.first (by omega) (by omega)
   have hu2 := ok14 x.last y.last (by omega) (by omega)
   obtain ⟨xn,xf,xl⟩ := x
   obtain ⟨yn,yf,yl⟩ := y
   simp only at hlk hu1 hu2 e lxf lxl lyf lyl
   obtain ⟨S0,hS0⟩ : ∃ S0 : List AV,S0 = [.any,.any,.ptr 0 0 0 0,.any,.ptr 1 0 0 0,.func 13 [.ptr 1 0 0 0],.ref 4 3 0 (st.length + 1 + 1),.any,.any,.fv (.int .i64 ((st.length + 1 + 1 : Nat) : Int)),.any,.any,.ptr 5 0 0 0,.ptr 6 0 0 0,.any,.any,.any,.any,.any,.any,.any,.any,.fv (.lst 5 (l.map Cel.row)),.fv (.int .i64 l.length),.fv (.int .i64 i),.any,.any,.any,.any,.any,.any,.any,.any,.any,.any,.any,.any,.any,.any,.any,.any,.any,.any,.any,.any,.any,.any,.any,.any,.any,.any,.any,.any,.any,.any,.any,.any,.any,.any,.any,.any,.any,.any,.any,.any,.any,.any,.any,.any,.any,.any,.any,.any,.any,.any,.any,.any,.any,.any,.any,.any,.any,.any,.any,.any,.any,.any,.any,.any,.any,.any,.any,.any,.any,.any,.any,.any,.any,.any,.any,.any,.any,.any,.any,.any,.any,.any,.any,.any,.any,.any,.any,.any,.any,.any,.any,.any,.any,.any,.any,.any,.any,.any,.any,.any,.any,.any,.any,.any,.any,.any,.any,.any,.any,.any,.any,.any,.any,.any,.any,.any,.any,.any,.any,.any,.any,.any,.any,.any,.any,.any,.any,.any,.any,.any,.any,.any,.any,.any,.any,.any,.any,.any,.any,.any,.any,.any,.any,.any,.any,.any,.any,.any,.any,.any,.any,.any,.any,.any,.any,.any,.any,.any,.any,.any,.any,.any,.any,.any,.any,.any,.any,.any,.any,.any,.any,.any,.any,.any,.any,.any,.any,.any,.any,.any] := ⟨_,rfl⟩
   simp -implicitDefEqProofs only [awp_draw _ _ Trydr5_23,awp_draw _ _ Trydr5_27,awp_draw _ _ Trydr5_36,awp_draw _ _ Trydr5_38,lt_true hlt,hrow,Cel.row,stB_boxA,splice_all,List.all_cons,List.all_nil,f1,f2,f7,f5,f6,f4,f3,
  evx,evy,ofValue,ofCell,List.range,List.range.loop,Array.size,Nat.reduceAdd,Nat.reduceSub,Nat.reduceEqDiff,List.replicate,if_true,if_false,↓reduceIte,reduceCtorEq,elB,evParts,Int.reduceToNat,Int.reduceLE,Int.reduceLT,Int.reduceEq,Nat.reduceMul,Nat.reduceLeDiff,Nat.reduceLT,ty3,ty4,ty5,ty9,ty39,ty40,ty41,ty23,ty24,ty25,ty27,ty22,ty43,ty38,ty45,ty28]
   refine awp_forks6 (t := .fork [(0,true),(1,true),(2,true),(3,true),(4,true),(5,true),(6,true),(7,true),(8,true),(9,true)] 10 (.lin [(11,false),(12,false),(13,false)]) 11 (.lin [(10,false),(12,false),(13,false)])) (by kernel_rfl) (by kernel_rfl) (by kernel_rfl) ⟨S0,[.box zero5,.box (pcells sets.length 2 3),.plain 4 (sets.map srow),.plain 1 (rowsOf fol),.plain 3 (st.reverse.map Prt.row ++ [[.bool xn,.lst 1 (ints xf),.lst 1 (ints xl)],[.bool yn,.lst 1 (ints yf),.lst 1 (ints yl)]]),.box [.fv (.bool xn),.fv (.lst 1 (ints xf)),.fv (.lst 1 (ints xl))],.box [.fv (.bool yn),.fv (.lst 1 (ints yf)),.fv (.lst 1 (ints yl))]],[]⟩ ?_ ?_
   ·simp only [ord6G]
    refine ⟨by kernel_rfl,?_⟩
    simp -implicitDefEqProofs only [awp_draw _ _ Trydr5_23,awp_draw _ _ Trydr5_27,awp_draw _ _ Trydr5_36,awp_draw _ _ Trydr5_38,List.reverse_cons,List.map_append,List.append_assoc,hw1,hw2,hpx,hpy,lt_true hl1,lt_true hl2,Prt.row,
  evx,evy,ofValue,ofCell,List.range,List.range.loop,Array.size,Nat.reduceAdd,Nat.reduceSub,Nat.reduceEqDiff,List.replicate,if_true,if_false,↓reduceIte,reduceCtorEq,elB,evParts,Int.reduceToNat,Int.reduceLE,Int.reduceLT,Int.reduceEq,Nat.reduceMul,Nat.reduceLeDiff,Nat.reduceLT,ty3,ty4,ty5,ty9,ty39,ty40,ty41,ty23,ty24,ty25,ty27,ty22,ty43,ty38,ty45,ty28]
    try simp only [onN]
    intro hs0 hk0 hl0
    refine ⟨?_,?_⟩
    ·try simp -implicitDefEqProofs only [awp_draw _ _ Trydr5_23,awp_draw _ _ Trydr5_27,awp_draw _ _ Trydr5_36,awp_draw _ _ Trydr5_38,
  evx,evy,ofValue,ofCell,List.range,List.range.loop,Array.size,Nat.reduceAdd,Nat.reduceSub,Nat.reduceEqDiff,List.replicate,if_true,if_false,↓reduceIte,reduceCtorEq,elB,evParts,Int.reduceToNat,Int.reduceLE,Int.reduceLT,Int.reduceEq,Nat.reduceMul,Nat.reduceLeDiff,Nat.reduceLT,ty3,ty4,ty5,ty9,ty39,ty40,ty41,ty23,ty24,ty25,ty27,ty22,ty43,ty38,ty45,ty28]
     try simp only [onN,ord5G]
     simp -implicitDefEqProofs only [awp_draw _ _ Trydr5_23,awp_draw _ _ Trydr5_27,awp_draw _ _ Trydr5_36,awp_draw _ _ Trydr5_38,stB_boxA,splice_all,List.all_cons,List.all_nil,Bool.and_self,
  evx,evy,ofValue,ofCell,List.range,List.range.loop,Array.size,Nat.reduceAdd,Nat.reduceSub,Nat.reduceEqDiff,List.replicate,if_true,if_false,↓reduceIte,reduceCtorEq,elB,evParts,Int.reduceToNat,Int.reduceLE,Int.reduceLT,Int.reduceEq,Nat.reduceMul,Nat.reduceLeDiff,Nat.reduceLT,ty3,ty4,ty5,ty9,ty39,ty40,ty41,ty23,ty24,ty25,ty27,ty22,ty43,ty38,ty45,ty28]
     refine ⟨heldLt_ok (heldLt_drop (heldLt_drop hl0 _) _) _ _ (by simp),heldLt_ok (heldLt_drop (heldLt_drop (heldLt_drop hl0 _) _) _) _ _ (by simp),?_⟩
     rw [hS0]
     exact le_pk [0,1,2,3,4,6,7] rfl (by simp) (by simp) (by simp [subBlk,subAny,subA,mkSub,idx,zero5,pcells]) (by simp [wk,subAny,subA,subL,mkSub,idx])
    ·try simp -implicitDefEqProofs only [awp_draw _ _ Trydr5_23,awp_draw _ _ Trydr5_27,awp_draw _ _ Trydr5_36,awp_draw _ _ Trydr5_38,
  evx,evy,ofValue,ofCell,List.range,List.range.loop,Array.size,Nat.reduceAdd,Nat.reduceSub,Nat.reduceEqDiff,List.replicate,if_true,if_false,↓reduceIte,reduceCtorEq,elB,evParts,Int.reduceToNat,Int.reduceLE,Int.reduceLT,Int.reduceEq,Nat.reduceMul,Nat.reduceLeDiff,Nat.reduceLT,ty3,ty4,ty5,ty9,ty39,ty40,ty41,ty23,ty24,ty25,ty27,ty22,ty43,ty38,ty45,ty28]
     try simp only [onN,ord5G]
     simp -implicitDefEqProofs only [awp_draw _ _ Trydr5_23,awp_draw _ _ Trydr5_27,awp_draw _ _ Trydr5_36,awp_draw _ _ Trydr5_38,stB_boxA,splice_all,List.all_cons,List.all_nil,Bool.and_self,
  evx,evy,ofValue,ofCell,List.range,List.range.loop,Array.size,Nat.reduceAdd,Nat.reduceSub,Nat.reduceEqDiff,List.replicate,if_true,if_false,↓reduceIte,reduceCtorEq,elB,evParts,Int.reduceToNat,Int.reduceLE,Int.reduceLT,Int.reduceEq,Nat.reduceMul,Nat.reduceLeDiff,Nat.reduceLT,ty3,ty4,ty5,ty9,ty39,ty40,ty41,ty23,ty24,ty25,ty27,ty22,ty43,ty38,ty45,ty28]
     refine ⟨heldLt_ok (heldLt_drop (heldLt_drop hl0 _) _) _ _ (by simp),heldLt_ok (heldLt_drop (heldLt_drop (heldLt_drop hl0 _) _) _) _ _ (by simp),?_⟩
     rw [hS0]
     exact le_pk [0,1,2,3,4,7,6] rfl (by simp) (by simp) (by simp [subBlk,subAny,subA,mkSub,idx,zero5,pcells]) (by simp [wk,subAny,subA,subL,mkSub,idx])
   ·subst hS0
    have htk := prt_take st.reverse
    rw [List.length_reverse] at htk
    cases xn with
    | true =>
     simp -implicitDefEqProofs only [awp_draw _ _ Trydr5_23,awp_draw _ _ Trydr5_27,awp_draw _ _ Trydr5_36,awp_draw _ _ Trydr5_38,hw2,
  evx,evy,ofValue,ofCell,List.range,List.range.loop,Array.size,Nat.reduceAdd,Nat.reduceSub,Nat.reduceEqDiff,List.replicate,if_true,if_false,↓reduceIte,reduceCtorEq,elB,evParts,Int.reduceToNat,Int.reduceLE,Int.reduceLT,Int.reduceEq,Nat.reduceMul,Nat.reduceLeDiff,Nat.reduceLT,ty3,ty4,ty5,ty9,ty39,ty40,ty41,ty23,ty24,ty25,ty27,ty22,ty43,ty38,ty45,ty28]
     refine ⟨⟨by omega,by omega⟩,?_⟩
     refine callK_ret _ _ _ _ (call_pure hu1 (fun _ => rfl) (fun _ => rfl)) (by first | exact ok_none _ _ | exact ok_nil _ _ | kernel_rfl) ?_
     simp -implicitDefEqProofs only [awp_draw _ _ Trydr5_23,awp_draw _ _ Trydr5_27,awp_draw _ _ Trydr5_36,awp_draw _ _ Trydr5_38,
  evx,evy,ofValue,ofCell,List.range,List.range.loop,Array.size,Nat.reduceAdd,Nat.reduceSub,Nat.reduceEqDiff,List.replicate,if_true,if_false,↓reduceIte,reduceCtorEq,elB,evParts,Int.reduceToNat,Int.reduceLE,Int.reduceLT,Int.reduceEq,Nat.reduceMul,Nat.reduceLeDiff,Nat.reduceLT,ty3,ty4,ty5,ty9,ty39,ty40,ty41,ty23,ty24,ty25,ty27,ty22,ty43,ty38,ty45,ty28]
     refine callK_ret _ _ _ _ (call_pure hu2 (fun _ => rfl) (fun _ => rfl)) (by first | exact ok_none _ _ | exact ok_nil _ _ | kernel_rfl) ?_
     simp -implicitDefEqProofs only [awp_draw _ _ Trydr5_23,awp_draw _ _ Trydr5_27,awp_draw _ _ Trydr5_36,awp_draw _ _ Trydr5_38,bsE_prow,wsucc i (by omega),
  evx,evy,ofValue,ofCell,List.range,List.range.loop,Array.size,Nat.reduceAdd,Nat.reduceSub,Nat.reduceEqDiff,List.replicate,if_true,if_false,↓reduceIte,reduceCtorEq,elB,evParts,Int.reduceToNat,Int.reduceLE,Int.reduceLT,Int.reduceEq,Nat.reduceMul,Nat.reduceLeDiff,Nat.reduceLT,ty3,ty4,ty5,ty9,ty39,ty40,ty41,ty23,ty24,ty25,ty27,ty22,ty43,ty38,ty45,ty28]
     refine ⟨⟨by simp,by omega⟩,by kernel_rfl,?_⟩
     refine back_intro hs (i + 1,stepB ⟨sets,fol,_⟩ c) ?_ ⟨by simp only; omega,hsuc.symm⟩ (by simp only; omega)
     rw [e]
     refine le_pk [0,1,2,3,8] rfl (by simp) (by simp) ?_ ?_
     ·simp [subBlk,subAny,subA,mkSub,idx,zero5,pcells,Prt.row,htk,orP]
     ·simp [wk,subAny,subA,subL,mkSub,idx]
    | false =>
     simp -implicitDefEqProofs only [awp_draw _ _ Trydr5_23,awp_draw _ _ Trydr5_27,awp_draw _ _ Trydr5_36,awp_draw _ _ Trydr5_38,hw2,
  evx,evy,ofValue,ofCell,List.range,List.range.loop,Array.size,Nat.reduceAdd,Nat.reduceSub,Nat.reduceEqDiff,List.replicate,if_true,if_false,↓reduceIte,reduceCtorEq,elB,evParts,Int.reduceToNat,Int.reduceLE,Int.reduceLT,Int.reduceEq,Nat.reduceMul,Nat.reduceLeDiff,Nat.reduceLT,ty3,ty4,ty5,ty9,ty39,ty40,ty41,ty23,ty24,ty25,ty27,ty22,ty43,ty38,ty45,ty28]
     refine ⟨⟨by omega,by omega⟩,?_⟩
     refine callK_ret _ _ _ _ (call_pure hu1 (fun _ => rfl) (fun _ => rfl)) (by first | exact ok_none _ _ | exact ok_nil _ _ | kernel_rfl) ?_
     simp -implicitDefEqProofs only [awp_draw _ _ Trydr5_23,awp_draw _ _ Trydr5_27,awp_draw _ _ Trydr5_36,awp_draw _ _ Trydr5_38,
  evx,evy,ofValue,ofCell,List.range,List.range.loop,Array.size,Nat.reduceAdd,Nat.reduceSub,Nat.reduceEqDiff,List.replicate,if_true,if_false,↓reduceIte,reduceCtorEq,elB,evParts,Int.reduceToNat,Int.reduceLE,Int.reduceLT,Int.reduceEq,Nat.reduceMul,Nat.reduceLeDiff,Nat.reduceLT,ty3,ty4,ty5,ty9,ty39,ty40,ty41,ty23,ty24,ty25,ty27,ty22,ty43,ty38,ty45,ty28]
     refine callK_ret _ _ _ _ (call_pure hu2 (fun _ => rfl) (fun _ => rfl)) (by first | exact ok_none _ _ | exact ok_nil _ _ | kernel_rfl) ?_
     simp -implicitDefEqProofs only [awp_draw _ _ Trydr5_23,awp_draw _ _ Trydr5_27,awp_draw _ _ Trydr5_36,awp_draw _ _ Trydr5_38,bsE_prow,wsucc i (by omega),
  evx,evy,ofValue,ofCell,List.range,List.range.loop,Array.size,Nat.reduceAdd,Nat.reduceSub,Nat.reduceEqDiff,List.replicate,if_true,if_false,↓reduceIte,reduceCtorEq,elB,evParts,Int.reduceToNat,Int.reduceLE,Int.reduceLT,Int.reduceEq,Nat.reduceMul,Nat.reduceLeDiff,Nat.reduceLT,ty3,ty4,ty5,ty9,ty39,ty40,ty41,ty23,ty24,ty25,ty27,ty22,ty43,ty38,ty45,ty28]
     refine ⟨⟨by simp,by omega⟩,by kernel_rfl,?_⟩
     refine back_intro hs (i + 1,stepB ⟨sets,fol,_⟩ c) ?_ ⟨by simp only; omega,hsuc.symm⟩ (by simp only; omega)
     rw [e]
     refine le_pk [0,1,2,3,8] rfl (by simp) (by simp) ?_ ?_
     ·simp [subBlk,subAny,subA,mkSub,idx,zero5,pcells,Prt.row,htk,orP]
     ·simp [wk,subAny,subA,subL,mkSub,idx]
  ·have f1 : (c.op = 1) = False := by simp [o]
   have f2 : (c.op = 2) = False := by simp [o]
   have f7 : (c.op = 7) = False := by simp [o]
   have f5 : (c.op = 5) = False := by simp [o]
   have f6 : (c.op = 6) = False := by simp [o]
   have f4 : (c.op = 4) = False := by simp [o]
   have f3 : (c.op = 3) = True := by simp [o]
   subst es
   rw [List.length_cons,List.length_cons] at hsl
   have hw1 : IntKind.wrap .i64 (((st.length + 1 + 1 : Nat) : Int) - 1) = ((st.length + 1 : Nat) : Int) := by rw [wrap_small (by omega) (by omega)]; omega
   have hw2 : IntKind.wrap .i64 (((st.length + 1 + 1 : Nat) : Int) - 2) = (st.length : Int) := by rw [wrap_small (by omega) (by omega)]; omega
   have hy := hpr y (by simp)
   have hx := hpr x (by simp)
   have hpx := prt_atx st.reverse
   rw [List.length_reverse] at hpx
   have hpy := prt_aty st.reverse
   rw [List.length_reverse] at hpy
   have hl1 : st.length < st.length + 1 + 1 := by omega
   have hl2 : st.length + 1 < st.length + 1 + 1 := by omega
   have lxf := inB_len hx.fr hx.fb
   have lxl := inB_len hx.lr hx.lb
   have lyf := inB_len hy.fr hy.fb
   have lyl := inB_len hy.lr hy.lb
   have hlk := ok13 sets.length (by omega) (sets.map srow) fol x.last y.first hfo hnf hx.lb (by omega) hy.fb (by omega)
   have hu1 := ok14 x.first y.first (by omega) (by omega)
   have hu2 := ok14 x.last y.last (by omega) (by omega)
   obtain ⟨xn,xf,xl⟩ := x
   obtain ⟨yn,yf,yl⟩ := y
   simp only at hlk hu1 hu2 e lxf lxl lyf lyl
   obtain ⟨S0,hS0⟩ : ∃ S0 : List AV,S0 = [.any,.any,.ptr 0 0 0 0,.any,.ptr 1 0 0 0,.func 13 [.ptr 1 0 0 0],.ref 4 3 0 (st.length + 1 + 1),.any,.any,.fv (.int .i64 ((st.length + 1 + 1 : Nat) : Int)),.any,.any,.any,.any,.ptr 5 0 0 0,.ptr 6 0 0 0,.any,.any,.any,.any,.any,.any,.fv (.lst 5 (l.map Cel.row)),.fv (.int .i64 l.length),.fv (.int .i64 i),.any,.any,.any,.any,.any,.any,.any,.any,.any,.any,.any,.any,.any,.any,.any,.any,.any,.any,.any,.any,.any,.any,.any,.any,.any,.any,.any,.any,.any,.any,.any,.any,.any,.any,.any,.any,.any,.any,.any,.any,.any,.any,.any,.any,.any,.any,.any,.any,.any,.any,.any,.any,.any,.any,.any,.any,.any,.any,.any,.any,.any,.any,.any,.any,.any,.any,.any,.any,.any,.any,.any,.any,.any,.any,.any,.any,.any,.any,.any,.any,.any,.any,.any,.any,.any,.any,.any,.any,.any,.any,.any,.any,.any,.any,.any,.any,.any,.any,.any,.any,.any,.any,.any,.any,.any,.any,.any,.any,.any,.any,.any,.any,.any,.any,.any,.any,.any,.any,.any,.any,.any,.any,.any,.any,.any,.any,.any,.any,.any,.any,.any,.any,.any,.any,.any,.any,.any,.any,.any,.any,.any,.any,.any,.any,.any,.any,.any,.any,.any,.any,.any,.any,.any,.any,.any,.any,.any,.any,.any,.any,.any,.any,.any,.any,.any,.any,.any,.any,.any,.any,.any,.any,.any,.any,.any,.any,.any,.any,.any,.any] := ⟨_,rfl⟩
   simp -implicitDefEqProofs only [awp_draw _ _ Trydr5_23,awp_draw _ _ Trydr5_27,awp_draw _ _ Trydr5_36,awp_draw _ _ Trydr5_38,lt_true hlt,hrow,Cel.row,stB_boxA,splice_all,List.all_cons,List.all_nil,f1,f2,f7,f5,f6,f4,f3,
  evx,evy,ofValue,ofCell,List.range,List.range.loop,Array.size,Nat.reduceAdd,Nat.reduceSub,Nat.reduceEqDiff,List.replicate,if_true,if_false,↓reduceIte,reduceCtorEq,elB,evParts,Int.reduceToNat,Int.reduceLE,Int.reduceLT,Int.reduceEq,Nat.reduceMul,Nat.reduceLeDiff,Nat.reduceLT,ty3,ty4,ty5,ty9,ty39,ty40,ty41,ty23,ty24,ty25,ty27,ty22,ty43,ty38,ty45,ty28]
   refine awp_forks6 (t := .fork [(0,true),(1,true),(2,true),(3,true),(4,true),(5,true),(6,true),(7,true),(8,true),(9,true)] 10 (.lin [(11,false),(12,false),(13,false)]) 11 (.lin [(10,false),(12,false),(13,false)])) (by kernel_rfl) (by kernel_rfl) (by kernel_rfl) ⟨S0,[.box zero5,.box (pcells sets.length 2 3),.plain 4 (sets.map srow),.plain 1 (rowsOf fol),.plain 3 (st.reverse.map Prt.row ++ [[.bool xn,.lst 1 (ints xf),.lst 1 (ints xl)],[.bool yn,.lst 1 (ints yf),.lst 1 (ints yl)]]),.box [.fv (.bool xn),.fv (.lst 1 (ints xf)),.fv (.lst 1 (ints xl))],.box [.fv (.bool yn),.fv (.lst 1 (ints yf)),.fv (.lst 1 (ints yl))]],[]⟩ ?_ ?_
   ·simp only [ord6G]
    refine ⟨by kernel_rfl,?_⟩
    simp -implicitDefEqProofs only [awp_draw _ _ Trydr5_23,awp_draw _ _ Trydr5_27,awp_draw _ _ Trydr5_36,awp_draw _ _ Trydr5_38,List.reverse_cons,List.map_append,List.append_assoc,hw1,hw2,hpx,hpy,lt_true hl1,lt_true hl2,Prt.row,
  evx,evy,ofValue,ofCell,List.range,List.range.loop,Array.size,Nat.reduceAdd,Nat.reduceSub,Nat.reduceEqDiff,List.replicate,if_true,if_false,↓reduceIte,reduceCtorEq,elB,evParts,Int.reduceToNat,Int.reduceLE,Int.reduceLT,Int.reduceEq,Nat.reduceMul,Nat.reduceLeDiff,Nat.reduceLT,ty3,ty4,ty5,ty9,ty39,ty40,ty41,ty23,ty24,ty25,ty27,ty22,ty43,ty38,ty45,ty28]
    try simp only [onN]
    intro hs0 hk0 hl0
    refine ⟨?_,?_⟩
    ·try simp -implicitDefEqProofs only [awp_draw _ _ Trydr5_23,awp_draw _ _ Trydr5_27,awp_draw _ _ Trydr5_36,awp_draw _ _ Trydr5_38,
  evx,evy,ofValue,ofCell,List.range,List.range.loop,Array.size,Nat.reduceAdd,Nat.reduceSub,Nat.reduceEqDiff,List.replicate,if_true,if_false,↓reduceIte,reduceCtorEq,elB,evParts,Int.reduceToNat,Int.reduceLE,Int.reduceLT,Int.reduceEq,Nat.reduceMul,Nat.reduceLeDiff,Nat.reduceLT,ty3,ty4,ty5,ty9,ty39,ty40,ty41,ty23,ty24,ty25,ty27,ty22,ty43,ty38,ty45,ty28]
     try simp only [onN,ord5G]
     simp -implicitDefEqProofs only [awp_draw _ _ Trydr5_23,awp_draw _ _ Trydr5_27,awp_draw _ _ Trydr5_36,awp_draw _ _ Trydr5_38,stB_boxA,splice_all,List.all_cons,List.all_nil,Bool.and_self,
  evx,evy,ofValue,ofCell,List.range,List.range.loop,Array.size,Nat.reduceAdd,Nat.reduceSub,Nat.reduceEqDiff,List.replicate,if_true,if_false,↓reduceIte,reduceCtorEq,elB,evParts,Int.reduceToNat,Int.reduceLE,Int.reduceLT,Int.reduceEq,Nat.reduceMul,Nat.reduceLeDiff,Nat.reduceLT,ty3,ty4,ty5,ty9,ty39,ty40,ty41,ty23,ty24,ty25,ty27,ty22,ty43,ty38,ty45,ty28]
     refine ⟨heldLt_ok (heldLt_drop (heldLt_drop hl0 _) _) _ _ (by simp),heldLt_ok (heldLt_drop (heldLt_drop (heldLt_drop hl0 _) _) _) _ _ (by simp),?_⟩
     rw [hS0]
     exact le_pk [0,1,2,3,4,6,7] rfl (by simp) (by simp) (by simp [subBlk,subAny,subA,mkSub,idx,zero5,pcells]) (by simp [wk,subAny,subA,subL,mkSub,idx])
    ·try simp -implicitDefEqProofs only [awp_draw _ _ Trydr5_23,awp_draw _ _ Trydr5_27,awp_draw _ _ Trydr5_36,awp_draw _ _ Trydr5_38,
  evx,evy,ofValue,ofCell,List.range,List.range.loop,Array.size,Nat.reduceAdd,Nat.reduceSub,Nat.reduceEqDiff,List.replicate,if_true,if_false,↓reduceIte,reduceCtorEq,elB,evParts,Int.reduceToNat,Int.reduceLE,Int.reduceLT,Int.reduceEq,Nat.reduceMul,Nat.reduceLeDiff,Nat.reduceLT,ty3,ty4,ty5,ty9,ty39,ty40,ty41,ty23,ty24,ty25,ty27,ty22,ty43,ty38,ty45,ty28]
     try simp only [onN,ord5G]
     simp -implicitDefEqProofs only [awp_draw _ _ Trydr5_23,awp_draw _ _ Trydr5_27,awp_draw _ _ Trydr5_36,awp_draw _ _ Trydr5_38,stB_boxA,splice_all,List.all_cons,List.all_nil,Bool.and_self,
  evx,evy,ofValue,ofCell,List.range,List.range.loop,Array.size,Nat.reduceAdd,Nat.reduceSub,Nat.reduceEqDiff,List.replicate,if_true,if_false,↓reduceIte,reduceCtorEq,elB,evParts,Int.reduceToNat,Int.reduceLE,Int.reduceLT,Int.reduceEq,Nat.reduceMul,Nat.reduceLeDiff,Nat.reduceLT,ty3,ty4,ty5,ty9,ty39,ty40,ty41,ty23,ty24,ty25,ty27,ty22,ty43,ty38,ty45,ty28]
     refine ⟨heldLt_ok (heldLt_drop (heldLt_drop hl0 _) _) _ _ (by simp),heldLt_ok (heldLt_drop (heldLt_drop (heldLt_drop hl0 _) _) _) _ _ (by simp),?_⟩
     rw [hS0]
     exact le_pk [0,1,2,3,4,7,6] rfl (by simp) (by simp) (by simp [subBlk,subAny,subA,mkSub,idx,zero5,pcells]) (by simp [wk,subAny,subA,subL,mkSub,idx])
   ·subst hS0
    have htk := prt_take st.reverse
    rw [List.length_reverse] at htk
    simp -implicitDefEqProofs only [awp_draw _ _ Trydr5_23,awp_draw _ _ Trydr5_27,awp_draw _ _ Trydr5_36,awp_draw _ _ Trydr5_38,
  evx,evy,ofValue,ofCell,List.range,List.range.loop,Array.size,Nat.reduceAdd,Nat.reduceSub,Nat.reduceEqDiff,List.replicate,if_true,if_false,↓reduceIte,reduceCtorEq,elB,evParts,Int.reduceToNat,Int.reduceLE,Int.reduceLT,Int.reduceEq,Nat.reduceMul,Nat.reduceLeDiff,Nat.reduceLT,ty3,ty4,ty5,ty9,ty39,ty40,ty41,ty23,ty24,ty25,ty27,ty22,ty43,ty38,ty45,ty28]
    refine callK_ret _ _ _ _ (call_lent [1,2,3] hlk (by simp [subAny,subA,mkSub,idx]) (by simp [subBlk,subAny,subA,mkSub,idx,pcells]) (by simp) (by simp [Blk.live])) (by first | exact ok_none _ _ | exact ok_nil _ _ | kernel_rfl) ?_
    cases xn with
    | true =>
     cases yn with
     | true =>
      simp -implicitDefEqProofs only [awp_draw _ _ Trydr5_23,awp_draw _ _ Trydr5_27,awp_draw _ _ Trydr5_36,awp_draw _ _ Trydr5_38,subAny,subA,subL,backSub,back,putBack,subBlk,Option.getD_some,List.map_cons,List.map_nil,Nat.not_lt_zero,Nat.sub_zero,Nat.add_zero,List.length_map,stB_boxA,splice_all,List.all_cons,List.all_nil,Bool.and_self,
  evx,evy,ofValue,ofCell,List.range,List.range.loop,Array.size,Nat.reduceAdd,Nat.reduceSub,Nat.reduceEqDiff,List.replicate,if_true,if_false,↓reduceIte,reduceCtorEq,elB,evParts,Int.reduceToNat,Int.reduceLE,Int.reduceLT,Int.reduceEq,Nat.reduceMul,Nat.reduceLeDiff,Nat.reduceLT,ty3,ty4,ty5,ty9,ty39,ty40,ty41,ty23,ty24,ty25,ty27,ty22,ty43,ty38,ty45,ty28]
      refine callK_ret _ _ _ _ (call_pure hu1 (fun _ => rfl) (fun _ => rfl)) (by first | exact ok_none _ _ | exact ok_nil _ _ | kernel_rfl) ?_
      simp -implicitDefEqProofs only [awp_draw _ _ Trydr5_23,awp_draw _ _ Trydr5_27,awp_draw _ _ Trydr5_36,awp_draw _ _ Trydr5_38,stB_boxA,splice_all,List.all_cons,List.all_nil,Bool.and_self,
  evx,evy,ofValue,ofCell,List.range,List.range.loop,Array.size,Nat.reduceAdd,Nat.reduceSub,Nat.reduceEqDiff,List.replicate,if_true,if_false,↓reduceIte,reduceCtorEq,elB,evParts,Int.reduceToNat,Int.reduceLE,Int.reduceLT,Int.reduceEq,Nat.reduceMul,Nat.reduceLeDiff,Nat.reduceLT,ty3,ty4,ty5,ty9,ty39,ty40,ty41,ty23,ty24,ty25,ty27,ty22,ty43,ty38,ty45,ty28]
      refine callK_ret _ _ _ _ (call_pure hu2 (fun _ => rfl) (fun _ => rfl)) (by first | exact ok_none _ _ | exact ok_nil _ _ | kernel_rfl) ?_
      simp -implicitDefEqProofs only [awp_draw _ _ Trydr5_23,awp_draw _ _ Trydr5_27,awp_draw _ _ Trydr5_36,awp_draw _ _ Trydr5_38,stB_boxA,splice_all,List.all_cons,List.all_nil,Bool.and_self,hw2,bsE_prow,wsucc i (by omega),
  evx,evy,ofValue,ofCell,List.range,List.range.loop,Array.size,Nat.reduceAdd,Nat.reduceSub,Nat.reduceEqDiff,List.replicate,if_true,if_false,↓reduceIte,reduceCtorEq,elB,evParts,Int.reduceToNat,Int.reduceLE,Int.reduceLT,Int.reduceEq,Nat.reduceMul,Nat.reduceLeDiff,Nat.reduceLT,ty3,ty4,ty5,ty9,ty39,ty40,ty41,ty23,ty24,ty25,ty27,ty22,ty43,ty38,ty45,ty28]
      refine ⟨⟨by omega,by omega⟩,⟨by simp,by omega⟩,by kernel_rfl,?_⟩
      refine back_intro hs (i + 1,stepB ⟨sets,fol,_⟩ c) ?_ ⟨by simp only; omega,hsuc.symm⟩ (by simp only; omega)
      rw [e]
      refine le_pk [0,1,2,3,9] rfl (by simp) (by simp) ?_ ?_
      ·simp [subBlk,subAny,subA,mkSub,idx,zero5,pcells,Prt.row,htk,catP,backSub,back]
      ·simp [wk,subAny,subA,subL,mkSub,idx]
     | false =>
      simp -implicitDefEqProofs only [awp_draw _ _ Trydr5_23,awp_draw _ _ Trydr5_27,awp_draw _ _ Trydr5_36,awp_draw _ _ Trydr5_38,subAny,subA,subL,backSub,back,putBack,subBlk,Option.getD_some,List.map_cons,List.map_nil,Nat.not_lt_zero,Nat.sub_zero,Nat.add_zero,List.length_map,stB_boxA,splice_all,List.all_cons,List.all_nil,Bool.and_self,
  evx,evy,ofValue,ofCell,List.range,List.range.loop,Array.size,Nat.reduceAdd,Nat.reduceSub,Nat.reduceEqDiff,List.replicate,if_true,if_false,↓reduceIte,reduceCtorEq,elB,evParts,Int.reduceToNat,Int.reduceLE,Int.reduceLT,Int.reduceEq,Nat.reduceMul,Nat.reduceLeDiff,Nat.reduceLT,ty3,ty4,ty5,ty9,ty39,ty40,ty41,ty23,ty24,ty25,ty27,ty22,ty43,ty38,ty45,ty28]
      refine callK_ret _ _ _ _ (call_pure hu1 (fun _ => rfl) (fun _ => rfl)) (by first | exact ok_none _ _ | exact ok_nil _ _ | kernel_rfl) ?_
      simp -implicitDefEqProofs only [awp_draw _ _ Trydr5_23,awp_draw _ _ Trydr5_27,awp_draw _ _ Trydr5_36,awp_draw _ _ Trydr5_38,stB_boxA,splice_all,List.all_cons,List.all_nil,Bool.and_self,hw2,bsE_prow,wsucc i (by omega),
  evx,evy,ofValue,ofCell,List.range,List.range.loop,Array.size,Nat.reduceAdd,Nat.reduceSub,Nat.reduceEqDiff,List.replicate,if_true,if_false,↓reduceIte,reduceCtorEq,elB,evParts,Int.reduceToNat,Int.reduceLE,Int.reduceLT,Int.reduceEq,Nat.reduceMul,Nat.reduceLeDiff,Nat.reduceLT,ty3,ty4,ty5,ty9,ty39,ty40,ty41,ty23,ty24,ty25,ty27,ty22,ty43,ty38,ty45,ty28]
      refine ⟨⟨by omega,by omega⟩,⟨by simp,by omega⟩,by kernel_rfl,?_⟩
      refine back_intro hs (i + 1,stepB ⟨sets,fol,_⟩ c) ?_ ⟨by simp only; omega,hsuc.symm⟩ (by simp only; omega)
      rw [e]
      refine le_pk [0,1,2,3,9] rfl (by simp) (by simp) ?_ ?_
      ·simp [subBlk,subAny,subA,mkSub,idx,zero5,pcells,Prt.row,htk,catP,backSub,back]
      ·simp [wk,subAny,subA,subL,mkSub,idx]
    | false =>
     cases yn with
     | true =>
      simp -implicitDefEqProofs only [awp_draw _ _ Trydr5_23,awp_draw _ _ Trydr5_27,awp_draw _ _ Trydr5_36,awp_draw _ _ Trydr5_38,subAny,subA,subL,backSub,back,putBack,subBlk,Option.getD_some,List.map_cons,List.map_nil,Nat.not_lt_zero,Nat.sub_zero,Nat.add_zero,List.length_map,stB_boxA,splice_all,List.all_cons,List.all_nil,Bool.and_self,
  evx,evy,ofValue,ofCell,List.range,List.range.loop,Array.size,Nat.reduceAdd,Nat.reduceSub,Nat.reduceEqDiff,List.replicate,if_true,if_false,↓reduceIte,reduceCtorEq,elB,evParts,Int.reduceToNat,Int.reduceLE,Int.reduceLT,Int.reduceEq,Nat.reduceMul,Nat.reduceLeDiff,Nat.reduceLT,ty3,ty4,ty5,ty9,ty39,ty40,ty41,ty23,ty24,ty25,ty27,ty22,ty43,ty38,ty45,ty28]
      refine callK_ret _ _ _ _ (call_pure hu2 (fun _ => rfl) (fun _ => rfl)) (by first | exact ok_none _ _ | exact ok_nil _ _ | kernel_rfl) ?_
      simp -implicitDefEqProofs only [awp_draw _ _ Trydr5_23,awp_draw _ _ Trydr5_27,awp_draw _ _ Trydr5_36,awp_draw _ _ Trydr5_38,stB_boxA,splice_all,List.all_cons,List.all_nil,Bool.and_self,hw2,bsE_prow,wsucc i (by omega),
  evx,evy,ofValue,ofCell,List.range,List.range.loop,Array.size,Nat.reduceAdd,Nat.reduceSub,Nat.reduceEqDiff,List.replicate,if_true,if_false,↓reduceIte,reduceCtorEq,elB,evParts,Int.reduceToNat,Int.reduceLE,Int.reduceLT,Int.reduceEq,Nat.reduceMul,Nat.reduceLeDiff,Nat.reduceLT,ty3,ty4,ty5,ty9,ty39,ty40,ty41,ty23,ty24,ty25,ty27,ty22,ty43,ty38,ty45,ty28]
      refine ⟨⟨by omega,by omega⟩,⟨by simp,by omega⟩,by kernel_rfl,?_⟩
      refine back_intro hs (i + 1,stepB ⟨sets,fol,_⟩ c) ?_ ⟨by simp only; omega,hsuc.symm⟩ (by simp only; omega)
      rw [e]
      refine le_pk [0,1,2,3,9] rfl (by simp) (by simp) ?_ ?_
      ·simp [subBlk,subAny,subA,mkSub,idx,zero5,pcells,Prt.row,htk,catP,backSub,back]
      ·simp [wk,subAny,subA,subL,mkSub,idx]
     | false =>
      simp -implicitDefEqProofs only [awp_draw _ _ Trydr5_23,awp_draw _ _ Trydr5_27,awp_draw _ _ Trydr5_36,awp_draw _ _ Trydr5_38,subAny,subA,subL,backSub,back,putBack,subBlk,Option.getD_some,List.map_cons,List.map_nil,Nat.not_lt_zero,Nat.sub_zero,Nat.add_zero,List.length_map,stB_boxA,splice_all,List.all_cons,List.all_nil,Bool.and_self,hw2,bsE_prow,wsucc i (by omega),
  evx,evy,ofValue,ofCell,List.range,List.range.loop,Array.size,Nat.reduceAdd,Nat.reduceSub,Nat.reduceEqDiff,List.replicate,if_true,if_false,↓reduceIte,reduceCtorEq,elB,evParts,Int.reduceToNat,Int.reduceLE,Int.reduceLT,Int.reduceEq,Nat.reduceMul,Nat.reduceLeDiff,Nat.reduceLT,ty3,ty4,ty5,ty9,ty39,ty40,ty41,ty23,ty24,ty25,ty27,ty22,ty43,ty38,ty45,ty28]
      refine ⟨⟨by omega,by omega⟩,⟨by simp,by omega⟩,by kernel_rfl,?_⟩
      refine back_intro hs (i + 1,stepB ⟨sets,fol,_⟩ c) ?_ ⟨by simp only; omega,hsuc.symm⟩ (by simp only; omega)
      rw [e]
      refine le_pk [0,1,2,3,9] rfl (by simp) (by simp) ?_ ?_
      ·simp [subBlk,subAny,subA,mkSub,idx,zero5,pcells,Prt.row,htk,catP,backSub,back]
      ·simp [wk,subAny,subA,subL,mkSub,idx]
 ·obtain rfl : i = l.length := by omega
  obtain ⟨x,hx1,hx2,hx3⟩ := buildAt_end hr
  rw [← hb] at hx1 hx3
  have hsp : spotsL l = ⟨b.sets,x.null,x.first,x.last,b.fol⟩ := by unfold spotsL; rw [← hb]; simp [hx1]
  rw [hsp]
  have hcn := hI.cnt
  have hct := cnt1_le (l.take l.length)
  rw [List.length_take] at hct
  have hnf := hI.nf
  obtain ⟨sets,fol,stk⟩ := b
  simp only at hx1 hx3 hcn hct hnf ⊢
  subst hx1
  have l1 := inB_len hx3.fr hx3.fb
  have l2 := inB_len hx3.lr hx3.lb
  have hof1 := ok15 x.first (by omega)
  have hof2 := ok15 x.last (by omega)
  rw [setOf_set _ hx3.fr] at hof1
  rw [setOf_set _ hx3.lr] at hof2
  have hrowx : ([x].reverse.map Prt.row)[0]? = some [.bool x.null,.lst 1 (ints x.first),.lst 1 (ints x.last)] := rfl
  simp -implicitDefEqProofs only [awp_draw _ _ Trydr5_23,awp_draw _ _ Trydr5_27,awp_draw _ _ Trydr5_36,awp_draw _ _ Trydr5_38,lt_false hlt,hrowx,pcells,
  evx,evy,ofValue,ofCell,List.range,List.range.loop,Array.size,Nat.reduceAdd,Nat.reduceSub,Nat.reduceEqDiff,List.replicate,if_true,if_false,↓reduceIte,reduceCtorEq,elB,evParts,Int.reduceToNat,Int.reduceLE,Int.reduceLT,Int.reduceEq,Nat.reduceMul,Nat.reduceLeDiff,Nat.reduceLT,ty3,ty4,ty5,ty9,ty39,ty40,ty41,ty23,ty24,ty25,ty27,ty22,ty43,ty38,ty45,ty28]
  refine ⟨by omega,by omega,by omega,?_⟩
  refine callK_ret _ _ _ _ (call_pure hof1 (fun _ => rfl) (fun _ => rfl)) (by first | exact ok_none _ _ | exact ok_nil _ _ | kernel_rfl) ?_
  simp -implicitDefEqProofs only [awp_draw _ _ Trydr5_23,awp_draw _ _ Trydr5_27,awp_draw _ _ Trydr5_36,awp_draw _ _ Trydr5_38,hrowx,
  evx,evy,ofValue,ofCell,List.range,List.range.loop,Array.size,Nat.reduceAdd,Nat.reduceSub,Nat.reduceEqDiff,List.replicate,if_true,if_false,↓reduceIte,reduceCtorEq,elB,evParts,Int.reduceToNat,Int.reduceLE,Int.reduceLT,Int.reduceEq,Nat.reduceMul,Nat.reduceLeDiff,Nat.reduceLT,ty3,ty4,ty5,ty9,ty39,ty40,ty41,ty23,ty24,ty25,ty27,ty22,ty43,ty38,ty45,ty28]
  refine callK_ret _ _ _ _ (call_pure hof2 (fun _ => rfl) (fun _ => rfl)) (by first | exact ok_none _ _ | exact ok_nil _ _ | kernel_rfl) ?_
  simp -implicitDefEqProofs only [awp_draw _ _ Trydr5_23,awp_draw _ _ Trydr5_27,awp_draw _ _ Trydr5_36,awp_draw _ _ Trydr5_38,hrowx,stB_boxA,splice_all,List.all_cons,List.all_nil,Bool.and_self,zero5,
  evx,evy,ofValue,ofCell,List.range,List.range.loop,Array.size,Nat.reduceAdd,Nat.reduceSub,Nat.reduceEqDiff,List.replicate,if_true,if_false,↓reduceIte,reduceCtorEq,elB,evParts,Int.reduceToNat,Int.reduceLE,Int.reduceLT,Int.reduceEq,Nat.reduceMul,Nat.reduceLeDiff,Nat.reduceLT,ty3,ty4,ty5,ty9,ty39,ty40,ty41,ty23,ty24,ty25,ty27,ty22,ty43,ty38,ty45,ty28]
  refine ⟨by kernel_rfl,by kernel_rfl,by kernel_rfl,?_⟩
  refine le_pkfz [] [2,3] rfl (by simp) (by simp) (by simp) rfl ?_ ?_
  ·simp
  ·simp [wk,subAny,subA,subL,mkSub,idx,Spo.av,Spo.cells,rowsOf_len,hnf,List.take_of_length_le]
end Go.Abs
