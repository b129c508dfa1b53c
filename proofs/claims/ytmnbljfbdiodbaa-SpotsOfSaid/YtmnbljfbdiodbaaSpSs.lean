/- A rule's spots: the document's answer, whole. -/
import Derived.Test.YtmnbljfbdiodbaaTyTrys
import Derived.Test.YtmnbljfbdiodbaaDrTrys
import Derived.Test.YtmnbljfbdiodbaaSpRs
import Derived.Test.YtmnbljfbdiodbaaSpQs
namespace Go.Abs
open Go.Proofs
set_option linter.unusedVariables false
set_option linter.unusedSimpArgs false
set_option maxRecDepth 100000
set_option maxHeartbeats 8000000
def setsTo (l : List Cel) (i : Nat) : List (Nat → Bool) := ((l.take i).filter fun c => decide (c.op = 1)).map Cel.pset
theorem setsTo_succ {l : List Cel} {i : Nat} (h : i < l.length) : setsTo l (i + 1) = setsTo l i ++ (if l[i].op = 1 then [l[i].pset] else []) := by
 unfold setsTo
 rw [List.take_succ_eq_append_getElem h,List.filter_append,List.map_append]
 congr 1
 split <;> simp [*]
theorem setsTo_len (l : List Cel) (i : Nat) : (setsTo l i).length = cnt1 (l.take i) := by unfold setsTo cnt1; rw [List.length_map]
/-- The lists that follow, with those that are still to come. -/
def padF (N : Nat) (F : List (List Int)) : List (List Int) := F ++ List.replicate (N - F.length) []
theorem padF_len {N : Nat} {F : List (List Int)} (h : F.length ≤ N) : (padF N F).length = N := by
 unfold padF
 rw [List.length_append,List.length_replicate]
 omega
theorem padF_nil {N : Nat} (F : List (List Int)) (h : F.length < N) : padF N (F ++ [[]]) = padF N F := by
 unfold padF
 rw [List.length_append,List.append_assoc]
 congr 1
 have e : N - F.length = (N - (F.length + [([] : List Int)].length)) + 1 := by simp only [List.length_cons,List.length_nil]; omega
 rw [e,List.replicate_succ]
 rfl
theorem padF_link {N n : Nat} {to_ : List Int} : ∀ (fr : List Int) (F : List (List Int)),F.length = n → (∀ k ∈ fr,inB n k = true) → linkL (padF N F) fr to_ = padF N (linkL F fr to_)
 | [],F,_,_ => rfl
 | k :: fr,F,hF,hb => by
  obtain ⟨j,hj,hjn⟩ := inB_nat (hb k (by simp))
  have e1 : linkL (padF N F) (k :: fr) to_ = linkL ((padF N F).set k.toNat (setOf ((padF N F).getD k.toNat [] ++ to_))) fr to_ := rfl
  have e2 : linkL F (k :: fr) to_ = linkL (F.set k.toNat (setOf (F.getD k.toNat [] ++ to_))) fr to_ := rfl
  rw [e1,e2]
  have hj2 : k.toNat = j := by omega
  rw [hj2]
  have e3 : (padF N F).getD j [] = F.getD j [] := by
   unfold padF
   rw [List.getD_eq_getElem?_getD,List.getD_eq_getElem?_getD,List.getElem?_append_left (by omega)]
  have e4 : (padF N F).set j (setOf ((padF N F).getD j [] ++ to_)) = padF N (F.set j (setOf (F.getD j [] ++ to_))) := by
   rw [e3]
   unfold padF
   rw [List.set_append_left _ _ (by omega),List.length_set]
  rw [e4]
  exact padF_link fr _ (by rw [List.length_set]; exact hF) (fun q hq => hb q (List.mem_cons_of_mem _ hq))
theorem padF_all (F : List (List Int)) : padF F.length F = F := by
 unfold padF
 rw [Nat.sub_self]
 simp
theorem cnt1_mono (l : List Cel) {i j : Nat} (h : i ≤ j) : cnt1 (l.take i) ≤ cnt1 (l.take j) := by
 unfold cnt1
 have : (l.take i) <+: (l.take j) := List.take_prefix_take_left h
 exact ((this.sublist).filter _).length_le
theorem le_fol4 {n0 : Nat} {t : List AV} {b0 b1 b2 : Blk} {F : List (List Int)} : Le n0 ⟨t,[b0,b1,b2,.plain 1 (rowsOf F ++ [[.nils]])],[]⟩ ⟨t,[b0,b1,b2,.plain 1 (rowsOf (F ++ [[]]))],[]⟩ := by
 refine Le.trans (le_nilrows 3 1 1 _ rfl) (le_eq ?_)
 rw [List.map_append,fix_rows]
 simp [rowsOf,fixNil,ints]
def rcells (n a b : Nat) : List AV := [.ref a 4 0 n,.fv (.bool false),.fv .nils,.fv .nils,.ref b 1 0 n]
def qcells (n a b : Nat) (x : Prt) : List AV := [.ref a 4 0 n,.fv (.bool x.null),.fv (.lst 1 (ints x.first)),.fv (.lst 1 (ints x.last)),.ref b 1 0 n]
theorem ok9 (l : List Cel) (hk : ∀ c ∈ l,c.okk) (hr : rightB l = true) : Ok Try.prog 9 [.fv (.lst 5 (l.map Cel.row))] [] (.ret (spotsL l).av) [] := by
 have hl := (rightB_get hr).1
 obtain ⟨z,hz1,hz2,hz3⟩ := buildAt_end hr
 have hIe := buildAt_inv hr l.length (Nat.le_refl _)
 have hsp : spotsL l = ⟨(buildAt l l.length).sets,z.null,z.first,z.last,(buildAt l l.length).fol⟩ := by unfold spotsL; simp [hz1]
 have hlp := seg_lt (opd_seg hz2)
 have hN : (buildAt l l.length).sets.length = cnt1 (l.take l.length) := hIe.cnt
 have hNl := cnt1_le (l.take l.length)
 rw [List.take_length] at hNl
 have hse : (buildAt l l.length).sets = setsTo l l.length := hIe.sets
 have hfe : (buildAt l l.length).fol.length = cnt1 (l.take l.length) := by rw [hIe.nf,hN]
 rw [hsp]
 have hw0 : IntKind.wrap .i64 ((l.length : Int) - 1) = (l.length : Int) - 1 := wprd (by omega)
 have l1 := inB_len hz3.fr hz3.fb
 have l2 := inB_len hz3.lr hz3.lb
 have hem := ok19 l hl (opd_seg hz2)
 have hfi := ok21 l hl hz2
 have hla := ok22 l hl hz2
 have hof1 := ok20 z.first (by rw [List.take_length] at hN; omega)
 have hof2 := ok20 z.last (by rw [List.take_length] at hN; omega)
 rw [setOf_set _ hz3.fr] at hof1
 rw [setOf_set _ hz3.lr] at hof2
 refine ok_start (k := 121) (n0 := 0) (rs := [.cell 2 27]) mix Try.func9 rfl rfl rfl rfl rfl rfl rfl ?_
 simp -implicitDefEqProofs only [awp_draw _ _ Trydr9_7,awp_draw _ _ Trydr9_26,List.length_map,hw0,stB_boxA,splice_all,List.all_cons,List.all_nil,
  evx,evy,ofValue,ofCell,List.range,List.range.loop,Array.size,Nat.reduceAdd,Nat.reduceSub,Nat.reduceEqDiff,List.replicate,if_true,if_false,↓reduceIte,reduceCtorEq,elB,evParts,Int.reduceToNat,Int.reduceLE,Int.reduceLT,Int.reduceEq,Nat.reduceMul,Nat.reduceLeDiff,Nat.reduceLT,ty3,ty4,ty5,ty9,ty39,ty40,ty41,ty23,ty24,ty25,ty27,ty22,ty43]
 refine loop_rule (fun i : Nat => ⟨[.fv (.lst 5 (l.map Cel.row)),.any,.ptr 0 0 0 0,.ptr 1 0 0 0,.fv (.int .i64 ((l.length : Int) - 1)),.fv (.int .i64 i),.any,.any,.any,.any,.any,.any,.any,.any,.any,.any,.any,.any,.any,.any,.any,.any,.any,.any,.any,.any,.any,.any,.any,.any,.any,.any,.any,.any,.any,.any,.any,.any,.any,.any,.any,.any,.any,.any,.any,.any,.any,.any,.any,.any,.any,.any,.any,.any,.any,.any,.any,.any,.any,.any,.any,.any,.any,.any,.any,.any,.any,.any,.any,.any,.any,.any,.any,.any,.any,.any,.any,.any,.any,.any,.any,.any,.any,.any,.any,.any,.any,.any,.any,.any,.any,.any,.any,.any,.any,.any,.any,.any,.any,.any,.any,.any,.any,.any,.any,.any,.any,.any,.any,.any,.any,.any,.any,.any,.any,.any,.any,.any,.any,.any,.any,.any],
   [.box zero5,.box (rcells (cnt1 (l.take i)) 2 3),.plain 4 ((setsTo l i).map srow),.plain 1 (rowsOf (List.replicate (cnt1 (l.take i)) []))],[]⟩)
  (fun i => i ≤ l.length) (fun i => l.length - i) 0 ?_ (by omega) (fun i hi s hs => ?_)
 ·refine Le.trans (le_virt_box 1 4 0 _ rfl rfl) (Le.trans (le_virt_box 1 1 4 _ rfl rfl) ?_)
  exact le_eqwk (by simp [zero5,rcells,setsTo,cnt1,rowsOf]) (by simp [wk])
 have hct := cnt1_le (l.take i)
 rw [List.length_take] at hct
 have hslen := setsTo_len l i
 by_cases hlt : i < l.length
 ·have hc1 : ((i : Int) ≤ (l.length : Int) - 1) = True := by simp; omega
  have hrow := rows_at Cel.row l i hlt
  have hck := hk _ (List.getElem_mem hlt)
  have hss := setsTo_succ hlt
  have hcs := cnt1_take hlt
  generalize l[i] = c at hrow hck hss hcs
  have hpset := pset_row hck
  by_cases o : c.op = 1
  ·have f1 : (c.op = 1) = True := eq_true o
   rw [if_pos o] at hss hcs
   simp -implicitDefEqProofs only [awp_draw _ _ Trydr9_7,awp_draw _ _ Trydr9_26,hc1,hrow,Cel.row,f1,rcells,bsE_set,wsucc i (by omega),
  evx,evy,ofValue,ofCell,List.range,List.range.loop,Array.size,Nat.reduceAdd,Nat.reduceSub,Nat.reduceEqDiff,List.replicate,if_true,if_false,↓reduceIte,reduceCtorEq,elB,evParts,Int.reduceToNat,Int.reduceLE,Int.reduceLT,Int.reduceEq,Nat.reduceMul,Nat.reduceLeDiff,Nat.reduceLT,ty3,ty4,ty5,ty9,ty39,ty40,ty41,ty23,ty24,ty25,ty27,ty22,ty43]
   refine ⟨⟨by simp [hslen],by omega⟩,by kernel_rfl,by kernel_rfl,⟨by rw [rowsOf_len]; simp,by omega⟩,?_⟩
   have e1 : (setsTo l i ++ [c.pset]).map srow = (setsTo l i).map srow ++ [[.int .u64 c.a,.int .u64 c.b,.int .u64 c.c,.int .u64 c.d]] := by rw [List.map_append,List.map_cons,List.map_nil,hpset]
   refine back_intro hs (i + 1) (Le.trans (le_pk (t' := [.fv (.lst 5 (l.map Cel.row)),.any,.ptr 0 0 0 0,.ptr 1 0 0 0,.fv (.int .i64 ((l.length : Int) - 1)),.fv (.int .i64 ((i + 1 : Nat) : Int)),.any,.any,.any,.any,.any,.any,.any,.any,.any,.any,.any,.any,.any,.any,.any,.any,.any,.any,.any,.any,.any,.any,.any,.any,.any,.any,.any,.any,.any,.any,.any,.any,.any,.any,.any,.any,.any,.any,.any,.any,.any,.any,.any,.any,.any,.any,.any,.any,.any,.any,.any,.any,.any,.any,.any,.any,.any,.any,.any,.any,.any,.any,.any,.any,.any,.any,.any,.any,.any,.any,.any,.any,.any,.any,.any,.any,.any,.any,.any,.any,.any,.any,.any,.any,.any,.any,.any,.any,.any,.any,.any,.any,.any,.any,.any,.any,.any,.any,.any,.any,.any,.any,.any,.any,.any,.any,.any,.any,.any,.any,.any,.any,.any,.any,.any,.any])
    (h' := [.box zero5,.box (rcells (cnt1 (l.take i) + 1) 2 3),.plain 4 ((setsTo l i ++ [c.pset]).map srow),.plain 1 (rowsOf (List.replicate (cnt1 (l.take i)) []) ++ [[.nils]])]) [0,1,5,7] rfl (by simp) (by simp) ?_ ?_) (Le.trans le_fol4 (le_eq ?_))) (by omega) (by omega)
   ·rw [e1]
    simp [subBlk,subAny,subA,mkSub,idx,zero5,rcells,hslen,List.take_of_length_le,rowsOf_len]
   ·simp [wk,subAny,subA,subL,mkSub,idx]
   ·rw [hss,hcs,List.replicate_succ']
    rfl
  ·have f1 : (c.op = 1) = False := eq_false o
   rw [if_neg o] at hss hcs
   simp -implicitDefEqProofs only [awp_draw _ _ Trydr9_7,awp_draw _ _ Trydr9_26,hc1,hrow,Cel.row,f1,wsucc i (by omega),
  evx,evy,ofValue,ofCell,List.range,List.range.loop,Array.size,Nat.reduceAdd,Nat.reduceSub,Nat.reduceEqDiff,List.replicate,if_true,if_false,↓reduceIte,reduceCtorEq,elB,evParts,Int.reduceToNat,Int.reduceLE,Int.reduceLT,Int.reduceEq,Nat.reduceMul,Nat.reduceLeDiff,Nat.reduceLT,ty3,ty4,ty5,ty9,ty39,ty40,ty41,ty23,ty24,ty25,ty27,ty22,ty43]
   exact back_intro hs (i + 1) (le_eqwk (by rw [hss,hcs]; simp) (by simp [wk])) (by omega) (by omega)
 obtain rfl : i = l.length := by omega
 have hc1 : ((l.length : Int) ≤ (l.length : Int) - 1) = False := by simp; omega
 simp -implicitDefEqProofs only [awp_draw _ _ Trydr9_7,awp_draw _ _ Trydr9_26,hc1,
  evx,evy,ofValue,ofCell,List.range,List.range.loop,Array.size,Nat.reduceAdd,Nat.reduceSub,Nat.reduceEqDiff,List.replicate,if_true,if_false,↓reduceIte,reduceCtorEq,elB,evParts,Int.reduceToNat,Int.reduceLE,Int.reduceLT,Int.reduceEq,Nat.reduceMul,Nat.reduceLeDiff,Nat.reduceLT,ty3,ty4,ty5,ty9,ty39,ty40,ty41,ty23,ty24,ty25,ty27,ty22,ty43]
 refine callK_ret _ _ _ _ (call_pure (hem) (fun _ => rfl) (fun _ => rfl)) (ok_nil _ _) ?_
 simp -implicitDefEqProofs only [awp_draw _ _ Trydr9_7,awp_draw _ _ Trydr9_26,rcells,
  evx,evy,ofValue,ofCell,List.range,List.range.loop,Array.size,Nat.reduceAdd,Nat.reduceSub,Nat.reduceEqDiff,List.replicate,if_true,if_false,↓reduceIte,reduceCtorEq,elB,evParts,Int.reduceToNat,Int.reduceLE,Int.reduceLT,Int.reduceEq,Nat.reduceMul,Nat.reduceLeDiff,Nat.reduceLT,ty3,ty4,ty5,ty9,ty39,ty40,ty41,ty23,ty24,ty25,ty27,ty22,ty43]
 refine callK_ret _ _ _ _ (call_pure (hfi) (fun _ => rfl) (fun _ => rfl)) (ok_nil _ _) ?_
 simp -implicitDefEqProofs only [awp_draw _ _ Trydr9_7,awp_draw _ _ Trydr9_26,
  evx,evy,ofValue,ofCell,List.range,List.range.loop,Array.size,Nat.reduceAdd,Nat.reduceSub,Nat.reduceEqDiff,List.replicate,if_true,if_false,↓reduceIte,reduceCtorEq,elB,evParts,Int.reduceToNat,Int.reduceLE,Int.reduceLT,Int.reduceEq,Nat.reduceMul,Nat.reduceLeDiff,Nat.reduceLT,ty3,ty4,ty5,ty9,ty39,ty40,ty41,ty23,ty24,ty25,ty27,ty22,ty43]
 refine callK_ret _ _ _ _ (call_pure (hof1) (fun _ => rfl) (fun _ => rfl)) (ok_nil _ _) ?_
 simp -implicitDefEqProofs only [awp_draw _ _ Trydr9_7,awp_draw _ _ Trydr9_26,
  evx,evy,ofValue,ofCell,List.range,List.range.loop,Array.size,Nat.reduceAdd,Nat.reduceSub,Nat.reduceEqDiff,List.replicate,if_true,if_false,↓reduceIte,reduceCtorEq,elB,evParts,Int.reduceToNat,Int.reduceLE,Int.reduceLT,Int.reduceEq,Nat.reduceMul,Nat.reduceLeDiff,Nat.reduceLT,ty3,ty4,ty5,ty9,ty39,ty40,ty41,ty23,ty24,ty25,ty27,ty22,ty43]
 refine callK_ret _ _ _ _ (call_pure (hla) (fun _ => rfl) (fun _ => rfl)) (ok_nil _ _) ?_
 simp -implicitDefEqProofs only [awp_draw _ _ Trydr9_7,awp_draw _ _ Trydr9_26,
  evx,evy,ofValue,ofCell,List.range,List.range.loop,Array.size,Nat.reduceAdd,Nat.reduceSub,Nat.reduceEqDiff,List.replicate,if_true,if_false,↓reduceIte,reduceCtorEq,elB,evParts,Int.reduceToNat,Int.reduceLE,Int.reduceLT,Int.reduceEq,Nat.reduceMul,Nat.reduceLeDiff,Nat.reduceLT,ty3,ty4,ty5,ty9,ty39,ty40,ty41,ty23,ty24,ty25,ty27,ty22,ty43]
 refine callK_ret _ _ _ _ (call_pure (hof2) (fun _ => rfl) (fun _ => rfl)) (ok_nil _ _) ?_
 simp -implicitDefEqProofs only [awp_draw _ _ Trydr9_7,awp_draw _ _ Trydr9_26,
  evx,evy,ofValue,ofCell,List.range,List.range.loop,Array.size,Nat.reduceAdd,Nat.reduceSub,Nat.reduceEqDiff,List.replicate,if_true,if_false,↓reduceIte,reduceCtorEq,elB,evParts,Int.reduceToNat,Int.reduceLE,Int.reduceLT,Int.reduceEq,Nat.reduceMul,Nat.reduceLeDiff,Nat.reduceLT,ty3,ty4,ty5,ty9,ty39,ty40,ty41,ty23,ty24,ty25,ty27,ty22,ty43]
 clear hs hct hslen hlt hi hc1
 obtain ⟨N,hNd⟩ : ∃ N,N = cnt1 (l.take l.length) := ⟨_,rfl⟩
 rw [List.take_length] at hNd
 have hN60 : N ≤ 60 := by omega
 refine loop_rule (fun i : Nat => ⟨[.fv (.lst 5 (l.map Cel.row)),.any,.ptr 0 0 0 0,.ptr 1 0 0 0,.fv (.int .i64 ((l.length : Int) - 1)),.any,.fv (.int .i64 i),.any,.any,.any,.any,.any,.any,.any,.any,.any,.any,.any,.any,.any,.any,.any,.any,.any,.any,.any,.any,.any,.any,.any,.any,.any,.any,.any,.any,.any,.any,.any,.any,.any,.any,.any,.any,.any,.any,.any,.any,.any,.any,.any,.any,.any,.any,.any,.any,.any,.any,.any,.any,.any,.any,.any,.any,.any,.any,.any,.any,.any,.any,.any,.any,.any,.any,.any,.any,.any,.any,.any,.any,.any,.any,.any,.any,.any,.any,.any,.any,.any,.any,.any,.any,.any,.any,.any,.any,.any,.any,.any,.any,.any,.any,.any,.any,.any,.any,.any,.any,.any,.any,.any,.any,.any,.any,.any,.any,.any,.any,.any,.any,.any,.any,.any],
   [.box zero5,.box (qcells N 2 3 z),.plain 4 ((buildAt l l.length).sets.map srow),.plain 1 (rowsOf (padF N (buildAt l i).fol))],[]⟩)
  (fun i => i ≤ l.length) (fun i => l.length - i) 0 (le_eqwk ?_ (by simp [wk])) (by omega) (fun i hi s2 hs2 => ?_)
 ·rw [hse]
  simp [qcells,padF,buildAt,List.take_length,hNd]
 have hI := buildAt_inv hr i hi
 by_cases hlt : i < l.length
 ·have hc1 : ((i : Int) ≤ (l.length : Int) - 1) = True := by simp; omega
  have hrow := rows_at Cel.row l i hlt
  have hsuc := buildAt_succ hlt
  have hcases := stepB_cases hI hlt rfl
  have hcn := hI.cnt
  have hcm := cnt1_mono l (i := i) (j := l.length) hi
  have hcs1 := cnt1_take hlt
  have hcm1 := cnt1_mono l (i := i + 1) (j := l.length) (by omega)
  have hnf := hI.nf
  have hpr := hI.prt
  have hfo := hI.fol
  have hstk := hI.stk
  rw [List.take_length] at hcm hcm1
  have hwi : IntKind.wrap .i64 ((i : Int) - 1) = (i : Int) - 1 := wprd (by omega)
  generalize hb : buildAt l i = b at hsuc hcases hcn hnf hpr hfo hstk hI ⊢
  generalize hc : l[i] = c at hrow hsuc hcases hcs1
  rcases hcases with ⟨o,e⟩ | ⟨o,e⟩ | ⟨y,st,es,⟨o,e⟩ | ⟨o,e⟩⟩ | ⟨y,x,st,es,⟨o,e⟩ | ⟨o,e⟩⟩
  ·have f3 : (c.op = 3) = False := by simp [o]
   have f5 : (c.op = 5) = False := by simp [o]
   have f6 : (c.op = 6) = False := by simp [o]
   rw [if_pos o] at hcs1
   have hpad : padF N (stepB b c).fol = linkL (padF N b.fol) [] [] := by rw [e]; exact padF_nil _ (by omega)
   obtain ⟨fr,hfr⟩ : ∃ fr : List Int,fr = [] := ⟨_,rfl⟩
   obtain ⟨to_,hto⟩ : ∃ to_ : List Int,to_ = [] := ⟨_,rfl⟩
   have hfb : ∀ k ∈ fr,inB b.sets.length k = true := by rw [hfr]; simp
   have htb : ∀ k ∈ to_,inB b.sets.length k = true := by rw [hto]; simp
   have ly1 : to_.length ≤ b.sets.length := by rw [hto]; simp
   have ly2 : fr.length ≤ b.sets.length := by rw [hfr]; simp
   rw [show linkL (padF N b.fol) [] [] = linkL (padF N b.fol) fr to_ from by rw [hfr,hto]] at hpad
   simp -implicitDefEqProofs only [awp_draw _ _ Trydr9_7,awp_draw _ _ Trydr9_26,hc1,hrow,Cel.row,f3,f5,f6,
  evx,evy,ofValue,ofCell,List.range,List.range.loop,Array.size,Nat.reduceAdd,Nat.reduceSub,Nat.reduceEqDiff,List.replicate,if_true,if_false,↓reduceIte,reduceCtorEq,elB,evParts,Int.reduceToNat,Int.reduceLE,Int.reduceLT,Int.reduceEq,Nat.reduceMul,Nat.reduceLeDiff,Nat.reduceLT,ty3,ty4,ty5,ty9,ty39,ty40,ty41,ty23,ty24,ty25,ty27,ty22,ty43]
   have hil := ints_length fr
   refine loop_rule (fun k : Nat => ⟨[.fv (.lst 5 (l.map Cel.row)),.any,.ptr 0 0 0 0,.ptr 1 0 0 0,.fv (.int .i64 ((l.length : Int) - 1)),.any,.fv (.int .i64 i),.fv (.lst 1 (ints fr)),.fv (.lst 1 (ints to_)),.fv (.int .i64 k),.any,.any,.any,.any,.any,.any,.any,.any,.any,.any,.any,.any,.any,.any,.any,.any,.any,.any,.any,.any,.any,.any,.any,.any,.any,.any,.any,.any,.any,.any,.any,.any,.any,.any,.any,.any,.any,.any,.any,.any,.any,.any,.any,.any,.any,.any,.any,.any,.any,.any,.any,.any,.any,.any,.any,.any,.any,.any,.any,.any,.any,.any,.any,.any,.any,.any,.any,.any,.any,.any,.any,.any,.any,.any,.any,.any,.any,.any,.any,.any,.any,.any,.any,.any,.any,.any,.any,.any,.any,.any,.any,.any,.any,.any,.any,.any,.any,.any,.any,.any,.any,.any,.any,.any,.any,.any,.any,.any,.any,.any,.any,.any],
     [.box zero5,.box (qcells N 2 3 z),.plain 4 ((buildAt l l.length).sets.map srow),.plain 1 (rowsOf (linkL (padF N b.fol) (fr.take k) to_))],[]⟩)
    (fun k => k ≤ fr.length) (fun k => fr.length - k) 0 (Le.trans (le_nilt 7 1 rfl) (Le.trans (le_nilt 8 1 rfl) (le_eqwk rfl (by simp [wk,hfr,hto,ints])))) (by omega) (fun k hk3 s3 hs3 => ?_)
   have hFI : FI N (padF N b.fol) := fun f hf => by
    unfold padF at hf
    rcases List.mem_append.1 hf with hf | hf
    ·exact ⟨(hfo f hf).1,fun j hj => inB_up ((hfo f hf).2 j hj) (by omega)⟩
    ·rw [List.mem_replicate] at hf
     rw [hf.2]
     exact ⟨.nil,by simp⟩
   have hplen := padF_len (N := N) (F := b.fol) (by omega)
   obtain ⟨hJ,hJl⟩ := FI.link (n := N) (to_ := to_) (fun j hj => inB_up (htb j hj) (by omega)) (fr.take k) _ hFI
   by_cases hkl : k < fr.length
   ·have hrk := ints_get fr k hkl
    obtain ⟨j,hj,hjn⟩ := inB_nat (hfb _ (List.getElem_mem hkl))
    have hts := List.take_succ_eq_append_getElem hkl
    rw [hj] at hrk hts
    have hsn := linkL_snoc (padF N b.fol) (fr.take k) (j : Int) to_
    rw [← hts,Int.toNat_natCast] at hsn
    generalize linkL (padF N b.fol) (fr.take k) to_ = G at hJ hJl hsn ⊢
    have hjG : j < G.length := by omega
    have hGr := rowsAt hjG
    have hGd : G.getD j [] = G[j] := by rw [List.getD_eq_getElem?_getD,List.getElem?_eq_getElem hjG]; rfl
    rw [hGd] at hsn
    have hJj := hJ _ (List.getElem_mem hjG)
    have hgl := inB_len hJj.1 hJj.2
    generalize G[j] = g at hGr hsn hJj hgl
    have hun := ok24 g to_ (by omega) (by omega)
    have hrs := rowsOf_set G j (setOf (g ++ to_))
    have hjN : j < N := by omega
    simp -implicitDefEqProofs only [awp_draw _ _ Trydr9_7,awp_draw _ _ Trydr9_26,hil,lt_true hkl,hrk,qcells,hGr,lt_true hjN,lt_true hjG,
  evx,evy,ofValue,ofCell,List.range,List.range.loop,Array.size,Nat.reduceAdd,Nat.reduceSub,Nat.reduceEqDiff,List.replicate,if_true,if_false,↓reduceIte,reduceCtorEq,elB,evParts,Int.reduceToNat,Int.reduceLE,Int.reduceLT,Int.reduceEq,Nat.reduceMul,Nat.reduceLeDiff,Nat.reduceLT,ty3,ty4,ty5,ty9,ty39,ty40,ty41,ty23,ty24,ty25,ty27,ty22,ty43]
    refine callK_ret _ _ _ _ (call_pure (hun) (fun _ => rfl) (fun _ => rfl)) (ok_nil _ _) ?_
    simp -implicitDefEqProofs only [awp_draw _ _ Trydr9_7,awp_draw _ _ Trydr9_26,rowsOf_len,lt_true hjN,lt_true hjG,hGr,hrs,wsucc k (by omega),
  evx,evy,ofValue,ofCell,List.range,List.range.loop,Array.size,Nat.reduceAdd,Nat.reduceSub,Nat.reduceEqDiff,List.replicate,if_true,if_false,↓reduceIte,reduceCtorEq,elB,evParts,Int.reduceToNat,Int.reduceLE,Int.reduceLT,Int.reduceEq,Nat.reduceMul,Nat.reduceLeDiff,Nat.reduceLT,ty3,ty4,ty5,ty9,ty39,ty40,ty41,ty23,ty24,ty25,ty27,ty22,ty43]
    refine ⟨by kernel_rfl,?_⟩
    exact back_intro hs3 (k + 1) (le_eqwk (by rw [hsn]; try rfl) (by simp [wk])) (by omega) (by omega)
   ·obtain rfl : k = fr.length := by omega
    rw [List.take_length,← hpad]
    simp -implicitDefEqProofs only [awp_draw _ _ Trydr9_7,awp_draw _ _ Trydr9_26,hil,lt_false hkl,wsucc i (by omega),
  evx,evy,ofValue,ofCell,List.range,List.range.loop,Array.size,Nat.reduceAdd,Nat.reduceSub,Nat.reduceEqDiff,List.replicate,if_true,if_false,↓reduceIte,reduceCtorEq,elB,evParts,Int.reduceToNat,Int.reduceLE,Int.reduceLT,Int.reduceEq,Nat.reduceMul,Nat.reduceLeDiff,Nat.reduceLT,ty3,ty4,ty5,ty9,ty39,ty40,ty41,ty23,ty24,ty25,ty27,ty22,ty43]
    exact back_intro hs2 (i + 1) (le_eqwk (by rw [hsuc]) (by simp [wk])) (by omega) (by omega)
  ·have f3 : (c.op = 3) = False := by simp [o]
   have f5 : (c.op = 5) = False := by simp [o]
   have f6 : (c.op = 6) = False := by simp [o]
   have hpad : padF N (stepB b c).fol = linkL (padF N b.fol) [] [] := by rw [e]; rfl
   obtain ⟨fr,hfr⟩ : ∃ fr : List Int,fr = [] := ⟨_,rfl⟩
   obtain ⟨to_,hto⟩ : ∃ to_ : List Int,to_ = [] := ⟨_,rfl⟩
   have hfb : ∀ k ∈ fr,inB b.sets.length k = true := by rw [hfr]; simp
   have htb : ∀ k ∈ to_,inB b.sets.length k = true := by rw [hto]; simp
   have ly1 : to_.length ≤ b.sets.length := by rw [hto]; simp
   have ly2 : fr.length ≤ b.sets.length := by rw [hfr]; simp
   rw [show linkL (padF N b.fol) [] [] = linkL (padF N b.fol) fr to_ from by rw [hfr,hto]] at hpad
   simp -implicitDefEqProofs only [awp_draw _ _ Trydr9_7,awp_draw _ _ Trydr9_26,hc1,hrow,Cel.row,f3,f5,f6,
  evx,evy,ofValue,ofCell,List.range,List.range.loop,Array.size,Nat.reduceAdd,Nat.reduceSub,Nat.reduceEqDiff,List.replicate,if_true,if_false,↓reduceIte,reduceCtorEq,elB,evParts,Int.reduceToNat,Int.reduceLE,Int.reduceLT,Int.reduceEq,Nat.reduceMul,Nat.reduceLeDiff,Nat.reduceLT,ty3,ty4,ty5,ty9,ty39,ty40,ty41,ty23,ty24,ty25,ty27,ty22,ty43]
   have hil := ints_length fr
   refine loop_rule (fun k : Nat => ⟨[.fv (.lst 5 (l.map Cel.row)),.any,.ptr 0 0 0 0,.ptr 1 0 0 0,.fv (.int .i64 ((l.length : Int) - 1)),.any,.fv (.int .i64 i),.fv (.lst 1 (ints fr)),.fv (.lst 1 (ints to_)),.fv (.int .i64 k),.any,.any,.any,.any,.any,.any,.any,.any,.any,.any,.any,.any,.any,.any,.any,.any,.any,.any,.any,.any,.any,.any,.any,.any,.any,.any,.any,.any,.any,.any,.any,.any,.any,.any,.any,.any,.any,.any,.any,.any,.any,.any,.any,.any,.any,.any,.any,.any,.any,.any,.any,.any,.any,.any,.any,.any,.any,.any,.any,.any,.any,.any,.any,.any,.any,.any,.any,.any,.any,.any,.any,.any,.any,.any,.any,.any,.any,.any,.any,.any,.any,.any,.any,.any,.any,.any,.any,.any,.any,.any,.any,.any,.any,.any,.any,.any,.any,.any,.any,.any,.any,.any,.any,.any,.any,.any,.any,.any,.any,.any,.any,.any],
     [.box zero5,.box (qcells N 2 3 z),.plain 4 ((buildAt l l.length).sets.map srow),.plain 1 (rowsOf (linkL (padF N b.fol) (fr.take k) to_))],[]⟩)
    (fun k => k ≤ fr.length) (fun k => fr.length - k) 0 (Le.trans (le_nilt 7 1 rfl) (Le.trans (le_nilt 8 1 rfl) (le_eqwk rfl (by simp [wk,hfr,hto,ints])))) (by omega) (fun k hk3 s3 hs3 => ?_)
   have hFI : FI N (padF N b.fol) := fun f hf => by
    unfold padF at hf
    rcases List.mem_append.1 hf with hf | hf
    ·exact ⟨(hfo f hf).1,fun j hj => inB_up ((hfo f hf).2 j hj) (by omega)⟩
    ·rw [List.mem_replicate] at hf
     rw [hf.2]
     exact ⟨.nil,by simp⟩
   have hplen := padF_len (N := N) (F := b.fol) (by omega)
   obtain ⟨hJ,hJl⟩ := FI.link (n := N) (to_ := to_) (fun j hj => inB_up (htb j hj) (by omega)) (fr.take k) _ hFI
   by_cases hkl : k < fr.length
   ·have hrk := ints_get fr k hkl
    obtain ⟨j,hj,hjn⟩ := inB_nat (hfb _ (List.getElem_mem hkl))
    have hts := List.take_succ_eq_append_getElem hkl
    rw [hj] at hrk hts
    have hsn := linkL_snoc (padF N b.fol) (fr.take k) (j : Int) to_
    rw [← hts,Int.toNat_natCast] at hsn
    generalize linkL (padF N b.fol) (fr.take k) to_ = G at hJ hJl hsn ⊢
    have hjG : j < G.length := by omega
    have hGr := rowsAt hjG
    have hGd : G.getD j [] = G[j] := by rw [List.getD_eq_getElem?_getD,List.getElem?_eq_getElem hjG]; rfl
    rw [hGd] at hsn
    have hJj := hJ _ (List.getElem_mem hjG)
    have hgl := inB_len hJj.1 hJj.2
    generalize G[j] = g at hGr hsn hJj hgl
    have hun := ok24 g to_ (by omega) (by omega)
    have hrs := rowsOf_set G j (setOf (g ++ to_))
    have hjN : j < N := by omega
    simp -implicitDefEqProofs only [awp_draw _ _ Trydr9_7,awp_draw _ _ Trydr9_26,hil,lt_true hkl,hrk,qcells,hGr,lt_true hjN,lt_true hjG,
  evx,evy,ofValue,ofCell,List.range,List.range.loop,Array.size,Nat.reduceAdd,Nat.reduceSub,Nat.reduceEqDiff,List.replicate,if_true,if_false,↓reduceIte,reduceCtorEq,elB,evParts,Int.reduceToNat,Int.reduceLE,Int.reduceLT,Int.reduceEq,Nat.reduceMul,Nat.reduceLeDiff,Nat.reduceLT,ty3,ty4,ty5,ty9,ty39,ty40,ty41,ty23,ty24,ty25,ty27,ty22,ty43]
    refine callK_ret _ _ _ _ (call_pure (hun) (fun _ => rfl) (fun _ => rfl)) (ok_nil _ _) ?_
    simp -implicitDefEqProofs only [awp_draw _ _ Trydr9_7,awp_draw _ _ Trydr9_26,rowsOf_len,lt_true hjN,lt_true hjG,hGr,hrs,wsucc k (by omega),
  evx,evy,ofValue,ofCell,List.range,List.range.loop,Array.size,Nat.reduceAdd,Nat.reduceSub,Nat.reduceEqDiff,List.replicate,if_true,if_false,↓reduceIte,reduceCtorEq,elB,evParts,Int.reduceToNat,Int.reduceLE,Int.reduceLT,Int.reduceEq,Nat.reduceMul,Nat.reduceLeDiff,Nat.reduceLT,ty3,ty4,ty5,ty9,ty39,ty40,ty41,ty23,ty24,ty25,ty27,ty22,ty43]
    refine ⟨by kernel_rfl,?_⟩
    exact back_intro hs3 (k + 1) (le_eqwk (by rw [hsn]; try rfl) (by simp [wk])) (by omega) (by omega)
   ·obtain rfl : k = fr.length := by omega
    rw [List.take_length,← hpad]
    simp -implicitDefEqProofs only [awp_draw _ _ Trydr9_7,awp_draw _ _ Trydr9_26,hil,lt_false hkl,wsucc i (by omega),
  evx,evy,ofValue,ofCell,List.range,List.range.loop,Array.size,Nat.reduceAdd,Nat.reduceSub,Nat.reduceEqDiff,List.replicate,if_true,if_false,↓reduceIte,reduceCtorEq,elB,evParts,Int.reduceToNat,Int.reduceLE,Int.reduceLT,Int.reduceEq,Nat.reduceMul,Nat.reduceLeDiff,Nat.reduceLT,ty3,ty4,ty5,ty9,ty39,ty40,ty41,ty23,ty24,ty25,ty27,ty22,ty43]
    exact back_intro hs2 (i + 1) (le_eqwk (by rw [hsuc]) (by simp [wk])) (by omega) (by omega)
  ·have f3 : (c.op = 3) = False := by simp [o]
   have f5 : (c.op = 5) = False := by simp [o]
   have f6 : (c.op = 6) = False := by simp [o]
   have hpad : padF N (stepB b c).fol = linkL (padF N b.fol) [] [] := by rw [e]; rfl
   obtain ⟨fr,hfr⟩ : ∃ fr : List Int,fr = [] := ⟨_,rfl⟩
   obtain ⟨to_,hto⟩ : ∃ to_ : List Int,to_ = [] := ⟨_,rfl⟩
   have hfb : ∀ k ∈ fr,inB b.sets.length k = true := by rw [hfr]; simp
   have htb : ∀ k ∈ to_,inB b.sets.length k = true := by rw [hto]; simp
   have ly1 : to_.length ≤ b.sets.length := by rw [hto]; simp
   have ly2 : fr.length ≤ b.sets.length := by rw [hfr]; simp
   rw [show linkL (padF N b.fol) [] [] = linkL (padF N b.fol) fr to_ from by rw [hfr,hto]] at hpad
   simp -implicitDefEqProofs only [awp_draw _ _ Trydr9_7,awp_draw _ _ Trydr9_26,hc1,hrow,Cel.row,f3,f5,f6,
  evx,evy,ofValue,ofCell,List.range,List.range.loop,Array.size,Nat.reduceAdd,Nat.reduceSub,Nat.reduceEqDiff,List.replicate,if_true,if_false,↓reduceIte,reduceCtorEq,elB,evParts,Int.reduceToNat,Int.reduceLE,Int.reduceLT,Int.reduceEq,Nat.reduceMul,Nat.reduceLeDiff,Nat.reduceLT,ty3,ty4,ty5,ty9,ty39,ty40,ty41,ty23,ty24,ty25,ty27,ty22,ty43]
   have hil := ints_length fr
   refine loop_rule (fun k : Nat => ⟨[.fv (.lst 5 (l.map Cel.row)),.any,.ptr 0 0 0 0,.ptr 1 0 0 0,.fv (.int .i64 ((l.length : Int) - 1)),.any,.fv (.int .i64 i),.fv (.lst 1 (ints fr)),.fv (.lst 1 (ints to_)),.fv (.int .i64 k),.any,.any,.any,.any,.any,.any,.any,.any,.any,.any,.any,.any,.any,.any,.any,.any,.any,.any,.any,.any,.any,.any,.any,.any,.any,.any,.any,.any,.any,.any,.any,.any,.any,.any,.any,.any,.any,.any,.any,.any,.any,.any,.any,.any,.any,.any,.any,.any,.any,.any,.any,.any,.any,.any,.any,.any,.any,.any,.any,.any,.any,.any,.any,.any,.any,.any,.any,.any,.any,.any,.any,.any,.any,.any,.any,.any,.any,.any,.any,.any,.any,.any,.any,.any,.any,.any,.any,.any,.any,.any,.any,.any,.any,.any,.any,.any,.any,.any,.any,.any,.any,.any,.any,.any,.any,.any,.any,.any,.any,.any,.any,.any],
     [.box zero5,.box (qcells N 2 3 z),.plain 4 ((buildAt l l.length).sets.map srow),.plain 1 (rowsOf (linkL (padF N b.fol) (fr.take k) to_))],[]⟩)
    (fun k => k ≤ fr.length) (fun k => fr.length - k) 0 (Le.trans (le_nilt 7 1 rfl) (Le.trans (le_nilt 8 1 rfl) (le_eqwk rfl (by simp [wk,hfr,hto,ints])))) (by omega) (fun k hk3 s3 hs3 => ?_)
   have hFI : FI N (padF N b.fol) := fun f hf => by
    unfold padF at hf
    rcases List.mem_append.1 hf with hf | hf
    ·exact ⟨(hfo f hf).1,fun j hj => inB_up ((hfo f hf).2 j hj) (by omega)⟩
    ·rw [List.mem_replicate] at hf
     rw [hf.2]
     exact ⟨.nil,by simp⟩
   have hplen := padF_len (N := N) (F := b.fol) (by omega)
   obtain ⟨hJ,hJl⟩ := FI.link (n := N) (to_ := to_) (fun j hj => inB_up (htb j hj) (by omega)) (fr.take k) _ hFI
   by_cases hkl : k < fr.length
   ·have hrk := ints_get fr k hkl
    obtain ⟨j,hj,hjn⟩ := inB_nat (hfb _ (List.getElem_mem hkl))
    have hts := List.take_succ_eq_append_getElem hkl
    rw [hj] at hrk hts
    have hsn := linkL_snoc (padF N b.fol) (fr.take k) (j : Int) to_
    rw [← hts,Int.toNat_natCast] at hsn
    generalize linkL (padF N b.fol) (fr.take k) to_ = G at hJ hJl hsn ⊢
    have hjG : j < G.length := by omega
    have hGr := rowsAt hjG
    have hGd : G.getD j [] = G[j] := by rw [List.getD_eq_getElem?_getD,List.getElem?_eq_getElem hjG]; rfl
    rw [hGd] at hsn
    have hJj := hJ _ (List.getElem_mem hjG)
    have hgl := inB_len hJj.1 hJj.2
    generalize G[j] = g at hGr hsn hJj hgl
    have hun := ok24 g to_ (by omega) (by omega)
    have hrs := rowsOf_set G j (setOf (g ++ to_))
    have hjN : j < N := by omega
    simp -implicitDefEqProofs only [awp_draw _ _ Trydr9_7,awp_draw _ _ Trydr9_26,hil,lt_true hkl,hrk,qcells,hGr,lt_true hjN,lt_true hjG,
  evx,evy,ofValue,ofCell,List.range,List.range.loop,Array.size,Nat.reduceAdd,Nat.reduceSub,Nat.reduceEqDiff,List.replicate,if_true,if_false,↓reduceIte,reduceCtorEq,elB,evParts,Int.reduceToNat,Int.reduceLE,Int.reduceLT,Int.reduceEq,Nat.reduceMul,Nat.reduceLeDiff,Nat.reduceLT,ty3,ty4,ty5,ty9,ty39,ty40,ty41,ty23,ty24,ty25,ty27,ty22,ty43]
    refine callK_ret _ _ _ _ (call_pure (hun) (fun _ => rfl) (fun _ => rfl)) (ok_nil _ _) ?_
    simp -implicitDefEqProofs only [awp_draw _ _ Trydr9_7,awp_draw _ _ Trydr9_26,rowsOf_len,lt_true hjN,lt_true hjG,hGr,hrs,wsucc k (by omega),
  evx,evy,ofValue,ofCell,List.range,List.range.loop,Array.size,Nat.reduceAdd,Nat.reduceSub,Nat.reduceEqDiff,List.replicate,if_true,if_false,↓reduceIte,reduceCtorEq,elB,evParts,Int.reduceToNat,Int.reduceLE,Int.reduceLT,Int.reduceEq,Nat.reduceMul,Nat.reduceLeDiff,Nat.reduceLT,ty3,ty4,ty5,ty9,ty39,ty40,ty41,ty23,ty24,ty25,ty27,ty22,ty43]
    refine ⟨by kernel_rfl,?_⟩
    exact back_intro hs3 (k + 1) (le_eqwk (by rw [hsn]; try rfl) (by simp [wk])) (by omega) (by omega)
   ·obtain rfl : k = fr.length := by omega
    rw [List.take_length,← hpad]
    simp -implicitDefEqProofs only [awp_draw _ _ Trydr9_7,awp_draw _ _ Trydr9_26,hil,lt_false hkl,wsucc i (by omega),
  evx,evy,ofValue,ofCell,List.range,List.range.loop,Array.size,Nat.reduceAdd,Nat.reduceSub,Nat.reduceEqDiff,List.replicate,if_true,if_false,↓reduceIte,reduceCtorEq,elB,evParts,Int.reduceToNat,Int.reduceLE,Int.reduceLT,Int.reduceEq,Nat.reduceMul,Nat.reduceLeDiff,Nat.reduceLT,ty3,ty4,ty5,ty9,ty39,ty40,ty41,ty23,ty24,ty25,ty27,ty22,ty43]
    exact back_intro hs2 (i + 1) (le_eqwk (by rw [hsuc]) (by simp [wk])) (by omega) (by omega)
  ·rw [es] at hstk
   obtain ⟨m,ho,hstk⟩ := hstk
   have hy := hpr y (by rw [es]; simp)
   have ly1 := inB_len hy.fr hy.fb
   have ly2 := inB_len hy.lr hy.lb
   have hf1 := ok21 l hl ho
   have hl1 := ok22 l hl ho
   have f3 : (c.op = 3) = False := by simp; omega
   have hpad : padF N (stepB b c).fol = linkL (padF N b.fol) y.last y.first := by rw [e]; exact (padF_link (n := b.sets.length) _ _ hnf hy.lb).symm
   obtain ⟨fr,hfr⟩ : ∃ fr,fr = y.last := ⟨_,rfl⟩
   obtain ⟨to_,hto⟩ : ∃ to_,to_ = y.first := ⟨_,rfl⟩
   have hfb := hy.lb
   have htb := hy.fb
   rw [← hfr] at hl1 hpad hfb ly2
   rw [← hto] at hf1 hpad htb ly1
   rcases o with o | o
   ·have f5 : (c.op = 5) = True := eq_true o
    simp -implicitDefEqProofs only [awp_draw _ _ Trydr9_7,awp_draw _ _ Trydr9_26,hc1,hrow,Cel.row,f3,f5,hwi,
  evx,evy,ofValue,ofCell,List.range,List.range.loop,Array.size,Nat.reduceAdd,Nat.reduceSub,Nat.reduceEqDiff,List.replicate,if_true,if_false,↓reduceIte,reduceCtorEq,elB,evParts,Int.reduceToNat,Int.reduceLE,Int.reduceLT,Int.reduceEq,Nat.reduceMul,Nat.reduceLeDiff,Nat.reduceLT,ty3,ty4,ty5,ty9,ty39,ty40,ty41,ty23,ty24,ty25,ty27,ty22,ty43]
    refine callK_ret _ _ _ _ (call_pure (hl1) (fun _ => rfl) (fun _ => rfl)) (ok_nil _ _) ?_
    simp -implicitDefEqProofs only [awp_draw _ _ Trydr9_7,awp_draw _ _ Trydr9_26,hwi,
  evx,evy,ofValue,ofCell,List.range,List.range.loop,Array.size,Nat.reduceAdd,Nat.reduceSub,Nat.reduceEqDiff,List.replicate,if_true,if_false,↓reduceIte,reduceCtorEq,elB,evParts,Int.reduceToNat,Int.reduceLE,Int.reduceLT,Int.reduceEq,Nat.reduceMul,Nat.reduceLeDiff,Nat.reduceLT,ty3,ty4,ty5,ty9,ty39,ty40,ty41,ty23,ty24,ty25,ty27,ty22,ty43]
    refine callK_ret _ _ _ _ (call_pure (hf1) (fun _ => rfl) (fun _ => rfl)) (ok_nil _ _) ?_
    simp -implicitDefEqProofs only [awp_draw _ _ Trydr9_7,awp_draw _ _ Trydr9_26,
  evx,evy,ofValue,ofCell,List.range,List.range.loop,Array.size,Nat.reduceAdd,Nat.reduceSub,Nat.reduceEqDiff,List.replicate,if_true,if_false,↓reduceIte,reduceCtorEq,elB,evParts,Int.reduceToNat,Int.reduceLE,Int.reduceLT,Int.reduceEq,Nat.reduceMul,Nat.reduceLeDiff,Nat.reduceLT,ty3,ty4,ty5,ty9,ty39,ty40,ty41,ty23,ty24,ty25,ty27,ty22,ty43]
    have hil := ints_length fr
    refine loop_rule (fun k : Nat => ⟨[.fv (.lst 5 (l.map Cel.row)),.any,.ptr 0 0 0 0,.ptr 1 0 0 0,.fv (.int .i64 ((l.length : Int) - 1)),.any,.fv (.int .i64 i),.fv (.lst 1 (ints fr)),.fv (.lst 1 (ints to_)),.fv (.int .i64 k),.any,.any,.any,.any,.any,.any,.any,.any,.any,.any,.any,.any,.any,.any,.any,.any,.any,.any,.any,.any,.any,.any,.any,.any,.any,.any,.any,.any,.any,.any,.any,.any,.any,.any,.any,.any,.any,.any,.any,.any,.any,.any,.any,.any,.any,.any,.any,.any,.any,.any,.any,.any,.any,.any,.any,.any,.any,.any,.any,.any,.any,.any,.any,.any,.any,.any,.any,.any,.any,.any,.any,.any,.any,.any,.any,.any,.any,.any,.any,.any,.any,.any,.any,.any,.any,.any,.any,.any,.any,.any,.any,.any,.any,.any,.any,.any,.any,.any,.any,.any,.any,.any,.any,.any,.any,.any,.any,.any,.any,.any,.any,.any],
      [.box zero5,.box (qcells N 2 3 z),.plain 4 ((buildAt l l.length).sets.map srow),.plain 1 (rowsOf (linkL (padF N b.fol) (fr.take k) to_))],[]⟩)
     (fun k => k ≤ fr.length) (fun k => fr.length - k) 0 (le_eqwk rfl (by simp [wk])) (by omega) (fun k hk3 s3 hs3 => ?_)
    have hFI : FI N (padF N b.fol) := fun f hf => by
     unfold padF at hf
     rcases List.mem_append.1 hf with hf | hf
     ·exact ⟨(hfo f hf).1,fun j hj => inB_up ((hfo f hf).2 j hj) (by omega)⟩
     ·rw [List.mem_replicate] at hf
      rw [hf.2]
      exact ⟨.nil,by simp⟩
    have hplen := padF_len (N := N) (F := b.fol) (by omega)
    obtain ⟨hJ,hJl⟩ := FI.link (n := N) (to_ := to_) (fun j hj => inB_up (htb j hj) (by omega)) (fr.take k) _ hFI
    by_cases hkl : k < fr.length
    ·have hrk := ints_get fr k hkl
     obtain ⟨j,hj,hjn⟩ := inB_nat (hfb _ (List.getElem_mem hkl))
     have hts := List.take_succ_eq_append_getElem hkl
     rw [hj] at hrk hts
     have hsn := linkL_snoc (padF N b.fol) (fr.take k) (j : Int) to_
     rw [← hts,Int.toNat_natCast] at hsn
     generalize linkL (padF N b.fol) (fr.take k) to_ = G at hJ hJl hsn ⊢
     have hjG : j < G.length := by omega
     have hGr := rowsAt hjG
     have hGd : G.getD j [] = G[j] := by rw [List.getD_eq_getElem?_getD,List.getElem?_eq_getElem hjG]; rfl
     rw [hGd] at hsn
     have hJj := hJ _ (List.getElem_mem hjG)
     have hgl := inB_len hJj.1 hJj.2
     generalize G[j] = g at hGr hsn hJj hgl
     have hun := ok24 g to_ (by omega) (by omega)
     have hrs := rowsOf_set G j (setOf (g ++ to_))
     have hjN : j < N := by omega
     simp -implicitDefEqProofs only [awp_draw _ _ Trydr9_7,awp_draw _ _ Trydr9_26,hil,lt_true hkl,hrk,qcells,hGr,lt_true hjN,lt_true hjG,
  evx,evy,ofValue,ofCell,List.range,List.range.loop,Array.size,Nat.reduceAdd,Nat.reduceSub,Nat.reduceEqDiff,List.replicate,if_true,if_false,↓reduceIte,reduceCtorEq,elB,evParts,Int.reduceToNat,Int.reduceLE,Int.reduceLT,Int.reduceEq,Nat.reduceMul,Nat.reduceLeDiff,Nat.reduceLT,ty3,ty4,ty5,ty9,ty39,ty40,ty41,ty23,ty24,ty25,ty27,ty22,ty43]
     refine callK_ret _ _ _ _ (call_pure (hun) (fun _ => rfl) (fun _ => rfl)) (ok_nil _ _) ?_
     simp -implicitDefEqProofs only [awp_draw _ _ Trydr9_7,awp_draw _ _ Trydr9_26,rowsOf_len,lt_true hjN,lt_true hjG,hGr,hrs,wsucc k (by omega),
  evx,evy,ofValue,ofCell,List.range,List.range.loop,Array.size,Nat.reduceAdd,Nat.reduceSub,Nat.reduceEqDiff,List.replicate,if_true,if_false,↓reduceIte,reduceCtorEq,elB,evParts,Int.reduceToNat,Int.reduceLE,Int.reduceLT,Int.reduceEq,Nat.reduceMul,Nat.reduceLeDiff,Nat.reduceLT,ty3,ty4,ty5,ty9,ty39,ty40,ty41,ty23,ty24,ty25,ty27,ty22,ty43]
     refine ⟨by kernel_rfl,?_⟩
     exact back_intro hs3 (k + 1) (le_eqwk (by rw [hsn]; try rfl) (by simp [wk])) (by omega) (by omega)
    ·obtain rfl : k = fr.length := by omega
     rw [List.take_length,← hpad]
     simp -implicitDefEqProofs only [awp_draw _ _ Trydr9_7,awp_draw _ _ Trydr9_26,hil,lt_false hkl,wsucc i (by omega),
  evx,evy,ofValue,ofCell,List.range,List.range.loop,Array.size,Nat.reduceAdd,Nat.reduceSub,Nat.reduceEqDiff,List.replicate,if_true,if_false,↓reduceIte,reduceCtorEq,elB,evParts,Int.reduceToNat,Int.reduceLE,Int.reduceLT,Int.reduceEq,Nat.reduceMul,Nat.reduceLeDiff,Nat.reduceLT,ty3,ty4,ty5,ty9,ty39,ty40,ty41,ty23,ty24,ty25,ty27,ty22,ty43]
     exact back_intro hs2 (i + 1) (le_eqwk (by rw [hsuc]) (by simp [wk])) (by omega) (by omega)
   ·have f5 : (c.op = 5) = False := by simp [o]
    have f6 : (c.op = 6) = True := eq_true o
    simp -implicitDefEqProofs only [awp_draw _ _ Trydr9_7,awp_draw _ _ Trydr9_26,hc1,hrow,Cel.row,f3,f5,f6,hwi,
  evx,evy,ofValue,ofCell,List.range,List.range.loop,Array.size,Nat.reduceAdd,Nat.reduceSub,Nat.reduceEqDiff,List.replicate,if_true,if_false,↓reduceIte,reduceCtorEq,elB,evParts,Int.reduceToNat,Int.reduceLE,Int.reduceLT,Int.reduceEq,Nat.reduceMul,Nat.reduceLeDiff,Nat.reduceLT,ty3,ty4,ty5,ty9,ty39,ty40,ty41,ty23,ty24,ty25,ty27,ty22,ty43]
    refine callK_ret _ _ _ _ (call_pure (hl1) (fun _ => rfl) (fun _ => rfl)) (ok_nil _ _) ?_
    simp -implicitDefEqProofs only [awp_draw _ _ Trydr9_7,awp_draw _ _ Trydr9_26,hwi,
  evx,evy,ofValue,ofCell,List.range,List.range.loop,Array.size,Nat.reduceAdd,Nat.reduceSub,Nat.reduceEqDiff,List.replicate,if_true,if_false,↓reduceIte,reduceCtorEq,elB,evParts,Int.reduceToNat,Int.reduceLE,Int.reduceLT,Int.reduceEq,Nat.reduceMul,Nat.reduceLeDiff,Nat.reduceLT,ty3,ty4,ty5,ty9,ty39,ty40,ty41,ty23,ty24,ty25,ty27,ty22,ty43]
    refine callK_ret _ _ _ _ (call_pure (hf1) (fun _ => rfl) (fun _ => rfl)) (ok_nil _ _) ?_
    simp -implicitDefEqProofs only [awp_draw _ _ Trydr9_7,awp_draw _ _ Trydr9_26,
  evx,evy,ofValue,ofCell,List.range,List.range.loop,Array.size,Nat.reduceAdd,Nat.reduceSub,Nat.reduceEqDiff,List.replicate,if_true,if_false,↓reduceIte,reduceCtorEq,elB,evParts,Int.reduceToNat,Int.reduceLE,Int.reduceLT,Int.reduceEq,Nat.reduceMul,Nat.reduceLeDiff,Nat.reduceLT,ty3,ty4,ty5,ty9,ty39,ty40,ty41,ty23,ty24,ty25,ty27,ty22,ty43]
    have hil := ints_length fr
    refine loop_rule (fun k : Nat => ⟨[.fv (.lst 5 (l.map Cel.row)),.any,.ptr 0 0 0 0,.ptr 1 0 0 0,.fv (.int .i64 ((l.length : Int) - 1)),.any,.fv (.int .i64 i),.fv (.lst 1 (ints fr)),.fv (.lst 1 (ints to_)),.fv (.int .i64 k),.any,.any,.any,.any,.any,.any,.any,.any,.any,.any,.any,.any,.any,.any,.any,.any,.any,.any,.any,.any,.any,.any,.any,.any,.any,.any,.any,.any,.any,.any,.any,.any,.any,.any,.any,.any,.any,.any,.any,.any,.any,.any,.any,.any,.any,.any,.any,.any,.any,.any,.any,.any,.any,.any,.any,.any,.any,.any,.any,.any,.any,.any,.any,.any,.any,.any,.any,.any,.any,.any,.any,.any,.any,.any,.any,.any,.any,.any,.any,.any,.any,.any,.any,.any,.any,.any,.any,.any,.any,.any,.any,.any,.any,.any,.any,.any,.any,.any,.any,.any,.any,.any,.any,.any,.any,.any,.any,.any,.any,.any,.any,.any],
      [.box zero5,.box (qcells N 2 3 z),.plain 4 ((buildAt l l.length).sets.map srow),.plain 1 (rowsOf (linkL (padF N b.fol) (fr.take k) to_))],[]⟩)
     (fun k => k ≤ fr.length) (fun k => fr.length - k) 0 (le_eqwk rfl (by simp [wk])) (by omega) (fun k hk3 s3 hs3 => ?_)
    have hFI : FI N (padF N b.fol) := fun f hf => by
     unfold padF at hf
     rcases List.mem_append.1 hf with hf | hf
     ·exact ⟨(hfo f hf).1,fun j hj => inB_up ((hfo f hf).2 j hj) (by omega)⟩
     ·rw [List.mem_replicate] at hf
      rw [hf.2]
      exact ⟨.nil,by simp⟩
    have hplen := padF_len (N := N) (F := b.fol) (by omega)
    obtain ⟨hJ,hJl⟩ := FI.link (n := N) (to_ := to_) (fun j hj => inB_up (htb j hj) (by omega)) (fr.take k) _ hFI
    by_cases hkl : k < fr.length
    ·have hrk := ints_get fr k hkl
     obtain ⟨j,hj,hjn⟩ := inB_nat (hfb _ (List.getElem_mem hkl))
     have hts := List.take_succ_eq_append_getElem hkl
     rw [hj] at hrk hts
     have hsn := linkL_snoc (padF N b.fol) (fr.take k) (j : Int) to_
     rw [← hts,Int.toNat_natCast] at hsn
     generalize linkL (padF N b.fol) (fr.take k) to_ = G at hJ hJl hsn ⊢
     have hjG : j < G.length := by omega
     have hGr := rowsAt hjG
     have hGd : G.getD j [] = G[j] := by rw [List.getD_eq_getElem?_getD,List.getElem?_eq_getElem hjG]; rfl
     rw [hGd] at hsn
     have hJj := hJ _ (List.getElem_mem hjG)
     have hgl := inB_len hJj.1 hJj.2
     generalize G[j] = g at hGr hsn hJj hgl
     have hun := ok24 g to_ (by omega) (by omega)
     have hrs := rowsOf_set G j (setOf (g ++ to_))
     have hjN : j < N := by omega
     simp -implicitDefEqProofs only [awp_draw _ _ Trydr9_7,awp_draw _ _ Trydr9_26,hil,lt_true hkl,hrk,qcells,hGr,lt_true hjN,lt_true hjG,
  evx,evy,ofValue,ofCell,List.range,List.range.loop,Array.size,Nat.reduceAdd,Nat.reduceSub,Nat.reduceEqDiff,List.replicate,if_true,if_false,↓reduceIte,reduceCtorEq,elB,evParts,Int.reduceToNat,Int.reduceLE,Int.reduceLT,Int.reduceEq,Nat.reduceMul,Nat.reduceLeDiff,Nat.reduceLT,ty3,ty4,ty5,ty9,ty39,ty40,ty41,ty23,ty24,ty25,ty27,ty22,ty43]
     refine callK_ret _ _ _ _ (call_pure (hun) (fun _ => rfl) (fun _ => rfl)) (ok_nil _ _) ?_
     simp -implicitDefEqProofs only [awp_draw _ _ Trydr9_7,awp_draw _ _ Trydr9_26,rowsOf_len,lt_true hjN,lt_true hjG,hGr,hrs,wsucc k (by omega),
  evx,evy,ofValue,ofCell,List.range,List.range.loop,Array.size,Nat.reduceAdd,Nat.reduceSub,Nat.reduceEqDiff,List.replicate,if_true,if_false,↓reduceIte,reduceCtorEq,elB,evParts,Int.reduceToNat,Int.reduceLE,Int.reduceLT,Int.reduceEq,Nat.reduceMul,Nat.reduceLeDiff,Nat.reduceLT,ty3,ty4,ty5,ty9,ty39,ty40,ty41,ty23,ty24,ty25,ty27,ty22,ty43]
     refine ⟨by kernel_rfl,?_⟩
     exact back_intro hs3 (k + 1) (le_eqwk (by rw [hsn]; try rfl) (by simp [wk])) (by omega) (by omega)
    ·obtain rfl : k = fr.length := by omega
     rw [List.take_length,← hpad]
     simp -implicitDefEqProofs only [awp_draw _ _ Trydr9_7,awp_draw _ _ Trydr9_26,hil,lt_false hkl,wsucc i (by omega),
  evx,evy,ofValue,ofCell,List.range,List.range.loop,Array.size,Nat.reduceAdd,Nat.reduceSub,Nat.reduceEqDiff,List.replicate,if_true,if_false,↓reduceIte,reduceCtorEq,elB,evParts,Int.reduceToNat,Int.reduceLE,Int.reduceLT,Int.reduceEq,Nat.reduceMul,Nat.reduceLeDiff,Nat.reduceLT,ty3,ty4,ty5,ty9,ty39,ty40,ty41,ty23,ty24,ty25,ty27,ty22,ty43]
     exact back_intro hs2 (i + 1) (le_eqwk (by rw [hsuc]) (by simp [wk])) (by omega) (by omega)
  ·have f3 : (c.op = 3) = False := by simp [o]
   have f5 : (c.op = 5) = False := by simp [o]
   have f6 : (c.op = 6) = False := by simp [o]
   have hpad : padF N (stepB b c).fol = linkL (padF N b.fol) [] [] := by rw [e]; rfl
   obtain ⟨fr,hfr⟩ : ∃ fr : List Int,fr = [] := ⟨_,rfl⟩
   obtain ⟨to_,hto⟩ : ∃ to_ : List Int,to_ = [] := ⟨_,rfl⟩
   have hfb : ∀ k ∈ fr,inB b.sets.length k = true := by rw [hfr]; simp
   have htb : ∀ k ∈ to_,inB b.sets.length k = true := by rw [hto]; simp
   have ly1 : to_.length ≤ b.sets.length := by rw [hto]; simp
   have ly2 : fr.length ≤ b.sets.length := by rw [hfr]; simp
   rw [show linkL (padF N b.fol) [] [] = linkL (padF N b.fol) fr to_ from by rw [hfr,hto]] at hpad
   simp -implicitDefEqProofs only [awp_draw _ _ Trydr9_7,awp_draw _ _ Trydr9_26,hc1,hrow,Cel.row,f3,f5,f6,
  evx,evy,ofValue,ofCell,List.range,List.range.loop,Array.size,Nat.reduceAdd,Nat.reduceSub,Nat.reduceEqDiff,List.replicate,if_true,if_false,↓reduceIte,reduceCtorEq,elB,evParts,Int.reduceToNat,Int.reduceLE,Int.reduceLT,Int.reduceEq,Nat.reduceMul,Nat.reduceLeDiff,Nat.reduceLT,ty3,ty4,ty5,ty9,ty39,ty40,ty41,ty23,ty24,ty25,ty27,ty22,ty43]
   have hil := ints_length fr
   refine loop_rule (fun k : Nat => ⟨[.fv (.lst 5 (l.map Cel.row)),.any,.ptr 0 0 0 0,.ptr 1 0 0 0,.fv (.int .i64 ((l.length : Int) - 1)),.any,.fv (.int .i64 i),.fv (.lst 1 (ints fr)),.fv (.lst 1 (ints to_)),.fv (.int .i64 k),.any,.any,.any,.any,.any,.any,.any,.any,.any,.any,.any,.any,.any,.any,.any,.any,.any,.any,.any,.any,.any,.any,.any,.any,.any,.any,.any,.any,.any,.any,.any,.any,.any,.any,.any,.any,.any,.any,.any,.any,.any,.any,.any,.any,.any,.any,.any,.any,.any,.any,.any,.any,.any,.any,.any,.any,.any,.any,.any,.any,.any,.any,.any,.any,.any,.any,.any,.any,.any,.any,.any,.any,.any,.any,.any,.any,.any,.any,.any,.any,.any,.any,.any,.any,.any,.any,.any,.any,.any,.any,.any,.any,.any,.any,.any,.any,.any,.any,.any,.any,.any,.any,.any,.any,.any,.any,.any,.any,.any,.any,.any,.any],
     [.box zero5,.box (qcells N 2 3 z),.plain 4 ((buildAt l l.length).sets.map srow),.plain 1 (rowsOf (linkL (padF N b.fol) (fr.take k) to_))],[]⟩)
    (fun k => k ≤ fr.length) (fun k => fr.length - k) 0 (Le.trans (le_nilt 7 1 rfl) (Le.trans (le_nilt 8 1 rfl) (le_eqwk rfl (by simp [wk,hfr,hto,ints])))) (by omega) (fun k hk3 s3 hs3 => ?_)
   have hFI : FI N (padF N b.fol) := fun f hf => by
    unfold padF at hf
    rcases List.mem_append.1 hf with hf | hf
    ·exact ⟨(hfo f hf).1,fun j hj => inB_up ((hfo f hf).2 j hj) (by omega)⟩
    ·rw [List.mem_replicate] at hf
     rw [hf.2]
     exact ⟨.nil,by simp⟩
   have hplen := padF_len (N := N) (F := b.fol) (by omega)
   obtain ⟨hJ,hJl⟩ := FI.link (n := N) (to_ := to_) (fun j hj => inB_up (htb j hj) (by omega)) (fr.take k) _ hFI
   by_cases hkl : k < fr.length
   ·have hrk := ints_get fr k hkl
    obtain ⟨j,hj,hjn⟩ := inB_nat (hfb _ (List.getElem_mem hkl))
    have hts := List.take_succ_eq_append_getElem hkl
    rw [hj] at hrk hts
    have hsn := linkL_snoc (padF N b.fol) (fr.take k) (j : Int) to_
    rw [← hts,Int.toNat_natCast] at hsn
    generalize linkL (padF N b.fol) (fr.take k) to_ = G at hJ hJl hsn ⊢
    have hjG : j < G.length := by omega
    have hGr := rowsAt hjG
    have hGd : G.getD j [] = G[j] := by rw [List.getD_eq_getElem?_getD,List.getElem?_eq_getElem hjG]; rfl
    rw [hGd] at hsn
    have hJj := hJ _ (List.getElem_mem hjG)
    have hgl := inB_len hJj.1 hJj.2
    generalize G[j] = g at hGr hsn hJj hgl
    have hun := ok24 g to_ (by omega) (by omega)
    have hrs := rowsOf_set G j (setOf (g ++ to_))
    have hjN : j < N := by omega
    simp -implicitDefEqProofs only [awp_draw _ _ Trydr9_7,awp_draw _ _ Trydr9_26,hil,lt_true hkl,hrk,qcells,hGr,lt_true hjN,lt_true hjG,
  evx,evy,ofValue,ofCell,List.range,List.range.loop,Array.size,Nat.reduceAdd,Nat.reduceSub,Nat.reduceEqDiff,List.replicate,if_true,if_false,↓reduceIte,reduceCtorEq,elB,evParts,Int.reduceToNat,Int.reduceLE,Int.reduceLT,Int.reduceEq,Nat.reduceMul,Nat.reduceLeDiff,Nat.reduceLT,ty3,ty4,ty5,ty9,ty39,ty40,ty41,ty23,ty24,ty25,ty27,ty22,ty43]
    refine callK_ret _ _ _ _ (call_pure (hun) (fun _ => rfl) (fun _ => rfl)) (ok_nil _ _) ?_
    simp -implicitDefEqProofs only [awp_draw _ _ Trydr9_7,awp_draw _ _ Trydr9_26,rowsOf_len,lt_true hjN,lt_true hjG,hGr,hrs,wsucc k (by omega),
  evx,evy,ofValue,ofCell,List.range,List.range.loop,Array.size,Nat.reduceAdd,Nat.reduceSub,Nat.reduceEqDiff,List.replicate,if_true,if_false,↓reduceIte,reduceCtorEq,elB,evParts,Int.reduceToNat,Int.reduceLE,Int.reduceLT,Int.reduceEq,Nat.reduceMul,Nat.reduceLeDiff,Nat.reduceLT,ty3,ty4,ty5,ty9,ty39,ty40,ty41,ty23,ty24,ty25,ty27,ty22,ty43]
    refine ⟨by kernel_rfl,?_⟩
    exact back_intro hs3 (k + 1) (le_eqwk (by rw [hsn]; try rfl) (by simp [wk])) (by omega) (by omega)
   ·obtain rfl : k = fr.length := by omega
    rw [List.take_length,← hpad]
    simp -implicitDefEqProofs only [awp_draw _ _ Trydr9_7,awp_draw _ _ Trydr9_26,hil,lt_false hkl,wsucc i (by omega),
  evx,evy,ofValue,ofCell,List.range,List.range.loop,Array.size,Nat.reduceAdd,Nat.reduceSub,Nat.reduceEqDiff,List.replicate,if_true,if_false,↓reduceIte,reduceCtorEq,elB,evParts,Int.reduceToNat,Int.reduceLE,Int.reduceLT,Int.reduceEq,Nat.reduceMul,Nat.reduceLeDiff,Nat.reduceLT,ty3,ty4,ty5,ty9,ty39,ty40,ty41,ty23,ty24,ty25,ty27,ty22,ty43]
    exact back_intro hs2 (i + 1) (le_eqwk (by rw [hsuc]) (by simp [wk])) (by omega) (by omega)
  ·rw [es] at hstk
   obtain ⟨m,ho,m2,ho2,hstk⟩ := hstk
   have hy := hpr y (by rw [es]; simp)
   have hx := hpr x (by rw [es]; simp)
   have ly1 := inB_len hy.fr hy.fb
   have ly2 := inB_len hx.lr hx.lb
   have hm := seg_lt (opd_seg ho)
   have hf1 := ok21 l hl ho
   have hl1 := ok22 l hl ho2
   have hfrom := ok23 l hl (opd_seg ho)
   have hwm : IntKind.wrap .i64 ((m : Int) - 1) = (m : Int) - 1 := wprd (by omega)
   have f3 : (c.op = 3) = True := eq_true o
   have f5 : (c.op = 5) = False := by simp [o]
   have f6 : (c.op = 6) = False := by simp [o]
   have hpad : padF N (stepB b c).fol = linkL (padF N b.fol) x.last y.first := by rw [e]; exact (padF_link (n := b.sets.length) _ _ hnf hx.lb).symm
   obtain ⟨fr,hfr⟩ : ∃ fr,fr = x.last := ⟨_,rfl⟩
   obtain ⟨to_,hto⟩ : ∃ to_,to_ = y.first := ⟨_,rfl⟩
   have hfb := hx.lb
   have htb := hy.fb
   rw [← hfr] at hl1 hpad hfb ly2
   rw [← hto] at hf1 hpad htb ly1
   simp -implicitDefEqProofs only [awp_draw _ _ Trydr9_7,awp_draw _ _ Trydr9_26,hc1,hrow,Cel.row,f3,hwi,
  evx,evy,ofValue,ofCell,List.range,List.range.loop,Array.size,Nat.reduceAdd,Nat.reduceSub,Nat.reduceEqDiff,List.replicate,if_true,if_false,↓reduceIte,reduceCtorEq,elB,evParts,Int.reduceToNat,Int.reduceLE,Int.reduceLT,Int.reduceEq,Nat.reduceMul,Nat.reduceLeDiff,Nat.reduceLT,ty3,ty4,ty5,ty9,ty39,ty40,ty41,ty23,ty24,ty25,ty27,ty22,ty43]
   refine callK_ret _ _ _ _ (call_pure (hfrom) (fun _ => rfl) (fun _ => rfl)) (ok_nil _ _) ?_
   simp -implicitDefEqProofs only [awp_draw _ _ Trydr9_7,awp_draw _ _ Trydr9_26,hwm,
  evx,evy,ofValue,ofCell,List.range,List.range.loop,Array.size,Nat.reduceAdd,Nat.reduceSub,Nat.reduceEqDiff,List.replicate,if_true,if_false,↓reduceIte,reduceCtorEq,elB,evParts,Int.reduceToNat,Int.reduceLE,Int.reduceLT,Int.reduceEq,Nat.reduceMul,Nat.reduceLeDiff,Nat.reduceLT,ty3,ty4,ty5,ty9,ty39,ty40,ty41,ty23,ty24,ty25,ty27,ty22,ty43]
   refine callK_ret _ _ _ _ (call_pure (hl1) (fun _ => rfl) (fun _ => rfl)) (ok_nil _ _) ?_
   simp -implicitDefEqProofs only [awp_draw _ _ Trydr9_7,awp_draw _ _ Trydr9_26,hwi,
  evx,evy,ofValue,ofCell,List.range,List.range.loop,Array.size,Nat.reduceAdd,Nat.reduceSub,Nat.reduceEqDiff,List.replicate,if_true,if_false,↓reduceIte,reduceCtorEq,elB,evParts,Int.reduceToNat,Int.reduceLE,Int.reduceLT,Int.reduceEq,Nat.reduceMul,Nat.reduceLeDiff,Nat.reduceLT,ty3,ty4,ty5,ty9,ty39,ty40,ty41,ty23,ty24,ty25,ty27,ty22,ty43]
   refine callK_ret _ _ _ _ (call_pure (hf1) (fun _ => rfl) (fun _ => rfl)) (ok_nil _ _) ?_
   simp -implicitDefEqProofs only [awp_draw _ _ Trydr9_7,awp_draw _ _ Trydr9_26,hrow,Cel.row,f5,f6,
  evx,evy,ofValue,ofCell,List.range,List.range.loop,Array.size,Nat.reduceAdd,Nat.reduceSub,Nat.reduceEqDiff,List.replicate,if_true,if_false,↓reduceIte,reduceCtorEq,elB,evParts,Int.reduceToNat,Int.reduceLE,Int.reduceLT,Int.reduceEq,Nat.reduceMul,Nat.reduceLeDiff,Nat.reduceLT,ty3,ty4,ty5,ty9,ty39,ty40,ty41,ty23,ty24,ty25,ty27,ty22,ty43]
   have hil := ints_length fr
   refine loop_rule (fun k : Nat => ⟨[.fv (.lst 5 (l.map Cel.row)),.any,.ptr 0 0 0 0,.ptr 1 0 0 0,.fv (.int .i64 ((l.length : Int) - 1)),.any,.fv (.int .i64 i),.fv (.lst 1 (ints fr)),.fv (.lst 1 (ints to_)),.fv (.int .i64 k),.any,.any,.any,.any,.any,.any,.any,.any,.any,.any,.any,.any,.any,.any,.any,.any,.any,.any,.any,.any,.any,.any,.any,.any,.any,.any,.any,.any,.any,.any,.any,.any,.any,.any,.any,.any,.any,.any,.any,.any,.any,.any,.any,.any,.any,.any,.any,.any,.any,.any,.any,.any,.any,.any,.any,.any,.any,.any,.any,.any,.any,.any,.any,.any,.any,.any,.any,.any,.any,.any,.any,.any,.any,.any,.any,.any,.any,.any,.any,.any,.any,.any,.any,.any,.any,.any,.any,.any,.any,.any,.any,.any,.any,.any,.any,.any,.any,.any,.any,.any,.any,.any,.any,.any,.any,.any,.any,.any,.any,.any,.any,.any],
     [.box zero5,.box (qcells N 2 3 z),.plain 4 ((buildAt l l.length).sets.map srow),.plain 1 (rowsOf (linkL (padF N b.fol) (fr.take k) to_))],[]⟩)
    (fun k => k ≤ fr.length) (fun k => fr.length - k) 0 (le_eqwk rfl (by simp [wk])) (by omega) (fun k hk3 s3 hs3 => ?_)
   have hFI : FI N (padF N b.fol) := fun f hf => by
    unfold padF at hf
    rcases List.mem_append.1 hf with hf | hf
    ·exact ⟨(hfo f hf).1,fun j hj => inB_up ((hfo f hf).2 j hj) (by omega)⟩
    ·rw [List.mem_replicate] at hf
     rw [hf.2]
     exact ⟨.nil,by simp⟩
   have hplen := padF_len (N := N) (F := b.fol) (by omega)
   obtain ⟨hJ,hJl⟩ := FI.link (n := N) (to_ := to_) (fun j hj => inB_up (htb j hj) (by omega)) (fr.take k) _ hFI
   by_cases hkl : k < fr.length
   ·have hrk := ints_get fr k hkl
    obtain ⟨j,hj,hjn⟩ := inB_nat (hfb _ (List.getElem_mem hkl))
    have hts := List.take_succ_eq_append_getElem hkl
    rw [hj] at hrk hts
    have hsn := linkL_snoc (padF N b.fol) (fr.take k) (j : Int) to_
    rw [← hts,Int.toNat_natCast] at hsn
    generalize linkL (padF N b.fol) (fr.take k) to_ = G at hJ hJl hsn ⊢
    have hjG : j < G.length := by omega
    have hGr := rowsAt hjG
    have hGd : G.getD j [] = G[j] := by rw [List.getD_eq_getElem?_getD,List.getElem?_eq_getElem hjG]; rfl
    rw [hGd] at hsn
    have hJj := hJ _ (List.getElem_mem hjG)
    have hgl := inB_len hJj.1 hJj.2
    generalize G[j] = g at hGr hsn hJj hgl
    have hun := ok24 g to_ (by omega) (by omega)
    have hrs := rowsOf_set G j (setOf (g ++ to_))
    have hjN : j < N := by omega
    simp -implicitDefEqProofs only [awp_draw _ _ Trydr9_7,awp_draw _ _ Trydr9_26,hil,lt_true hkl,hrk,qcells,hGr,lt_true hjN,lt_true hjG,
  evx,evy,ofValue,ofCell,List.range,List.range.loop,Array.size,Nat.reduceAdd,Nat.reduceSub,Nat.reduceEqDiff,List.replicate,if_true,if_false,↓reduceIte,reduceCtorEq,elB,evParts,Int.reduceToNat,Int.reduceLE,Int.reduceLT,Int.reduceEq,Nat.reduceMul,Nat.reduceLeDiff,Nat.reduceLT,ty3,ty4,ty5,ty9,ty39,ty40,ty41,ty23,ty24,ty25,ty27,ty22,ty43]
    refine callK_ret _ _ _ _ (call_pure (hun) (fun _ => rfl) (fun _ => rfl)) (ok_nil _ _) ?_
    simp -implicitDefEqProofs only [awp_draw _ _ Trydr9_7,awp_draw _ _ Trydr9_26,rowsOf_len,lt_true hjN,lt_true hjG,hGr,hrs,wsucc k (by omega),
  evx,evy,ofValue,ofCell,List.range,List.range.loop,Array.size,Nat.reduceAdd,Nat.reduceSub,Nat.reduceEqDiff,List.replicate,if_true,if_false,↓reduceIte,reduceCtorEq,elB,evParts,Int.reduceToNat,Int.reduceLE,Int.reduceLT,Int.reduceEq,Nat.reduceMul,Nat.reduceLeDiff,Nat.reduceLT,ty3,ty4,ty5,ty9,ty39,ty40,ty41,ty23,ty24,ty25,ty27,ty22,ty43]
    refine ⟨by kernel_rfl,?_⟩
    exact back_intro hs3 (k + 1) (le_eqwk (by rw [hsn]; try rfl) (by simp [wk])) (by omega) (by omega)
   ·obtain rfl : k = fr.length := by omega
    rw [List.take_length,← hpad]
    simp -implicitDefEqProofs only [awp_draw _ _ Trydr9_7,awp_draw _ _ Trydr9_26,hil,lt_false hkl,wsucc i (by omega),
  evx,evy,ofValue,ofCell,List.range,List.range.loop,Array.size,Nat.reduceAdd,Nat.reduceSub,Nat.reduceEqDiff,List.replicate,if_true,if_false,↓reduceIte,reduceCtorEq,elB,evParts,Int.reduceToNat,Int.reduceLE,Int.reduceLT,Int.reduceEq,Nat.reduceMul,Nat.reduceLeDiff,Nat.reduceLT,ty3,ty4,ty5,ty9,ty39,ty40,ty41,ty23,ty24,ty25,ty27,ty22,ty43]
    exact back_intro hs2 (i + 1) (le_eqwk (by rw [hsuc]) (by simp [wk])) (by omega) (by omega)
 ·obtain rfl : i = l.length := by omega
  have hc1 : ((l.length : Int) ≤ (l.length : Int) - 1) = False := by simp; omega
  have hpa : padF N (buildAt l l.length).fol = (buildAt l l.length).fol := by
   have := padF_all (buildAt l l.length).fol
   rw [hfe,List.take_length,← hNd] at this
   exact this
  rw [hpa]
  simp -implicitDefEqProofs only [awp_draw _ _ Trydr9_7,awp_draw _ _ Trydr9_26,hc1,qcells,stB_boxA,splice_all,List.all_cons,List.all_nil,Bool.and_self,zero5,
  evx,evy,ofValue,ofCell,List.range,List.range.loop,Array.size,Nat.reduceAdd,Nat.reduceSub,Nat.reduceEqDiff,List.replicate,if_true,if_false,↓reduceIte,reduceCtorEq,elB,evParts,Int.reduceToNat,Int.reduceLE,Int.reduceLT,Int.reduceEq,Nat.reduceMul,Nat.reduceLeDiff,Nat.reduceLT,ty3,ty4,ty5,ty9,ty39,ty40,ty41,ty23,ty24,ty25,ty27,ty22,ty43]
  rw [List.take_length,← hNd] at hfe hN
  refine le_pkfz [] [2,3] rfl (by simp) (by simp) (by simp) rfl ?_ ?_
  ·simp
  ·simp [wk,subAny,subA,subL,mkSub,idx,Spo.av,Spo.cells,rowsOf_len,hfe,hN,List.take_of_length_le]
end Go.Abs
