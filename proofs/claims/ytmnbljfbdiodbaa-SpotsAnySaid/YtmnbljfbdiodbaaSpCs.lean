/- Do spots fit a text: the program's answer. -/
import Derived.Test.YtmnbljfbdiodbaaTyTrys
import Derived.Test.YtmnbljfbdiodbaaDrTrys
import Derived.Test.YtmnbljfbdiodbaaSpBs
import Derived.Test.YtmnbljfbdiodbaaSpKs
import Derived.Test.YtmnbljfbdiodbaaTopWs
import Derived.Test.YtmnbljfbdiodbaaFiA
import Derived.Test.YtmnbljfbdiodbaaAbsW
namespace Go.Abs
open Go.Proofs
set_option linter.unusedVariables false
set_option linter.unusedSimpArgs false
set_option maxRecDepth 100000
set_option maxHeartbeats 8000000
def Spo.has (p : Spo) (b : UInt8) (k : Int) : Bool := (p.sets.getD k.toNat (fun _ => false)) b.toNat
def Spo.fol (p : Spo) (k : Int) : List Int := p.follow.getD k.toNat []
/-- The spots that a way may have come to, after each byte. -/
def atS (p : Spo) : List Int → List UInt8 → List Int → List Int
 | _,[],at_ => at_
 | next,b :: s,_ => atS p (setOf ((next.filter (p.has b)).flatMap p.fol)) s (next.filter (p.has b))
def Spo.fits (p : Spo) (s : List UInt8) : Bool := p.rightB && (if s = [] then p.null else (atS p p.first s []).any fun k => decide (k ∈ p.last))
theorem inB_nat {n : Nat} {k : Int} (h : inB n k = true) : ∃ i : Nat,k = (i : Int) ∧ i < n := by
 rw [inB_iff] at h
 exact ⟨k.toNat,by omega,by omega⟩
theorem setOf_inB {n : Nat} {l : List Int} (h : ∀ k ∈ l,inB n k = true) : (∀ k ∈ setOf l,inB n k = true) ∧ (setOf l).length ≤ n := by
 have h1 : ∀ k ∈ setOf l,inB n k = true := fun k hk => h k ((mem_setOf l k).1 hk)
 refine ⟨h1,rises_len (a := -1) (setOf_rises l) fun x hx => ?_⟩
 have := inB_iff.1 (h1 x hx)
 omega
structure Spo.R (p : Spo) : Prop where
 len : p.follow.length = p.sets.length
 fol : ∀ l ∈ p.follow,∀ k ∈ l,inB p.sets.length k = true
 first : ∀ k ∈ p.first,inB p.sets.length k = true
 last : ∀ k ∈ p.last,inB p.sets.length k = true
theorem Spo.right_R {p : Spo} (h : p.rightB = true) : p.R := by
 simp only [Spo.rightB,Bool.and_eq_true,decide_eq_true_eq,List.all_eq_true] at h
 exact ⟨h.1.1,h.1.2,h.2.1,h.2.2⟩
theorem Spo.R.folk {p : Spo} (h : p.R) (k : Int) : ∀ j ∈ p.fol k,inB p.sets.length j = true := fun j hj => by
 unfold Spo.fol at hj
 rw [List.getD_eq_getElem?_getD] at hj
 cases hx : p.follow[k.toNat]? with
 | none => rw [hx] at hj; simp at hj
 | some l => rw [hx] at hj; exact h.fol l (List.mem_of_getElem? hx) j hj
theorem Spo.Small.folk {p : Spo} {n : Nat} (h : p.Small n) (k : Int) : (p.fol k).length ≤ n := by
 unfold Spo.fol
 rw [List.getD_eq_getElem?_getD]
 cases hx : p.follow[k.toNat]? with
 | none => simp
 | some l => exact h.rows l (List.mem_of_getElem? hx)
theorem flatMap_le {f : Int → List Int} {n : Nat} (hf : ∀ k,(f k).length ≤ n) : ∀ l : List Int,(l.flatMap f).length ≤ l.length * n
 | [] => by simp
 | x :: l => by
  have h1 := hf x
  have h2 := flatMap_le hf l
  rw [List.flatMap_cons,List.length_append,List.length_cons,Nat.succ_mul]
  omega
theorem sets_at {p : Spo} {i : Nat} (h : i < p.sets.length) : (p.sets.map srow)[i]? = some (srow p.sets[i]) := by rw [List.getElem?_map,List.getElem?_eq_getElem h]; rfl
theorem ints_app (o l : List Int) : List.take o.length (ints o) ++ ints l = ints (o ++ l) := by
 rw [List.take_of_length_le (by rw [ints_length]; omega),ints_append]
theorem ints_snoc (o : List Int) (k : Int) : List.take o.length (ints o) ++ [[.int .i64 k]] = ints (o ++ [k]) := ints_app o [k]
theorem ints_all (o : List Int) : List.take o.length (ints o) = ints o := List.take_of_length_le (by rw [ints_length]; omega)
theorem fol_at {p : Spo} (h : p.R) {k : Nat} (hk : k < p.sets.length) : (rowsOf p.follow)[k]? = some [.lst 1 (ints (p.fol (k : Int)))] := by
 have hk2 : k < p.follow.length := by rw [h.len]; exact hk
 rw [rowsAt hk2]
 unfold Spo.fol
 rw [Int.toNat_natCast,List.getD_eq_getElem?_getD,List.getElem?_eq_getElem hk2]
 rfl
theorem ok10 (p : Spo) (s : List UInt8) (hp : p.Small 100) (hs : s.length ≤ 100000) : Ok Try.prog 10 [p.av,.fv (.str s)] [] (.ret (.fv (.bool (p.fits s)))) [] := by
 have hp1 := hp.sets
 have hp2 := hp.follow
 have hp3 := hp.first
 have hp4 := hp.last
 have hrt := ok25 p ⟨by omega,by omega,fun l h => by have := hp.rows l h; omega,by omega,by omega⟩
 refine ok_start (k := 67) (n0 := 0) (rs := [.tmp 4]) mix Try.func10 rfl rfl rfl rfl rfl rfl rfl ?_
 cases hr : p.rightB with
 | false =>
  rw [hr] at hrt
  have e : p.fits s = false := by unfold Spo.fits; rw [hr]; rfl
  rw [e]
  simp -implicitDefEqProofs only [awp_draw _ _ Trydr10_14,Spo.av,Spo.cells,
  evx,evy,ofValue,ofCell,List.range,List.range.loop,Array.size,Nat.reduceAdd,Nat.reduceSub,Nat.reduceEqDiff,List.replicate,if_true,if_false,↓reduceIte,reduceCtorEq,elB,evParts,Int.reduceToNat,Int.reduceLE,Int.reduceLT,Int.reduceEq,Nat.reduceMul,Nat.reduceLeDiff,Nat.reduceLT,ty3,ty4,ty5,ty9,ty39,ty40,ty41,ty23,ty24,ty25,ty27]
  refine callK_ret _ _ _ _ (call_pure (hrt) (fun _ => rfl) (fun _ => rfl)) (ok_nil _ _) ?_
  simp -implicitDefEqProofs only [awp_draw _ _ Trydr10_14,
  evx,evy,ofValue,ofCell,List.range,List.range.loop,Array.size,Nat.reduceAdd,Nat.reduceSub,Nat.reduceEqDiff,List.replicate,if_true,if_false,↓reduceIte,reduceCtorEq,elB,evParts,Int.reduceToNat,Int.reduceLE,Int.reduceLT,Int.reduceEq,Nat.reduceMul,Nat.reduceLeDiff,Nat.reduceLT,ty3,ty4,ty5,ty9,ty39,ty40,ty41,ty23,ty24,ty25,ty27]
  exact le_flat rfl
 | true =>
  rw [hr] at hrt
  have hR := p.right_R hr
  by_cases hse : s = []
  ·have e : p.fits s = p.null := by unfold Spo.fits; rw [hr,if_pos hse]; rfl
   rw [e]
   subst hse
   have e0 : (([] : List UInt8) == []) = true := rfl
   simp -implicitDefEqProofs only [awp_draw _ _ Trydr10_14,Spo.av,Spo.cells,eql_str,
  evx,evy,ofValue,ofCell,List.range,List.range.loop,Array.size,Nat.reduceAdd,Nat.reduceSub,Nat.reduceEqDiff,List.replicate,if_true,if_false,↓reduceIte,reduceCtorEq,elB,evParts,Int.reduceToNat,Int.reduceLE,Int.reduceLT,Int.reduceEq,Nat.reduceMul,Nat.reduceLeDiff,Nat.reduceLT,ty3,ty4,ty5,ty9,ty39,ty40,ty41,ty23,ty24,ty25,ty27]
   refine callK_ret _ _ _ _ (call_pure (hrt) (fun _ => rfl) (fun _ => rfl)) (ok_nil _ _) ?_
   simp -implicitDefEqProofs only [awp_draw _ _ Trydr10_14,eql_str,e0,
  evx,evy,ofValue,ofCell,List.range,List.range.loop,Array.size,Nat.reduceAdd,Nat.reduceSub,Nat.reduceEqDiff,List.replicate,if_true,if_false,↓reduceIte,reduceCtorEq,elB,evParts,Int.reduceToNat,Int.reduceLE,Int.reduceLT,Int.reduceEq,Nat.reduceMul,Nat.reduceLeDiff,Nat.reduceLT,ty3,ty4,ty5,ty9,ty39,ty40,ty41,ty23,ty24,ty25,ty27]
   exact le_flat rfl
  ·have e : p.fits s = (atS p p.first s []).any fun k => decide (k ∈ p.last) := by unfold Spo.fits; rw [hr,if_neg hse]; rfl
   rw [e]
   have e0 : (s == []) = false := by rw [← Bool.not_eq_true,beq_iff_eq]; exact hse
   simp -implicitDefEqProofs only [awp_draw _ _ Trydr10_14,Spo.av,Spo.cells,eql_str,
  evx,evy,ofValue,ofCell,List.range,List.range.loop,Array.size,Nat.reduceAdd,Nat.reduceSub,Nat.reduceEqDiff,List.replicate,if_true,if_false,↓reduceIte,reduceCtorEq,elB,evParts,Int.reduceToNat,Int.reduceLE,Int.reduceLT,Int.reduceEq,Nat.reduceMul,Nat.reduceLeDiff,Nat.reduceLT,ty3,ty4,ty5,ty9,ty39,ty40,ty41,ty23,ty24,ty25,ty27]
   refine callK_ret _ _ _ _ (call_pure (hrt) (fun _ => rfl) (fun _ => rfl)) (ok_nil _ _) ?_
   simp -implicitDefEqProofs only [awp_draw _ _ Trydr10_14,eql_str,e0,
  evx,evy,ofValue,ofCell,List.range,List.range.loop,Array.size,Nat.reduceAdd,Nat.reduceSub,Nat.reduceEqDiff,List.replicate,if_true,if_false,↓reduceIte,reduceCtorEq,elB,evParts,Int.reduceToNat,Int.reduceLE,Int.reduceLT,Int.reduceEq,Nat.reduceMul,Nat.reduceLeDiff,Nat.reduceLT,ty3,ty4,ty5,ty9,ty39,ty40,ty41,ty23,ty24,ty25,ty27]
   refine loop_rule (fun x : Nat × List Int × List Int => ⟨[.any,.fv (.str s),.ptr 0 0 0 0,.any,.any,.fv (.lst 1 (ints x.2.1)),.fv (.lst 1 (ints x.2.2)),.any,.any,.any,.any,.any,.any,.any,.any,.any,.any,.any,.any,.any,.any,.any,.fv (.int .i64 s.length),.fv (.int .i64 x.1),.any,.any,.any,.any,.any,.any,.any,.any,.any,.any,.any,.any,.any,.any,.any,.any,.any,.any,.any,.any,.any,.any,.any,.any,.any,.any,.any,.any,.any,.any,.any,.any,.any,.any,.any,.any,.any,.any,.any,.any,.any,.any,.any,.any,.any],[.box p.cells],[]⟩)
    (fun x => x.1 ≤ s.length ∧ x.2.1.length ≤ 100 ∧ x.2.2.length ≤ 100 ∧ (∀ k ∈ x.2.1,inB p.sets.length k = true) ∧ atS p p.first s [] = atS p x.2.1 (s.drop x.1) x.2.2) (fun x => s.length - x.1) (0,p.first,[]) ?_ ⟨by simp only; omega,hp3,by simp,hR.first,by rw [List.drop_zero]⟩ (fun x hx s1 hs1 => ?_)
   ·refine Le.trans (le_virt 6 1 rfl) (le_pkfz [0] [1] rfl (by simp) (by simp) (by simp) rfl ?_ ?_)
    ·simp [subBlk,subAny,subA,mkSub,idx,Spo.cells]
    ·simp [wk,subAny,subA,mkSub,idx,ints]
   obtain ⟨i,next,at_⟩ := x
   obtain ⟨hi,hn1,ha1,hnb,hat⟩ := hx
   simp only at hi hn1 ha1 hnb hat hs1 ⊢
   by_cases hlt : i < s.length
   ·rw [List.drop_eq_getElem_cons hlt,atS] at hat
    have hsi : s[i]? = some s[i] := List.getElem?_eq_getElem hlt
    generalize s[i] = b at hat hsi
    have hb : b.toNat < 256 := UInt8.toNat_lt b
    have hnl := ints_length next
    simp -implicitDefEqProofs only [awp_draw _ _ Trydr10_14,lt_true hlt,
  evx,evy,ofValue,ofCell,List.range,List.range.loop,Array.size,Nat.reduceAdd,Nat.reduceSub,Nat.reduceEqDiff,List.replicate,if_true,if_false,↓reduceIte,reduceCtorEq,elB,evParts,Int.reduceToNat,Int.reduceLE,Int.reduceLT,Int.reduceEq,Nat.reduceMul,Nat.reduceLeDiff,Nat.reduceLT,ty3,ty4,ty5,ty9,ty39,ty40,ty41,ty23,ty24,ty25,ty27]
    refine loop_rule (fun y : Nat × List Int => ⟨[.any,.fv (.str s),.ptr 0 0 0 0,.any,.any,.any,.ref 1 1 0 y.2.length,.fv (.int .i64 i),.any,.any,.any,.any,.any,.any,.any,.any,.any,.any,.any,.any,.any,.any,.fv (.int .i64 s.length),.fv (.int .i64 i),.any,.any,.fv (.lst 1 (ints next)),.fv (.int .i64 next.length),.fv (.int .i64 y.1),.any,.any,.any,.any,.any,.any,.any,.any,.any,.any,.any,.any,.any,.any,.any,.any,.any,.any,.any,.any,.any,.any,.any,.any,.any,.any,.any,.any,.any,.any,.any,.any,.any,.any,.any,.any,.any,.any,.any,.any],[.box p.cells,.plain 1 (ints y.2)],[]⟩)
     (fun y => y.1 ≤ next.length ∧ y.2 = (next.take y.1).filter (p.has b)) (fun y => next.length - y.1) (0,[]) (Le.trans (le_virt 6 1 rfl) (le_wk (by simp [wk,hnl,ints]))) ⟨by simp only; omega,rfl⟩ (fun y hy s2 hs2 => ?_)
    obtain ⟨j,o⟩ := y
    obtain ⟨hj,ho⟩ := hy
    simp only at hj ho hs2 ⊢
    have hol := ints_length o
    by_cases hjl : j < next.length
    ·have hnx := ints_get next j hjl
     obtain ⟨k,hk,hkn⟩ := inB_nat (hnb _ (List.getElem_mem hjl))
     have hts := List.take_succ_eq_append_getElem hjl
     rw [hk] at hnx hts
     have hset := sets_at hkn
     have hhas := ok26 p.sets[k] b.toNat hb
     have hpk : p.has b (k : Int) = p.sets[k] b.toNat := by unfold Spo.has; rw [Int.toNat_natCast,List.getD_eq_getElem?_getD,List.getElem?_eq_getElem hkn]; rfl
     rw [← hpk] at hhas
     have hle : o.length ≤ j := by rw [ho]; exact Nat.le_trans (List.length_filter_le _ _) (by rw [List.length_take]; omega)
     simp -implicitDefEqProofs only [awp_draw _ _ Trydr10_14,lt_true hjl,hnx,hset,hsi,Spo.cells,srow,
  evx,evy,ofValue,ofCell,List.range,List.range.loop,Array.size,Nat.reduceAdd,Nat.reduceSub,Nat.reduceEqDiff,List.replicate,if_true,if_false,↓reduceIte,reduceCtorEq,elB,evParts,Int.reduceToNat,Int.reduceLE,Int.reduceLT,Int.reduceEq,Nat.reduceMul,Nat.reduceLeDiff,Nat.reduceLT,ty3,ty4,ty5,ty9,ty39,ty40,ty41,ty23,ty24,ty25,ty27]
     refine callK_ret _ _ _ _ (call_pure (hhas) (fun _ => rfl) (fun _ => rfl)) (ok_nil _ _) ?_
     cases hpb : p.has b (k : Int) with
     | false =>
      simp -implicitDefEqProofs only [awp_draw _ _ Trydr10_14,wsucc j (by omega),
  evx,evy,ofValue,ofCell,List.range,List.range.loop,Array.size,Nat.reduceAdd,Nat.reduceSub,Nat.reduceEqDiff,List.replicate,if_true,if_false,↓reduceIte,reduceCtorEq,elB,evParts,Int.reduceToNat,Int.reduceLE,Int.reduceLT,Int.reduceEq,Nat.reduceMul,Nat.reduceLeDiff,Nat.reduceLT,ty3,ty4,ty5,ty9,ty39,ty40,ty41,ty23,ty24,ty25,ty27]
      refine back_intro hs2 (j + 1,o) (le_wk (by simp [wk,Spo.cells])) ⟨by simp only; omega,?_⟩ (by simp only; omega)
      simp only
      rw [hts,List.filter_append,← ho]
      simp [hpb]
     | true =>
      simp -implicitDefEqProofs only [awp_draw _ _ Trydr10_14,wsucc j (by omega),
  evx,evy,ofValue,ofCell,List.range,List.range.loop,Array.size,Nat.reduceAdd,Nat.reduceSub,Nat.reduceEqDiff,List.replicate,if_true,if_false,↓reduceIte,reduceCtorEq,elB,evParts,Int.reduceToNat,Int.reduceLE,Int.reduceLT,Int.reduceEq,Nat.reduceMul,Nat.reduceLeDiff,Nat.reduceLT,ty3,ty4,ty5,ty9,ty39,ty40,ty41,ty23,ty24,ty25,ty27]
      refine ⟨⟨by omega,by omega⟩,?_⟩
      refine back_intro hs2 (j + 1,o ++ [(k : Int)]) (le_pk [0,3] rfl (by simp) (by simp) ?_ ?_) ⟨by simp only; omega,?_⟩ (by simp only; omega)
      ·simp [subBlk,subAny,subA,mkSub,idx,Spo.cells,ints_snoc]
      ·simp [wk,subAny,subA,mkSub,idx]
      ·simp only
       rw [hts,List.filter_append,← ho]
       simp [hpb]
    ·obtain rfl : j = next.length := by omega
     rw [List.take_length] at ho
     rw [← ho] at hat
     have hob : ∀ k ∈ o,inB p.sets.length k = true := fun k hk => by
      rw [ho,List.mem_filter] at hk
      exact hnb k hk.1
     have ho1 : o.length ≤ 100 := by rw [ho]; exact Nat.le_trans (List.length_filter_le _ _) hn1
     simp -implicitDefEqProofs only [awp_draw _ _ Trydr10_14,lt_false hjl,
  evx,evy,ofValue,ofCell,List.range,List.range.loop,Array.size,Nat.reduceAdd,Nat.reduceSub,Nat.reduceEqDiff,List.replicate,if_true,if_false,↓reduceIte,reduceCtorEq,elB,evParts,Int.reduceToNat,Int.reduceLE,Int.reduceLT,Int.reduceEq,Nat.reduceMul,Nat.reduceLeDiff,Nat.reduceLT,ty3,ty4,ty5,ty9,ty39,ty40,ty41,ty23,ty24,ty25,ty27]
     refine loop_rule (fun z : Nat × List Int => ⟨[.any,.fv (.str s),.ptr 0 0 0 0,.any,.any,.ref 2 1 0 z.2.length,.ref 1 1 0 o.length,.any,.any,.any,.any,.any,.any,.any,.any,.any,.any,.any,.any,.any,.any,.any,.fv (.int .i64 s.length),.fv (.int .i64 i),.any,.any,.any,.any,.any,.any,.any,.any,.any,.any,.any,.any,.any,.any,.any,.any,.any,.any,.any,.any,.any,.any,.ref 1 1 0 o.length,.fv (.int .i64 o.length),.fv (.int .i64 z.1),.any,.any,.any,.any,.any,.any,.any,.any,.any,.any,.any,.any,.any,.any,.any,.any,.any,.any,.any,.any],[.box p.cells,.plain 1 (ints o),.plain 1 (ints z.2)],[]⟩)
      (fun z => z.1 ≤ o.length ∧ z.2 = (o.take z.1).flatMap p.fol) (fun z => o.length - z.1) (0,[]) (Le.trans (le_virt 5 1 rfl) (le_wk (by simp [wk,ints]))) ⟨by simp only; omega,rfl⟩ (fun z hz s3 hs3 => ?_)
     obtain ⟨l,q⟩ := z
     obtain ⟨hl,hq⟩ := hz
     simp only at hl hq hs3 ⊢
     have hql := ints_length q
     have hq1 : q.length ≤ 10000 := by
      rw [hq]
      have h1 := flatMap_le (f := p.fol) (n := 100) (fun k => hp.folk k) (o.take l)
      rw [List.length_take] at h1
      omega
     by_cases hll : l < o.length
     ·have hox := ints_get o l hll
      obtain ⟨k,hk,hkn⟩ := inB_nat (hob _ (List.getElem_mem hll))
      have hts := List.take_succ_eq_append_getElem hll
      rw [hk] at hox hts
      have hfk := fol_at hR hkn
      have hfl := hp.folk (k : Int)
      have hil2 := ints_length (p.fol (k : Int))
      simp -implicitDefEqProofs only [awp_draw _ _ Trydr10_14,lt_true hll,hox,hfk,Spo.cells,wsucc l (by omega),
  evx,evy,ofValue,ofCell,List.range,List.range.loop,Array.size,Nat.reduceAdd,Nat.reduceSub,Nat.reduceEqDiff,List.replicate,if_true,if_false,↓reduceIte,reduceCtorEq,elB,evParts,Int.reduceToNat,Int.reduceLE,Int.reduceLT,Int.reduceEq,Nat.reduceMul,Nat.reduceLeDiff,Nat.reduceLT,ty3,ty4,ty5,ty9,ty39,ty40,ty41,ty23,ty24,ty25,ty27]
      refine ⟨by omega,?_⟩
      refine back_intro hs3 (l + 1,q ++ p.fol (k : Int)) (le_pk [0,1,3] rfl (by simp) (by simp) ?_ ?_) ⟨by simp only; omega,?_⟩ (by simp only; omega)
      ·simp [subBlk,subAny,subA,mkSub,idx,Spo.cells,ints_app]
      ·simp [wk,subAny,subA,mkSub,idx,hil2]
      ·simp only
       rw [hts,List.flatMap_append,← hq]
       simp
     ·obtain rfl : l = o.length := by omega
      rw [List.take_length] at hq
      rw [← hq] at hat
      have hsb := setOf_inB (n := p.sets.length) (l := q) (fun k hk => by
       rw [hq,List.mem_flatMap] at hk
       obtain ⟨j,_,hk⟩ := hk
       exact hR.folk j k hk)
      have hof := ok15 q (by omega)
      simp -implicitDefEqProofs only [awp_draw _ _ Trydr10_14,lt_false hll,
  evx,evy,ofValue,ofCell,List.range,List.range.loop,Array.size,Nat.reduceAdd,Nat.reduceSub,Nat.reduceEqDiff,List.replicate,if_true,if_false,↓reduceIte,reduceCtorEq,elB,evParts,Int.reduceToNat,Int.reduceLE,Int.reduceLT,Int.reduceEq,Nat.reduceMul,Nat.reduceLeDiff,Nat.reduceLT,ty3,ty4,ty5,ty9,ty39,ty40,ty41,ty23,ty24,ty25,ty27]
      refine callK_ret _ _ _ _ (call_fz [2] (hof) rfl (by simp [subAny,subA,subL,frzSub,List.take_of_length_le,ints_all,ints_length,Spo.cells]) (by simp [killAll,subBlk,subAny,subA,subL,frzSub,ints_all,ints_length,Spo.cells]) (fun _ => rfl) (fun _ => rfl)) (by first | exact ok_none _ _ | exact ok_nil _ _ | kernel_rfl) ?_
      simp -implicitDefEqProofs only [awp_draw _ _ Trydr10_14,subAny,subA,subL,backSub,back,putBack,subBlk,Option.getD_some,List.map_cons,List.map_nil,Nat.not_lt_zero,Nat.sub_zero,Nat.add_zero,List.length_map,freezeSt,frzSub,killAll,List.contains_cons,List.contains_nil,Nat.reduceBEq,Bool.or_false,wsucc i (by omega),
  evx,evy,ofValue,ofCell,List.range,List.range.loop,Array.size,Nat.reduceAdd,Nat.reduceSub,Nat.reduceEqDiff,List.replicate,if_true,if_false,↓reduceIte,reduceCtorEq,elB,evParts,Int.reduceToNat,Int.reduceLE,Int.reduceLT,Int.reduceEq,Nat.reduceMul,Nat.reduceLeDiff,Nat.reduceLT,ty3,ty4,ty5,ty9,ty39,ty40,ty41,ty23,ty24,ty25,ty27]
      refine back_intro hs1 (i + 1,setOf q,o) (le_pkfz [0] [1] rfl (by simp) (by simp) (by simp) rfl ?_ ?_) ⟨by simp only; omega,by simp only; omega,by simp only; omega,hsb.1,hat⟩ (by simp only; omega)
      ·simp [subBlk,subAny,subA,mkSub,idx,Spo.cells]
      ·simp [wk,subAny,subA,mkSub,idx,ints_all,ints_length]
   ·obtain rfl : i = s.length := by omega
    rw [List.drop_length,atS] at hat
    rw [hat]
    have hbo := ok27 at_ p.last (by omega) (by omega)
    have hany : decide (0 < (((setOf at_).filter (fun x => decide (x ∈ p.last))).length : Int)) = at_.any fun k => decide (k ∈ p.last) := by
     rw [Bool.eq_iff_iff,decide_eq_true_eq,List.any_eq_true]
     constructor
     ·intro h
      obtain ⟨x,hx⟩ := List.exists_mem_of_length_pos (l := (setOf at_).filter (fun x => decide (x ∈ p.last))) (by omega)
      rw [List.mem_filter] at hx
      exact ⟨x,(mem_setOf at_ x).1 hx.1,hx.2⟩
     ·rintro ⟨x,hx,hxl⟩
      have : x ∈ (setOf at_).filter (fun x => decide (x ∈ p.last)) := List.mem_filter.2 ⟨(mem_setOf at_ x).2 hx,hxl⟩
      have := List.length_pos_of_mem this
      omega
    simp -implicitDefEqProofs only [awp_draw _ _ Trydr10_14,lt_false hlt,Spo.cells,
  evx,evy,ofValue,ofCell,List.range,List.range.loop,Array.size,Nat.reduceAdd,Nat.reduceSub,Nat.reduceEqDiff,List.replicate,if_true,if_false,↓reduceIte,reduceCtorEq,elB,evParts,Int.reduceToNat,Int.reduceLE,Int.reduceLT,Int.reduceEq,Nat.reduceMul,Nat.reduceLeDiff,Nat.reduceLT,ty3,ty4,ty5,ty9,ty39,ty40,ty41,ty23,ty24,ty25,ty27]
    refine callK_ret _ _ _ _ (call_pure (hbo) (fun _ => rfl) (fun _ => rfl)) (ok_nil _ _) ?_
    simp -implicitDefEqProofs only [awp_draw _ _ Trydr10_14,ints_length,hany,
  evx,evy,ofValue,ofCell,List.range,List.range.loop,Array.size,Nat.reduceAdd,Nat.reduceSub,Nat.reduceEqDiff,List.replicate,if_true,if_false,↓reduceIte,reduceCtorEq,elB,evParts,Int.reduceToNat,Int.reduceLE,Int.reduceLT,Int.reduceEq,Nat.reduceMul,Nat.reduceLeDiff,Nat.reduceLT,ty3,ty4,ty5,ty9,ty39,ty40,ty41,ty23,ty24,ty25,ty27]
    exact le_flat rfl
end Go.Abs
/- Do spots fit a text: the document's answer. -/
namespace Go.Abs
open Go.Proofs
set_option linter.unusedVariables false
set_option linter.unusedSimpArgs false
set_option maxRecDepth 100000
set_option maxHeartbeats 8000000
def onR (n : Nat) (at_ : List Int) : List (List FV) := (List.range n).map fun k : Nat => [.bool (decide ((k : Int) ∈ at_))]
def upR (n k : Nat) (at_ : List Int) : List (List FV) := (List.range n).map fun j : Nat => [.bool (decide (j < k) && decide ((j : Int) ∈ at_))]
theorem onR_length (n : Nat) (a : List Int) : (onR n a).length = n := by simp [onR]
theorem upR_length (n k : Nat) (a : List Int) : (upR n k a).length = n := by simp [upR]
theorem onR_get {n k : Nat} (a : List Int) (h : k < n) : (onR n a)[k]? = some [.bool (decide ((k : Int) ∈ a))] := by simp [onR,h]
theorem upR_get {n k : Nat} (m : Nat) (a : List Int) (h : k < n) : (upR n m a)[k]? = some [.bool (decide (k < m) && decide ((k : Int) ∈ a))] := by simp [upR,h]
theorem onR_nil (n : Nat) : List.replicate n [FV.bool false] = onR n [] := by
 apply List.ext_getElem?
 intro i
 by_cases h : i < n
 ·rw [onR_get _ h]; simp [h]
 ·rw [List.getElem?_eq_none (by simp; omega),List.getElem?_eq_none (by rw [onR_length]; omega)]
theorem upR_zero (n : Nat) (a : List Int) : List.replicate n [FV.bool false] = upR n 0 a := by
 apply List.ext_getElem?
 intro i
 by_cases h : i < n
 ·rw [upR_get _ _ h]; simp [h]
 ·rw [List.getElem?_eq_none (by simp; omega),List.getElem?_eq_none (by rw [upR_length]; omega)]
theorem upR_all (n : Nat) (a : List Int) : upR n n a = onR n a := by
 apply List.ext_getElem?
 intro i
 by_cases h : i < n
 ·rw [upR_get _ _ h,onR_get _ h]; simp [h]
 ·rw [List.getElem?_eq_none (by rw [upR_length]; omega),List.getElem?_eq_none (by rw [onR_length]; omega)]
theorem upR_set {n k : Nat} (a : List Int) (h : k < n) : (upR n k a).set k [.bool (decide ((k : Int) ∈ a))] = upR n (k + 1) a := by
 apply List.ext_getElem?
 intro i
 rw [List.getElem?_set]
 split
 ·rename_i e; subst e
  rw [upR_length,if_pos h,upR_get _ _ h]
  simp
 ·by_cases hi : i < n
  ·rw [upR_get _ _ hi,upR_get _ _ hi]
   rw [show decide (i < k) = decide (i < k + 1) from decide_eq_decide.2 (by omega)]
  ·rw [List.getElem?_eq_none (by rw [upR_length]; omega),List.getElem?_eq_none (by rw [upR_length]; omega)]
def mayB (p : Spo) (at_ : List Int) (k : Int) (j : Nat) : Bool := (List.range j).any fun i : Nat => decide ((i : Int) ∈ at_) && decide (k ∈ p.fol (i : Int))
theorem mayB_succ (p : Spo) (a : List Int) (k : Int) (j : Nat) : mayB p a k (j + 1) = (mayB p a k j || (decide ((j : Int) ∈ a) && decide (k ∈ p.fol (j : Int)))) := by
 unfold mayB
 rw [List.range_succ,List.any_append]
 simp
theorem mayB_all {p : Spo} {a : List Int} {n : Nat} (h : ∀ k ∈ a,inB n k = true) (k : Int) : mayB p a k n = decide (k ∈ setOf (a.flatMap p.fol)) := by
 rw [Bool.eq_iff_iff,decide_eq_true_eq,mem_setOf,List.mem_flatMap]
 simp only [mayB,List.any_eq_true,List.mem_range,Bool.and_eq_true,decide_eq_true_eq]
 constructor
 ·rintro ⟨i,_,h1,h2⟩
  exact ⟨_,h1,h2⟩
 ·rintro ⟨i,h1,h2⟩
  obtain ⟨i,rfl,hi⟩ := inB_nat (h i h1)
  exact ⟨i,hi,h1,h2⟩
theorem wbyte (b : UInt8) : IntKind.wrap .i64 (b.toNat : Int) = (b.toNat : Int) := by
 have : b.toNat < 256 := UInt8.toNat_lt b
 exact wrap_small (by omega) (by omega)
theorem ok11 (p : Spo) (s : List UInt8) (hp : p.Small 100) (hs : s.length ≤ 100000) : Ok Try.prog 11 [p.av,.fv (.str s)] [] (.ret (.fv (.bool (p.fits s)))) [] := by
 have hp1 := hp.sets
 have hp2 := hp.follow
 have hp3 := hp.first
 have hp4 := hp.last
 have hif := ok28 p.first p.sets.length (by omega)
 have hil := ok28 p.last p.sets.length (by omega)
 have hrl : (rowsOf p.follow).length = p.follow.length := by unfold rowsOf; rw [List.length_map]
 refine ok_start (k := 132) (n0 := 0) (rs := [.tmp 4]) mix Try.func11 rfl rfl rfl rfl rfl rfl rfl ?_
 by_cases hne : p.follow.length = p.sets.length
 ·have hnet : ((p.follow.length : Int) = (p.sets.length : Int)) = True := by simp [hne]
  cases hf : p.first.all (inB p.sets.length) with
  | false =>
   rw [hf] at hif
   have e : p.fits s = false := by unfold Spo.fits Spo.rightB; rw [hf]; simp
   rw [e]
   simp -implicitDefEqProofs only [awp_draw _ _ Trydr11_24,Spo.av,Spo.cells,hrl,List.length_map,hnet,
  evx,evy,ofValue,ofCell,List.range,List.range.loop,Array.size,Nat.reduceAdd,Nat.reduceSub,Nat.reduceEqDiff,List.replicate,if_true,if_false,↓reduceIte,reduceCtorEq,elB,evParts,Int.reduceToNat,Int.reduceLE,Int.reduceLT,Int.reduceEq,Nat.reduceMul,Nat.reduceLeDiff,Nat.reduceLT,ty3,ty4,ty5,ty9,ty39,ty40,ty41,ty23,ty24,ty25,ty27,ty58]
   refine callK_ret _ _ _ _ (call_pure (hif) (fun _ => rfl) (fun _ => rfl)) (ok_nil _ _) ?_
   simp -implicitDefEqProofs only [awp_draw _ _ Trydr11_24,
  evx,evy,ofValue,ofCell,List.range,List.range.loop,Array.size,Nat.reduceAdd,Nat.reduceSub,Nat.reduceEqDiff,List.replicate,if_true,if_false,↓reduceIte,reduceCtorEq,elB,evParts,Int.reduceToNat,Int.reduceLE,Int.reduceLT,Int.reduceEq,Nat.reduceMul,Nat.reduceLeDiff,Nat.reduceLT,ty3,ty4,ty5,ty9,ty39,ty40,ty41,ty23,ty24,ty25,ty27,ty58]
   exact le_flat rfl
  | true =>
  rw [hf] at hif
  cases hla : p.last.all (inB p.sets.length) with
  | false =>
   rw [hla] at hil
   have e : p.fits s = false := by unfold Spo.fits Spo.rightB; rw [hla]; simp
   rw [e]
   simp -implicitDefEqProofs only [awp_draw _ _ Trydr11_24,Spo.av,Spo.cells,hrl,List.length_map,hnet,
  evx,evy,ofValue,ofCell,List.range,List.range.loop,Array.size,Nat.reduceAdd,Nat.reduceSub,Nat.reduceEqDiff,List.replicate,if_true,if_false,↓reduceIte,reduceCtorEq,elB,evParts,Int.reduceToNat,Int.reduceLE,Int.reduceLT,Int.reduceEq,Nat.reduceMul,Nat.reduceLeDiff,Nat.reduceLT,ty3,ty4,ty5,ty9,ty39,ty40,ty41,ty23,ty24,ty25,ty27,ty58]
   refine callK_ret _ _ _ _ (call_pure (hif) (fun _ => rfl) (fun _ => rfl)) (ok_nil _ _) ?_
   simp -implicitDefEqProofs only [awp_draw _ _ Trydr11_24,
  evx,evy,ofValue,ofCell,List.range,List.range.loop,Array.size,Nat.reduceAdd,Nat.reduceSub,Nat.reduceEqDiff,List.replicate,if_true,if_false,↓reduceIte,reduceCtorEq,elB,evParts,Int.reduceToNat,Int.reduceLE,Int.reduceLT,Int.reduceEq,Nat.reduceMul,Nat.reduceLeDiff,Nat.reduceLT,ty3,ty4,ty5,ty9,ty39,ty40,ty41,ty23,ty24,ty25,ty27,ty58]
   refine callK_ret _ _ _ _ (call_pure (hil) (fun _ => rfl) (fun _ => rfl)) (ok_nil _ _) ?_
   simp -implicitDefEqProofs only [awp_draw _ _ Trydr11_24,
  evx,evy,ofValue,ofCell,List.range,List.range.loop,Array.size,Nat.reduceAdd,Nat.reduceSub,Nat.reduceEqDiff,List.replicate,if_true,if_false,↓reduceIte,reduceCtorEq,elB,evParts,Int.reduceToNat,Int.reduceLE,Int.reduceLT,Int.reduceEq,Nat.reduceMul,Nat.reduceLeDiff,Nat.reduceLT,ty3,ty4,ty5,ty9,ty39,ty40,ty41,ty23,ty24,ty25,ty27,ty58]
   exact le_flat rfl
  | true =>
  rw [hla] at hil
  simp -implicitDefEqProofs only [awp_draw _ _ Trydr11_24,Spo.av,Spo.cells,hrl,List.length_map,hnet,
  evx,evy,ofValue,ofCell,List.range,List.range.loop,Array.size,Nat.reduceAdd,Nat.reduceSub,Nat.reduceEqDiff,List.replicate,if_true,if_false,↓reduceIte,reduceCtorEq,elB,evParts,Int.reduceToNat,Int.reduceLE,Int.reduceLT,Int.reduceEq,Nat.reduceMul,Nat.reduceLeDiff,Nat.reduceLT,ty3,ty4,ty5,ty9,ty39,ty40,ty41,ty23,ty24,ty25,ty27,ty58]
  refine callK_ret _ _ _ _ (call_pure (hif) (fun _ => rfl) (fun _ => rfl)) (ok_nil _ _) ?_
  simp -implicitDefEqProofs only [awp_draw _ _ Trydr11_24,
  evx,evy,ofValue,ofCell,List.range,List.range.loop,Array.size,Nat.reduceAdd,Nat.reduceSub,Nat.reduceEqDiff,List.replicate,if_true,if_false,↓reduceIte,reduceCtorEq,elB,evParts,Int.reduceToNat,Int.reduceLE,Int.reduceLT,Int.reduceEq,Nat.reduceMul,Nat.reduceLeDiff,Nat.reduceLT,ty3,ty4,ty5,ty9,ty39,ty40,ty41,ty23,ty24,ty25,ty27,ty58]
  refine callK_ret _ _ _ _ (call_pure (hil) (fun _ => rfl) (fun _ => rfl)) (ok_nil _ _) ?_
  simp -implicitDefEqProofs only [awp_draw _ _ Trydr11_24,
  evx,evy,ofValue,ofCell,List.range,List.range.loop,Array.size,Nat.reduceAdd,Nat.reduceSub,Nat.reduceEqDiff,List.replicate,if_true,if_false,↓reduceIte,reduceCtorEq,elB,evParts,Int.reduceToNat,Int.reduceLE,Int.reduceLT,Int.reduceEq,Nat.reduceMul,Nat.reduceLeDiff,Nat.reduceLT,ty3,ty4,ty5,ty9,ty39,ty40,ty41,ty23,ty24,ty25,ty27,ty58]
  refine loop_rule (fun i : Nat => ⟨[.any,.fv (.str s),.ptr 0 0 0 0,.any,.any,.fv (.int .i64 p.sets.length),.fv (.int .i64 i),.any,.any,.any,.any,.any,.any,.any,.any,.any,.any,.any,.any,.any,.any,.any,.any,.any,.any,.any,.any,.any,.any,.any,.any,.any,.any,.any,.any,.any,.any,.any,.any,.any,.any,.any,.any,.any,.any,.any,.any,.any,.any,.any,.any,.any,.any,.any,.any,.any,.any,.any,.any,.any,.any,.any,.any,.any,.any,.any,.any,.any,.any,.any,.any,.any,.any,.any,.any,.any,.any,.any,.any,.any,.any,.any,.any,.any,.any,.any,.any,.any,.any,.any,.any,.any,.any,.any,.any,.any,.any,.any,.any,.any,.any,.any,.any,.any,.any,.any,.any,.any,.any,.any,.any,.any,.any,.any,.any,.any,.any,.any,.any,.any,.any,.any,.any,.any,.any,.any,.any,.any,.any,.any,.any,.any,.any,.any],[.box p.cells],[]⟩)
   (fun i => i ≤ p.follow.length ∧ ((p.follow.take i).all fun l => l.all (inB p.sets.length)) = true) (fun i => p.follow.length - i) 0 (le_wk (by simp [wk])) ⟨by omega,rfl⟩ (fun i hi s1 hs1 => ?_)
  obtain ⟨hi,ha⟩ := hi
  by_cases hlt : i < p.follow.length
  ·have hr := rowsAt hlt
   have hts := all_take_succ (fun l => l.all (inB p.sets.length)) p.follow hlt
   have hno := all_no (fun l => l.all (inB p.sets.length)) p.follow hlt
   have hll := hp.rows _ (List.getElem_mem hlt)
   have hc : ((i : Int) < (p.sets.length : Int)) = True := by rw [← hne]; exact lt_true hlt
   generalize p.follow[i] = l at hr hts hno hll
   have h28 := ok28 l p.sets.length (by omega)
   cases hb : l.all (inB p.sets.length) with
   | false =>
    rw [hb] at h28
    have e : p.fits s = false := by unfold Spo.fits Spo.rightB; rw [hno hb]; simp
    rw [e]
    simp -implicitDefEqProofs only [awp_draw _ _ Trydr11_24,hc,hr,Spo.cells,
  evx,evy,ofValue,ofCell,List.range,List.range.loop,Array.size,Nat.reduceAdd,Nat.reduceSub,Nat.reduceEqDiff,List.replicate,if_true,if_false,↓reduceIte,reduceCtorEq,elB,evParts,Int.reduceToNat,Int.reduceLE,Int.reduceLT,Int.reduceEq,Nat.reduceMul,Nat.reduceLeDiff,Nat.reduceLT,ty3,ty4,ty5,ty9,ty39,ty40,ty41,ty23,ty24,ty25,ty27,ty58]
    refine callK_ret _ _ _ _ (call_pure (h28) (fun _ => rfl) (fun _ => rfl)) (ok_nil _ _) ?_
    simp -implicitDefEqProofs only [awp_draw _ _ Trydr11_24,
  evx,evy,ofValue,ofCell,List.range,List.range.loop,Array.size,Nat.reduceAdd,Nat.reduceSub,Nat.reduceEqDiff,List.replicate,if_true,if_false,↓reduceIte,reduceCtorEq,elB,evParts,Int.reduceToNat,Int.reduceLE,Int.reduceLT,Int.reduceEq,Nat.reduceMul,Nat.reduceLeDiff,Nat.reduceLT,ty3,ty4,ty5,ty9,ty39,ty40,ty41,ty23,ty24,ty25,ty27,ty58]
    exact le_flat rfl
   | true =>
    rw [hb] at h28
    simp -implicitDefEqProofs only [awp_draw _ _ Trydr11_24,hc,hr,Spo.cells,
  evx,evy,ofValue,ofCell,List.range,List.range.loop,Array.size,Nat.reduceAdd,Nat.reduceSub,Nat.reduceEqDiff,List.replicate,if_true,if_false,↓reduceIte,reduceCtorEq,elB,evParts,Int.reduceToNat,Int.reduceLE,Int.reduceLT,Int.reduceEq,Nat.reduceMul,Nat.reduceLeDiff,Nat.reduceLT,ty3,ty4,ty5,ty9,ty39,ty40,ty41,ty23,ty24,ty25,ty27,ty58]
    refine callK_ret _ _ _ _ (call_pure (h28) (fun _ => rfl) (fun _ => rfl)) (ok_nil _ _) ?_
    simp -implicitDefEqProofs only [awp_draw _ _ Trydr11_24,wsucc i (by omega),
  evx,evy,ofValue,ofCell,List.range,List.range.loop,Array.size,Nat.reduceAdd,Nat.reduceSub,Nat.reduceEqDiff,List.replicate,if_true,if_false,↓reduceIte,reduceCtorEq,elB,evParts,Int.reduceToNat,Int.reduceLE,Int.reduceLT,Int.reduceEq,Nat.reduceMul,Nat.reduceLeDiff,Nat.reduceLT,ty3,ty4,ty5,ty9,ty39,ty40,ty41,ty23,ty24,ty25,ty27,ty58]
    exact back_intro hs1 (i + 1) (le_wk (by simp [wk,Spo.cells])) ⟨by omega,by rw [hts,ha,hb]; rfl⟩ (by omega)
  obtain rfl : i = p.follow.length := by omega
  rw [List.take_length] at ha
  have hc : ((p.follow.length : Int) < (p.sets.length : Int)) = False := by rw [hne]; simp
  have hr : p.rightB = true := by unfold Spo.rightB; rw [ha,hf,hla,decide_eq_true hne]; rfl
  have hR := p.right_R hr
  clear ha hlt hi hs1
  by_cases hse : s = []
  ·have e : p.fits s = p.null := by unfold Spo.fits; rw [hr,if_pos hse]; rfl
   rw [e]
   subst hse
   have e0 : ((0 : Int) = 0) = True := eq_true rfl
   simp -implicitDefEqProofs only [awp_draw _ _ Trydr11_24,hc,Spo.cells,Int.natCast_zero,Int.ofNat_zero,e0,
  evx,evy,ofValue,ofCell,List.range,List.range.loop,Array.size,Nat.reduceAdd,Nat.reduceSub,Nat.reduceEqDiff,List.replicate,if_true,if_false,↓reduceIte,reduceCtorEq,elB,evParts,Int.reduceToNat,Int.reduceLE,Int.reduceLT,Int.reduceEq,Nat.reduceMul,Nat.reduceLeDiff,Nat.reduceLT,ty3,ty4,ty5,ty9,ty39,ty40,ty41,ty23,ty24,ty25,ty27,ty58]
   exact le_flat rfl
  have e : p.fits s = (atS p p.first s []).any fun k => decide (k ∈ p.last) := by unfold Spo.fits; rw [hr,if_neg hse]; rfl
  rw [e]
  have hsl : 0 < s.length := List.length_pos_iff.2 hse
  have e0 : ((s.length : Int) = 0) = False := by simp; omega
  obtain ⟨n,hn⟩ : ∃ n,n = p.sets.length := ⟨_,rfl⟩
  rw [← hn] at hc hnet hp1 hif hil hne ⊢
  simp -implicitDefEqProofs only [awp_draw _ _ Trydr11_24,hc,e0,
  evx,evy,ofValue,ofCell,List.range,List.range.loop,Array.size,Nat.reduceAdd,Nat.reduceSub,Nat.reduceEqDiff,List.replicate,if_true,if_false,↓reduceIte,reduceCtorEq,elB,evParts,Int.reduceToNat,Int.reduceLE,Int.reduceLT,Int.reduceEq,Nat.reduceMul,Nat.reduceLeDiff,Nat.reduceLT,ty3,ty4,ty5,ty9,ty39,ty40,ty41,ty23,ty24,ty25,ty27,ty58]
  refine ⟨⟨by omega,by omega⟩,?_⟩
  refine loop_rule (fun x : Nat × List Int × List Int => ⟨[.any,.fv (.str s),.ptr 0 0 0 0,.any,.any,.fv (.int .i64 n),.any,.ref 1 1 0 n,.fv (.int .i64 x.1),.any,.any,.any,.any,.any,.any,.any,.any,.any,.any,.any,.any,.any,.any,.any,.any,.any,.any,.any,.any,.any,.any,.any,.any,.any,.any,.any,.any,.any,.any,.any,.any,.any,.any,.any,.any,.any,.any,.any,.any,.any,.any,.any,.any,.any,.any,.any,.any,.any,.any,.any,.any,.any,.any,.any,.any,.any,.any,.any,.any,.any,.any,.any,.any,.any,.any,.any,.any,.any,.any,.any,.any,.any,.any,.any,.any,.any,.any,.any,.any,.any,.any,.any,.any,.any,.any,.any,.any,.any,.any,.any,.any,.any,.any,.any,.any,.any,.any,.any,.any,.any,.any,.any,.any,.any,.any,.any,.any,.any,.any,.any,.any,.any,.any,.any,.any,.any,.any,.any,.any,.any,.any,.any,.any,.any],[.box p.cells,.plain 1 (onR n x.2.2)],[]⟩)
   (fun x => x.1 ≤ s.length ∧ x.2.1.length ≤ 100 ∧ (∀ k ∈ x.2.1,inB n k = true) ∧ (∀ k ∈ x.2.2,inB n k = true) ∧ atS p p.first s [] = atS p x.2.1 (s.drop x.1) x.2.2 ∧ (x.1 = 0 → x.2.1 = p.first) ∧ (0 < x.1 → x.2.1 = setOf (x.2.2.flatMap p.fol))) (fun x => s.length - x.1) (0,p.first,[])
   (le_eqwk (by rw [onR_nil]) (by simp [wk])) ⟨by simp only; omega,hp3,by rw [hn]; exact hR.first,by simp,by rw [List.drop_zero],by simp,by simp⟩ (fun x hx s1 hs1 => ?_)
  obtain ⟨i,next,at_⟩ := x
  obtain ⟨hi,hn1,hnb,hab,hat,hz0,hz1⟩ := hx
  simp only at hi hn1 hnb hab hat hz0 hz1 hs1 ⊢
  by_cases hlt : i < s.length
  ·rw [List.drop_eq_getElem_cons hlt,atS] at hat
   have hsi : s[i]? = some s[i] := List.getElem?_eq_getElem hlt
   generalize s[i] = b at hat hsi
   have hb : b.toNat < 256 := UInt8.toNat_lt b
   simp -implicitDefEqProofs only [awp_draw _ _ Trydr11_24,lt_true hlt,
  evx,evy,ofValue,ofCell,List.range,List.range.loop,Array.size,Nat.reduceAdd,Nat.reduceSub,Nat.reduceEqDiff,List.replicate,if_true,if_false,↓reduceIte,reduceCtorEq,elB,evParts,Int.reduceToNat,Int.reduceLE,Int.reduceLT,Int.reduceEq,Nat.reduceMul,Nat.reduceLeDiff,Nat.reduceLT,ty3,ty4,ty5,ty9,ty39,ty40,ty41,ty23,ty24,ty25,ty27,ty58]
   refine ⟨⟨by omega,by omega⟩,?_⟩
   refine loop_rule (fun k : Nat => ⟨[.any,.fv (.str s),.ptr 0 0 0 0,.any,.any,.fv (.int .i64 n),.any,.ref 1 1 0 n,.fv (.int .i64 i),.ref 2 1 0 n,.fv (.int .i64 k),.any,.any,.any,.any,.any,.any,.any,.any,.any,.any,.any,.any,.any,.any,.any,.any,.any,.any,.any,.any,.any,.any,.any,.any,.any,.any,.any,.any,.any,.any,.any,.any,.any,.any,.any,.any,.any,.any,.any,.any,.any,.any,.any,.any,.any,.any,.any,.any,.any,.any,.any,.any,.any,.any,.any,.any,.any,.any,.any,.any,.any,.any,.any,.any,.any,.any,.any,.any,.any,.any,.any,.any,.any,.any,.any,.any,.any,.any,.any,.any,.any,.any,.any,.any,.any,.any,.any,.any,.any,.any,.any,.any,.any,.any,.any,.any,.any,.any,.any,.any,.any,.any,.any,.any,.any,.any,.any,.any,.any,.any,.any,.any,.any,.any,.any,.any,.any,.any,.any,.any,.any,.any,.any],[.box p.cells,.plain 1 (onR n at_),.plain 1 (upR n k (next.filter (p.has b)))],[]⟩)
    (fun k => k ≤ n) (fun k => n - k) 0 (le_eqwk (by rw [upR_zero _ (next.filter (p.has b))]) (by simp [wk])) (by omega) (fun k hk s2 hs2 => ?_)
   have hno := setOf_inB (n := n) (l := (next.filter (p.has b)).flatMap p.fol) (fun k hk => by
    rw [List.mem_flatMap] at hk
    obtain ⟨j,_,hk⟩ := hk
    rw [hn]
    exact hR.folk j k hk)
   by_cases hkn : k < n
   ·have hset := sets_at (p := p) (i := k) (by omega)
    have hhas := ok30 (p.sets[k]'(by omega)) b.toNat hb
    have hpk : p.has b (k : Int) = (p.sets[k]'(by omega)) b.toNat := by unfold Spo.has; rw [Int.toNat_natCast,List.getD_eq_getElem?_getD,List.getElem?_eq_getElem (by omega)]; rfl
    rw [← hpk] at hhas
    have hrow := upR_get k (next.filter (p.has b)) hkn
    have hup := upR_set (k := k) (next.filter (p.has b)) hkn
    have hin : decide ((k : Int) ∈ next.filter (p.has b)) = (decide ((k : Int) ∈ next) && p.has b (k : Int)) := by rw [Bool.eq_iff_iff]; simp [List.mem_filter]
    rw [hin] at hup
    have hul := upR_length n k (next.filter (p.has b))
    have hh1 := ok29 p.first (k : Int) (by omega)
    have hm1 := mayB_all (p := p) hab (k : Int)
    rcases Nat.eq_zero_or_pos i with hi0 | hi0
    ·have ei : ((i : Int) = 0) = True := by simp [hi0]
     have hnx := hz0 hi0
     simp -implicitDefEqProofs only [awp_draw _ _ Trydr11_24,lt_true hkn,ei,Spo.cells,
  evx,evy,ofValue,ofCell,List.range,List.range.loop,Array.size,Nat.reduceAdd,Nat.reduceSub,Nat.reduceEqDiff,List.replicate,if_true,if_false,↓reduceIte,reduceCtorEq,elB,evParts,Int.reduceToNat,Int.reduceLE,Int.reduceLT,Int.reduceEq,Nat.reduceMul,Nat.reduceLeDiff,Nat.reduceLT,ty3,ty4,ty5,ty9,ty39,ty40,ty41,ty23,ty24,ty25,ty27,ty58]
     refine callK_ret _ _ _ _ (call_pure (hh1) (fun _ => rfl) (fun _ => rfl)) (ok_nil _ _) ?_
     simp -implicitDefEqProofs only [awp_draw _ _ Trydr11_24,
  evx,evy,ofValue,ofCell,List.range,List.range.loop,Array.size,Nat.reduceAdd,Nat.reduceSub,Nat.reduceEqDiff,List.replicate,if_true,if_false,↓reduceIte,reduceCtorEq,elB,evParts,Int.reduceToNat,Int.reduceLE,Int.reduceLT,Int.reduceEq,Nat.reduceMul,Nat.reduceLeDiff,Nat.reduceLT,ty3,ty4,ty5,ty9,ty39,ty40,ty41,ty23,ty24,ty25,ty27,ty58]
     refine loop_rule (fun m : Bool => ⟨[.any,.fv (.str s),.ptr 0 0 0 0,.any,.any,.fv (.int .i64 n),.any,.ref 1 1 0 n,.fv (.int .i64 i),.ref 2 1 0 n,.fv (.int .i64 k),.fv (.bool m),.fv (.int .i64 0),.any,.any,.any,.any,.any,.any,.any,.any,.any,.any,.any,.any,.any,.any,.any,.any,.any,.any,.any,.any,.any,.any,.any,.any,.any,.any,.any,.any,.any,.any,.any,.any,.any,.any,.any,.any,.any,.any,.any,.any,.any,.any,.any,.any,.any,.any,.any,.any,.any,.any,.any,.any,.any,.any,.any,.any,.any,.any,.any,.any,.any,.any,.any,.any,.any,.any,.any,.any,.any,.any,.any,.any,.any,.any,.any,.any,.any,.any,.any,.any,.any,.any,.any,.any,.any,.any,.any,.any,.any,.any,.any,.any,.any,.any,.any,.any,.any,.any,.any,.any,.any,.any,.any,.any,.any,.any,.any,.any,.any,.any,.any,.any,.any,.any,.any,.any,.any,.any,.any,.any,.any],[.box p.cells,.plain 1 (onR n at_),.plain 1 (upR n k (next.filter (p.has b)))],[]⟩)
      (fun m => m = decide ((k : Int) ∈ next)) (fun m => 0) (decide ((k : Int) ∈ p.first)) (le_eqwk rfl (by simp [wk,Spo.cells])) (by rw [hnx]) (fun m hm s3 hs3 => ?_)
     have hc1 : ((0 : Int) < (n : Int)) = True := by simp; omega
     have hc2 : ((0 : Int) < (i : Int)) = False := by simp; omega
     rw [← hm] at hup
     cases m with
     | false =>
      rw [Bool.false_and] at hup
      simp -implicitDefEqProofs only [awp_draw _ _ Trydr11_24,hc1,hc2,hrow,wsucc k (by omega),
  evx,evy,ofValue,ofCell,List.range,List.range.loop,Array.size,Nat.reduceAdd,Nat.reduceSub,Nat.reduceEqDiff,List.replicate,if_true,if_false,↓reduceIte,reduceCtorEq,elB,evParts,Int.reduceToNat,Int.reduceLE,Int.reduceLT,Int.reduceEq,Nat.reduceMul,Nat.reduceLeDiff,Nat.reduceLT,ty3,ty4,ty5,ty9,ty39,ty40,ty41,ty23,ty24,ty25,ty27,ty58]
      refine ⟨by omega,by kernel_rfl,?_⟩
      refine back_intro hs2 (k + 1) (le_eqwk (by rw [← hup]; try rfl) (by simp [wk])) (by omega) (by omega)
     | true =>
      rw [Bool.true_and] at hup
      simp -implicitDefEqProofs only [awp_draw _ _ Trydr11_24,hc1,hc2,hset,hsi,Spo.cells,srow,convT_int,wbyte b,
  evx,evy,ofValue,ofCell,List.range,List.range.loop,Array.size,Nat.reduceAdd,Nat.reduceSub,Nat.reduceEqDiff,List.replicate,if_true,if_false,↓reduceIte,reduceCtorEq,elB,evParts,Int.reduceToNat,Int.reduceLE,Int.reduceLT,Int.reduceEq,Nat.reduceMul,Nat.reduceLeDiff,Nat.reduceLT,ty3,ty4,ty5,ty9,ty39,ty40,ty41,ty23,ty24,ty25,ty27,ty58]
      refine callK_ret _ _ _ _ (call_pure (hhas) (fun _ => rfl) (fun _ => rfl)) (ok_nil _ _) ?_
      simp -implicitDefEqProofs only [awp_draw _ _ Trydr11_24,hrow,wsucc k (by omega),
  evx,evy,ofValue,ofCell,List.range,List.range.loop,Array.size,Nat.reduceAdd,Nat.reduceSub,Nat.reduceEqDiff,List.replicate,if_true,if_false,↓reduceIte,reduceCtorEq,elB,evParts,Int.reduceToNat,Int.reduceLE,Int.reduceLT,Int.reduceEq,Nat.reduceMul,Nat.reduceLeDiff,Nat.reduceLT,ty3,ty4,ty5,ty9,ty39,ty40,ty41,ty23,ty24,ty25,ty27,ty58]
      refine ⟨by omega,by kernel_rfl,?_⟩
      refine back_intro hs2 (k + 1) (le_eqwk (by rw [← hup]; try rfl) (by simp [wk])) (by omega) (by omega)
    ·have ei : ((i : Int) = 0) = False := by simp; omega
     have hnx := hz1 hi0
     rw [← hnx] at hm1
     simp -implicitDefEqProofs only [awp_draw _ _ Trydr11_24,lt_true hkn,ei,Spo.cells,
  evx,evy,ofValue,ofCell,List.range,List.range.loop,Array.size,Nat.reduceAdd,Nat.reduceSub,Nat.reduceEqDiff,List.replicate,if_true,if_false,↓reduceIte,reduceCtorEq,elB,evParts,Int.reduceToNat,Int.reduceLE,Int.reduceLT,Int.reduceEq,Nat.reduceMul,Nat.reduceLeDiff,Nat.reduceLT,ty3,ty4,ty5,ty9,ty39,ty40,ty41,ty23,ty24,ty25,ty27,ty58]
     refine loop_rule (fun y : Nat × Bool => ⟨[.any,.fv (.str s),.ptr 0 0 0 0,.any,.any,.fv (.int .i64 n),.any,.ref 1 1 0 n,.fv (.int .i64 i),.ref 2 1 0 n,.fv (.int .i64 k),.fv (.bool y.2),.fv (.int .i64 y.1),.any,.any,.any,.any,.any,.any,.any,.any,.any,.any,.any,.any,.any,.any,.any,.any,.any,.any,.any,.any,.any,.any,.any,.any,.any,.any,.any,.any,.any,.any,.any,.any,.any,.any,.any,.any,.any,.any,.any,.any,.any,.any,.any,.any,.any,.any,.any,.any,.any,.any,.any,.any,.any,.any,.any,.any,.any,.any,.any,.any,.any,.any,.any,.any,.any,.any,.any,.any,.any,.any,.any,.any,.any,.any,.any,.any,.any,.any,.any,.any,.any,.any,.any,.any,.any,.any,.any,.any,.any,.any,.any,.any,.any,.any,.any,.any,.any,.any,.any,.any,.any,.any,.any,.any,.any,.any,.any,.any,.any,.any,.any,.any,.any,.any,.any,.any,.any,.any,.any,.any,.any],[.box p.cells,.plain 1 (onR n at_),.plain 1 (upR n k (next.filter (p.has b)))],[]⟩)
      (fun y => y.1 ≤ n ∧ y.2 = mayB p at_ k y.1) (fun y => n - y.1) (0,false) (le_eqwk rfl (by simp [wk,Spo.cells])) ⟨by simp only; omega,rfl⟩ (fun y hy s3 hs3 => ?_)
     obtain ⟨j,m⟩ := y
     obtain ⟨hj,hm⟩ := hy
     simp only at hj hm hs3 ⊢
     by_cases hjn : j < n
     ·have hc1 : ((j : Int) < (n : Int)) = True := lt_true hjn
      have hc2 : ((0 : Int) < (i : Int)) = True := by simp; omega
      have hon := onR_get at_ hjn
      have hfk := fol_at hR (k := j) (by omega)
      have hfl := hp.folk (j : Int)
      have hh2 := ok29 (p.fol (j : Int)) (k : Int) (by omega)
      have hms := mayB_succ p at_ k j
      rw [← hm] at hms
      cases m with
      | true =>
       simp -implicitDefEqProofs only [awp_draw _ _ Trydr11_24,hc1,hc2,wsucc j (by omega),
  evx,evy,ofValue,ofCell,List.range,List.range.loop,Array.size,Nat.reduceAdd,Nat.reduceSub,Nat.reduceEqDiff,List.replicate,if_true,if_false,↓reduceIte,reduceCtorEq,elB,evParts,Int.reduceToNat,Int.reduceLE,Int.reduceLT,Int.reduceEq,Nat.reduceMul,Nat.reduceLeDiff,Nat.reduceLT,ty3,ty4,ty5,ty9,ty39,ty40,ty41,ty23,ty24,ty25,ty27,ty58]
       exact back_intro hs3 (j + 1,true) (le_eqwk rfl (by simp [wk])) ⟨by simp only; omega,by simp only; rw [hms]; rfl⟩ (by simp only; omega)
      | false =>
       cases ho : decide ((j : Int) ∈ at_) with
       | false =>
        rw [ho] at hon hms
        simp -implicitDefEqProofs only [awp_draw _ _ Trydr11_24,hc1,hc2,hon,wsucc j (by omega),
  evx,evy,ofValue,ofCell,List.range,List.range.loop,Array.size,Nat.reduceAdd,Nat.reduceSub,Nat.reduceEqDiff,List.replicate,if_true,if_false,↓reduceIte,reduceCtorEq,elB,evParts,Int.reduceToNat,Int.reduceLE,Int.reduceLT,Int.reduceEq,Nat.reduceMul,Nat.reduceLeDiff,Nat.reduceLT,ty3,ty4,ty5,ty9,ty39,ty40,ty41,ty23,ty24,ty25,ty27,ty58]
        exact back_intro hs3 (j + 1,false) (le_eqwk rfl (by simp [wk])) ⟨by simp only; omega,by simp only; rw [hms]; rfl⟩ (by simp only; omega)
       | true =>
        rw [ho] at hon hms
        simp -implicitDefEqProofs only [awp_draw _ _ Trydr11_24,hc1,hc2,hon,Spo.cells,hfk,
  evx,evy,ofValue,ofCell,List.range,List.range.loop,Array.size,Nat.reduceAdd,Nat.reduceSub,Nat.reduceEqDiff,List.replicate,if_true,if_false,↓reduceIte,reduceCtorEq,elB,evParts,Int.reduceToNat,Int.reduceLE,Int.reduceLT,Int.reduceEq,Nat.reduceMul,Nat.reduceLeDiff,Nat.reduceLT,ty3,ty4,ty5,ty9,ty39,ty40,ty41,ty23,ty24,ty25,ty27,ty58]
        refine callK_ret _ _ _ _ (call_pure (hh2) (fun _ => rfl) (fun _ => rfl)) (ok_nil _ _) ?_
        simp -implicitDefEqProofs only [awp_draw _ _ Trydr11_24,wsucc j (by omega),
  evx,evy,ofValue,ofCell,List.range,List.range.loop,Array.size,Nat.reduceAdd,Nat.reduceSub,Nat.reduceEqDiff,List.replicate,if_true,if_false,↓reduceIte,reduceCtorEq,elB,evParts,Int.reduceToNat,Int.reduceLE,Int.reduceLT,Int.reduceEq,Nat.reduceMul,Nat.reduceLeDiff,Nat.reduceLT,ty3,ty4,ty5,ty9,ty39,ty40,ty41,ty23,ty24,ty25,ty27,ty58]
        exact back_intro hs3 (j + 1,decide ((k : Int) ∈ p.fol (j : Int))) (le_eqwk rfl (by simp [wk,Spo.cells])) ⟨by simp only; omega,by simp only; rw [hms]; simp⟩ (by simp only; omega)
     ·obtain rfl : j = n := by omega
      have hc1 : ((j : Int) < (j : Int)) = False := by simp
      have hc2 : ((0 : Int) < (i : Int)) = True := by simp; omega
      rw [hm1] at hm
      rw [← hm] at hup
      cases m with
      | false =>
       rw [Bool.false_and] at hup
       simp -implicitDefEqProofs only [awp_draw _ _ Trydr11_24,hc1,hc2,hrow,wsucc k (by omega),
  evx,evy,ofValue,ofCell,List.range,List.range.loop,Array.size,Nat.reduceAdd,Nat.reduceSub,Nat.reduceEqDiff,List.replicate,if_true,if_false,↓reduceIte,reduceCtorEq,elB,evParts,Int.reduceToNat,Int.reduceLE,Int.reduceLT,Int.reduceEq,Nat.reduceMul,Nat.reduceLeDiff,Nat.reduceLT,ty3,ty4,ty5,ty9,ty39,ty40,ty41,ty23,ty24,ty25,ty27,ty58]
       refine ⟨by omega,by kernel_rfl,?_⟩
       refine back_intro hs2 (k + 1) (le_eqwk (by rw [← hup]; try rfl) (by simp [wk])) (by omega) (by omega)
      | true =>
       rw [Bool.true_and] at hup
       simp -implicitDefEqProofs only [awp_draw _ _ Trydr11_24,hc1,hc2,hset,hsi,Spo.cells,srow,convT_int,wbyte b,
  evx,evy,ofValue,ofCell,List.range,List.range.loop,Array.size,Nat.reduceAdd,Nat.reduceSub,Nat.reduceEqDiff,List.replicate,if_true,if_false,↓reduceIte,reduceCtorEq,elB,evParts,Int.reduceToNat,Int.reduceLE,Int.reduceLT,Int.reduceEq,Nat.reduceMul,Nat.reduceLeDiff,Nat.reduceLT,ty3,ty4,ty5,ty9,ty39,ty40,ty41,ty23,ty24,ty25,ty27,ty58]
       refine callK_ret _ _ _ _ (call_pure (hhas) (fun _ => rfl) (fun _ => rfl)) (ok_nil _ _) ?_
       simp -implicitDefEqProofs only [awp_draw _ _ Trydr11_24,hrow,wsucc k (by omega),
  evx,evy,ofValue,ofCell,List.range,List.range.loop,Array.size,Nat.reduceAdd,Nat.reduceSub,Nat.reduceEqDiff,List.replicate,if_true,if_false,↓reduceIte,reduceCtorEq,elB,evParts,Int.reduceToNat,Int.reduceLE,Int.reduceLT,Int.reduceEq,Nat.reduceMul,Nat.reduceLeDiff,Nat.reduceLT,ty3,ty4,ty5,ty9,ty39,ty40,ty41,ty23,ty24,ty25,ty27,ty58]
       refine ⟨by omega,by kernel_rfl,?_⟩
       refine back_intro hs2 (k + 1) (le_eqwk (by rw [← hup]; try rfl) (by simp [wk])) (by omega) (by omega)
   ·obtain rfl : k = n := by omega
    simp -implicitDefEqProofs only [awp_draw _ _ Trydr11_24,lt_false hkn,wsucc i (by omega),
  evx,evy,ofValue,ofCell,List.range,List.range.loop,Array.size,Nat.reduceAdd,Nat.reduceSub,Nat.reduceEqDiff,List.replicate,if_true,if_false,↓reduceIte,reduceCtorEq,elB,evParts,Int.reduceToNat,Int.reduceLE,Int.reduceLT,Int.reduceEq,Nat.reduceMul,Nat.reduceLeDiff,Nat.reduceLT,ty3,ty4,ty5,ty9,ty39,ty40,ty41,ty23,ty24,ty25,ty27,ty58]
    refine back_intro hs1 (i + 1,setOf ((next.filter (p.has b)).flatMap p.fol),next.filter (p.has b)) (le_pk [0,2] rfl (by simp) (by simp) ?_ ?_) ⟨by simp only; omega,by simp only; omega,hno.1,fun q hq => hnb q (List.mem_filter.1 hq).1,hat,by simp,fun _ => rfl⟩ (by simp only; omega)
    ·simp [subBlk,subAny,subA,mkSub,idx,Spo.cells,upR_all]
    ·simp [wk,subAny,subA,mkSub,idx]
  ·obtain rfl : i = s.length := by omega
   rw [List.drop_length,atS] at hat
   rw [hat]
   simp -implicitDefEqProofs only [awp_draw _ _ Trydr11_24,lt_false hlt,
  evx,evy,ofValue,ofCell,List.range,List.range.loop,Array.size,Nat.reduceAdd,Nat.reduceSub,Nat.reduceEqDiff,List.replicate,if_true,if_false,↓reduceIte,reduceCtorEq,elB,evParts,Int.reduceToNat,Int.reduceLE,Int.reduceLT,Int.reduceEq,Nat.reduceMul,Nat.reduceLeDiff,Nat.reduceLT,ty3,ty4,ty5,ty9,ty39,ty40,ty41,ty23,ty24,ty25,ty27,ty58]
   refine loop_rule (fun k : Nat => ⟨[.any,.any,.ptr 0 0 0 0,.any,.any,.fv (.int .i64 n),.any,.ref 1 1 0 n,.any,.any,.any,.any,.any,.fv (.int .i64 k),.any,.any,.any,.any,.any,.any,.any,.any,.any,.any,.any,.any,.any,.any,.any,.any,.any,.any,.any,.any,.any,.any,.any,.any,.any,.any,.any,.any,.any,.any,.any,.any,.any,.any,.any,.any,.any,.any,.any,.any,.any,.any,.any,.any,.any,.any,.any,.any,.any,.any,.any,.any,.any,.any,.any,.any,.any,.any,.any,.any,.any,.any,.any,.any,.any,.any,.any,.any,.any,.any,.any,.any,.any,.any,.any,.any,.any,.any,.any,.any,.any,.any,.any,.any,.any,.any,.any,.any,.any,.any,.any,.any,.any,.any,.any,.any,.any,.any,.any,.any,.any,.any,.any,.any,.any,.any,.any,.any,.any,.any,.any,.any,.any,.any,.any,.any,.any,.any,.any,.any],[.box p.cells,.plain 1 (onR n at_)],[]⟩)
    (fun k => k ≤ n ∧ ∀ j : Nat,j < k → ((j : Int) ∈ at_ ∧ (j : Int) ∈ p.last) → False) (fun k => n - k) 0 (le_eqwk rfl (by simp [wk])) ⟨by omega,by omega⟩ (fun k hk s2 hs2 => ?_)
   obtain ⟨hk,hno⟩ := hk
   by_cases hkn : k < n
   ·have hon := onR_get at_ hkn
    have hh1 := ok29 p.last (k : Int) (by omega)
    cases ho : decide ((k : Int) ∈ at_) with
    | false =>
     rw [ho] at hon
     simp -implicitDefEqProofs only [awp_draw _ _ Trydr11_24,lt_true hkn,hon,wsucc k (by omega),
  evx,evy,ofValue,ofCell,List.range,List.range.loop,Array.size,Nat.reduceAdd,Nat.reduceSub,Nat.reduceEqDiff,List.replicate,if_true,if_false,↓reduceIte,reduceCtorEq,elB,evParts,Int.reduceToNat,Int.reduceLE,Int.reduceLT,Int.reduceEq,Nat.reduceMul,Nat.reduceLeDiff,Nat.reduceLT,ty3,ty4,ty5,ty9,ty39,ty40,ty41,ty23,ty24,ty25,ty27,ty58]
     refine back_intro hs2 (k + 1) (le_eqwk rfl (by simp [wk])) ⟨by omega,fun j hj h => ?_⟩ (by omega)
     by_cases hjk : j = k
     ·subst hjk
      rw [decide_eq_true h.1] at ho
      cases ho
     ·exact hno j (by omega) h
    | true =>
     rw [ho] at hon
     simp -implicitDefEqProofs only [awp_draw _ _ Trydr11_24,lt_true hkn,hon,Spo.cells,
  evx,evy,ofValue,ofCell,List.range,List.range.loop,Array.size,Nat.reduceAdd,Nat.reduceSub,Nat.reduceEqDiff,List.replicate,if_true,if_false,↓reduceIte,reduceCtorEq,elB,evParts,Int.reduceToNat,Int.reduceLE,Int.reduceLT,Int.reduceEq,Nat.reduceMul,Nat.reduceLeDiff,Nat.reduceLT,ty3,ty4,ty5,ty9,ty39,ty40,ty41,ty23,ty24,ty25,ty27,ty58]
     refine callK_ret _ _ _ _ (call_pure (hh1) (fun _ => rfl) (fun _ => rfl)) (ok_nil _ _) ?_
     cases hl : decide ((k : Int) ∈ p.last) with
     | true =>
      have e2 : (at_.any fun k => decide (k ∈ p.last)) = true := List.any_eq_true.2 ⟨(k : Int),of_decide_eq_true ho,hl⟩
      rw [e2]
      simp -implicitDefEqProofs only [awp_draw _ _ Trydr11_24,
  evx,evy,ofValue,ofCell,List.range,List.range.loop,Array.size,Nat.reduceAdd,Nat.reduceSub,Nat.reduceEqDiff,List.replicate,if_true,if_false,↓reduceIte,reduceCtorEq,elB,evParts,Int.reduceToNat,Int.reduceLE,Int.reduceLT,Int.reduceEq,Nat.reduceMul,Nat.reduceLeDiff,Nat.reduceLT,ty3,ty4,ty5,ty9,ty39,ty40,ty41,ty23,ty24,ty25,ty27,ty58]
      exact le_flat rfl
     | false =>
      simp -implicitDefEqProofs only [awp_draw _ _ Trydr11_24,wsucc k (by omega),
  evx,evy,ofValue,ofCell,List.range,List.range.loop,Array.size,Nat.reduceAdd,Nat.reduceSub,Nat.reduceEqDiff,List.replicate,if_true,if_false,↓reduceIte,reduceCtorEq,elB,evParts,Int.reduceToNat,Int.reduceLE,Int.reduceLT,Int.reduceEq,Nat.reduceMul,Nat.reduceLeDiff,Nat.reduceLT,ty3,ty4,ty5,ty9,ty39,ty40,ty41,ty23,ty24,ty25,ty27,ty58]
      refine back_intro hs2 (k + 1) (le_eqwk rfl (by simp [wk,Spo.cells])) ⟨by omega,fun j hj h => ?_⟩ (by omega)
      by_cases hjk : j = k
      ·subst hjk
       rw [decide_eq_true h.2] at hl
       cases hl
      ·exact hno j (by omega) h
   ·obtain rfl : k = n := by omega
    have e2 : (at_.any fun k => decide (k ∈ p.last)) = false := by
     rw [← Bool.not_eq_true,List.any_eq_true]
     rintro ⟨x,hx,hxl⟩
     obtain ⟨j,rfl,hj⟩ := inB_nat (hab x hx)
     exact hno j hj ⟨hx,of_decide_eq_true hxl⟩
    rw [e2]
    simp -implicitDefEqProofs only [awp_draw _ _ Trydr11_24,lt_false hkn,
  evx,evy,ofValue,ofCell,List.range,List.range.loop,Array.size,Nat.reduceAdd,Nat.reduceSub,Nat.reduceEqDiff,List.replicate,if_true,if_false,↓reduceIte,reduceCtorEq,elB,evParts,Int.reduceToNat,Int.reduceLE,Int.reduceLT,Int.reduceEq,Nat.reduceMul,Nat.reduceLeDiff,Nat.reduceLT,ty3,ty4,ty5,ty9,ty39,ty40,ty41,ty23,ty24,ty25,ty27,ty58]
    exact le_flat rfl
 ·have hnet : ((p.follow.length : Int) = (p.sets.length : Int)) = False := by simp; omega
  have e : p.fits s = false := by unfold Spo.fits Spo.rightB; rw [decide_eq_false hne]; simp
  rw [e]
  simp -implicitDefEqProofs only [awp_draw _ _ Trydr11_24,Spo.av,Spo.cells,hrl,List.length_map,hnet,
  evx,evy,ofValue,ofCell,List.range,List.range.loop,Array.size,Nat.reduceAdd,Nat.reduceSub,Nat.reduceEqDiff,List.replicate,if_true,if_false,↓reduceIte,reduceCtorEq,elB,evParts,Int.reduceToNat,Int.reduceLE,Int.reduceLT,Int.reduceEq,Nat.reduceMul,Nat.reduceLeDiff,Nat.reduceLT,ty3,ty4,ty5,ty9,ty39,ty40,ty41,ty23,ty24,ty25,ty27,ty58]
  exact le_flat rfl
end Go.Abs
