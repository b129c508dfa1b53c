/- Items: the library's sort; sorted, each once. -/
import Derived.Test.YtnhghoonlmoinaaGreatTyTryzi
import Derived.Test.YtnhghoonlmoinaaGreatDrTryzi
import Derived.Test.YtnhghoonlmoinaaGreatItOi
import Derived.Test.YtnhghoonlmoinaaGreatAbsGo
import Derived.Test.YtnhghoonlmoinaaGreatCkLayFi
namespace Go.Abs
set_option linter.unusedSectionVars false
variable [Kn]
open Go.Proofs
set_option linter.unusedVariables false
set_option linter.unusedSimpArgs false
set_option maxRecDepth 100000
set_option maxHeartbeats 8000000
def ltI (x y : Itm) : Prop := x.prod < y.prod ∨ (x.prod = y.prod ∧ x.dot < y.dot)
instance (x y : Itm) : Decidable (ltI x y) := by unfold ltI; infer_instance
theorem cfI_lt (x y : Itm) : cfI x y < 0 ↔ ltI x y := by
 unfold cfI orL orL orL cmpI ltI
 repeat' split
 all_goals omega
theorem ltOfI (x y : Itm) : Go.Proofs.ltOf cfI x y = decide (ltI x y) := by
 simp only [Go.Proofs.ltOf,decide_eq_decide,cfI_lt]
theorem ltI_irrefl (x : Itm) : ¬ ltI x x := by unfold ltI; omega
theorem ltI_trans {x y z : Itm} (h : ltI x y) (k : ltI y z) : ltI x z := by unfold ltI at *; omega
theorem ltI_tri (x y : Itm) : ltI x y ∨ x = y ∨ ltI y x := by
 obtain ⟨a,b⟩ := x
 obtain ⟨c,d⟩ := y
 simp only [ltI,Itm.mk.injEq]
 omega
theorem swoI : Sort.SWO (Go.Proofs.ltOf cfI) where
 irrefl x := by rw [ltOfI]; exact decide_eq_false (ltI_irrefl x)
 trans x y z := by simp only [ltOfI,decide_eq_true_eq]; exact ltI_trans
 ntrans x y z := by simp only [ltOfI,decide_eq_false_iff_not]; unfold ltI; omega
instance : Inhabited Itm := ⟨zeroI⟩
/-- Items, sorted. -/
def psortI (ps : List Itm) : List Itm := (Sort.pdq (Go.Proofs.ltOf cfI) ps.toArray 0 ps.toArray.size (Lib.bitLen ps.toArray.size) true true).toList
theorem psortI_facts (ps : List Itm) : (psortI ps).length = ps.length ∧ (psortI ps).Perm ps ∧ (psortI ps).Pairwise (fun p q => ¬ ltI q p) := by
 obtain ⟨⟨h1,_,h2⟩,h3⟩ := Sort.pdq_sorts (Go.Proofs.ltOf cfI) swoI ps.toArray 0 ps.toArray.size (Lib.bitLen ps.toArray.size) true true (Nat.zero_le _) (Nat.le_refl _) (Or.inl rfl)
 unfold psortI
 generalize Sort.pdq (Go.Proofs.ltOf cfI) ps.toArray 0 ps.toArray.size (Lib.bitLen ps.toArray.size) true true = d at *
 have hsz : d.size = ps.length := by simpa using h1
 refine ⟨by simpa using hsz,?_,?_⟩
 ·have e1 : d.extract 0 ps.toArray.size = d := by rw [← h1]; exact Array.extract_size
  rw [e1,Array.extract_size] at h2
  simpa using h2
 ·rw [List.pairwise_iff_getElem]
  intro i j hi hj hij
  have hj' : j < d.size := by simpa using hj
  have hi' : i < d.size := by simpa using hi
  have h := h3 i j (Nat.zero_le _) hij (by simpa [hsz] using hj')
  rw [ltOfI,decide_eq_false_iff_not,getElem!_pos d j hj',getElem!_pos d i hi'] at h
  simp only [Array.getElem_toList]
  exact h
theorem row_scal (x : Itm) : ∀ y ∈ x.row,scal y = true := by
 intro y hy
 simp [Itm.row] at hy
 rcases hy with rfl | rfl <;> rfl
theorem call_order : ∀ args w,(callFunc 78 args).run Tryz.prog w = .ok (.enter 78 args) w := enters_of Tryz.func78 (by kernel_rfl) rfl
theorem ok77_some (ps : List Itm) (hne : ps ≠ []) (hlen : ps.length < 1048576) : Ok Tryz.prog 77 [.ref 0 2 0 ps.length,.func 78 []] [.plain 2 (ps.map Itm.row)] (.ret (.tuple [])) [.plain 2 ((psortI ps).map Itm.row)] := by
 have hsz : (Sort.pdq (Go.Proofs.ltOf cfI) ps.toArray 0 ps.toArray.size (Lib.bitLen ps.toArray.size) true true).size = ps.toArray.size :=
  (Sort.pdq_sorts (Go.Proofs.ltOf cfI) swoI ps.toArray 0 ps.toArray.size (Lib.bitLen ps.toArray.size) true true (Nat.zero_le _) (Nat.le_refl _) (Or.inl rfl)).1.1
 have h := lift_rowK (P := Tryz.prog) (f := 77) (g := 78) Itm.row 2 Tryz.func77 rfl rfl (by omega) (fun _ => rfl) row_scal ps.toArray _ hsz (by simpa using List.length_pos_iff.2 hne) ?_
 ·simpa [psortI] using h
 ·intro S b off cap w hG hbS hlow hH hb hc
  refine (AnyQ.slices_SortFunc_eq Tryz.laysF6 2 Tryz.isAgg52 Tryz.sizeOf52 (encS Itm.row) (fun x => rfl) (fun x v hv => ?_) cfI swoI 78 #[] b off cap ps.toArray w ?_ ?_ hH hb (by simp; omega)).mono ?_
  ·simp [encS,Itm.row,valS] at hv
   rcases hv with rfl | rfl <;> rfl
  ·exact call_order
  ·intro m os dk hdk x y
   generalize hW : Go.Proofs.sortWorldK (encS Itm.row) 2 w b off m dk os = W
   have hfar : ∀ k,S k → k < w.heap.size → W.heap[k]? = w.heap[k]? := fun k hk hl => by
    have hkb : k ≠ b := fun e => hbS (e ▸ hk)
    rw [← hW]
    show ((w.heap.modify b _) ++ os)[k]? = _
    rw [Array.getElem?_append_left (by simpa using hl),Array.getElem?_modify,if_neg (fun e => hkb e.symm)]
   have hszW : w.heap.size ≤ W.heap.size := by
    rw [← hW]
    show w.heap.size ≤ ((w.heap.modify b _) ++ os).size
    simp
   have hGW : GOk Tryz.prog W S := fun g row hg => (hG g row hg).stab (fun _ h => h) hfar (fun i b o hi => by simp at hi) (fun i b o hi => by simp at hi)
   have hHW : HRel W S [] [] := ⟨rfl,fun i l b hi => by simp at hi,fun i j bi bj b o o' _ hi => by simp at hi,fun i bi b o hi => by simp at hi,fun k hk => Nat.lt_of_lt_of_le (hlow k hk) hszW,fun i b o hi => by simp at hi⟩
   have hrel : ∀ p : Itm,VRel W S [] (.agg (encS Itm.row p).toArray) p.av := fun p => by
    refine .agg _ _ (by simp [encS,Itm.row]) (fun i v z hv hz => ?_)
    match i with
    | 0 => simp [encS,Itm.row,valS] at hv; simp at hz; subst hv; subst hz; exact .fv _ _ (.int _ _)
    | 1 => simp [encS,Itm.row,valS] at hv; simp at hz; subst hv; subst hz; exact .fv _ _ (.int _ _)
    | i + 2 => simp at hz
   refine ((@ok78 ⟨true⟩ x y).2 W S [] [.agg (encS Itm.row x).toArray,.agg (encS Itm.row y).toArray] hGW hHW ⟨rfl,fun i v z hv hz => ?_⟩).mono fun e w' hq => ?_
   ·match i with
    | 0 => simp at hv hz; subst hv; subst hz; exact hrel x
    | 1 => simp at hv hz; subst hv; subst hz; exact hrel y
    | i + 2 => simp at hv
   ·obtain ⟨S',m',_,ho,hf⟩ := hq
    refine ⟨?_,world_of_fr hf⟩
    cases e <;> simp only [ORel] at ho
    cases ho with
    | fv _ _ hx => cases hx; rfl
  ·rintro e w' ⟨he,n,os,hw⟩
   exact ⟨he,n,os,hw⟩
theorem names_allI : (Tryz.prog.funcs.toList.all fun fn => !(fn.name == "runtime.NumGoroutine")) = true := by kernel_rfl
theorem names_okI (f : FuncId) (fn : Func) (h : Tryz.prog.funcs[f]? = some fn) : (fn.name == "runtime.NumGoroutine") = false := by
 have h1 := List.all_eq_true.1 names_allI fn (by
  have : Tryz.prog.funcs.toList[f]? = some fn := by simpa using h
  exact List.mem_of_getElem? this)
 simpa using h1
theorem ok77_none : Ok Tryz.prog 77 [.ref 0 2 0 0,.func 78 []] [.plain 2 []] (.ret (.tuple [])) [.plain 2 []] :=
 goFn_ok mix names_okI (ext := []) (fun f x h => by simp [extTab] at h) (hook := []) (fun f k h => by simp [extTab] at h) (lf := 1000) 20 _ _ _ _ _ (by kernel_rfl)
theorem ok77 (ps : List Itm) (hlen : ps.length < 1048576) : Ok Tryz.prog 77 [.ref 0 2 0 ps.length,.func 78 []] [.plain 2 (ps.map Itm.row)] (.ret (.tuple [])) [.plain 2 ((psortI ps).map Itm.row)] := by
 by_cases h : ps = []
 ·subst h
  have e : psortI [] = [] := List.length_eq_zero_iff.1 (psortI_facts []).1
  rw [e]
  exact ok77_none
 ·exact ok77_some ps h hlen
/-- Items, sorted, each once. -/
def sortI (l : List Itm) : List Itm := compI (psortI l)
theorem ok53 (d : List Itm) (hd : d.length < 1048576) :
  Ok Tryz.prog 53 [.ref 0 2 0 d.length] [.plain 2 (d.map Itm.row)] (.ret (.ref 0 2 0 (sortI d).length)) [.plain 2 ((sortI d ++ List.replicate (d.length - (sortI d).length) zeroI).map Itm.row)] := by
 have hpl := (psortI_facts d).1
 have hcf := ok79 (psortI d) (by omega)
 rw [hpl] at hcf
 refine ok_start (k := 6) (n0 := 1) (rs := [.tmp 2]) mix Tryz.func53 rfl rfl rfl rfl rfl rfl rfl ?_
 simp -implicitDefEqProofs only [evx,evy,ofValue,ofCell,List.range,List.range.loop,Array.size,Nat.reduceAdd,Nat.reduceSub,Nat.reduceEqDiff,List.replicate,if_true,if_false,↓reduceIte,reduceCtorEq,elB,evParts,Int.reduceToNat,Int.reduceLE,Int.reduceLT,Int.reduceEq,Nat.reduceMul,Nat.reduceLeDiff,Nat.reduceLT,ty3,ty4,ty28,ty52,ty43]
 refine callK_ret _ _ _ _ (call_lent [0] (ok77 d hd) rfl rfl (by simp) (by simp [Blk.live])) (ok_none _ _) ?_
 simp -implicitDefEqProofs only [subAny,subA,subL,backSub,back,putBack,subBlk,Option.getD_some,List.map_cons,List.map_nil,Nat.not_lt_zero,Nat.sub_zero,Nat.add_zero,List.length_map,
  evx,evy,ofValue,ofCell,List.range,List.range.loop,Array.size,Nat.reduceAdd,Nat.reduceSub,Nat.reduceEqDiff,List.replicate,if_true,if_false,↓reduceIte,reduceCtorEq,elB,evParts,Int.reduceToNat,Int.reduceLE,Int.reduceLT,Int.reduceEq,Nat.reduceMul,Nat.reduceLeDiff,Nat.reduceLT,ty3,ty4,ty28,ty52,ty43]
 refine callK_ret _ _ _ _ (call_lent [0] hcf rfl rfl (by simp) (by simp [Blk.live])) (ok_none _ _) ?_
 simp -implicitDefEqProofs only [subAny,subA,subL,backSub,back,putBack,subBlk,Option.getD_some,List.map_cons,List.map_nil,Nat.not_lt_zero,Nat.sub_zero,Nat.add_zero,List.length_map,
  evx,evy,ofValue,ofCell,List.range,List.range.loop,Array.size,Nat.reduceAdd,Nat.reduceSub,Nat.reduceEqDiff,List.replicate,if_true,if_false,↓reduceIte,reduceCtorEq,elB,evParts,Int.reduceToNat,Int.reduceLE,Int.reduceLT,Int.reduceEq,Nat.reduceMul,Nat.reduceLeDiff,Nat.reduceLT,ty3,ty4,ty28,ty52,ty43]
 exact Le.refl _ _
theorem compI_mem : ∀ (l : List Itm) (x : Itm),x ∈ compI l ↔ x ∈ l
 | [],x => by simp [compI]
 | [y],x => by simp [compI]
 | y :: z :: r,x => by
  have h := compI_mem (z :: r) x
  rw [compI]
  split
  ·rename_i e
   subst e
   rw [h]
   simp
  ·rw [List.mem_cons,h,List.mem_cons (b := y)]
theorem compI_sorted : ∀ (l : List Itm),l.Pairwise (fun p q => ¬ ltI q p) → (compI l).Pairwise ltI
 | [],_ => List.Pairwise.nil
 | [x],_ => by simp [compI]
 | x :: y :: r,h => by
  obtain ⟨h1,h2⟩ := List.pairwise_cons.1 h
  have ih := compI_sorted (y :: r) h2
  rw [compI]
  split
  ·exact ih
  ·rename_i hne
   refine List.pairwise_cons.2 ⟨fun z hz => ?_,ih⟩
   have hz' := (compI_mem _ z).1 hz
   have hxy : ltI x y := by
    rcases ltI_tri x y with h | h | h
    ·exact h
    ·exact absurd h hne
    ·exact absurd h (h1 y (by simp))
   rcases ltI_tri y z with h | h | h
   ·exact ltI_trans hxy h
   ·exact h ▸ hxy
   ·rcases List.mem_cons.1 hz' with e | e
    ·exact e ▸ hxy
    ·exact absurd h ((List.pairwise_cons.1 h2).1 z e)
theorem sortI_mem (l : List Itm) (x : Itm) : x ∈ sortI l ↔ x ∈ l := by
 rw [sortI,compI_mem,(psortI_facts l).2.1.mem_iff]
theorem sortI_sorted (l : List Itm) : (sortI l).Pairwise ltI := compI_sorted _ (psortI_facts l).2.2
theorem sortI_len (l : List Itm) : (sortI l).length ≤ l.length := by
 have := compI_len (psortI l)
 rw [(psortI_facts l).1] at this
 exact this
/-- Two rising lists with the same members are one. -/
theorem rise_ext : ∀ (l m : List Itm),l.Pairwise ltI → m.Pairwise ltI → (∀ x,x ∈ l ↔ x ∈ m) → l = m
 | [],[],_,_,_ => rfl
 | [],y :: m,_,_,h => by have := (h y).2 (by simp); cases this
 | x :: l,[],_,_,h => by have := (h x).1 (by simp); cases this
 | x :: l,y :: m,hl,hm,h => by
  obtain ⟨l1,l2⟩ := List.pairwise_cons.1 hl
  obtain ⟨m1,m2⟩ := List.pairwise_cons.1 hm
  have e : x = y := by
   rcases List.mem_cons.1 ((h x).1 (by simp)) with e | e
   ·exact e
   rcases List.mem_cons.1 ((h y).2 (by simp)) with e2 | e2
   ·exact e2.symm
   ·exact absurd (ltI_trans (m1 x e) (l1 y e2)) (ltI_irrefl y)
  subst e
  rw [rise_ext l m l2 m2 fun z => ?_]
  have hz := h z
  simp only [List.mem_cons] at hz
  constructor
  ·intro k
   rcases hz.1 (.inr k) with e | e
   ·exact absurd (e ▸ l1 z k) (ltI_irrefl x)
   ·exact e
  ·intro k
   rcases hz.2 (.inr k) with e | e
   ·exact absurd (e ▸ m1 z k) (ltI_irrefl x)
   ·exact e
end Go.Abs
