/- Items: the closure that the program reckons. -/
import Derived.Test.YtnhghoonlmoinaaGreatTyTryzi
import Derived.Test.YtnhghoonlmoinaaGreatDrTryzi
import Derived.Test.YtnhghoonlmoinaaGreatItDi
import Derived.Test.YtnhghoonlmoinaaGreatItFi
import Derived.Test.YtnhghoonlmoinaaGreatAbsU
namespace Go.Abs
open Go.Proofs
set_option linter.unusedVariables false
set_option linter.unusedSimpArgs false
set_option maxRecDepth 100000
set_option maxHeartbeats 8000000
theorem bsI0 (b : Nat) (dd : TypeDesc) (z1 z2 : FV) (h : List Blk) : bsE (some ⟨dd,2,b,some [z1,z2]⟩) 0 h (some []) = some (.ref h.length 2 0 0,h ++ [.plain 2 []],[]) :=
 bsE_rows b dd 2 [z1,z2] 0 h [] _ rfl (by omega) rfl (by omega) (by simp) rfl
theorem ok75 (l : List Itm) (hl : l.length < 1048576) : Ok Tryz.prog 75 [.fv (.lst 2 (l.map Itm.row))] [] (.ret (.ref 0 2 0 l.length)) [.plain 2 (l.map Itm.row)] := by
 have hm : (0 + l.length) * 16 ≤ 140737488355328 := by omega
 refine ok_start (k := 7) (n0 := 0) (rs := [.tmp 2]) mix Tryz.func75 rfl rfl rfl rfl rfl rfl rfl ?_
 cases l with
 | nil =>
  simp -implicitDefEqProofs only [List.map_nil,eql_nil 43 _ ty43 rfl,bsI0,List.take_nil,List.append_nil,List.length_nil,Nat.zero_mul,Nat.zero_le,and_self,
  evx,evy,ofValue,ofCell,List.range,List.range.loop,Array.size,Nat.reduceAdd,Nat.reduceSub,Nat.reduceEqDiff,List.replicate,if_true,if_false,↓reduceIte,reduceCtorEq,elB,evParts,Int.reduceToNat,Int.reduceLE,Int.reduceLT,Int.reduceEq,Nat.reduceMul,Nat.reduceLeDiff,Nat.reduceLT,ty3,ty4,ty9,ty28,ty22,ty23,ty24,ty25,ty27,ty63,ty52,ty43,ty128]
  refine ⟨?_,?_⟩
  ·exact le_virt 0 2 rfl
  ·exact le_to [1] [] rfl (by simp) (by simp) (by simp) (by simp) (by simp [subSt,subAny,subA,mkSub,idx,subBlk])
 | cons x l =>
  simp -implicitDefEqProofs only [List.map_cons,eql_cons 43 _ ty43 rfl,bsI0,List.take_nil,List.nil_append,List.length_cons,List.length_map,List.length_nil,Nat.zero_le,true_and,
  evx,evy,ofValue,ofCell,List.range,List.range.loop,Array.size,Nat.reduceAdd,Nat.reduceSub,Nat.reduceEqDiff,List.replicate,if_true,if_false,↓reduceIte,reduceCtorEq,elB,evParts,Int.reduceToNat,Int.reduceLE,Int.reduceLT,Int.reduceEq,Nat.reduceMul,Nat.reduceLeDiff,Nat.reduceLT,ty3,ty4,ty9,ty28,ty22,ty23,ty24,ty25,ty27,ty63,ty52,ty43,ty128]
  refine ⟨by simp only [List.length_cons] at hl; omega,?_⟩
  exact le_to [1] [] rfl (by simp) (by simp) (by simp) (by simp) (by simp [subSt,subAny,subA,mkSub,idx,subBlk])
/-- What the closure of items has. -/
inductive Cl (g : Gra) (l : List Itm) : Itm → Prop
 | base (x : Itm) (h : x ∈ l) : Cl g l x
 | step (x : Itm) (k : Nat) (p : Prd) (h : Cl g l x) (hp : g.prods[k]? = some p) (hn : nextI g x ≠ 0) (hl : p.left = nextI g x) : Cl g l ⟨(k : Nat),0⟩
/-- All items of a grammar, rising. -/
def itemsOf (g : Gra) : List Itm := (List.range (g.prods.length + 1)).flatMap fun (q : Nat) => (List.range ((sideL g ((q : Int) - 1)).length + 1)).map fun (d : Nat) => ⟨(q : Int) - 1,(d : Int)⟩
theorem itemsOf_mem (g : Gra) (x : Itm) : x ∈ itemsOf g ↔ g.isItm x = true := by
 obtain ⟨a,b⟩ := x
 rw [isItm_iff,isProd_iff]
 simp only [itemsOf,List.mem_flatMap,List.mem_range,List.mem_map,Itm.mk.injEq]
 constructor
 ·rintro ⟨q,hq,d,hd,rfl,rfl⟩
  refine ⟨by omega,by omega,by omega⟩
 ·rintro ⟨⟨h1,h2⟩,h3,h4⟩
  refine ⟨(a + 1).toNat,by omega,b.toNat,?_,by omega,by omega⟩
  rw [show (((a + 1).toNat : Nat) : Int) - 1 = a from by omega]
  omega
theorem itemsOf_rise (g : Gra) : (itemsOf g).Pairwise ltI := by
 unfold itemsOf
 rw [List.pairwise_flatMap]
 refine ⟨fun q _ => ?_,List.pairwise_lt_range.imp fun {a b} h x hx y hy => ?_⟩
 ·rw [List.pairwise_map]
  exact List.pairwise_lt_range.imp fun {a b} h => .inr ⟨rfl,by simp only; omega⟩
 ·obtain ⟨d,_,rfl⟩ := List.mem_map.1 hx
  obtain ⟨e,_,rfl⟩ := List.mem_map.1 hy
  exact .inl (by simp only; omega)
open Classical in
/-- The closure of items. -/
noncomputable def closI (g : Gra) (l : List Itm) : List Itm := (itemsOf g).filter fun x => decide (Cl g l x)
theorem closI_rise (g : Gra) (l : List Itm) : (closI g l).Pairwise ltI := (itemsOf_rise g).filter _
theorem closI_mem (g : Gra) (l : List Itm) (x : Itm) : x ∈ closI g l ↔ g.isItm x = true ∧ Cl g l x := by simp [closI,itemsOf_mem]
theorem filt_or (f h : Prd → Bool) (hd : ∀ p,f p = true → h p = false) : ∀ ps : List Prd,(ps.filter fun p => f p || h p).length = (ps.filter f).length + (ps.filter h).length
 | [] => rfl
 | p :: ps => by
  have ih := filt_or f h hd ps
  have hp := hd p
  simp only [List.filter_cons]
  cases h1 : f p with
  | true =>
   rw [h1] at hp
   rw [hp rfl]
   simp only [Bool.true_or,if_true,Bool.false_eq_true,if_false,List.length_cons,ih]
   omega
  | false =>
   cases h2 : h p with
   | true =>
    simp only [Bool.false_or,if_true,Bool.false_eq_true,if_false,List.length_cons,ih]
    omega
   | false =>
    simp only [Bool.false_or,Bool.false_eq_true,if_false,ih]
theorem filt_snoc (ps : List Prd) (ns : List Int) (n : Int) (h : n ∉ ns) : (ps.filter fun p => decide (p.left ∈ ns ++ [n])).length = (ps.filter fun p => decide (p.left ∈ ns)).length + (ps.filter fun p => decide (p.left = n)).length := by
 rw [← filt_or _ _ (fun p hp => decide_eq_false (fun e => h (by rw [← e]; exact of_decide_eq_true hp)))]
 congr 1
 apply List.filter_congr
 intro p _
 simp [Bool.decide_or]
structure CloI (g : Gra) (l : List Itm) (i : Nat) (out : List Itm) (ns : List Int) : Prop where
 sub : ∀ x ∈ l,x ∈ out
 cl : ∀ x ∈ out,Cl g l x
 ok : ∀ x ∈ out,g.isItm x = true
 nd : ∀ (k : Nat) (p : Prd),g.prods[k]? = some p → p.left ∈ ns → (⟨(k : Nat),0⟩ : Itm) ∈ out
 done : ∀ (j : Nat) (x : Itm),j < i → out[j]? = some x → nextI g x = 0 ∨ nextI g x ∈ ns
 len : out.length ≤ l.length + (g.prods.filter fun p => decide (p.left ∈ ns)).length
 le : i ≤ out.length
structure CloJ (g : Gra) (l out0 : List Itm) (n : Int) (k : Nat) (out : List Itm) : Prop where
 pre : ∀ (j : Nat) (x : Itm),out0[j]? = some x → out[j]? = some x
 cl : ∀ x ∈ out,Cl g l x
 ok : ∀ x ∈ out,g.isItm x = true
 nd : ∀ (j : Nat) (p : Prd),j < k → g.prods[j]? = some p → p.left = n → (⟨(j : Nat),0⟩ : Itm) ∈ out
 len : out.length ≤ out0.length + ((g.prods.take k).filter fun p => decide (p.left = n)).length
 le : k ≤ g.prods.length
theorem getI {out : List Itm} {x : Itm} (h : x ∈ out) : ∃ j : Nat,out[j]? = some x := List.mem_iff_getElem?.1 h
theorem CloJ.toI {g : Gra} {l out0 out : List Itm} {n : Int} {i : Nat} {ns : List Int} (h0 : CloI g l i out0 ns) (h : CloJ g l out0 n g.prods.length out) (hn : n ∉ ns) {x : Itm} (hx : out0[i]? = some x) (hxn : nextI g x = n) : CloI g l (i + 1) out (ns ++ [n]) where
 sub y hy := by
  obtain ⟨j,hj⟩ := getI (h0.sub y hy)
  exact List.mem_of_getElem? (h.pre j y hj)
 cl := h.cl
 ok := h.ok
 nd k p hp hl := by
  rcases List.mem_append.1 hl with hl | hl
  ·obtain ⟨j,hj⟩ := getI (h0.nd k p hp hl)
   exact List.mem_of_getElem? (h.pre j _ hj)
  ·exact h.nd k p (List.getElem?_eq_some_iff.1 hp).1 hp (by simpa using hl)
 done j y hj hy := by
  have hlt := (List.getElem?_eq_some_iff.1 hx).1
  have e : out0[j]? = some y := by
   have hj0 : j < out0.length := by omega
   have := h.pre j out0[j] (List.getElem?_eq_getElem hj0)
   rw [hy] at this
   rw [List.getElem?_eq_getElem hj0,← Option.some.inj this]
  by_cases hji : j = i
  ·subst hji
   rw [hx] at e
   cases e
   exact .inr (by simp [hxn])
  ·rcases h0.done j y (by omega) e with q | q
   ·exact .inl q
   ·exact .inr (by simp [q])
 len := by
  have h1 := h.len
  have h2 := h0.len
  rw [List.take_length] at h1
  rw [filt_snoc _ _ _ hn]
  omega
 le := by
  have hlt := h.pre i x hx
  have := (List.getElem?_eq_some_iff.1 hlt).1
  omega
theorem CloI.ends {g : Gra} {l out : List Itm} {ns : List Int} (h : CloI g l out.length out ns) (x : Itm) : x ∈ out ↔ Cl g l x := by
 refine ⟨h.cl x,fun hc => ?_⟩
 induction hc with
 | base x hx => exact h.sub x hx
 | step x k p _ hp hn hl ih =>
  obtain ⟨j,hj⟩ := getI ih
  rcases h.done j x (List.getElem?_eq_some_iff.1 hj).1 hj with q | q
  ·exact absurd q hn
  ·exact h.nd k p hp (hl ▸ q)
theorem CloI.sorted {g : Gra} {l out : List Itm} {ns : List Int} (h : CloI g l out.length out ns) : sortI out = closI g l :=
 rise_ext _ _ (sortI_sorted out) (closI_rise g l) fun x => by
  rw [sortI_mem,closI_mem,h.ends]
  exact ⟨fun hc => ⟨h.ok x ((h.ends x).2 hc),hc⟩,fun hc => hc.2⟩
theorem filt_le (ps : List Prd) (f : Prd → Bool) : (ps.filter f).length ≤ ps.length := List.length_filter_le f ps
theorem zero_bool : zeroV Tryz.prog 4 = some (.fv (.bool false)) := by kernel_rfl
theorem lookb_none : lookA Tryz.prog 4 false none = some (.fv (.bool false)) := by simp [lookA,zero_bool]
theorem lookb_some (j : Nat) (v : AV) : lookA Tryz.prog 4 false (some (j,v)) = some v := rfl
theorem ok49 (g : Gra) (hp : g.prods.length ≤ 1000) (l : List Itm) (hl : l.length ≤ 100000) (hi : ∀ x ∈ l,g.isItm x = true) :
  Ok Tryz.prog 49 [g.av,.fv (.lst 2 (l.map Itm.row))] [] (.ret (.fv (.lst 2 ((closI g l).map Itm.row)))) [] := by
 refine ok_start (k := 53) (n0 := 0) (rs := [.tmp 4]) mix Tryz.func49 rfl rfl rfl rfl rfl rfl rfl ?_
 simp -implicitDefEqProofs only [awp_draw _ _ Tryzdr49_6,Gra.av,
  evx,evy,ofValue,ofCell,List.range,List.range.loop,Array.size,Nat.reduceAdd,Nat.reduceSub,Nat.reduceEqDiff,List.replicate,if_true,if_false,↓reduceIte,reduceCtorEq,elB,evParts,Int.reduceToNat,Int.reduceLE,Int.reduceLT,Int.reduceEq,Nat.reduceMul,Nat.reduceLeDiff,Nat.reduceLT,ty3,ty4,ty9,ty28,ty22,ty23,ty24,ty25,ty27,ty63,ty52,ty43,ty128]
 refine callK_ret _ _ _ _ (call_lent [] (ok75 l (by omega)) rfl rfl (by simp) (by simp)) (ok_nil _ _) ?_
 simp -implicitDefEqProofs only [awp_draw _ _ Tryzdr49_6,subAny,subA,subL,backSub,back,putBack,subBlk,Option.getD_some,List.map_cons,List.map_nil,Nat.not_lt_zero,Nat.sub_zero,Nat.add_zero,List.length_map,opK_mkm,
  evx,evy,ofValue,ofCell,List.range,List.range.loop,Array.size,Nat.reduceAdd,Nat.reduceSub,Nat.reduceEqDiff,List.replicate,if_true,if_false,↓reduceIte,reduceCtorEq,elB,evParts,Int.reduceToNat,Int.reduceLE,Int.reduceLT,Int.reduceEq,Nat.reduceMul,Nat.reduceLeDiff,Nat.reduceLT,ty3,ty4,ty9,ty28,ty22,ty23,ty24,ty25,ty27,ty63,ty52,ty43,ty128]
 refine loop_rule (fun s : Nat × List Itm × List Int => ⟨[.any,.any,.ptr 0 0 0 0,.any,.any,.ref 1 2 0 s.2.1.length,.mp 2,.fv (.int .i64 s.1),.any,.any,.any,.any,.any,.any,.any,.any,.any,.any,.any,.any,.any,.any,.any,.any,.any,.any,.any,.any,.any,.any,.any,.any,.any,.any,.any,.any,.any,.any,.any,.any,.any,.any,.any,.any,.any,.any,.any,.any,.any,.any,.any,.any,.any,.any,.any],[.box g.cells,.plain 2 (s.2.1.map Itm.row),.map (s.2.2.map yesM)],[]⟩)
  (fun s => CloI g l s.1 s.2.1 s.2.2) (fun s => l.length + g.prods.length - s.1) (0,l,[]) (le_wk (by simp [wk,Gra.cells])) ?_ (fun s hs st hst => ?_)
 ·exact ⟨fun x h => h,fun x h => .base x h,hi,fun k p _ h => by simp at h,fun j x h => by omega,by simp,Nat.zero_le _⟩
 obtain ⟨i,out,ns⟩ := s
 simp only at hs hst ⊢
 have hlen := hs.len
 have hfl := filt_le g.prods fun p => decide (p.left ∈ ns)
 by_cases hlt : i < out.length
 ·have hr := rows_at Itm.row out i hlt
  have hxi : out[i]? = some out[i] := List.getElem?_eq_getElem hlt
  have hnx := ok52 g out[i] (hs.ok _ (List.getElem_mem hlt))
  generalize out[i] = x at hr hxi hnx
  generalize hn : nextI g x = n at hnx
  simp -implicitDefEqProofs only [awp_draw _ _ Tryzdr49_6,lt_true hlt,hr,Itm.row,Gra.cells,
  evx,evy,ofValue,ofCell,List.range,List.range.loop,Array.size,Nat.reduceAdd,Nat.reduceSub,Nat.reduceEqDiff,List.replicate,if_true,if_false,↓reduceIte,reduceCtorEq,elB,evParts,Int.reduceToNat,Int.reduceLE,Int.reduceLT,Int.reduceEq,Nat.reduceMul,Nat.reduceLeDiff,Nat.reduceLT,ty3,ty4,ty9,ty28,ty22,ty23,ty24,ty25,ty27,ty63,ty52,ty43,ty128]
  refine callK_ret _ _ _ _ (call_pure (hnx) (fun _ => rfl) (fun _ => rfl)) (ok_nil _ _) ?_
  by_cases hz : n = 0
  ·have hzt : (n = 0) = True := eq_true hz
   simp -implicitDefEqProofs only [awp_draw _ _ Tryzdr49_6,hzt,wsucc i (by omega),
  evx,evy,ofValue,ofCell,List.range,List.range.loop,Array.size,Nat.reduceAdd,Nat.reduceSub,Nat.reduceEqDiff,List.replicate,if_true,if_false,↓reduceIte,reduceCtorEq,elB,evParts,Int.reduceToNat,Int.reduceLE,Int.reduceLT,Int.reduceEq,Nat.reduceMul,Nat.reduceLeDiff,Nat.reduceLT,ty3,ty4,ty9,ty28,ty22,ty23,ty24,ty25,ty27,ty63,ty52,ty43,ty128]
   exact back_intro hst (i + 1,out,ns) (le_wk (by simp [wk,Gra.cells])) ⟨hs.sub,hs.cl,hs.ok,hs.nd,fun j y hj hy => by
    by_cases e : j = i
    ·subst e
     rw [hxi] at hy
     cases hy
     exact .inl (hn.trans hz)
    ·exact hs.done j y (by simp only at hj; omega) hy,hs.len,by simp only; omega⟩ (by simp only; omega)
  ·have hzt : (n = 0) = False := eq_false hz
   by_cases hm : n ∈ ns
   ·have hmt : (n ∈ ns) = True := eq_true hm
    simp -implicitDefEqProofs only [awp_draw _ _ Tryzdr49_6,hzt,wsucc i (by omega),opK_ml,ml_red ty128 ty3 ty4,mlB_map,find_yes,hmt,lookb_some,
  evx,evy,ofValue,ofCell,List.range,List.range.loop,Array.size,Nat.reduceAdd,Nat.reduceSub,Nat.reduceEqDiff,List.replicate,if_true,if_false,↓reduceIte,reduceCtorEq,elB,evParts,Int.reduceToNat,Int.reduceLE,Int.reduceLT,Int.reduceEq,Nat.reduceMul,Nat.reduceLeDiff,Nat.reduceLT,ty3,ty4,ty9,ty28,ty22,ty23,ty24,ty25,ty27,ty63,ty52,ty43,ty128]
    exact back_intro hst (i + 1,out,ns) (le_wk (by simp [wk,Gra.cells])) ⟨hs.sub,hs.cl,hs.ok,hs.nd,fun j y hj hy => by
     by_cases e : j = i
     ·subst e
      rw [hxi] at hy
      cases hy
      exact .inr (hn ▸ hm)
     ·exact hs.done j y (by simp only at hj; omega) hy,hs.len,by simp only; omega⟩ (by simp only; omega)
   ·have hmt : (n ∈ ns) = False := eq_false hm
    simp -implicitDefEqProofs only [awp_draw _ _ Tryzdr49_6,hzt,wsucc i (by omega),opK_ml,ml_red ty128 ty3 ty4,mlB_map,find_yes,hmt,lookb_none,opK_mw,mw_red ty128 ty3,mwB_map,putE,yes_snoc,List.length_map,
  evx,evy,ofValue,ofCell,List.range,List.range.loop,Array.size,Nat.reduceAdd,Nat.reduceSub,Nat.reduceEqDiff,List.replicate,if_true,if_false,↓reduceIte,reduceCtorEq,elB,evParts,Int.reduceToNat,Int.reduceLE,Int.reduceLT,Int.reduceEq,Nat.reduceMul,Nat.reduceLeDiff,Nat.reduceLT,ty3,ty4,ty9,ty28,ty22,ty23,ty24,ty25,ty27,ty63,ty52,ty43,ty128]
    refine loop_rule (fun s : Nat × List Itm => ⟨[.any,.any,.ptr 0 0 0 0,.any,.any,.ref 1 2 0 s.2.length,.mp 2,.fv (.int .i64 i),.fv (.int .i64 n),.any,.any,.any,.any,.any,.any,.any,.any,.any,.any,.any,.any,.any,.any,.any,.any,.any,.any,.any,.any,.any,.any,.any,.any,.any,.any,.any,.fv (.lst 3 (g.prods.map Prd.row)),.fv (.int .i64 g.prods.length),.fv (.int .i64 s.1),.any,.any,.any,.any,.any,.any,.any,.any,.any,.any,.any,.any,.any,.any,.any,.any],[.box g.cells,.plain 2 (s.2.map Itm.row),.map ((ns ++ [n]).map yesM)],[]⟩)
     (fun s => CloJ g l out n s.1 s.2) (fun s => g.prods.length - s.1) (0,out) (le_wk (by simp [wk,Gra.cells])) ?_ (fun s hj st2 hst2 => ?_)
    ·exact ⟨fun j x h => h,hs.cl,hs.ok,fun j p h => by omega,by simp,Nat.zero_le _⟩
    obtain ⟨k,cur⟩ := s
    simp only at hj hst2 ⊢
    have hjl := hj.len
    have hfl2 := filt_le (g.prods.take k) fun p => decide (p.left = n)
    rw [List.length_take] at hfl2
    by_cases hkt : k < g.prods.length
    ·have hrp := rows_at Prd.row g.prods k hkt
     have hpk : g.prods[k]? = some g.prods[k] := List.getElem?_eq_getElem hkt
     have htk := List.take_succ_eq_append_getElem hkt
     generalize g.prods[k] = p at hrp hpk htk
     have hfs : ((g.prods.take (k + 1)).filter fun p => decide (p.left = n)).length = ((g.prods.take k).filter fun p => decide (p.left = n)).length + (if p.left = n then 1 else 0) := by
      rw [htk,List.filter_append,List.length_append,List.filter_cons,List.filter_nil]
      by_cases e : p.left = n <;> simp [e]
     by_cases hpn : p.left = n
     ·have hpt : (p.left = n) = True := eq_true hpn
      rw [if_pos hpn] at hfs
      have hbig : (cur.length + 1) * 16 ≤ 140737488355328 := by omega
      have tk1 : List.take cur.length (cur.map Itm.row) = cur.map Itm.row := by rw [← List.length_map Itm.row,List.take_length]
      simp -implicitDefEqProofs only [awp_draw _ _ Tryzdr49_6,lt_true hkt,hrp,Prd.row,Gra.cells,stB_boxA,splice_all,List.all_cons,List.all_nil,Bool.and_self,hpt,bsE_21,List.length_map,le_true (Nat.le_refl cur.length),wsucc k (by omega),
  evx,evy,ofValue,ofCell,List.range,List.range.loop,Array.size,Nat.reduceAdd,Nat.reduceSub,Nat.reduceEqDiff,List.replicate,if_true,if_false,↓reduceIte,reduceCtorEq,elB,evParts,Int.reduceToNat,Int.reduceLE,Int.reduceLT,Int.reduceEq,Nat.reduceMul,Nat.reduceLeDiff,Nat.reduceLT,ty3,ty4,ty9,ty28,ty22,ty23,ty24,ty25,ty27,ty63,ty52,ty43,ty128]
      refine ⟨hbig,?_⟩
      refine back_intro hst2 (k + 1,cur ++ [⟨(k : Nat),0⟩]) (le_pk [0,5,2] rfl (by simp) (by simp) ?_ ?_) ?_ (by simp only; omega)
      ·simp only [List.map_cons,List.map_nil,List.getD_cons_zero,List.getD_cons_succ,subBlk_yes]
       simp [subBlk,subAny,subA,mkSub,idx,Gra.cells,tk1,Itm.row]
      ·simp [wk,subAny,subA,mkSub,idx]
      ·have hck : Cl g l ⟨(k : Nat),0⟩ := .step x k p (hs.cl x (List.mem_of_getElem? hxi)) hpk (by rw [hn]; exact hz) (by rw [hpn,hn])
       refine ⟨fun j y hy => ?_,fun y hy => ?_,fun y hy => ?_,fun j q hjk hq hql => ?_,?_,by simp only; omega⟩
       ·simp only
        have := hj.pre j y hy
        rw [List.getElem?_append_left (List.getElem?_eq_some_iff.1 this).1]
        exact this
       ·rcases List.mem_append.1 hy with h | h
        ·exact hj.cl y h
        ·obtain rfl : y = ⟨(k : Nat),0⟩ := by simpa using h
         exact hck
       ·rcases List.mem_append.1 hy with h | h
        ·exact hj.ok y h
        ·obtain rfl : y = ⟨(k : Nat),0⟩ := by simpa using h
         exact isItm_iff.2 ⟨isProd_iff.2 ⟨by simp only; omega,by simp only; omega⟩,by simp,by simp⟩
       ·by_cases e : j = k
        ·subst e
         simp
        ·exact List.mem_append_left _ (hj.nd j q (by simp only at hjk; omega) hq hql)
       ·simp only [List.length_append,List.length_cons,List.length_nil]
        omega
     ·have hpt : (p.left = n) = False := eq_false hpn
      rw [if_neg hpn] at hfs
      simp -implicitDefEqProofs only [awp_draw _ _ Tryzdr49_6,lt_true hkt,hrp,Prd.row,Gra.cells,stB_boxA,splice_all,List.all_cons,List.all_nil,Bool.and_self,hpt,wsucc k (by omega),
  evx,evy,ofValue,ofCell,List.range,List.range.loop,Array.size,Nat.reduceAdd,Nat.reduceSub,Nat.reduceEqDiff,List.replicate,if_true,if_false,↓reduceIte,reduceCtorEq,elB,evParts,Int.reduceToNat,Int.reduceLE,Int.reduceLT,Int.reduceEq,Nat.reduceMul,Nat.reduceLeDiff,Nat.reduceLT,ty3,ty4,ty9,ty28,ty22,ty23,ty24,ty25,ty27,ty63,ty52,ty43,ty128]
      refine back_intro hst2 (k + 1,cur) (le_pk [0,1,2] rfl (by simp) (by simp) ?_ ?_) ⟨hj.pre,hj.cl,hj.ok,fun j q hjk hq hql => ?_,by simp only; omega,by simp only; omega⟩ (by simp only; omega)
      ·simp only [List.map_cons,List.map_nil,List.getD_cons_zero,List.getD_cons_succ,subBlk_yes]
       simp [subBlk,subAny,subA,mkSub,idx,Gra.cells]
      ·simp [wk,subAny,subA,mkSub,idx]
      ·by_cases e : j = k
       ·subst e
        rw [hpk] at hq
        cases hq
        exact absurd hql hpn
       ·exact hj.nd j q (by simp only at hjk; omega) hq hql
    ·have hk2 := hj.le
     obtain rfl : k = g.prods.length := by omega
     have hI := hj.toI hs hm hxi hn
     simp -implicitDefEqProofs only [awp_draw _ _ Tryzdr49_6,lt_false hkt,wsucc i (by omega),
  evx,evy,ofValue,ofCell,List.range,List.range.loop,Array.size,Nat.reduceAdd,Nat.reduceSub,Nat.reduceEqDiff,List.replicate,if_true,if_false,↓reduceIte,reduceCtorEq,elB,evParts,Int.reduceToNat,Int.reduceLE,Int.reduceLT,Int.reduceEq,Nat.reduceMul,Nat.reduceLeDiff,Nat.reduceLT,ty3,ty4,ty9,ty28,ty22,ty23,ty24,ty25,ty27,ty63,ty52,ty43,ty128]
     exact back_intro hst (i + 1,cur,ns ++ [n]) (le_wk (by simp [wk,Gra.cells])) hI (by have := hI.le; have := hI.len; simp only at *; have := filt_le g.prods fun p => decide (p.left ∈ ns ++ [n]); omega)
 ·have hle := hs.le
  obtain rfl : i = out.length := by omega
  have hso := ok53 out (by omega)
  have hsl := sortI_len out
  simp -implicitDefEqProofs only [awp_draw _ _ Tryzdr49_6,lt_false hlt,
  evx,evy,ofValue,ofCell,List.range,List.range.loop,Array.size,Nat.reduceAdd,Nat.reduceSub,Nat.reduceEqDiff,List.replicate,if_true,if_false,↓reduceIte,reduceCtorEq,elB,evParts,Int.reduceToNat,Int.reduceLE,Int.reduceLT,Int.reduceEq,Nat.reduceMul,Nat.reduceLeDiff,Nat.reduceLT,ty3,ty4,ty9,ty28,ty22,ty23,ty24,ty25,ty27,ty63,ty52,ty43,ty128]
  refine callK_ret _ _ _ _ (call_lent [1] hso (by simp [subAny,subA,subL,mkSub,idx]) rfl (by simp) (by simp [Blk.live])) (ok_none _ _) ?_
  simp -implicitDefEqProofs only [awp_draw _ _ Tryzdr49_6,subAny,subA,subL,backSub,back,putBack,subBlk,Option.getD_some,List.map_cons,List.map_nil,Nat.not_lt_zero,Nat.sub_zero,Nat.add_zero,List.length_map,
  evx,evy,ofValue,ofCell,List.range,List.range.loop,Array.size,Nat.reduceAdd,Nat.reduceSub,Nat.reduceEqDiff,List.replicate,if_true,if_false,↓reduceIte,reduceCtorEq,elB,evParts,Int.reduceToNat,Int.reduceLE,Int.reduceLT,Int.reduceEq,Nat.reduceMul,Nat.reduceLeDiff,Nat.reduceLT,ty3,ty4,ty9,ty28,ty22,ty23,ty24,ty25,ty27,ty63,ty52,ty43,ty128]
  rw [← hs.sorted]
  refine le_lst rfl (by simp) ?_
  simp
end Go.Abs
