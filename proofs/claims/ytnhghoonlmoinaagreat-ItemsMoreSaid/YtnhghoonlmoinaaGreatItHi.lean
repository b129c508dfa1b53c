/- Items: the document's lists of items. -/
import Derived.Test.YtnhghoonlmoinaaGreatTyTryzi
import Derived.Test.YtnhghoonlmoinaaGreatDrTryzi
import Derived.Test.YtnhghoonlmoinaaGreatItGi
namespace Go.Abs
open Go.Proofs
set_option linter.unusedVariables false
set_option linter.unusedSimpArgs false
set_option maxRecDepth 100000
set_option maxHeartbeats 8000000
theorem ok30 (l : List Itm) (x : Itm) (hl : l.length ≤ 1000000) : Ok Tryz.prog 30 [.fv (.lst 2 (l.map Itm.row)),x.av] [] (.ret (.fv (.bool (decide (x ∈ l))))) [] := by
 refine ok_start (k := 16) (n0 := 0) (rs := [.tmp 4]) mix Tryz.func30 rfl rfl rfl rfl rfl rfl rfl ?_
 simp -implicitDefEqProofs only [awp_draw _ _ Tryzdr30_4,Itm.av,
  evx,evy,ofValue,ofCell,List.range,List.range.loop,Array.size,Nat.reduceAdd,Nat.reduceSub,Nat.reduceEqDiff,List.replicate,if_true,if_false,↓reduceIte,reduceCtorEq,elB,evParts,Int.reduceToNat,Int.reduceLE,Int.reduceLT,Int.reduceEq,Nat.reduceMul,Nat.reduceLeDiff,Nat.reduceLT,ty3,ty4,ty9,ty28,ty22,ty23,ty24,ty25,ty27,ty63,ty52,ty43]
 refine loop_rule (fun i : Nat => ⟨[.fv (.lst 2 (l.map Itm.row)),.any,.any,.ptr 0 0 0 0,.any,.fv (.int .i64 i),.any,.any,.any,.any,.any,.any,.any,.any,.any,.any,.any,.any],[.box [.fv (.int .i64 x.prod),.fv (.int .i64 x.dot)]],[]⟩)
  (fun i => i ≤ l.length ∧ x ∉ l.take i) (fun i => l.length - i) 0 (le_wk (by simp [wk])) (by simp) (fun i hi s hs => ?_)
 obtain ⟨hi,he⟩ := hi
 by_cases hlt : i < l.length
 ·have hr := rows_at Itm.row l i hlt
  have ht := List.take_succ_eq_append_getElem hlt
  have hmem : l[i] ∈ l := List.getElem_mem hlt
  generalize l[i] = y at hr ht hmem
  by_cases hxy : y = x
  ·subst hxy
   simp -implicitDefEqProofs only [awp_draw _ _ Tryzdr30_4,List.length_map,lt_true hlt,hr,Itm.row,eql_itm,decide_eq_true (rfl : y = y),
  evx,evy,ofValue,ofCell,List.range,List.range.loop,Array.size,Nat.reduceAdd,Nat.reduceSub,Nat.reduceEqDiff,List.replicate,if_true,if_false,↓reduceIte,reduceCtorEq,elB,evParts,Int.reduceToNat,Int.reduceLE,Int.reduceLT,Int.reduceEq,Nat.reduceMul,Nat.reduceLeDiff,Nat.reduceLT,ty3,ty4,ty9,ty28,ty22,ty23,ty24,ty25,ty27,ty63,ty52,ty43]
   rw [decide_eq_true hmem]
   exact le_flat rfl
  ·have hne : ((⟨y.prod,y.dot⟩ : Itm) = ⟨x.prod,x.dot⟩) = False := eq_false hxy
   simp -implicitDefEqProofs only [awp_draw _ _ Tryzdr30_4,List.length_map,lt_true hlt,hr,Itm.row,eql_itm,hne,wsucc i (by omega),
  evx,evy,ofValue,ofCell,List.range,List.range.loop,Array.size,Nat.reduceAdd,Nat.reduceSub,Nat.reduceEqDiff,List.replicate,if_true,if_false,↓reduceIte,reduceCtorEq,elB,evParts,Int.reduceToNat,Int.reduceLE,Int.reduceLT,Int.reduceEq,Nat.reduceMul,Nat.reduceLeDiff,Nat.reduceLT,ty3,ty4,ty9,ty28,ty22,ty23,ty24,ty25,ty27,ty63,ty52,ty43]
   refine back_intro hs (i + 1) (le_wk (by simp [wk])) ⟨by omega,?_⟩ (by omega)
   rw [ht,List.mem_append,List.mem_singleton]
   rintro (h | h)
   ·exact he h
   ·exact hxy h.symm
 ·obtain rfl : i = l.length := by omega
  rw [List.take_length] at he
  simp -implicitDefEqProofs only [awp_draw _ _ Tryzdr30_4,List.length_map,lt_false hlt,
  evx,evy,ofValue,ofCell,List.range,List.range.loop,Array.size,Nat.reduceAdd,Nat.reduceSub,Nat.reduceEqDiff,List.replicate,if_true,if_false,↓reduceIte,reduceCtorEq,elB,evParts,Int.reduceToNat,Int.reduceLE,Int.reduceLT,Int.reduceEq,Nat.reduceMul,Nat.reduceLeDiff,Nat.reduceLT,ty3,ty4,ty9,ty28,ty22,ty23,ty24,ty25,ty27,ty63,ty52,ty43]
  rw [decide_eq_false he]
  exact le_flat rfl
theorem ok24 (a b : List Itm) (ha : a.length ≤ 1000000) (hb : b.length ≤ 1000000) : Ok Tryz.prog 24 [.fv (.lst 2 (a.map Itm.row)),.fv (.lst 2 (b.map Itm.row))] [] (.ret (.fv (.bool (decide (a = b))))) [] := by
 refine ok_start (k := 24) (n0 := 0) (rs := [.tmp 4]) mix Tryz.func24 rfl rfl rfl rfl rfl rfl rfl ?_
 by_cases hl : a.length = b.length
 ·have hlt : ((a.length : Int) = (b.length : Int)) = True := eq_true (by omega)
  simp -implicitDefEqProofs only [awp_draw _ _ Tryzdr24_6,List.length_map,hlt,
  evx,evy,ofValue,ofCell,List.range,List.range.loop,Array.size,Nat.reduceAdd,Nat.reduceSub,Nat.reduceEqDiff,List.replicate,if_true,if_false,↓reduceIte,reduceCtorEq,elB,evParts,Int.reduceToNat,Int.reduceLE,Int.reduceLT,Int.reduceEq,Nat.reduceMul,Nat.reduceLeDiff,Nat.reduceLT,ty3,ty4,ty9,ty28,ty22,ty23,ty24,ty25,ty27,ty63,ty52,ty43]
  refine loop_rule (fun i : Nat => ⟨[.fv (.lst 2 (a.map Itm.row)),.fv (.lst 2 (b.map Itm.row)),.any,.any,.any,.fv (.int .i64 i),.any,.any,.any,.any,.any,.any,.any,.any,.any,.any,.any,.any,.any,.any,.any,.any,.any,.any,.any,.any],[],[]⟩)
   (fun i => i ≤ a.length ∧ a.take i = b.take i) (fun i => a.length - i) 0 (le_wk (by simp [wk])) (by simp) (fun i hi s hs => ?_)
  obtain ⟨hi,he⟩ := hi
  by_cases hlti : i < a.length
  ·have hra := rows_at Itm.row a i hlti
   have hib : i < b.length := by omega
   have hrb := rows_at Itm.row b i hib
   have ta := List.take_succ_eq_append_getElem hlti
   have tb := List.take_succ_eq_append_getElem hib
   have hab : a = b → a[i] = b[i] := fun e => by subst e; rfl
   have hbl : ((i : Int) < (b.length : Int)) = True := eq_true (by omega)
   generalize a[i] = x at hra ta hab
   generalize b[i] = y at hrb tb hab
   by_cases hxy : x = y
   ·have hxt : ((⟨x.prod,x.dot⟩ : Itm) = ⟨y.prod,y.dot⟩) = True := eq_true hxy
    simp -implicitDefEqProofs only [awp_draw _ _ Tryzdr24_6,List.length_map,lt_true hlti,hbl,hra,hrb,Itm.row,neq_itm,hxt,wsucc i (by omega),
  evx,evy,ofValue,ofCell,List.range,List.range.loop,Array.size,Nat.reduceAdd,Nat.reduceSub,Nat.reduceEqDiff,List.replicate,if_true,if_false,↓reduceIte,reduceCtorEq,elB,evParts,Int.reduceToNat,Int.reduceLE,Int.reduceLT,Int.reduceEq,Nat.reduceMul,Nat.reduceLeDiff,Nat.reduceLT,ty3,ty4,ty9,ty28,ty22,ty23,ty24,ty25,ty27,ty63,ty52,ty43]
    refine back_intro hs (i + 1) (le_wk (by simp [wk])) ⟨by omega,?_⟩ (by omega)
    rw [ta,tb,he,hxy]
   ·have hxt : ((⟨x.prod,x.dot⟩ : Itm) = ⟨y.prod,y.dot⟩) = False := eq_false hxy
    simp -implicitDefEqProofs only [awp_draw _ _ Tryzdr24_6,List.length_map,lt_true hlti,hbl,hra,hrb,Itm.row,neq_itm,hxt,
  evx,evy,ofValue,ofCell,List.range,List.range.loop,Array.size,Nat.reduceAdd,Nat.reduceSub,Nat.reduceEqDiff,List.replicate,if_true,if_false,↓reduceIte,reduceCtorEq,elB,evParts,Int.reduceToNat,Int.reduceLE,Int.reduceLT,Int.reduceEq,Nat.reduceMul,Nat.reduceLeDiff,Nat.reduceLT,ty3,ty4,ty9,ty28,ty22,ty23,ty24,ty25,ty27,ty63,ty52,ty43]
    rw [decide_eq_false (fun e => hxy (hab e))]
    exact le_flat rfl
  ·obtain rfl : i = a.length := by omega
   simp -implicitDefEqProofs only [awp_draw _ _ Tryzdr24_6,List.length_map,lt_false hlti,
  evx,evy,ofValue,ofCell,List.range,List.range.loop,Array.size,Nat.reduceAdd,Nat.reduceSub,Nat.reduceEqDiff,List.replicate,if_true,if_false,↓reduceIte,reduceCtorEq,elB,evParts,Int.reduceToNat,Int.reduceLE,Int.reduceLT,Int.reduceEq,Nat.reduceMul,Nat.reduceLeDiff,Nat.reduceLT,ty3,ty4,ty9,ty28,ty22,ty23,ty24,ty25,ty27,ty63,ty52,ty43]
   have e : a = b := by rw [List.take_length,hl,List.take_length] at he; exact he
   rw [decide_eq_true e]
   exact le_flat rfl
 ·have hlt : ((a.length : Int) = (b.length : Int)) = False := eq_false (by omega)
  simp -implicitDefEqProofs only [awp_draw _ _ Tryzdr24_6,List.length_map,hlt,
  evx,evy,ofValue,ofCell,List.range,List.range.loop,Array.size,Nat.reduceAdd,Nat.reduceSub,Nat.reduceEqDiff,List.replicate,if_true,if_false,↓reduceIte,reduceCtorEq,elB,evParts,Int.reduceToNat,Int.reduceLE,Int.reduceLT,Int.reduceEq,Nat.reduceMul,Nat.reduceLeDiff,Nat.reduceLT,ty3,ty4,ty9,ty28,ty22,ty23,ty24,ty25,ty27,ty63,ty52,ty43]
  rw [decide_eq_false (fun e => hl (by rw [e]))]
  exact le_flat rfl
/-- The items of the first productions. -/
def itemsTo (g : Gra) (q : Nat) : List Itm := (List.range q).flatMap fun (q : Nat) => (List.range ((sideL g ((q : Int) - 1)).length + 1)).map fun (d : Nat) => ⟨(q : Int) - 1,(d : Int)⟩
def rowI (q d : Nat) : List Itm := (List.range d).map fun (d : Nat) => ⟨(q : Int) - 1,(d : Int)⟩
theorem itemsTo_succ (g : Gra) (q : Nat) : itemsTo g (q + 1) = itemsTo g q ++ rowI q ((sideL g ((q : Int) - 1)).length + 1) := by
 simp [itemsTo,rowI,List.range_succ]
theorem rowI_succ (q d : Nat) : rowI q (d + 1) = rowI q d ++ [⟨(q : Int) - 1,(d : Int)⟩] := by simp [rowI,List.range_succ]
/-- Those of a grammar's items that are in a list, rising. -/
def ofI (g : Gra) (l : List Itm) : List Itm := (itemsOf g).filter fun x => decide (x ∈ l)
theorem ofI_mem (g : Gra) (l : List Itm) (x : Itm) : x ∈ ofI g l ↔ g.isItm x = true ∧ x ∈ l := by simp [ofI,itemsOf_mem]
theorem ofI_rise (g : Gra) (l : List Itm) : (ofI g l).Pairwise ltI := (itemsOf_rise g).filter _
theorem sideL_len {g : Gra} (hl : ∀ q ∈ g.prods,q.right.length ≤ 1000) (p : Int) : (sideL g p).length ≤ 1000 := by
 unfold sideL
 split
 ·simp
 ·cases h : g.prods[p.toNat]? with
  | none => simp
  | some q => exact hl q (List.mem_of_getElem? h)
theorem ok29 (g : Gra) (hp : g.prods.length ≤ 1000) (hl : ∀ q ∈ g.prods,q.right.length ≤ 1000) (l : List Itm) (hll : l.length ≤ 1000000) : Ok Tryz.prog 29 [g.av,.fv (.lst 2 (l.map Itm.row))] [] (.ret (.fv (.lst 2 ((ofI g l).map Itm.row)))) [] := by
 have hhas := fun x => ok30 l x hll
 refine ok_start (k := 35) (n0 := 0) (rs := [.tmp 4]) mix Tryz.func29 rfl rfl rfl rfl rfl rfl rfl ?_
 simp -implicitDefEqProofs only [Gra.av,
  evx,evy,ofValue,ofCell,List.range,List.range.loop,Array.size,Nat.reduceAdd,Nat.reduceSub,Nat.reduceEqDiff,List.replicate,if_true,if_false,↓reduceIte,reduceCtorEq,elB,evParts,Int.reduceToNat,Int.reduceLE,Int.reduceLT,Int.reduceEq,Nat.reduceMul,Nat.reduceLeDiff,Nat.reduceLT,ty3,ty4,ty9,ty28,ty22,ty23,ty24,ty25,ty27,ty63,ty52,ty43]
 refine loop_rule (fun s : Nat × List Itm => ⟨[.any,.fv (.lst 2 (l.map Itm.row)),.ptr 0 0 0 0,.any,.any,.ref 1 2 0 s.2.length,.fv (.int .i64 ((s.1 : Int) - 1)),.any,.any,.any,.any,.any,.any,.any,.any,.any,.any,.any,.any,.any,.any,.any,.any,.any,.any,.any,.any,.any,.any,.any,.any,.any,.any,.any,.any,.any,.any],[.box g.cells,.plain 2 (s.2.map Itm.row)],[]⟩)
  (fun s => s.1 ≤ g.prods.length + 1 ∧ s.2 = (itemsTo g s.1).filter (fun x => decide (x ∈ l)) ∧ s.2.length ≤ s.1 * 1002) (fun s => g.prods.length + 1 - s.1) (0,[]) (Le.trans (le_virt 5 2 rfl) (le_wk (by simp [wk,Gra.cells]))) (by simp [itemsTo]) (fun s hs st hst => ?_)
 obtain ⟨q,out⟩ := s
 obtain ⟨h1,h2,h3⟩ := hs
 simp only at h1 h2 h3 hst ⊢
 by_cases hlt : q < g.prods.length + 1
 ·have hc : ((q : Int) - 1 < (g.prods.length : Int)) = True := eq_true (by omega)
  have hsd := ok50 g ((q : Int) - 1) (isProd_iff.2 ⟨by omega,by omega⟩) hl
  have hsl := sideL_len hl ((q : Int) - 1)
  have hts := itemsTo_succ g q
  have hwq : IntKind.wrap .i64 ((q : Int) - 1 + 1) = (q : Int) - 1 + 1 := wrap_small (by omega) (by omega)
  generalize sideL g ((q : Int) - 1) = sd at hsd hsl hts
  simp -implicitDefEqProofs only [hc,Gra.cells,List.length_map,
  evx,evy,ofValue,ofCell,List.range,List.range.loop,Array.size,Nat.reduceAdd,Nat.reduceSub,Nat.reduceEqDiff,List.replicate,if_true,if_false,↓reduceIte,reduceCtorEq,elB,evParts,Int.reduceToNat,Int.reduceLE,Int.reduceLT,Int.reduceEq,Nat.reduceMul,Nat.reduceLeDiff,Nat.reduceLT,ty3,ty4,ty9,ty28,ty22,ty23,ty24,ty25,ty27,ty63,ty52,ty43]
  refine callK_ret _ _ _ _ (call_pure (hsd) (fun _ => rfl) (fun _ => rfl)) (ok_nil _ _) ?_
  simp -implicitDefEqProofs only [ints_length,hwq,
  evx,evy,ofValue,ofCell,List.range,List.range.loop,Array.size,Nat.reduceAdd,Nat.reduceSub,Nat.reduceEqDiff,List.replicate,if_true,if_false,↓reduceIte,reduceCtorEq,elB,evParts,Int.reduceToNat,Int.reduceLE,Int.reduceLT,Int.reduceEq,Nat.reduceMul,Nat.reduceLeDiff,Nat.reduceLT,ty3,ty4,ty9,ty28,ty22,ty23,ty24,ty25,ty27,ty63,ty52,ty43]
  refine loop_rule (fun s : Nat × List Itm => ⟨[.any,.fv (.lst 2 (l.map Itm.row)),.ptr 0 0 0 0,.any,.any,.ref 1 2 0 s.2.length,.fv (.int .i64 ((q : Int) - 1)),.fv (.int .i64 sd.length),.fv (.int .i64 s.1),.any,.any,.any,.any,.any,.any,.any,.any,.any,.any,.any,.any,.any,.any,.any,.any,.any,.any,.any,.any,.any,.any,.any,.any,.any,.any,.any,.any],[.box g.cells,.plain 2 (s.2.map Itm.row)],[]⟩)
   (fun s => s.1 ≤ sd.length + 1 ∧ s.2 = (itemsTo g q ++ rowI q s.1).filter (fun x => decide (x ∈ l)) ∧ s.2.length ≤ q * 1002 + s.1) (fun s => sd.length + 1 - s.1) (0,out) (le_wk (by simp [wk,Gra.cells])) ?_ (fun s hs st2 hst2 => ?_)
  ·exact ⟨Nat.zero_le _,by simp only; rw [h2]; simp [rowI],by simp only; omega⟩
  obtain ⟨d,cur⟩ := s
  obtain ⟨g1,g2,g3⟩ := hs
  simp only at g1 g2 g3 hst2 ⊢
  by_cases hd : d < sd.length + 1
  ·have hdt : ((d : Int) ≤ (sd.length : Int)) = True := eq_true (by omega)
   have hx := hhas ⟨(q : Int) - 1,(d : Int)⟩
   have hrs := rowI_succ q d
   by_cases hm : (⟨(q : Int) - 1,(d : Int)⟩ : Itm) ∈ l
   ·rw [decide_eq_true hm] at hx
    have hbig : (cur.length + 1) * 16 ≤ 140737488355328 := by omega
    have tk1 : List.take cur.length (cur.map Itm.row) = cur.map Itm.row := by rw [← List.length_map Itm.row,List.take_length]
    simp -implicitDefEqProofs only [hdt,
  evx,evy,ofValue,ofCell,List.range,List.range.loop,Array.size,Nat.reduceAdd,Nat.reduceSub,Nat.reduceEqDiff,List.replicate,if_true,if_false,↓reduceIte,reduceCtorEq,elB,evParts,Int.reduceToNat,Int.reduceLE,Int.reduceLT,Int.reduceEq,Nat.reduceMul,Nat.reduceLeDiff,Nat.reduceLT,ty3,ty4,ty9,ty28,ty22,ty23,ty24,ty25,ty27,ty63,ty52,ty43]
    refine callK_ret _ _ _ _ (call_pure (hx) (fun _ => rfl) (fun _ => rfl)) (ok_nil _ _) ?_
    simp -implicitDefEqProofs only [bsE_21,List.length_map,le_true (Nat.le_refl cur.length),wsucc d (by omega),
  evx,evy,ofValue,ofCell,List.range,List.range.loop,Array.size,Nat.reduceAdd,Nat.reduceSub,Nat.reduceEqDiff,List.replicate,if_true,if_false,↓reduceIte,reduceCtorEq,elB,evParts,Int.reduceToNat,Int.reduceLE,Int.reduceLT,Int.reduceEq,Nat.reduceMul,Nat.reduceLeDiff,Nat.reduceLT,ty3,ty4,ty9,ty28,ty22,ty23,ty24,ty25,ty27,ty63,ty52,ty43]
    refine ⟨hbig,?_⟩
    refine back_intro hst2 (d + 1,cur ++ [⟨(q : Int) - 1,(d : Int)⟩]) (le_pk [0,3] rfl (by simp) (by simp) ?_ ?_) ⟨by simp only; omega,?_,by simp only [List.length_append,List.length_cons,List.length_nil]; omega⟩ (by simp only; omega)
    ·simp [subBlk,subAny,subA,mkSub,idx,Gra.cells,tk1,Itm.row]
    ·simp [wk,subAny,subA,mkSub,idx]
    ·simp only
     rw [hrs,← List.append_assoc,List.filter_append,← g2]
     simp [hm]
   ·rw [decide_eq_false hm] at hx
    simp -implicitDefEqProofs only [hdt,
  evx,evy,ofValue,ofCell,List.range,List.range.loop,Array.size,Nat.reduceAdd,Nat.reduceSub,Nat.reduceEqDiff,List.replicate,if_true,if_false,↓reduceIte,reduceCtorEq,elB,evParts,Int.reduceToNat,Int.reduceLE,Int.reduceLT,Int.reduceEq,Nat.reduceMul,Nat.reduceLeDiff,Nat.reduceLT,ty3,ty4,ty9,ty28,ty22,ty23,ty24,ty25,ty27,ty63,ty52,ty43]
    refine callK_ret _ _ _ _ (call_pure (hx) (fun _ => rfl) (fun _ => rfl)) (ok_nil _ _) ?_
    simp -implicitDefEqProofs only [wsucc d (by omega),
  evx,evy,ofValue,ofCell,List.range,List.range.loop,Array.size,Nat.reduceAdd,Nat.reduceSub,Nat.reduceEqDiff,List.replicate,if_true,if_false,↓reduceIte,reduceCtorEq,elB,evParts,Int.reduceToNat,Int.reduceLE,Int.reduceLT,Int.reduceEq,Nat.reduceMul,Nat.reduceLeDiff,Nat.reduceLT,ty3,ty4,ty9,ty28,ty22,ty23,ty24,ty25,ty27,ty63,ty52,ty43]
    refine back_intro hst2 (d + 1,cur) (le_wk (by simp [wk,Gra.cells])) ⟨by simp only; omega,?_,by simp only; omega⟩ (by simp only; omega)
    simp only
    rw [hrs,← List.append_assoc,List.filter_append,← g2]
    simp [hm]
  ·have hdt : ((d : Int) ≤ (sd.length : Int)) = False := eq_false (by omega)
   obtain rfl : d = sd.length + 1 := by omega
   simp -implicitDefEqProofs only [hdt,hwq,
  evx,evy,ofValue,ofCell,List.range,List.range.loop,Array.size,Nat.reduceAdd,Nat.reduceSub,Nat.reduceEqDiff,List.replicate,if_true,if_false,↓reduceIte,reduceCtorEq,elB,evParts,Int.reduceToNat,Int.reduceLE,Int.reduceLT,Int.reduceEq,Nat.reduceMul,Nat.reduceLeDiff,Nat.reduceLT,ty3,ty4,ty9,ty28,ty22,ty23,ty24,ty25,ty27,ty63,ty52,ty43]
   exact back_intro hst (q + 1,cur) (le_wk (by simp [wk,Gra.cells])) ⟨by simp only; omega,by simp only; rw [hts]; exact g2,by simp only; omega⟩ (by simp only; omega)
 ·have hc : ((q : Int) - 1 < (g.prods.length : Int)) = False := eq_false (by omega)
  obtain rfl : q = g.prods.length + 1 := by omega
  simp -implicitDefEqProofs only [hc,Gra.cells,List.length_map,
  evx,evy,ofValue,ofCell,List.range,List.range.loop,Array.size,Nat.reduceAdd,Nat.reduceSub,Nat.reduceEqDiff,List.replicate,if_true,if_false,↓reduceIte,reduceCtorEq,elB,evParts,Int.reduceToNat,Int.reduceLE,Int.reduceLT,Int.reduceEq,Nat.reduceMul,Nat.reduceLeDiff,Nat.reduceLT,ty3,ty4,ty9,ty28,ty22,ty23,ty24,ty25,ty27,ty63,ty52,ty43]
  refine le_lst rfl (by simp) ?_
  have e : ofI g l = out := h2.symm
  rw [e]
  simp only [List.drop_zero]
  exact List.take_of_length_le (by simp)
end Go.Abs
/- Items: the document's closure. -/
namespace Go.Abs
open Go.Proofs
set_option linter.unusedVariables false
set_option linter.unusedSimpArgs false
set_option maxRecDepth 100000
set_option maxHeartbeats 8000000
theorem filt_one (f h : Nat → Bool) (a : Nat) (hf : f a = true) (hh : h a = false) (he : ∀ b,b ≠ a → h b = f b) : ∀ l : List Nat,l.Nodup → a ∈ l → (l.filter h).length + 1 = (l.filter f).length
 | [],_,hm => by simp at hm
 | b :: l,hn,hm => by
  obtain ⟨h1,h2⟩ := List.nodup_cons.1 hn
  by_cases e : b = a
  ·subst e
   have : l.filter h = l.filter f := List.filter_congr fun x hx => he x fun e => h1 (e ▸ hx)
   simp [List.filter_cons,hf,hh,this]
  ·have hm' : a ∈ l := by
    rcases List.mem_cons.1 hm with q | q
    ·exact absurd q.symm e
    ·exact q
   have ih := filt_one f h a hf hh he l h2 hm'
   simp only [List.filter_cons,he b e]
   split
   ·simp only [List.length_cons]; omega
   ·exact ih
/-- How many productions' first items are lacking. -/
def missI (g : Gra) (out : List Itm) : Nat := ((List.range g.prods.length).filter fun (k : Nat) => decide ((⟨(k : Nat),0⟩ : Itm) ∉ out)).length
theorem missI_le (g : Gra) (out : List Itm) : missI g out ≤ g.prods.length := by
 have := List.length_filter_le (fun (k : Nat) => decide ((⟨(k : Nat),0⟩ : Itm) ∉ out)) (List.range g.prods.length)
 simpa [missI] using this
theorem missI_add (g : Gra) (out : List Itm) (p : Nat) (hp : p < g.prods.length) (h : (⟨(p : Nat),0⟩ : Itm) ∉ out) : missI g (out ++ [⟨(p : Nat),0⟩]) + 1 = missI g out := by
 refine filt_one _ _ p (decide_eq_true h) (decide_eq_false (by simp)) (fun b hb => ?_) _ List.nodup_range (List.mem_range.2 hp)
 have : (⟨(b : Nat),0⟩ : Itm) ≠ ⟨(p : Nat),0⟩ := fun e => hb (by have := congrArg Itm.prod e; simp only at this; omega)
 simp [this]
structure RefI (g : Gra) (l out : List Itm) : Prop where
 sub : ∀ x ∈ l,x ∈ out
 cl : ∀ x ∈ out,Cl g l x
 ok : ∀ x ∈ out,g.isItm x = true
 len : out.length + missI g out ≤ l.length + g.prods.length
theorem RefI.add {g : Gra} {l out : List Itm} (h : RefI g l out) {k : Nat} {p : Prd} (hpk : g.prods[k]? = some p) (hk : k < g.prods.length) (hn : (⟨(k : Nat),0⟩ : Itm) ∉ out) {x : Itm} (hx : x ∈ out) (hl : p.left = nextI g x) (hz : p.left ≠ 0) : RefI g l (out ++ [⟨(k : Nat),0⟩]) where
 sub y hy := List.mem_append_left _ (h.sub y hy)
 cl y hy := by
  rcases List.mem_append.1 hy with q | q
  ·exact h.cl y q
  ·obtain rfl : y = ⟨(k : Nat),0⟩ := by simpa using q
   exact .step x k p (h.cl x hx) hpk (hl ▸ hz) hl
 ok y hy := by
  rcases List.mem_append.1 hy with q | q
  ·exact h.ok y q
  ·obtain rfl : y = ⟨(k : Nat),0⟩ := by simpa using q
   exact isItm_iff.2 ⟨isProd_iff.2 ⟨by simp only; omega,by simp only; omega⟩,by simp,by simp⟩
 len := by
  have := h.len
  have := missI_add g out k hk hn
  simp only [List.length_append,List.length_cons,List.length_nil]
  omega
/-- The first productions bring nothing more. -/
def Still (g : Gra) (out : List Itm) (k : Nat) : Prop := ∀ (j : Nat) (p : Prd),j < k → g.prods[j]? = some p → (⟨(j : Nat),0⟩ : Itm) ∈ out ∨ ∀ x ∈ out,nextI g x ≠ p.left
theorem RefI.ends {g : Gra} {l out : List Itm} (h : RefI g l out) (hs : Still g out g.prods.length) (x : Itm) : x ∈ out ↔ Cl g l x := by
 refine ⟨h.cl x,fun hc => ?_⟩
 induction hc with
 | base x hx => exact h.sub x hx
 | step x k p _ hp hn hl ih =>
  rcases hs k p (List.getElem?_eq_some_iff.1 hp).1 hp with q | q
  ·exact q
  ·exact absurd hl.symm (q x ih)
theorem RefI.of {g : Gra} {l out : List Itm} (h : RefI g l out) (hs : Still g out g.prods.length) : ofI g out = closI g l :=
 rise_ext _ _ (ofI_rise g out) (closI_rise g l) fun x => by
  rw [ofI_mem,closI_mem,h.ends hs]
theorem ok26 (g : Gra) (hp : g.prods.length ≤ 1000) (hl : ∀ q ∈ g.prods,q.right.length ≤ 1000) (hz : ∀ q ∈ g.prods,q.left ≠ 0) (l : List Itm) (hll : l.length ≤ 100000) (hi : ∀ x ∈ l,g.isItm x = true) :
  Ok Tryz.prog 26 [g.av,.fv (.lst 2 (l.map Itm.row))] [] (.ret (.fv (.lst 2 ((closI g l).map Itm.row)))) [] := by
 have hm0 : (0 + l.length) * 16 ≤ 140737488355328 := by omega
 refine ok_start (k := 50) (n0 := 0) (rs := [.tmp 4]) mix Tryz.func26 rfl rfl rfl rfl rfl rfl rfl ?_
 simp -implicitDefEqProofs only [awp_draw _ _ Tryzdr26_14,Gra.av,
  evx,evy,ofValue,ofCell,List.range,List.range.loop,Array.size,Nat.reduceAdd,Nat.reduceSub,Nat.reduceEqDiff,List.replicate,if_true,if_false,↓reduceIte,reduceCtorEq,elB,evParts,Int.reduceToNat,Int.reduceLE,Int.reduceLT,Int.reduceEq,Nat.reduceMul,Nat.reduceLeDiff,Nat.reduceLT,ty3,ty4,ty9,ty28,ty22,ty23,ty24,ty25,ty27,ty63,ty52,ty43]
 refine ⟨by rw [List.length_map]; omega,?_⟩
 refine loop_rule (fun s : Bool × List Itm => ⟨[.any,.any,.ptr 0 0 0 0,.any,.any,.ref 1 2 0 s.2.length,.fv (.bool s.1),.any,.any,.any,.any,.any,.any,.any,.any,.any,.any,.any,.any,.any,.any,.any,.any,.any,.any,.any,.any,.any,.any,.any,.any,.any,.any,.any,.any,.any,.any,.any,.any,.any,.any,.any,.any,.any,.any,.any,.any,.any,.any,.any,.any,.any],[.box g.cells,.plain 2 (s.2.map Itm.row)],[]⟩)
  (fun s => RefI g l s.2 ∧ (s.1 = false → Still g s.2 g.prods.length)) (fun s => missI g s.2 + (if s.1 then 1 else 0)) (true,l) (le_wk (by simp [wk,Gra.cells])) ?_ (fun s hs st hst => ?_)
 ·exact ⟨⟨fun x h => h,fun x h => .base x h,hi,by have := missI_le g l; simp only; omega⟩,fun e => by cases e⟩
 obtain ⟨more,out0⟩ := s
 obtain ⟨hR0,hS0⟩ := hs
 simp only at hR0 hS0 hst ⊢
 cases more with
 | false =>
  have hR := hR0.of (hS0 rfl)
  have hlen := hR0.len
  have hof := ok29 g hp hl out0 (by omega)
  rw [hR] at hof
  simp -implicitDefEqProofs only [awp_draw _ _ Tryzdr26_14,Gra.cells,
  evx,evy,ofValue,ofCell,List.range,List.range.loop,Array.size,Nat.reduceAdd,Nat.reduceSub,Nat.reduceEqDiff,List.replicate,if_true,if_false,↓reduceIte,reduceCtorEq,elB,evParts,Int.reduceToNat,Int.reduceLE,Int.reduceLT,Int.reduceEq,Nat.reduceMul,Nat.reduceLeDiff,Nat.reduceLT,ty3,ty4,ty9,ty28,ty22,ty23,ty24,ty25,ty27,ty63,ty52,ty43]
  refine callK_ret _ _ _ _ (call_fz [1] (hof) rfl (by simp [subAny,subA,subL,frzSub,List.take_of_length_le,Gra.av]) (by simp [killAll,subBlk,subAny,subA,subL,frzSub,Gra.av]) (fun _ => rfl) (fun _ => rfl)) (by first | exact ok_none _ _ | exact ok_nil _ _ | kernel_rfl) ?_
  simp -implicitDefEqProofs only [awp_draw _ _ Tryzdr26_14,freezeSt,frzSub,killAll,List.contains_cons,List.contains_nil,Nat.reduceBEq,Bool.or_false,
  evx,evy,ofValue,ofCell,List.range,List.range.loop,Array.size,Nat.reduceAdd,Nat.reduceSub,Nat.reduceEqDiff,List.replicate,if_true,if_false,↓reduceIte,reduceCtorEq,elB,evParts,Int.reduceToNat,Int.reduceLE,Int.reduceLT,Int.reduceEq,Nat.reduceMul,Nat.reduceLeDiff,Nat.reduceLT,ty3,ty4,ty9,ty28,ty22,ty23,ty24,ty25,ty27,ty63,ty52,ty43]
  exact le_to [] [] rfl (by simp) (by simp) (by simp) (by simp) rfl
 | true =>
  simp -implicitDefEqProofs only [awp_draw _ _ Tryzdr26_14,
  evx,evy,ofValue,ofCell,List.range,List.range.loop,Array.size,Nat.reduceAdd,Nat.reduceSub,Nat.reduceEqDiff,List.replicate,if_true,if_false,↓reduceIte,reduceCtorEq,elB,evParts,Int.reduceToNat,Int.reduceLE,Int.reduceLT,Int.reduceEq,Nat.reduceMul,Nat.reduceLeDiff,Nat.reduceLT,ty3,ty4,ty9,ty28,ty22,ty23,ty24,ty25,ty27,ty63,ty52,ty43]
  refine loop_rule (fun s : Nat × Bool × List Itm => ⟨[.any,.any,.ptr 0 0 0 0,.any,.any,.ref 1 2 0 s.2.2.length,.fv (.bool s.2.1),.fv (.int .i64 s.1),.any,.any,.any,.any,.any,.any,.any,.any,.any,.any,.any,.any,.any,.any,.any,.any,.any,.any,.any,.any,.any,.any,.any,.any,.any,.any,.any,.any,.any,.any,.any,.any,.any,.any,.any,.any,.any,.any,.any,.any,.any,.any,.any,.any],[.box g.cells,.plain 2 (s.2.2.map Itm.row)],[]⟩)
   (fun s => s.1 ≤ g.prods.length ∧ RefI g l s.2.2 ∧ (s.2.1 = false → Still g s.2.2 s.1) ∧ missI g s.2.2 ≤ missI g out0 ∧ (s.2.1 = true → missI g s.2.2 < missI g out0)) (fun s => g.prods.length - s.1) (0,false,out0) (le_wk (by simp [wk,Gra.cells])) ?_ (fun s hs st2 hst2 => ?_)
  ·exact ⟨Nat.zero_le _,hR0,fun _ j q hj => by simp only at hj; omega,Nat.le_refl _,fun e => by cases e⟩
  obtain ⟨p,more,out⟩ := s
  obtain ⟨h1,hR,hS,hM,hT⟩ := hs
  simp only at h1 hR hS hM hT hst2 ⊢
  have hlen := hR.len
  have htk : List.take out.length (out.map Itm.row) = out.map Itm.row := List.take_of_length_le (by simp)
  by_cases hlt : p < g.prods.length
  ·have hrp := rows_at Prd.row g.prods p hlt
   have hpk : g.prods[p]? = some g.prods[p] := List.getElem?_eq_getElem hlt
   have hpz := hz _ (List.getElem_mem hlt)
   generalize g.prods[p] = q at hrp hpk hpz
   have hhas := ok30 out ⟨(p : Nat),0⟩ (by omega)
   simp -implicitDefEqProofs only [awp_draw _ _ Tryzdr26_14,Gra.cells,List.length_map,lt_true hlt,stB_boxA,splice_all,List.all_cons,List.all_nil,Bool.and_self,
  evx,evy,ofValue,ofCell,List.range,List.range.loop,Array.size,Nat.reduceAdd,Nat.reduceSub,Nat.reduceEqDiff,List.replicate,if_true,if_false,↓reduceIte,reduceCtorEq,elB,evParts,Int.reduceToNat,Int.reduceLE,Int.reduceLT,Int.reduceEq,Nat.reduceMul,Nat.reduceLeDiff,Nat.reduceLT,ty3,ty4,ty9,ty28,ty22,ty23,ty24,ty25,ty27,ty63,ty52,ty43]
   refine callK_ret _ _ _ _ (call_look [1] hhas (by simp [subAny,subA,subL,mkSub,idx,htk,Itm.av]) (fun k hk => by simp at hk; subst hk; exact ⟨_,_,rfl⟩) rfl) (ok_nil _ _) ?_
   by_cases hm : (⟨(p : Nat),0⟩ : Itm) ∈ out
   ·rw [decide_eq_true hm]
    simp -implicitDefEqProofs only [awp_draw _ _ Tryzdr26_14,wsucc p (by omega),
  evx,evy,ofValue,ofCell,List.range,List.range.loop,Array.size,Nat.reduceAdd,Nat.reduceSub,Nat.reduceEqDiff,List.replicate,if_true,if_false,↓reduceIte,reduceCtorEq,elB,evParts,Int.reduceToNat,Int.reduceLE,Int.reduceLT,Int.reduceEq,Nat.reduceMul,Nat.reduceLeDiff,Nat.reduceLT,ty3,ty4,ty9,ty28,ty22,ty23,ty24,ty25,ty27,ty63,ty52,ty43]
    refine back_intro hst2 (p + 1,more,out) (le_pk [0,1] rfl (by simp) (by simp) ?_ ?_) ⟨by simp only; omega,hR,fun e j r hj hr => ?_,hM,hT⟩ (by simp only; omega)
    ·simp [subBlk,subAny,subA,mkSub,idx,Gra.cells]
    ·simp [wk,subAny,subA,mkSub,idx]
    ·by_cases c : j = p
     ·subst c
      exact .inl hm
     ·exact hS e j r (by simp only at hj; omega) hr
   ·rw [decide_eq_false hm]
    simp -implicitDefEqProofs only [awp_draw _ _ Tryzdr26_14,
  evx,evy,ofValue,ofCell,List.range,List.range.loop,Array.size,Nat.reduceAdd,Nat.reduceSub,Nat.reduceEqDiff,List.replicate,if_true,if_false,↓reduceIte,reduceCtorEq,elB,evParts,Int.reduceToNat,Int.reduceLE,Int.reduceLT,Int.reduceEq,Nat.reduceMul,Nat.reduceLeDiff,Nat.reduceLT,ty3,ty4,ty9,ty28,ty22,ty23,ty24,ty25,ty27,ty63,ty52,ty43]
    refine loop_rule (fun i : Nat => ⟨[.any,.any,.ptr 0 0 0 0,.any,.any,.ref 1 2 0 out.length,.fv (.bool more),.fv (.int .i64 p),.ptr 2 0 0 0,.fv (.int .i64 i),.any,.any,.any,.any,.any,.any,.any,.any,.any,.any,.any,.any,.any,.any,.any,.any,.any,.any,.any,.any,.any,.any,.any,.any,.any,.any,.any,.any,.any,.any,.any,.any,.any,.any,.any,.any,.any,.any,.any,.any,.any,.any],[.box g.cells,.plain 2 (out.map Itm.row),.box [.fv (.int .i64 p),.fv (.int .i64 0)]],[]⟩)
     (fun i => i ≤ out.length ∧ ∀ x ∈ out.take i,nextI g x ≠ q.left) (fun i => out.length - i) 0 (le_wk (by simp [wk,Gra.cells])) (by simp) (fun i hi st3 hst3 => ?_)
    obtain ⟨hi1,hi2⟩ := hi
    by_cases hil : i < out.length
    ·have hr := rows_at Itm.row out i hil
     have ht := List.take_succ_eq_append_getElem hil
     have hmem : out[i] ∈ out := List.getElem_mem hil
     have hnx := ok51 g hl out[i] (hR.ok _ hmem)
     generalize out[i] = x at hr ht hmem hnx
     generalize hn : nextI g x = n at hnx
     have hplt : ((p : Int) < (g.prods.length : Int)) = True := eq_true (by omega)
     by_cases hnl : n = q.left
     ·have hnt : (n = q.left) = True := eq_true hnl
      have hbig : (out.length + 1) * 16 ≤ 140737488355328 := by omega
      have hadd := hR.add hpk hlt hm hmem (hn.trans hnl).symm hpz
      have hmis := missI_add g out p hlt hm
      simp -implicitDefEqProofs only [awp_draw _ _ Tryzdr26_14,Gra.cells,List.length_map,lt_true hil,hr,hplt,hrp,Itm.row,Prd.row,
  evx,evy,ofValue,ofCell,List.range,List.range.loop,Array.size,Nat.reduceAdd,Nat.reduceSub,Nat.reduceEqDiff,List.replicate,if_true,if_false,↓reduceIte,reduceCtorEq,elB,evParts,Int.reduceToNat,Int.reduceLE,Int.reduceLT,Int.reduceEq,Nat.reduceMul,Nat.reduceLeDiff,Nat.reduceLT,ty3,ty4,ty9,ty28,ty22,ty23,ty24,ty25,ty27,ty63,ty52,ty43]
      refine callK_ret _ _ _ _ (call_pure (hnx) (fun _ => rfl) (fun _ => rfl)) (ok_nil _ _) ?_
      simp -implicitDefEqProofs only [awp_draw _ _ Tryzdr26_14,Gra.cells,List.length_map,hplt,hrp,Prd.row,hnt,bsE_21,le_true (Nat.le_refl out.length),wsucc p (by omega),
  evx,evy,ofValue,ofCell,List.range,List.range.loop,Array.size,Nat.reduceAdd,Nat.reduceSub,Nat.reduceEqDiff,List.replicate,if_true,if_false,↓reduceIte,reduceCtorEq,elB,evParts,Int.reduceToNat,Int.reduceLE,Int.reduceLT,Int.reduceEq,Nat.reduceMul,Nat.reduceLeDiff,Nat.reduceLT,ty3,ty4,ty9,ty28,ty22,ty23,ty24,ty25,ty27,ty63,ty52,ty43]
      refine ⟨hbig,?_⟩
      refine back_intro hst2 (p + 1,true,out ++ [⟨(p : Nat),0⟩]) (le_pk [0,4] rfl (by simp) (by simp) ?_ ?_) ⟨by simp only; omega,hadd,fun e => by simp at e,by simp only; omega,fun _ => by simp only; omega⟩ (by simp only; omega)
      ·simp [subBlk,subAny,subA,mkSub,idx,Gra.cells,htk,Itm.row]
      ·simp [wk,subAny,subA,mkSub,idx]
     ·have hnt : (n = q.left) = False := eq_false hnl
      simp -implicitDefEqProofs only [awp_draw _ _ Tryzdr26_14,Gra.cells,List.length_map,lt_true hil,hr,hplt,hrp,Itm.row,Prd.row,
  evx,evy,ofValue,ofCell,List.range,List.range.loop,Array.size,Nat.reduceAdd,Nat.reduceSub,Nat.reduceEqDiff,List.replicate,if_true,if_false,↓reduceIte,reduceCtorEq,elB,evParts,Int.reduceToNat,Int.reduceLE,Int.reduceLT,Int.reduceEq,Nat.reduceMul,Nat.reduceLeDiff,Nat.reduceLT,ty3,ty4,ty9,ty28,ty22,ty23,ty24,ty25,ty27,ty63,ty52,ty43]
      refine callK_ret _ _ _ _ (call_pure (hnx) (fun _ => rfl) (fun _ => rfl)) (ok_nil _ _) ?_
      simp -implicitDefEqProofs only [awp_draw _ _ Tryzdr26_14,Gra.cells,List.length_map,hplt,hrp,Prd.row,hnt,wsucc i (by omega),
  evx,evy,ofValue,ofCell,List.range,List.range.loop,Array.size,Nat.reduceAdd,Nat.reduceSub,Nat.reduceEqDiff,List.replicate,if_true,if_false,↓reduceIte,reduceCtorEq,elB,evParts,Int.reduceToNat,Int.reduceLE,Int.reduceLT,Int.reduceEq,Nat.reduceMul,Nat.reduceLeDiff,Nat.reduceLT,ty3,ty4,ty9,ty28,ty22,ty23,ty24,ty25,ty27,ty63,ty52,ty43]
      refine back_intro hst3 (i + 1) (le_wk (by simp [wk,Gra.cells])) ⟨by omega,fun y hy => ?_⟩ (by omega)
      rw [ht] at hy
      rcases List.mem_append.1 hy with h | h
      ·exact hi2 y h
      ·obtain rfl : y = x := by simpa using h
       rw [hn]
       exact hnl
    ·obtain rfl : i = out.length := by omega
     rw [List.take_length] at hi2
     simp -implicitDefEqProofs only [awp_draw _ _ Tryzdr26_14,lt_false hil,wsucc p (by omega),List.length_map,
  evx,evy,ofValue,ofCell,List.range,List.range.loop,Array.size,Nat.reduceAdd,Nat.reduceSub,Nat.reduceEqDiff,List.replicate,if_true,if_false,↓reduceIte,reduceCtorEq,elB,evParts,Int.reduceToNat,Int.reduceLE,Int.reduceLT,Int.reduceEq,Nat.reduceMul,Nat.reduceLeDiff,Nat.reduceLT,ty3,ty4,ty9,ty28,ty22,ty23,ty24,ty25,ty27,ty63,ty52,ty43]
     refine back_intro hst2 (p + 1,more,out) (le_pk [0,1] rfl (by simp) (by simp) ?_ ?_) ⟨by simp only; omega,hR,fun e j r hj hr => ?_,hM,hT⟩ (by simp only; omega)
     ·simp [subBlk,subAny,subA,mkSub,idx,Gra.cells]
     ·simp [wk,subAny,subA,mkSub,idx]
     ·by_cases c : j = p
      ·subst c
       rw [hpk] at hr
       cases hr
       exact .inr hi2
      ·exact hS e j r (by simp only at hj; omega) hr
  ·obtain rfl : p = g.prods.length := by omega
   simp -implicitDefEqProofs only [awp_draw _ _ Tryzdr26_14,Gra.cells,List.length_map,lt_false hlt,
  evx,evy,ofValue,ofCell,List.range,List.range.loop,Array.size,Nat.reduceAdd,Nat.reduceSub,Nat.reduceEqDiff,List.replicate,if_true,if_false,↓reduceIte,reduceCtorEq,elB,evParts,Int.reduceToNat,Int.reduceLE,Int.reduceLT,Int.reduceEq,Nat.reduceMul,Nat.reduceLeDiff,Nat.reduceLT,ty3,ty4,ty9,ty28,ty22,ty23,ty24,ty25,ty27,ty63,ty52,ty43]
   refine back_intro hst (more,out) (le_wk (by simp [wk,Gra.cells])) ⟨hR,hS⟩ ?_
   cases more with
   | false => simp only [if_true,Bool.false_eq_true,if_false]; omega
   | true => have := hT rfl; simp only [if_true]; omega
end Go.Abs
