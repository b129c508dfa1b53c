/- What ends: the program's answer. -/
import Derived.Test.YtckpaaeilbgiiaaGreatTyTryz
import Derived.Test.YtckpaaeilbgiiaaGreatDrTryz
import Derived.Test.YtckpaaeilbgiiaaGreatAbsY
import Derived.Test.YtckpaaeilbgiiaaGreatCkK
import Derived.Test.YtckpaaeilbgiiaaGreatCkM
import Derived.Test.YtckpaaeilbgiiaaGreatCkH
namespace Go.Abs
open Go.Proofs
set_option linter.unusedVariables false
set_option linter.unusedSimpArgs false
set_option maxRecDepth 100000
set_option maxHeartbeats 4000000
theorem sorted_those {g : Gra} {Q : Int → Prop} {o : List Int} (hnd : o.Nodup) (hm : ∀ n, n ∈ o ↔ ((g.terms : Int) < n ∧ n ≤ (g.all : Int)) ∧ Q n) : sorted o = g.those Q := by
  have hp : (sorted o).Perm o := List.mergeSort_perm _ _
  have hn2 : (sorted o).Nodup := hp.nodup_iff.2 hnd
  refine rises_unique _ _ ?_ (g.those_rises Q) fun n => by rw [mem_sorted, hm, g.mem_those]
  exact (List.Pairwise.and (sorted_rises o) hn2).imp fun h => by
    have h1 := h.1
    have h2 := h.2
    omega
theorem ok25 (n : Int) (T : Nat) (o : List Int) (ho : o.length < 1048576) : Ok Tryz.prog 25 [.fv (.int .i64 n), .fptr [.int .i64 T], .fptr [.lst 1 (ints o)]] [] (.ret (.fv (.bool (!shutB T o n)))) [] := by
  have hc := ok22 o n (by omega)
  refine ok_start (k := 11) (n0 := 0) (rs := [.tmp 4]) mix Tryz.func25 rfl rfl rfl rfl rfl rfl rfl ?_
  by_cases h1 : (T : Int) < n
  · have h1t : ((T : Int) < n) = True := by simpa using h1
    have e : shutB T o n = decide (n ∈ o) := by unfold shutB; rw [decide_eq_false (by omega)]; rfl
    rw [e]
    simp -implicitDefEqProofs only [h1t,
    evx, evy, ofValue, ofCell, List.range, List.range.loop, Array.size, Nat.reduceAdd, Nat.reduceSub, Nat.reduceEqDiff, List.replicate, if_true, if_false, ↓reduceIte, reduceCtorEq, elB, evParts, Int.reduceToNat, Int.reduceLE, Int.reduceLT, Int.reduceEq, Nat.reduceMul, Nat.reduceLeDiff, Nat.reduceLT, ty3, ty4, ty9, ty22, ty23, ty24, ty25, ty27, ty35, ty40, ty44, ty46, ty55]
    refine callK_ret _ _ _ _ (call_pure (hc) (fun _ => rfl) (fun _ => rfl)) (ok_nil _ _) ?_
    simp -implicitDefEqProofs only [evx, evy, ofValue, ofCell, List.range, List.range.loop, Array.size, Nat.reduceAdd, Nat.reduceSub, Nat.reduceEqDiff, List.replicate, if_true, if_false, ↓reduceIte, reduceCtorEq, elB, evParts, Int.reduceToNat, Int.reduceLE, Int.reduceLT, Int.reduceEq, Nat.reduceMul, Nat.reduceLeDiff, Nat.reduceLT, ty3, ty4, ty9, ty22, ty23, ty24, ty25, ty27, ty35, ty40, ty44, ty46, ty55]
    exact le_flat rfl
  · have h1t : ((T : Int) < n) = False := by simpa using h1
    have e : shutB T o n = true := by unfold shutB; rw [decide_eq_true (by omega)]; rfl
    rw [e]
    simp -implicitDefEqProofs only [h1t,
    evx, evy, ofValue, ofCell, List.range, List.range.loop, Array.size, Nat.reduceAdd, Nat.reduceSub, Nat.reduceEqDiff, List.replicate, if_true, if_false, ↓reduceIte, reduceCtorEq, elB, evParts, Int.reduceToNat, Int.reduceLE, Int.reduceLT, Int.reduceEq, Nat.reduceMul, Nat.reduceLeDiff, Nat.reduceLT, ty3, ty4, ty9, ty22, ty23, ty24, ty25, ty27, ty35, ty40, ty44, ty46, ty55]
    exact le_flat rfl
theorem ints_es (o : List Int) : ∀ r ∈ ints o, r.length = 1 := by
  intro r hr
  simp only [ints, List.mem_map] at hr
  obtain ⟨_, _, rfl⟩ := hr
  rfl
theorem deep_out {h : List Blk} {k n : Nat} {o : List Int} (hb : h[k]? = some (.plain 1 (ints o))) : deepF (n + 2) h (.ref k 1 0 o.length) = some (.lst 1 (ints o)) := by
  have hl := ints_length o
  rw [deepF_ref hb (by omega) (ints_es o), List.drop_zero, ← hl, List.take_length]
theorem deep_ptr {h : List Blk} {n i k : Nat} {o : List Int} (hi : h[i]? = some (.box [.ref k 1 0 o.length])) (hb : h[k]? = some (.plain 1 (ints o))) : deepA (n + 3) h (.ptr i 0 0 0) = some (.fptr [.lst 1 (ints o)]) := by
  have e : behindA h i 0 0 0 = some [.ref k 1 0 o.length] := by
    unfold behindA
    rw [hi]
    rfl
  show (match behindA h i 0 0 0 with
    | some cs => match deepL (deepF (n + 2) h) cs with
      | some row => match row with
        | [] => none
        | x :: l => some (AV.fptr (x :: l))
      | none => none
    | none => none) = _
  rw [e]
  simp only [deepL, deep_out hb]
theorem deep_ints (h : List Blk) (i : Nat) (T : Int) (n : Nat) (hi : h[i]? = some (.box [.fv (.int .i64 T)])) : deepA (n + 2) h (.ptr i 0 0 0) = some (.fptr [.int .i64 T]) := by
  have e : behindA h i 0 0 0 = some [.fv (.int .i64 T)] := by
    unfold behindA
    rw [hi]
    rfl
  show (match behindA h i 0 0 0 with
    | some cs => match deepL (deepF (n + 1) h) cs with
      | some row => match row with
        | [] => none
        | x :: l => some (AV.fptr (x :: l))
      | none => none
    | none => none) = _
  rw [e]
  rfl
theorem deep_args {h : List Blk} {T x : Int} {k : Nat} {o : List Int} (h1 : h[1]? = some (.box [.fv (.int .i64 T)])) (h2 : h[2]? = some (.box [.ref k 1 0 o.length])) (h3 : h[k]? = some (.plain 1 (ints o))) :
    deepAs h [.fv (.int .i64 x), .ptr 1 0 0 0, .ptr 2 0 0 0] = some [.fv (.int .i64 x), .fptr [.int .i64 T], .fptr [.lst 1 (ints o)]] := by
  have e0 : deepA 8 h (.fv (.int .i64 x)) = some (.fv (.int .i64 x)) := rfl
  simp only [deepAs, e0, deep_ints h 1 T 6 h1, deep_ptr (n := 5) h2 h3]
theorem deep_args2 {h : List Blk} {T : Int} {k : Nat} {f : FuncId} {x : FV} {o : List Int} (h1 : h[1]? = some (.box [.fv (.int .i64 T)])) (h2 : h[2]? = some (.box [.ref k 1 0 o.length])) (h3 : h[k]? = some (.plain 1 (ints o))) :
    deepAs h [.fv x, .func f [.ptr 1 0 0 0, .ptr 2 0 0 0]] = some [.fv x, .func f [.fptr [.int .i64 T], .fptr [.lst 1 (ints o)]]] := by
  have e0 : deepA 8 h (.fv x) = some (.fv x) := rfl
  have e1 : deepA 8 h (.func f [.ptr 1 0 0 0, .ptr 2 0 0 0]) = (subL (deepA 7 h) [.ptr 1 0 0 0, .ptr 2 0 0 0]).map (.func f) := rfl
  simp only [deepAs, e0, e1, subL, deep_ints h 1 T 5 h1, deep_ptr (n := 4) h2 h3, Option.map_some, Option.bind_some]
theorem ok11_bad (g : Gra) (hg : Small g 100) (hsd : g.sound = false) : Ok Tryz.prog 11 [g.av] [] (.ret (.fv .nils)) [] := by
  have hs := ok19 g hg
  rw [hsd] at hs
  refine ok_start (k := 42) (n0 := 0) (rs := [.tmp 2]) mix Tryz.func11 rfl rfl rfl rfl rfl rfl rfl ?_
  simp -implicitDefEqProofs only [Gra.av,
    evx, evy, ofValue, ofCell, List.range, List.range.loop, Array.size, Nat.reduceAdd, Nat.reduceSub, Nat.reduceEqDiff, List.replicate, if_true, if_false, ↓reduceIte, reduceCtorEq, elB, evParts, Int.reduceToNat, Int.reduceLE, Int.reduceLT, Int.reduceEq, Nat.reduceMul, Nat.reduceLeDiff, Nat.reduceLT, ty3, ty4, ty9, ty22, ty23, ty24, ty25, ty27, ty35, ty40, ty44, ty46, ty55]
  refine callK_ret _ _ _ _ (call_pure (hs) (fun _ => rfl) (fun _ => rfl)) (ok_nil _ _) ?_
  simp -implicitDefEqProofs only [evx, evy, ofValue, ofCell, List.range, List.range.loop, Array.size, Nat.reduceAdd, Nat.reduceSub, Nat.reduceEqDiff, List.replicate, if_true, if_false, ↓reduceIte, reduceCtorEq, elB, evParts, Int.reduceToNat, Int.reduceLE, Int.reduceLT, Int.reduceEq, Nat.reduceMul, Nat.reduceLeDiff, Nat.reduceLT, ty3, ty4, ty9, ty22, ty23, ty24, ty25, ty27, ty35, ty40, ty44, ty46, ty55]
  exact le_flat rfl
theorem ok11 (g : Gra) (hg : Small g 100) (hsd : g.sound = true) : Ok Tryz.prog 11 [g.av] [] (.ret (.fv (.lst 1 (ints (g.those (Ended g)))))) [] := by
  have hso := g.sound_iff hsd
  have hnn := hso.nnonts
  have hnp := hso.nprods
  have htl := hso.terms_le
  have hterms := ok21 g hg.nrules
  have hs := ok19 g hg
  rw [hsd] at hs
  refine ok_start (k := 42) (n0 := 0) (rs := [.tmp 2]) mix Tryz.func11 rfl rfl rfl rfl rfl rfl rfl ?_
  simp -implicitDefEqProofs only [Gra.av,
    evx, evy, ofValue, ofCell, List.range, List.range.loop, Array.size, Nat.reduceAdd, Nat.reduceSub, Nat.reduceEqDiff, List.replicate, if_true, if_false, ↓reduceIte, reduceCtorEq, elB, evParts, Int.reduceToNat, Int.reduceLE, Int.reduceLT, Int.reduceEq, Nat.reduceMul, Nat.reduceLeDiff, Nat.reduceLT, ty3, ty4, ty9, ty22, ty23, ty24, ty25, ty27, ty35, ty40, ty44, ty46, ty55]
  refine callK_ret _ _ _ _ (call_pure (hs) (fun _ => rfl) (fun _ => rfl)) (ok_nil _ _) ?_
  simp -implicitDefEqProofs only [evx, evy, ofValue, ofCell, List.range, List.range.loop, Array.size, Nat.reduceAdd, Nat.reduceSub, Nat.reduceEqDiff, List.replicate, if_true, if_false, ↓reduceIte, reduceCtorEq, elB, evParts, Int.reduceToNat, Int.reduceLE, Int.reduceLT, Int.reduceEq, Nat.reduceMul, Nat.reduceLeDiff, Nat.reduceLT, ty3, ty4, ty9, ty22, ty23, ty24, ty25, ty27, ty35, ty40, ty44, ty46, ty55]
  refine callK_ret _ _ _ _ (call_pure (hterms) (fun _ => rfl) (fun _ => rfl)) (ok_nil _ _) ?_
  simp -implicitDefEqProofs only [Gra.cells, stB_boxA, splice_all, List.all_cons, List.all_nil,
    evx, evy, ofValue, ofCell, List.range, List.range.loop, Array.size, Nat.reduceAdd, Nat.reduceSub, Nat.reduceEqDiff, List.replicate, if_true, if_false, ↓reduceIte, reduceCtorEq, elB, evParts, Int.reduceToNat, Int.reduceLE, Int.reduceLT, Int.reduceEq, Nat.reduceMul, Nat.reduceLeDiff, Nat.reduceLT, ty3, ty4, ty9, ty22, ty23, ty24, ty25, ty27, ty35, ty40, ty44, ty46, ty55]
  refine loop_rule (fun x : Bool × List Int => ⟨[.any, .ptr 0 0 0 0, .any, .ptr 1 0 0 0, .ptr 2 0 0 0, .fv (.bool x.1), .any, .any, .any, .any, .any, .any, .any, .any, .any, .any, .any, .any, .any, .any, .any, .any, .any, .any, .any, .any, .any, .any, .any, .any, .any, .any, .any, .any, .any, .any, .any, .any, .any, .any, .any, .any, .any], [.box g.cells, .box [.fv (.int .i64 g.terms)], .box [.ref 3 1 0 x.2.length], .plain 1 (ints x.2)], []⟩)
    (fun x => EndsI g x.2 ∧ (x.1 = false → ∀ p ∈ g.prods, endsC g.terms x.2 p = none)) (fun x => if x.1 then 1 + (g.nonts.length - x.2.length) else 0) (true, [])
    (Le.trans (le_virt_box 2 1 0 [.fv .nils] rfl rfl) (le_wk (by simp [wk, Gra.cells, ints]))) ⟨⟨by simp, by simp⟩, by simp⟩ (fun x hx s hs1 => ?_)
  obtain ⟨b, o⟩ := x
  obtain ⟨hI, hcl⟩ := hx
  simp only at hI hcl hs1 ⊢
  have hol := hI.len hso
  have hil := ints_length o
  cases b with
  | false =>
    have hm := hI.closed (hcl rfl)
    have hst := sorted_those (g := g) (Q := Ended g) hI.1 (fun n => by rw [hm n]; exact ⟨fun h => ⟨hso.ended h, h⟩, fun h => h.2⟩)
    have hsort := ok27 o (by omega)
    rw [hst] at hsort
    have htl2 : (g.those (Ended g)).length = o.length := by rw [← hst]; exact sorted_length o
    have htl3 := ints_length (g.those (Ended g))
    simp -implicitDefEqProofs only [evx, evy, ofValue, ofCell, List.range, List.range.loop, Array.size, Nat.reduceAdd, Nat.reduceSub, Nat.reduceEqDiff, List.replicate, if_true, if_false, ↓reduceIte, reduceCtorEq, elB, evParts, Int.reduceToNat, Int.reduceLE, Int.reduceLT, Int.reduceEq, Nat.reduceMul, Nat.reduceLeDiff, Nat.reduceLT, ty3, ty4, ty9, ty22, ty23, ty24, ty25, ty27, ty35, ty40, ty44, ty46, ty55]
    refine callK_ret _ _ _ _ (call_lent [3] hsort rfl rfl (by simp) (by simp [Blk.live])) (ok_none _ _) ?_
    simp -implicitDefEqProofs only [subAny, subA, subL, backSub, back, putBack, subBlk, Option.getD_some, List.map_cons, List.map_nil, Nat.not_lt_zero, Nat.sub_zero, Nat.add_zero, List.length_map,
    evx, evy, ofValue, ofCell, List.range, List.range.loop, Array.size, Nat.reduceAdd, Nat.reduceSub, Nat.reduceEqDiff, List.replicate, if_true, if_false, ↓reduceIte, reduceCtorEq, elB, evParts, Int.reduceToNat, Int.reduceLE, Int.reduceLT, Int.reduceEq, Nat.reduceMul, Nat.reduceLeDiff, Nat.reduceLT, ty3, ty4, ty9, ty22, ty23, ty24, ty25, ty27, ty35, ty40, ty44, ty46, ty55]
    refine le_lst (rows := ints (g.those (Ended g))) rfl (by omega) ?_
    rw [List.drop_zero, ← htl2, ← htl3, List.take_length]
  | true =>
    simp -implicitDefEqProofs only [Gra.cells, List.length_map,
    evx, evy, ofValue, ofCell, List.range, List.range.loop, Array.size, Nat.reduceAdd, Nat.reduceSub, Nat.reduceEqDiff, List.replicate, if_true, if_false, ↓reduceIte, reduceCtorEq, elB, evParts, Int.reduceToNat, Int.reduceLE, Int.reduceLT, Int.reduceEq, Nat.reduceMul, Nat.reduceLeDiff, Nat.reduceLT, ty3, ty4, ty9, ty22, ty23, ty24, ty25, ty27, ty35, ty40, ty44, ty46, ty55]
    refine loop_rule (fun x : Nat × Bool × List Int => ⟨[.any, .ptr 0 0 0 0, .any, .ptr 1 0 0 0, .ptr 2 0 0 0, .fv (.bool x.2.1), .any, .any, .any, .any, .any, .any, .any, .any, .any, .any, .fv (.lst 3 (g.prods.map Prd.row)), .fv (.int .i64 g.prods.length), .fv (.int .i64 x.1), .any, .any, .any, .any, .any, .any, .any, .any, .any, .any, .any, .any, .any, .any, .any, .any, .any, .any, .any, .any, .any, .any, .any, .any], [.box g.cells, .box [.fv (.int .i64 g.terms)], .box [.ref 3 1 0 x.2.2.length], .plain 1 (ints x.2.2)], []⟩)
      (fun x => x.1 ≤ g.prods.length ∧ EndsI g x.2.2 ∧ x.2.2 = (g.prods.take x.1).foldl (adds (endsC g.terms)) o ∧ (x.2.1 = false → x.2.2 = o) ∧ (x.2.1 = true → o.length < x.2.2.length)) (fun x => g.prods.length - x.1) (0, false, o) (le_wk (by simp [wk, Gra.cells])) ⟨by omega, hI, rfl, by simp, by simp⟩ (fun x hx s2 hs2 => ?_)
    obtain ⟨i, c, o1⟩ := x
    obtain ⟨hi1, hI1, hio, hc1, hc2⟩ := hx
    simp only at hi1 hI1 hio hc1 hc2 hs2 ⊢
    have hol1 := hI1.len hso
    have hil1 := ints_length o1
    by_cases hilt : i < g.prods.length
    · have hrow := rows_at Prd.row g.prods i hilt
      have hpm := List.getElem_mem hilt
      have hpr := hso.prods _ hpm
      have hstep := foldl_take_succ (adds (endsC g.terms)) g.prods o hilt
      rw [← hio] at hstep
      generalize g.prods[i] = p at hrow hpr hstep hpm
      have hinv := fun n => @endsC_inv g o1 p n hI1 hpm
      have heq : ∀ n, endsC g.terms o1 p = some n → adds (endsC g.terms) o1 p = o1 ++ [n] := fun n h => by unfold adds; rw [h]
      have hex := endsC_eq g.terms o1 p
      rw [hex] at hstep
      have hop := ok25 p.left g.terms o1 (by omega)
      have hcf := ok26 (f := 25) (caps := [.fptr [.int .i64 g.terms], .fptr [.lst 1 (ints o1)]]) (p := fun n => !shutB g.terms o1 n) p.right (by omega) (fun _ => rfl) (fun _ => rfl) (fun n _ => ok25 n g.terms o1 (by omega))
      have hsl : shutB g.terms o1 p.left = decide (p.left ∈ o1) := by unfold shutB; rw [decide_eq_false (by omega)]; rfl
      rw [hsl] at hop
      have hany : (p.right.any fun n => !shutB g.terms o1 n) = !(p.right.all (shutB g.terms o1)) := by rw [List.not_all_eq_any_not]
      rw [hany] at hcf
      simp -implicitDefEqProofs only [Gra.cells, List.length_map, stB_boxA, splice_all, List.all_cons, List.all_nil, lt_true hilt, hrow, Prd.row,
    evx, evy, ofValue, ofCell, List.range, List.range.loop, Array.size, Nat.reduceAdd, Nat.reduceSub, Nat.reduceEqDiff, List.replicate, if_true, if_false, ↓reduceIte, reduceCtorEq, elB, evParts, Int.reduceToNat, Int.reduceLE, Int.reduceLT, Int.reduceEq, Nat.reduceMul, Nat.reduceLeDiff, Nat.reduceLT, ty3, ty4, ty9, ty22, ty23, ty24, ty25, ty27, ty35, ty40, ty44, ty46, ty55]
      refine callK_ret _ _ _ _ (call_deep hop (deep_args (k := 3) rfl rfl rfl) rfl) (ok_nil _ _) ?_
      by_cases c2 : p.left ∈ o1
      · rw [if_neg (fun h => h.2 c2)] at hstep
        rw [decide_eq_true c2]
        simp -implicitDefEqProofs only [wsucc i (by omega),
    evx, evy, ofValue, ofCell, List.range, List.range.loop, Array.size, Nat.reduceAdd, Nat.reduceSub, Nat.reduceEqDiff, List.replicate, if_true, if_false, ↓reduceIte, reduceCtorEq, elB, evParts, Int.reduceToNat, Int.reduceLE, Int.reduceLT, Int.reduceEq, Nat.reduceMul, Nat.reduceLeDiff, Nat.reduceLT, ty3, ty4, ty9, ty22, ty23, ty24, ty25, ty27, ty35, ty40, ty44, ty46, ty55]
        refine back_intro hs2 (i + 1, c, o1) (le_pk [0, 1, 2, 3] rfl (by simp) (by simp) ?_ ?_) ⟨by simp only; omega, hI1, hstep.symm, hc1, hc2⟩ (by simp only; omega)
        · simp [subBlk, subAny, subA, mkSub, idx, Gra.cells]
        · simp [wk, subAny, subA, mkSub, idx]
      · rw [decide_eq_false c2]
        simp -implicitDefEqProofs only [Gra.cells, List.length_map,
    evx, evy, ofValue, ofCell, List.range, List.range.loop, Array.size, Nat.reduceAdd, Nat.reduceSub, Nat.reduceEqDiff, List.replicate, if_true, if_false, ↓reduceIte, reduceCtorEq, elB, evParts, Int.reduceToNat, Int.reduceLE, Int.reduceLT, Int.reduceEq, Nat.reduceMul, Nat.reduceLeDiff, Nat.reduceLT, ty3, ty4, ty9, ty22, ty23, ty24, ty25, ty27, ty35, ty40, ty44, ty46, ty55]
        refine callK_ret _ _ _ _ (call_deep hcf (deep_args2 (k := 3) rfl rfl rfl) rfl) (ok_nil _ _) ?_
        cases hall : p.right.all (shutB g.terms o1) with
        | false =>
          rw [hall, if_neg (by simp)] at hstep
          simp -implicitDefEqProofs only [wsucc i (by omega),
    evx, evy, ofValue, ofCell, List.range, List.range.loop, Array.size, Nat.reduceAdd, Nat.reduceSub, Nat.reduceEqDiff, List.replicate, if_true, if_false, ↓reduceIte, reduceCtorEq, elB, evParts, Int.reduceToNat, Int.reduceLE, Int.reduceLT, Int.reduceEq, Nat.reduceMul, Nat.reduceLeDiff, Nat.reduceLT, ty3, ty4, ty9, ty22, ty23, ty24, ty25, ty27, ty35, ty40, ty44, ty46, ty55]
          refine back_intro hs2 (i + 1, c, o1) (le_pk [0, 1, 2, 3] rfl (by simp) (by simp) ?_ ?_) ⟨by simp only; omega, hI1, hstep.symm, hc1, hc2⟩ (by simp only; omega)
          · simp [subBlk, subAny, subA, mkSub, idx, Gra.cells]
          · simp [wk, subAny, subA, mkSub, idx]
        | true =>
          rw [hall, if_pos ⟨rfl, c2⟩] at hstep
          have hnew : endsC g.terms o1 p = some p.left := by
            unfold endsC
            rw [if_pos ⟨fun n hn => by simpa [shutB] using (List.all_eq_true.1 hall n hn), c2⟩]
          have hol2 : o.length ≤ o1.length := by
            cases c with
            | false => rw [hc1 rfl]; exact Nat.le_refl _
            | true => exact Nat.le_of_lt (hc2 rfl)
          simp -implicitDefEqProofs only [Gra.cells, List.length_map, wsucc i (by omega),
    evx, evy, ofValue, ofCell, List.range, List.range.loop, Array.size, Nat.reduceAdd, Nat.reduceSub, Nat.reduceEqDiff, List.replicate, if_true, if_false, ↓reduceIte, reduceCtorEq, elB, evParts, Int.reduceToNat, Int.reduceLE, Int.reduceLT, Int.reduceEq, Nat.reduceMul, Nat.reduceLeDiff, Nat.reduceLT, ty3, ty4, ty9, ty22, ty23, ty24, ty25, ty27, ty35, ty40, ty44, ty46, ty55]
          refine ⟨⟨by omega, by omega⟩, back_intro hs2 (i + 1, true, o1 ++ [p.left]) (le_pk [0, 1, 2, 6] rfl (by simp) (by simp) ?_ ?_) ⟨by simp only; omega, hinv _ hnew, hstep.symm, by simp, fun _ => by simp only [List.length_append, List.length_cons, List.length_nil]; omega⟩ (by simp only; omega)⟩
          · have e : List.take o1.length (ints o1) ++ [[FV.int IntKind.i64 p.left]] = ints (o1 ++ [p.left]) := by
              rw [← hil1, List.take_length, ints_append]; rfl
            rw [e]
            simp [subBlk, subAny, subA, mkSub, idx, Gra.cells]
          · simp [wk, subAny, subA, mkSub, idx]
    · obtain rfl : i = g.prods.length := by omega
      rw [List.take_length] at hio
      simp -implicitDefEqProofs only [Gra.cells, List.length_map, lt_false hilt,
    evx, evy, ofValue, ofCell, List.range, List.range.loop, Array.size, Nat.reduceAdd, Nat.reduceSub, Nat.reduceEqDiff, List.replicate, if_true, if_false, ↓reduceIte, reduceCtorEq, elB, evParts, Int.reduceToNat, Int.reduceLE, Int.reduceLT, Int.reduceEq, Nat.reduceMul, Nat.reduceLeDiff, Nat.reduceLT, ty3, ty4, ty9, ty22, ty23, ty24, ty25, ty27, ty35, ty40, ty44, ty46, ty55]
      refine back_intro hs1 (c, o1) (le_wk (by simp [wk, Gra.cells])) ⟨hI1, fun h => ?_⟩ ?_
      · obtain rfl := hc1 h
        exact adds_fix _ _ _ hio.symm
      · cases c with
        | false => simp; omega
        | true =>
          have := hc2 rfl
          simp only [if_true]
          omega
end Go.Abs
