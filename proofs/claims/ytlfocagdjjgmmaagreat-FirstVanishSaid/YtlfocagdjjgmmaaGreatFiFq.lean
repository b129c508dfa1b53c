/- What vanishes, what begins a text: the program's answers. -/
import Derived.Test.YtlfocagdjjgmmaaGreatTyTryzq
import Derived.Test.YtlfocagdjjgmmaaGreatDrTryzq
import Derived.Test.YtlfocagdjjgmmaaGreatFiDq
import Derived.Test.YtlfocagdjjgmmaaGreatFiA
import Derived.Test.YtlfocagdjjgmmaaGreatCkHq
import Derived.Test.YtlfocagdjjgmmaaGreatAbsY
namespace Go.Abs
open Go.Proofs
set_option linter.unusedVariables false
set_option linter.unusedSimpArgs false
set_option maxRecDepth 100000
set_option maxHeartbeats 8000000
def vanN (N : List Bool) (k : Nat) : List Int := ((List.range k).filter fun j => N.getD j false).map fun j : Nat => (j : Int)
theorem vanN_succ (N : List Bool) (k : Nat) : vanN N (k + 1) = if N.getD k false = true then vanN N k ++ [(k : Int)] else vanN N k := by
  unfold vanN
  rw [List.range_succ, List.filter_append, List.map_append]
  split
  · rename_i h
    simp only [List.filter_cons, List.filter_nil, h, if_true, List.map_cons, List.map_nil]
  · rename_i h
    have h : N.getD k false = false := by simpa using h
    simp only [List.filter_cons, List.filter_nil, h, Bool.false_eq_true, if_false, List.map_nil, List.append_nil]
theorem vanN_length (N : List Bool) (k : Nat) : (vanN N k).length ≤ k := by
  unfold vanN
  rw [List.length_map]
  exact Nat.le_trans (List.length_filter_le _ _) (by simp)
theorem vanN_those {g : Gra} (hs : Sound g) {N : List Bool} {F : List (List Int)} (hI : TabI g N F) (hC : TabC g N F) : vanN N N.length = g.those (Nul g) := by
  refine rises_unique _ _ ?_ (g.those_rises _) fun x => ?_
  · unfold vanN
    rw [List.pairwise_map]
    exact (List.Pairwise.filter _ List.pairwise_lt_range).imp fun h => by omega
  · rw [g.mem_those]
    unfold vanN
    simp only [List.mem_map, List.mem_filter, List.mem_range]
    have hn := hI.lenN
    constructor
    · rintro ⟨j, ⟨hj, hb⟩, rfl⟩
      have h1 : nAt N (j : Int) = true := by unfold nAt; simpa using hb
      have h2 := (hC.nul _).1 h1
      exact ⟨hs.nul h2, h2⟩
    · rintro ⟨⟨h1, h2⟩, h3⟩
      have h4 := (hC.nul _).2 h3
      exact ⟨x.toNat, ⟨by omega, by unfold nAt at h4; exact h4⟩, by omega⟩
theorem ok25_bad (g : Gra) (hg : Small g 100) (hsd : g.sound = false) : Ok Tryz.prog 25 [g.av] [] (.ret (.fv .nils)) [] := by
  have hs := ok54 g hg
  rw [hsd] at hs
  refine ok_start (k := 24) (n0 := 0) (rs := [.tmp 2]) mix Tryz.func25 rfl rfl rfl rfl rfl rfl rfl ?_
  simp -implicitDefEqProofs only [Gra.av,
    evx, evy, ofValue, ofCell, List.range, List.range.loop, Array.size, Nat.reduceAdd, Nat.reduceSub, Nat.reduceEqDiff, List.replicate, if_true, if_false, ↓reduceIte, reduceCtorEq, elB, evParts, Int.reduceToNat, Int.reduceLE, Int.reduceLT, Int.reduceEq, Nat.reduceMul, Nat.reduceLeDiff, Nat.reduceLT, ty3, ty4, ty9, ty28, ty48, ty73, ty83, ty75, ty22, ty23, ty24, ty25, ty27, ty55]
  refine callK_ret _ _ _ _ (call_pure (hs) (fun _ => rfl) (fun _ => rfl)) (ok_nil _ _) ?_
  simp -implicitDefEqProofs only [evx, evy, ofValue, ofCell, List.range, List.range.loop, Array.size, Nat.reduceAdd, Nat.reduceSub, Nat.reduceEqDiff, List.replicate, if_true, if_false, ↓reduceIte, reduceCtorEq, elB, evParts, Int.reduceToNat, Int.reduceLE, Int.reduceLT, Int.reduceEq, Nat.reduceMul, Nat.reduceLeDiff, Nat.reduceLT, ty3, ty4, ty9, ty28, ty48, ty73, ty83, ty75, ty22, ty23, ty24, ty25, ty27, ty55]
  exact le_flat rfl
theorem ok25 (g : Gra) (hg : Small g 100) (hsd : g.sound = true) : Ok Tryz.prog 25 [g.av] [] (.ret (.fv (.lst 1 (ints (g.those (Nul g)))))) [] := by
  have hso := g.sound_iff hsd
  have hal := hso.all_le
  obtain ⟨hI, hC⟩ := tabs_fin hso
  have hs := ok54 g hg
  rw [hsd] at hs
  have hmade := ok55 g hg hsd
  have hth := vanN_those hso hI hC
  have hlN := hI.lenN
  generalize (tabs g).1 = N at hmade hI hC hth hlN
  generalize (tabs g).2 = F at hmade hI hC
  refine ok_start (k := 24) (n0 := 0) (rs := [.tmp 2]) mix Tryz.func25 rfl rfl rfl rfl rfl rfl rfl ?_
  simp -implicitDefEqProofs only [Gra.av,
    evx, evy, ofValue, ofCell, List.range, List.range.loop, Array.size, Nat.reduceAdd, Nat.reduceSub, Nat.reduceEqDiff, List.replicate, if_true, if_false, ↓reduceIte, reduceCtorEq, elB, evParts, Int.reduceToNat, Int.reduceLE, Int.reduceLT, Int.reduceEq, Nat.reduceMul, Nat.reduceLeDiff, Nat.reduceLT, ty3, ty4, ty9, ty28, ty48, ty73, ty83, ty75, ty22, ty23, ty24, ty25, ty27, ty55]
  refine callK_ret _ _ _ _ (call_pure (hs) (fun _ => rfl) (fun _ => rfl)) (ok_nil _ _) ?_
  simp -implicitDefEqProofs only [evx, evy, ofValue, ofCell, List.range, List.range.loop, Array.size, Nat.reduceAdd, Nat.reduceSub, Nat.reduceEqDiff, List.replicate, if_true, if_false, ↓reduceIte, reduceCtorEq, elB, evParts, Int.reduceToNat, Int.reduceLE, Int.reduceLT, Int.reduceEq, Nat.reduceMul, Nat.reduceLeDiff, Nat.reduceLT, ty3, ty4, ty9, ty28, ty48, ty73, ty83, ty75, ty22, ty23, ty24, ty25, ty27, ty55]
  refine callK_ret _ _ _ _ (call_lent [] hmade rfl rfl (by simp) (by simp)) (ok_nil _ _) ?_
  simp -implicitDefEqProofs only [subAny, subA, subL, backSub, back, putBack, subBlk, Option.getD_some, List.map_cons, List.map_nil, Nat.not_lt_zero, Nat.sub_zero, Nat.add_zero, List.length_map,
    evx, evy, ofValue, ofCell, List.range, List.range.loop, Array.size, Nat.reduceAdd, Nat.reduceSub, Nat.reduceEqDiff, List.replicate, if_true, if_false, ↓reduceIte, reduceCtorEq, elB, evParts, Int.reduceToNat, Int.reduceLE, Int.reduceLT, Int.reduceEq, Nat.reduceMul, Nat.reduceLeDiff, Nat.reduceLT, ty3, ty4, ty9, ty28, ty48, ty73, ty83, ty75, ty22, ty23, ty24, ty25, ty27, ty55]
  refine loop_rule (fun i : Nat => ⟨[.any, .any, .any, .ref 1 1 0 (vanN N i).length, .any, .any, .any, .any, .any, .any, .any, .ref 0 1 0 N.length, .fv (.int .i64 N.length), .fv (.int .i64 i), .any, .any, .any, .any, .any, .any, .any, .any, .any, .any, .any], [.plain 1 (N.map boRow), .plain 1 (ints (vanN N i))], []⟩)
    (fun i => i ≤ N.length) (fun i => N.length - i) 0 (Le.trans (le_virt 3 1 rfl) (le_pk [1, 3] rfl (by simp) (by simp) ?_ ?_)) (by simp) (fun i hi s hs1 => ?_)
  · simp [subBlk, vanN, ints]
  · simp [wk, subAny, subA, mkSub, idx, vanN]
  have hvl := vanN_length N i
  have hvs := vanN_succ N i
  have hil := ints_length (vanN N i)
  by_cases hlt : i < N.length
  · have hNr : (N.map boRow)[i]? = some [.bool (N.getD i false)] := boRow_at (by rw [List.getD_eq_getElem?_getD, List.getElem?_eq_getElem hlt]; rfl)
    have hc1 : ((i : Int) < (N.length : Int)) = True := lt_true hlt
    cases hb : N.getD i false with
    | true =>
      rw [hb] at hNr
      rw [hb, if_pos rfl] at hvs
      simp -implicitDefEqProofs only [hc1, hNr, wsucc i (by omega),
    evx, evy, ofValue, ofCell, List.range, List.range.loop, Array.size, Nat.reduceAdd, Nat.reduceSub, Nat.reduceEqDiff, List.replicate, if_true, if_false, ↓reduceIte, reduceCtorEq, elB, evParts, Int.reduceToNat, Int.reduceLE, Int.reduceLT, Int.reduceEq, Nat.reduceMul, Nat.reduceLeDiff, Nat.reduceLT, ty3, ty4, ty9, ty28, ty48, ty73, ty83, ty75, ty22, ty23, ty24, ty25, ty27, ty55]
      refine ⟨⟨by omega, by omega⟩, back_intro hs1 (i + 1) (le_pk [0, 3] rfl (by simp) (by simp) ?_ ?_) (by omega) (by omega)⟩
      · have e : List.take (vanN N i).length (ints (vanN N i)) ++ [[FV.int IntKind.i64 (i : Int)]] = ints (vanN N (i + 1)) := by
          rw [hvs, ← hil, List.take_length, ints_append]; rfl
        simp [subBlk, e]
      · rw [hvs]; simp [wk, subAny, subA, mkSub, idx]
    | false =>
      rw [hb] at hNr
      rw [hb, if_neg (by simp)] at hvs
      simp -implicitDefEqProofs only [hc1, hNr, wsucc i (by omega),
    evx, evy, ofValue, ofCell, List.range, List.range.loop, Array.size, Nat.reduceAdd, Nat.reduceSub, Nat.reduceEqDiff, List.replicate, if_true, if_false, ↓reduceIte, reduceCtorEq, elB, evParts, Int.reduceToNat, Int.reduceLE, Int.reduceLT, Int.reduceEq, Nat.reduceMul, Nat.reduceLeDiff, Nat.reduceLT, ty3, ty4, ty9, ty28, ty48, ty73, ty83, ty75, ty22, ty23, ty24, ty25, ty27, ty55]
      refine back_intro hs1 (i + 1) (le_pk [0, 1] rfl (by simp) (by simp) ?_ ?_) (by omega) (by omega)
      · rw [hvs]; simp [subBlk]
      · rw [hvs]; simp [wk, subAny, subA, mkSub, idx]
  · obtain rfl : i = N.length := by omega
    simp -implicitDefEqProofs only [lt_false hlt,
    evx, evy, ofValue, ofCell, List.range, List.range.loop, Array.size, Nat.reduceAdd, Nat.reduceSub, Nat.reduceEqDiff, List.replicate, if_true, if_false, ↓reduceIte, reduceCtorEq, elB, evParts, Int.reduceToNat, Int.reduceLE, Int.reduceLT, Int.reduceEq, Nat.reduceMul, Nat.reduceLeDiff, Nat.reduceLT, ty3, ty4, ty9, ty28, ty48, ty73, ty83, ty75, ty22, ty23, ty24, ty25, ty27, ty55]
    rw [← hth]
    refine le_lst (rows := ints (vanN N N.length)) rfl (by omega) ?_
    rw [List.drop_zero, ← hil, List.take_length]
def outN1 (n : Nat) (x : Int) : Bool := decide (x < 1) || decide ((n : Int) ≤ x)
theorem ok60 (x : Int) (N F : List (List FV)) : Ok Tryz.prog 60 [.fv (.int .i64 x), .fptr [.lst 1 N, .lst 1 F]] [] (.ret (.fv (.bool (outN1 N.length x)))) [] := by
  refine ok_start (k := 11) (n0 := 0) (rs := [.tmp 3]) mix Tryz.func60 rfl rfl rfl rfl rfl rfl rfl ?_
  by_cases h1 : x < 1
  · have h1t : (x < 1) = True := by simpa using h1
    have e : outN1 N.length x = true := by unfold outN1; rw [decide_eq_true h1]; rfl
    rw [e]
    simp -implicitDefEqProofs only [h1t,
    evx, evy, ofValue, ofCell, List.range, List.range.loop, Array.size, Nat.reduceAdd, Nat.reduceSub, Nat.reduceEqDiff, List.replicate, if_true, if_false, ↓reduceIte, reduceCtorEq, elB, evParts, Int.reduceToNat, Int.reduceLE, Int.reduceLT, Int.reduceEq, Nat.reduceMul, Nat.reduceLeDiff, Nat.reduceLT, ty3, ty4, ty9, ty28, ty48, ty73, ty83, ty75, ty22, ty23, ty24, ty25, ty27, ty55]
    exact le_flat rfl
  · have h1t : (x < 1) = False := by simpa using h1
    by_cases h2 : (N.length : Int) ≤ x
    · have h2t : ((N.length : Int) ≤ x) = True := by simpa using h2
      have e : outN1 N.length x = true := by unfold outN1; rw [decide_eq_true h2]; simp
      rw [e]
      simp -implicitDefEqProofs only [h1t, h2t,
    evx, evy, ofValue, ofCell, List.range, List.range.loop, Array.size, Nat.reduceAdd, Nat.reduceSub, Nat.reduceEqDiff, List.replicate, if_true, if_false, ↓reduceIte, reduceCtorEq, elB, evParts, Int.reduceToNat, Int.reduceLE, Int.reduceLT, Int.reduceEq, Nat.reduceMul, Nat.reduceLeDiff, Nat.reduceLT, ty3, ty4, ty9, ty28, ty48, ty73, ty83, ty75, ty22, ty23, ty24, ty25, ty27, ty55]
      exact le_flat rfl
    · have h2t : ((N.length : Int) ≤ x) = False := by simpa using h2
      have e : outN1 N.length x = false := by unfold outN1; rw [decide_eq_false h1, decide_eq_false h2]; rfl
      rw [e]
      simp -implicitDefEqProofs only [h1t, h2t,
    evx, evy, ofValue, ofCell, List.range, List.range.loop, Array.size, Nat.reduceAdd, Nat.reduceSub, Nat.reduceEqDiff, List.replicate, if_true, if_false, ↓reduceIte, reduceCtorEq, elB, evParts, Int.reduceToNat, Int.reduceLE, Int.reduceLT, Int.reduceEq, Nat.reduceMul, Nat.reduceLeDiff, Nat.reduceLT, ty3, ty4, ty9, ty28, ty48, ty73, ty83, ty75, ty22, ty23, ty24, ty25, ty27, ty55]
      exact le_flat rfl
theorem deep_tab {h : List Blk} {n i a b : Nat} {N F : List (List FV)} (hi : h[i]? = some (.box [.ref a 1 0 N.length, .ref b 1 0 F.length])) (ha : h[a]? = some (.plain 1 N)) (hb : h[b]? = some (.plain 1 F)) (hN : ∀ r ∈ N, r.length = 1) (hF : ∀ r ∈ F, r.length = 1) :
    deepA (n + 3) h (.ptr i 0 0 0) = some (.fptr [.lst 1 N, .lst 1 F]) := by
  have e : behindA h i 0 0 0 = some [.ref a 1 0 N.length, .ref b 1 0 F.length] := by
    unfold behindA
    rw [hi]
    rfl
  have e1 := deepF_ref (n := n) ha (off := 0) (k := N.length) (by omega) hN
  have e2 := deepF_ref (n := n) hb (off := 0) (k := F.length) (by omega) hF
  rw [List.drop_zero, List.take_length] at e1 e2
  show (match behindA h i 0 0 0 with
    | some cs => match deepL (deepF (n + 2) h) cs with
      | some row => match row with
        | [] => none
        | x :: l => some (AV.fptr (x :: l))
      | none => none
    | none => none) = _
  rw [e]
  simp only [deepL, e1, e2]
theorem ok28_bad (g : Gra) (hg : Small g 100) (hsd : g.sound = false) (text : List Int) : Ok Tryz.prog 28 [g.av, .fv (.lst 1 (ints text))] [] (.ret (.tuple [.fv .nils, .fv (.bool false)])) [] := by
  have hs := ok54 g hg
  rw [hsd] at hs
  refine ok_start (k := 18) (n0 := 0) (rs := [.tmp 4, .tmp 5]) mix Tryz.func28 rfl rfl rfl rfl rfl rfl rfl ?_
  simp -implicitDefEqProofs only [Gra.av,
    evx, evy, ofValue, ofCell, List.range, List.range.loop, Array.size, Nat.reduceAdd, Nat.reduceSub, Nat.reduceEqDiff, List.replicate, if_true, if_false, ↓reduceIte, reduceCtorEq, elB, evParts, Int.reduceToNat, Int.reduceLE, Int.reduceLT, Int.reduceEq, Nat.reduceMul, Nat.reduceLeDiff, Nat.reduceLT, ty3, ty4, ty9, ty28, ty48, ty73, ty83, ty75, ty22, ty23, ty24, ty25, ty27, ty55]
  refine callK_ret _ _ _ _ (call_pure (hs) (fun _ => rfl) (fun _ => rfl)) (ok_nil _ _) ?_
  simp -implicitDefEqProofs only [evx, evy, ofValue, ofCell, List.range, List.range.loop, Array.size, Nat.reduceAdd, Nat.reduceSub, Nat.reduceEqDiff, List.replicate, if_true, if_false, ↓reduceIte, reduceCtorEq, elB, evParts, Int.reduceToNat, Int.reduceLE, Int.reduceLT, Int.reduceEq, Nat.reduceMul, Nat.reduceLeDiff, Nat.reduceLT, ty3, ty4, ty9, ty28, ty48, ty73, ty83, ty75, ty22, ty23, ty24, ty25, ty27, ty55]
  exact le_flat rfl
/-- Are these symbols of the grammar? -/
def Gra.symsB (g : Gra) (text : List Int) : Bool := text.all fun n => decide (1 ≤ n) && decide (n ≤ (g.all : Int))
theorem symsB_iff {g : Gra} {text : List Int} : g.symsB text = true ↔ ∀ n ∈ text, 1 ≤ n ∧ n ≤ (g.all : Int) := by
  simp [Gra.symsB]
theorem rows_bo (N : List Bool) : ∀ r ∈ N.map boRow, r.length = 1 := by
  intro r hr
  simp only [List.mem_map] at hr
  obtain ⟨_, _, rfl⟩ := hr
  rfl
theorem ok28_out (g : Gra) (hg : Small g 100) (hsd : g.sound = true) (text : List Int) (ht : text.length ≤ 1000) (hsy : g.symsB text = false) : Ok Tryz.prog 28 [g.av, .fv (.lst 1 (ints text))] [] (.ret (.tuple [.fv .nils, .fv (.bool false)])) [] := by
  have hso := g.sound_iff hsd
  obtain ⟨hI, hC⟩ := tabs_fin hso
  have hs := ok54 g hg
  rw [hsd] at hs
  have hmade := ok55 g hg hsd
  have hlN := hI.lenN
  generalize (tabs g).1 = N at hmade hlN
  generalize (tabs g).2 = F at hmade
  have hcf := ok38 (f := 60) (caps := [.fptr [.lst 1 (N.map boRow), .lst 1 (rowsOf F)]]) (p := outN1 (N.map boRow).length) text (by omega) (fun _ => rfl) (fun _ => rfl) (fun n _ => ok60 n _ _)
  have hany : text.any (outN1 (N.map boRow).length) = true := by
    apply Classical.byContradiction
    intro h
    have h : text.any (outN1 (N.map boRow).length) = false := by simpa using h
    have : g.symsB text = true := symsB_iff.2 fun n hn => by
      have h2 := List.any_eq_false.1 h n hn
      simp only [outN1, Bool.or_eq_true, decide_eq_true_eq, not_or, List.length_map] at h2
      omega
    rw [this] at hsy
    cases hsy
  rw [hany] at hcf
  refine ok_start (k := 18) (n0 := 0) (rs := [.tmp 4, .tmp 5]) mix Tryz.func28 rfl rfl rfl rfl rfl rfl rfl ?_
  simp -implicitDefEqProofs only [Gra.av,
    evx, evy, ofValue, ofCell, List.range, List.range.loop, Array.size, Nat.reduceAdd, Nat.reduceSub, Nat.reduceEqDiff, List.replicate, if_true, if_false, ↓reduceIte, reduceCtorEq, elB, evParts, Int.reduceToNat, Int.reduceLE, Int.reduceLT, Int.reduceEq, Nat.reduceMul, Nat.reduceLeDiff, Nat.reduceLT, ty3, ty4, ty9, ty28, ty48, ty73, ty83, ty75, ty22, ty23, ty24, ty25, ty27, ty55]
  refine callK_ret _ _ _ _ (call_pure (hs) (fun _ => rfl) (fun _ => rfl)) (ok_nil _ _) ?_
  simp -implicitDefEqProofs only [evx, evy, ofValue, ofCell, List.range, List.range.loop, Array.size, Nat.reduceAdd, Nat.reduceSub, Nat.reduceEqDiff, List.replicate, if_true, if_false, ↓reduceIte, reduceCtorEq, elB, evParts, Int.reduceToNat, Int.reduceLE, Int.reduceLT, Int.reduceEq, Nat.reduceMul, Nat.reduceLeDiff, Nat.reduceLT, ty3, ty4, ty9, ty28, ty48, ty73, ty83, ty75, ty22, ty23, ty24, ty25, ty27, ty55]
  refine callK_ret _ _ _ _ (call_lent [] hmade rfl rfl (by simp) (by simp)) (ok_nil _ _) ?_
  simp -implicitDefEqProofs only [subAny, subA, subL, backSub, back, putBack, subBlk, Option.getD_some, List.map_cons, List.map_nil, Nat.not_lt_zero, Nat.sub_zero, Nat.add_zero, List.length_map, stB_boxA, splice_all, List.all_cons, List.all_nil,
    evx, evy, ofValue, ofCell, List.range, List.range.loop, Array.size, Nat.reduceAdd, Nat.reduceSub, Nat.reduceEqDiff, List.replicate, if_true, if_false, ↓reduceIte, reduceCtorEq, elB, evParts, Int.reduceToNat, Int.reduceLE, Int.reduceLT, Int.reduceEq, Nat.reduceMul, Nat.reduceLeDiff, Nat.reduceLT, ty3, ty4, ty9, ty28, ty48, ty73, ty83, ty75, ty22, ty23, ty24, ty25, ty27, ty55]
  refine callK_ret _ _ _ _ (call_deep hcf (by
    have e0 : ∀ x, deepA 8 x (.fv (.lst 1 (ints text))) = some (.fv (.lst 1 (ints text))) := fun _ => rfl
    have e1 := deep_tab (n := 4) (h := [.box g.cells, .plain 1 (N.map boRow), .plain 1 (rowsOf F), .box [.ref 1 1 0 N.length, .ref 2 1 0 F.length]]) (i := 3) (a := 1) (b := 2) (N := N.map boRow) (F := rowsOf F) (by simp [rowsOf]) rfl rfl (rows_bo N) (rows_one F)
    have e2 : ∀ x, deepA 8 x (.func 60 [.ptr 3 0 0 0]) = (subL (deepA 7 x) [.ptr 3 0 0 0]).map (.func 60) := fun _ => rfl
    simp only [deepAs, e0, e2, subL, Gra.cells] at e1 ⊢
    rw [e1]
    rfl) rfl) (ok_nil _ _) ?_
  simp -implicitDefEqProofs only [evx, evy, ofValue, ofCell, List.range, List.range.loop, Array.size, Nat.reduceAdd, Nat.reduceSub, Nat.reduceEqDiff, List.replicate, if_true, if_false, ↓reduceIte, reduceCtorEq, elB, evParts, Int.reduceToNat, Int.reduceLE, Int.reduceLT, Int.reduceEq, Nat.reduceMul, Nat.reduceLeDiff, Nat.reduceLT, ty3, ty4, ty9, ty28, ty48, ty73, ty83, ty75, ty22, ty23, ty24, ty25, ty27, ty55]
  exact le_flat rfl
open Classical in
theorem ok28 (g : Gra) (hg : Small g 100) (hsd : g.sound = true) (text : List Int) (ht : text.length ≤ 1000) (hsy : g.symsB text = true) : Ok Tryz.prog 28 [g.av, .fv (.lst 1 (ints text))] [] (.ret (.tuple [.fv (.lst 1 (ints (g.firsts text))), .fv (.bool (decide (∀ k ∈ text, Nul g k)))])) [] := by
  have hso := g.sound_iff hsd
  have htl := hso.terms_le
  obtain ⟨hI, hC⟩ := tabs_fin hso
  have hs := ok54 g hg
  rw [hsd] at hs
  have hmade := ok55 g hg hsd
  have hlN := hI.lenN
  have hlF := hI.lenF
  have hsy2 := symsB_iff.1 hsy
  have hof := ok61 (tabs g).1 (tabs g).2 text (by omega) ht (fun m hm => by have := hsy2 m hm; omega) (fun q hq => by
            obtain ⟨j, hj, e⟩ := List.getElem_of_mem hq
            have := hI.len (n := j) (l := q) (by rw [List.getElem?_eq_getElem hj, e])
            omega)
  rw [hC.ofT hso (fun n hn => (hsy2 n hn).1), ofT_null, hC.all] at hof
  generalize (tabs g).1 = N at hmade hlN hof
  generalize (tabs g).2 = F at hmade hof
  generalize decide (∀ k ∈ text, Nul g k) = nu at hof
  generalize g.firsts text = fs at hof
  have hcf := ok38 (f := 60) (caps := [.fptr [.lst 1 (N.map boRow), .lst 1 (rowsOf F)]]) (p := outN1 (N.map boRow).length) text (by omega) (fun _ => rfl) (fun _ => rfl) (fun n _ => ok60 n _ _)
  have hany : text.any (outN1 (N.map boRow).length) = false := by
    rw [List.any_eq_false]
    intro n hn
    have := hsy2 n hn
    simp only [outN1, Bool.or_eq_true, decide_eq_true_eq, not_or, List.length_map]
    omega
  rw [hany] at hcf
  refine ok_start (k := 18) (n0 := 0) (rs := [.tmp 4, .tmp 5]) mix Tryz.func28 rfl rfl rfl rfl rfl rfl rfl ?_
  simp -implicitDefEqProofs only [Gra.av,
    evx, evy, ofValue, ofCell, List.range, List.range.loop, Array.size, Nat.reduceAdd, Nat.reduceSub, Nat.reduceEqDiff, List.replicate, if_true, if_false, ↓reduceIte, reduceCtorEq, elB, evParts, Int.reduceToNat, Int.reduceLE, Int.reduceLT, Int.reduceEq, Nat.reduceMul, Nat.reduceLeDiff, Nat.reduceLT, ty3, ty4, ty9, ty28, ty48, ty73, ty83, ty75, ty22, ty23, ty24, ty25, ty27, ty55]
  refine callK_ret _ _ _ _ (call_pure (hs) (fun _ => rfl) (fun _ => rfl)) (ok_nil _ _) ?_
  simp -implicitDefEqProofs only [evx, evy, ofValue, ofCell, List.range, List.range.loop, Array.size, Nat.reduceAdd, Nat.reduceSub, Nat.reduceEqDiff, List.replicate, if_true, if_false, ↓reduceIte, reduceCtorEq, elB, evParts, Int.reduceToNat, Int.reduceLE, Int.reduceLT, Int.reduceEq, Nat.reduceMul, Nat.reduceLeDiff, Nat.reduceLT, ty3, ty4, ty9, ty28, ty48, ty73, ty83, ty75, ty22, ty23, ty24, ty25, ty27, ty55]
  refine callK_ret _ _ _ _ (call_lent [] hmade rfl rfl (by simp) (by simp)) (ok_nil _ _) ?_
  simp -implicitDefEqProofs only [subAny, subA, subL, backSub, back, putBack, subBlk, Option.getD_some, List.map_cons, List.map_nil, Nat.not_lt_zero, Nat.sub_zero, Nat.add_zero, List.length_map, stB_boxA, splice_all, List.all_cons, List.all_nil,
    evx, evy, ofValue, ofCell, List.range, List.range.loop, Array.size, Nat.reduceAdd, Nat.reduceSub, Nat.reduceEqDiff, List.replicate, if_true, if_false, ↓reduceIte, reduceCtorEq, elB, evParts, Int.reduceToNat, Int.reduceLE, Int.reduceLT, Int.reduceEq, Nat.reduceMul, Nat.reduceLeDiff, Nat.reduceLT, ty3, ty4, ty9, ty28, ty48, ty73, ty83, ty75, ty22, ty23, ty24, ty25, ty27, ty55]
  refine callK_ret _ _ _ _ (call_deep hcf (by
    have e0 : ∀ x, deepA 8 x (.fv (.lst 1 (ints text))) = some (.fv (.lst 1 (ints text))) := fun _ => rfl
    have e1 := deep_tab (n := 4) (h := [.box g.cells, .plain 1 (N.map boRow), .plain 1 (rowsOf F), .box [.ref 1 1 0 N.length, .ref 2 1 0 F.length]]) (i := 3) (a := 1) (b := 2) (N := N.map boRow) (F := rowsOf F) (by simp [rowsOf]) rfl rfl (rows_bo N) (rows_one F)
    have e2 : ∀ x, deepA 8 x (.func 60 [.ptr 3 0 0 0]) = (subL (deepA 7 x) [.ptr 3 0 0 0]).map (.func 60) := fun _ => rfl
    simp only [deepAs, e0, e2, subL, Gra.cells] at e1 ⊢
    rw [e1]
    rfl) rfl) (ok_nil _ _) ?_
  simp -implicitDefEqProofs only [evx, evy, ofValue, ofCell, List.range, List.range.loop, Array.size, Nat.reduceAdd, Nat.reduceSub, Nat.reduceEqDiff, List.replicate, if_true, if_false, ↓reduceIte, reduceCtorEq, elB, evParts, Int.reduceToNat, Int.reduceLE, Int.reduceLT, Int.reduceEq, Nat.reduceMul, Nat.reduceLeDiff, Nat.reduceLT, ty3, ty4, ty9, ty28, ty48, ty73, ty83, ty75, ty22, ty23, ty24, ty25, ty27, ty55]
  refine callK_ret _ _ _ _ (call_lent [1, 2] hof rfl rfl (by simp) (by simp [Blk.live])) (ok_none _ _) ?_
  simp -implicitDefEqProofs only [subAny, subA, subL, backSub, back, putBack, subBlk, Option.getD_some, List.map_cons, List.map_nil, Nat.not_lt_zero, Nat.sub_zero, Nat.add_zero, List.length_map,
    evx, evy, ofValue, ofCell, List.range, List.range.loop, Array.size, Nat.reduceAdd, Nat.reduceSub, Nat.reduceEqDiff, List.replicate, if_true, if_false, ↓reduceIte, reduceCtorEq, elB, evParts, Int.reduceToNat, Int.reduceLE, Int.reduceLT, Int.reduceEq, Nat.reduceMul, Nat.reduceLeDiff, Nat.reduceLT, ty3, ty4, ty9, ty28, ty48, ty73, ty83, ty75, ty22, ty23, ty24, ty25, ty27, ty55]
  exact le_to [] [] rfl (by simp) (by simp) (by simp) (by simp) rfl
end Go.Abs
