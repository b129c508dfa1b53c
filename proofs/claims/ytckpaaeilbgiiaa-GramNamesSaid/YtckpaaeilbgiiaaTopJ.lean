/- A grammar of its own. -/
import Derived.Test.YtckpaaeilbgiiaaTyTry
import Derived.Test.YtckpaaeilbgiiaaDrTry
import Derived.Test.YtckpaaeilbgiiaaAbsZ
import Derived.Test.YtckpaaeilbgiiaaTopI
namespace Go.Abs
open Go.Proofs
set_option linter.unusedVariables false
set_option linter.unusedSimpArgs false
set_option maxRecDepth 100000
set_option maxHeartbeats 1000000



theorem stB_ref {d : TypeDesc} {b : Nat} {z : Option (List FV)} (h : List Blk) {rows : List (List FV)} (id : Nat) {es r off : Nat} (id' es' off' n : Nat) (hk : r * es + off < (thaw rows).length) :
    stB ⟨d, 1, b, z⟩ h (some (.plain es rows)) id es r off (.ref id' es' off' n) = some (.undef, h.set id (.box ((thaw rows).set (r * es + off) (.ref id' es' off' n))), [id]) := by
  have hr : rowOf (.ref id' es' off' n) = none := rfl
  simp only [stB, if_true, hr, stBx, cellsA, Option.bind_some]
  rw [if_pos ⟨rfl, by omega, rfl⟩, splice_one, if_pos hk]
  rfl
/-- A block is frozen where it is named: the cells stand as they were. -/
theorem thaw_len {es : Nat} {rows : List (List FV)} (h : ∀ row ∈ rows, row.length = es) : (thaw rows).length = rows.length * es := thaw_length fun r row hr => h row (List.mem_of_getElem? hr)
theorem thaw_at {es : Nat} {rows : List (List FV)} (hl : ∀ row ∈ rows, row.length = es) {r j : Nat} {row : List FV} {x : FV} (h : rows[r]? = some row) (hx : row[j]? = some x) : (thaw rows)[r * es + j]? = some (.fv x) := by
  simp only [thaw, List.getElem?_map, flatten_get hl h hx, Option.map_some]
theorem set_same {α : Type} {l : List α} {k : Nat} {x : α} (h : l[k]? = some x) : l.set k x = l := by
  apply List.ext_getElem?
  intro i
  rw [List.getElem?_set]
  split
  · rename_i e
    subst e
    split
    · exact h.symm
    · rename_i hn
      rw [List.getElem?_eq_none (by omega)] at h
      cases h
  · rfl
theorem map_sub_thaw (σ : Nat → Option Sb) (rows : List (List FV)) : (thaw rows).map (subAny σ) = thaw rows := by
  simp only [thaw, List.map_map]
  rfl
theorem rul_rows (l : List Rul) : ∀ row ∈ l.map Rul.row, row.length = 3 := by
  intro row h
  obtain ⟨r, _, rfl⟩ := List.mem_map.1 h
  rfl
theorem prd_rows (l : List Prd) : ∀ row ∈ l.map Prd.row, row.length = 3 := by
  intro row h
  obtain ⟨r, _, rfl⟩ := List.mem_map.1 h
  rfl
theorem le_pkf {n0 : Nat} (keep frz : List Nat) {t t' : List AV} {h h' : List Blk} (hpre : keep.take n0 = List.range n0) (hnd : keep.Nodup) (hlt : ∀ i ∈ keep, i < h.length) (hdis : ∀ i ∈ frz, i ∉ keep)
    (hfl : ∀ i ∈ frz, ∃ es rows, h[i]? = some (.plain es rows)) (hh : keep.map (fun i => subBlk (mkSub keep frz h) (h.getD i .dead)) = h') (hw : wk (t.map (subAny (mkSub keep frz h))) t') : Le n0 ⟨t, h, []⟩ ⟨t', h', []⟩ := by
  subst hh
  refine Le.trans (le_to keep frz hpre hnd hlt hdis hfl rfl) ?_
  simp only [subSt, List.map_nil]
  exact le_wk hw
theorem ok7 (g : Gra) (hg : Small g 100) : Ok Try.prog 7 [g.av] [] (.ret g.av) [] := by
  have hnr := hg.nrules
  have hnn := hg.nnonts
  have hnl := hg.nlevels
  have hnp := hg.nprods
  refine ok_start (k := 65) (n0 := 0) (rs := [.cell 2 27]) mix Try.func7 rfl rfl rfl rfl rfl rfl rfl ?_
  simp -implicitDefEqProofs only [awp_draw _ _ Trydr7_5, awp_draw _ _ Trydr7_13, Gra.av, List.length_map, bsE_r0,
    evx, true_and, Option.map_none, ofValue, ofCell, Option.map_some, List.range, List.range.loop, Array.size, List.length_cons, List.length_nil, List.size_toArray, Nat.reduceAdd, Nat.reduceSub, Nat.reduceEqDiff, List.getElem?_toArray, List.getElem?_cons_zero, List.getElem?_cons_succ, List.replicate, List.cons_append, List.nil_append, List.append_nil, List.set_cons_zero, List.set_cons_succ, List.getD_cons_zero, List.getD_cons_succ, decide_not, ne_eq, if_true, if_false, eq_self, ↓reduceIte, reduceCtorEq, splice_one, map_ite, elB, bind_ite, ite_ite, evParts, Option.bind_some, Option.some.injEq, Int.reduceToNat, Int.reduceLE, Int.reduceLT, Int.reduceEq, Nat.reduceMul, Nat.reduceLeDiff, Nat.reduceLT, List.drop_zero, List.take_succ_cons, List.take_zero, List.drop_succ_cons, List.take_nil, List.map_cons, List.map_nil, List.length_append, ty124, ty3, ty4, ty9, ty22, ty23, ty24, ty25, ty27, ty38, ty40, ty41, ty43, ty95]
  refine ⟨by omega, ?_⟩
  refine loop_rule (fun i : Nat => ⟨[.any, .ptr 0 0 0 0, .ptr 1 0 0 0, .any, .any, .any, .any, .any, .any, .any, .any, .any, .fv (.int .i64 g.rules.length), .fv (.int .i64 i), .any, .any, .any, .any, .any, .any, .any, .any, .any, .any, .any, .any, .any, .any, .any, .any, .any, .any, .any, .any, .any, .any, .any, .any, .any, .any, .any, .any, .any, .any, .any, .any, .any, .any, .any, .any, .any, .any, .any, .any, .any, .any, .any, .any, .any, .any, .any, .any, .any, .any, .any, .any],
      [.box [.ref 2 3 0 g.rules.length, .fv (.lst 1 (g.nonts.map sRow)), .fv (.lst 2 (g.levels.map Lev.row)), .fv (.lst 3 (g.prods.map Prd.row)), .fv (.int .i64 g.start)],
        .box [.fv .nils, .fv .nils, .fv .nils, .fv .nils, .fv (.int .i64 0)], .plain 3 (g.rules.map Rul.row)], []⟩)
    (fun i => i ≤ g.rules.length) (fun i => g.rules.length - i) 0 (le_pk [0, 1, 3] rfl (by simp) (by simp) ?_ ?_) (by simp) (fun i hi s hs => ?_)
  · simp [subBlk, subAny, subA, mkSub, idx]
  · simp [wk, subAny, subA, mkSub, idx]
  by_cases hlt : i < g.rules.length
  · have hr := rows_at Rul.row g.rules i hlt
    have hre := (hg.rules _ (List.getElem_mem hlt)).1
    have htl : (thaw (g.rules.map Rul.row)).length = g.rules.length * 3 := by rw [thaw_len (rul_rows _), List.length_map]
    have hk : i * 3 + 1 < (thaw (g.rules.map Rul.row)).length := by rw [htl]; omega
    have hat : (thaw (g.rules.map Rul.row))[i * 3 + 1]? = some (.fv (.lst 5 (g.rules[i].re.map Cel.row))) := thaw_at (rul_rows _) hr rfl
    generalize g.rules[i] = r at hr hre hat
    simp -implicitDefEqProofs only [awp_draw _ _ Trydr7_5, awp_draw _ _ Trydr7_13, List.length_map, bsE_r0, lt_true hlt, Nat.zero_add, hr, Rul.row, stB_ref (hk := hk), wsucc i (by omega),
    evx, true_and, Option.map_none, ofValue, ofCell, Option.map_some, List.range, List.range.loop, Array.size, List.length_cons, List.length_nil, List.size_toArray, Nat.reduceAdd, Nat.reduceSub, Nat.reduceEqDiff, List.getElem?_toArray, List.getElem?_cons_zero, List.getElem?_cons_succ, List.replicate, List.cons_append, List.nil_append, List.append_nil, List.set_cons_zero, List.set_cons_succ, List.getD_cons_zero, List.getD_cons_succ, decide_not, ne_eq, if_true, if_false, eq_self, ↓reduceIte, reduceCtorEq, splice_one, map_ite, elB, bind_ite, ite_ite, evParts, Option.bind_some, Option.some.injEq, Int.reduceToNat, Int.reduceLE, Int.reduceLT, Int.reduceEq, Nat.reduceMul, Nat.reduceLeDiff, Nat.reduceLT, List.drop_zero, List.take_succ_cons, List.take_zero, List.drop_succ_cons, List.take_nil, List.map_cons, List.map_nil, List.length_append, ty124, ty3, ty4, ty9, ty22, ty23, ty24, ty25, ty27, ty38, ty40, ty41, ty43, ty95]
    refine ⟨by omega, by kernel_rfl, by kernel_rfl, back_intro hs (i + 1) ?_ (by omega) (by omega)⟩
    refine Le.trans (le_wk (t' := [.any, .ptr 0 0 0 0, .ptr 1 0 0 0, .any, .any, .any, .any, .any, .any, .any, .any, .any, .fv (.int .i64 g.rules.length), .fv (.int .i64 ((i + 1 : Nat) : Int)), .any, .any, .any, .any, .any, .any, .any, .any, .any, .any, .any, .any, .any, .any, .any, .any, .any, .any, .any, .any, .any, .any, .any, .any, .any, .any, .any, .any, .any, .any, .any, .any, .any, .any, .any, .any, .any, .any, .any, .any, .any, .any, .any, .any, .any, .any, .any, .any, .any, .any, .any, .any]) (by simp [wk])) ?_
    refine Le.trans (le_freeze [4] (fun k hk => by simp at hk; subst hk; exact ⟨_, _, rfl⟩)) (Le.trans (le_eq (s' := ⟨[.any, .ptr 0 0 0 0, .ptr 1 0 0 0, .any, .any, .any, .any, .any, .any, .any, .any, .any, .fv (.int .i64 g.rules.length), .fv (.int .i64 ((i + 1 : Nat) : Int)), .any, .any, .any, .any, .any, .any, .any, .any, .any, .any, .any, .any, .any, .any, .any, .any, .any, .any, .any, .any, .any, .any, .any, .any, .any, .any, .any, .any, .any, .any, .any, .any, .any, .any, .any, .any, .any, .any, .any, .any, .any, .any, .any, .any, .any, .any, .any, .any, .any, .any, .any, .any],
      [.box [.ref 2 3 0 g.rules.length, .fv (.lst 1 (g.nonts.map sRow)), .fv (.lst 2 (g.levels.map Lev.row)), .fv (.lst 3 (g.prods.map Prd.row)), .fv (.int .i64 g.start)],
        .box [.fv .nils, .fv .nils, .fv .nils, .fv .nils, .fv (.int .i64 0)], .box (thaw (g.rules.map Rul.row)), .dead, .dead], []⟩) ?_) ?_)
    · have e1 : subAny (frzSub [4] [Blk.box [AV.ref 2 3 0 g.rules.length, AV.fv (FV.lst 1 (List.map sRow g.nonts)), AV.fv (FV.lst 2 (List.map Lev.row g.levels)), AV.fv (FV.lst 3 (List.map Prd.row g.prods)), AV.fv (FV.int IntKind.i64 g.start)],
                Blk.box [AV.fv FV.nils, AV.fv FV.nils, AV.fv FV.nils, AV.fv FV.nils, AV.fv (FV.int IntKind.i64 0)],
                Blk.box ((thaw (List.map Rul.row g.rules)).set (i * 3 + 1) (AV.ref 4 5 0 r.re.length)), Blk.dead,
                Blk.plain 5 (List.map Cel.row r.re)]) (AV.ref 4 5 0 r.re.length) = .fv (.lst 5 (r.re.map Cel.row)) := by
        have : (r.re.map Cel.row).take r.re.length = r.re.map Cel.row := by rw [List.take_of_length_le (by simp)]
        simp [subAny, subA, frzSub, this]
      simp only [freezeSt, List.map_cons, List.map_nil, killAll, subBlk, List.map_set, map_sub_thaw, e1, set_same hat, List.set_cons_succ, List.set_cons_zero]
      simp [subAny, subA, frzSub]
    · refine Le.trans (le_plain 2 3 (g.rules.map Rul.row) rfl (rul_rows _)) (le_pk [0, 1, 2] rfl (by simp) (by simp) ?_ ?_)
      · simp [subBlk, subAny, subA, mkSub, idx]
      · simp [wk, subAny, subA, mkSub, idx]
  · have hie : i = g.rules.length := by omega
    subst hie
    simp -implicitDefEqProofs only [awp_draw _ _ Trydr7_5, awp_draw _ _ Trydr7_13, List.length_map, bsE_r0, lt_false hlt, Nat.zero_add,
    evx, true_and, Option.map_none, ofValue, ofCell, Option.map_some, List.range, List.range.loop, Array.size, List.length_cons, List.length_nil, List.size_toArray, Nat.reduceAdd, Nat.reduceSub, Nat.reduceEqDiff, List.getElem?_toArray, List.getElem?_cons_zero, List.getElem?_cons_succ, List.replicate, List.cons_append, List.nil_append, List.append_nil, List.set_cons_zero, List.set_cons_succ, List.getD_cons_zero, List.getD_cons_succ, decide_not, ne_eq, if_true, if_false, eq_self, ↓reduceIte, reduceCtorEq, splice_one, map_ite, elB, bind_ite, ite_ite, evParts, Option.bind_some, Option.some.injEq, Int.reduceToNat, Int.reduceLE, Int.reduceLT, Int.reduceEq, Nat.reduceMul, Nat.reduceLeDiff, Nat.reduceLT, List.drop_zero, List.take_succ_cons, List.take_zero, List.drop_succ_cons, List.take_nil, List.map_cons, List.map_nil, List.length_append, ty124, ty3, ty4, ty9, ty22, ty23, ty24, ty25, ty27, ty38, ty40, ty41, ty43, ty95]
    refine ⟨by omega, by omega, by omega, ?_⟩
    refine loop_rule (fun i : Nat => ⟨[.any, .ptr 0 0 0 0, .ptr 1 0 0 0, .any, .any, .any, .any, .any, .any, .any, .any, .any, .any, .any, .any, .any, .any, .any, .any, .any, .any, .any, .any, .any, .any, .any, .any, .any, .any, .any, .any, .any, .any, .any, .any, .any, .any, .any, .any, .any, .any, .any, .any, .any, .any, .any, .any, .fv (.int .i64 g.prods.length), .fv (.int .i64 i), .any, .any, .any, .any, .any, .any, .any, .any, .any, .any, .any, .any, .any, .any, .any, .any, .any],
        [.box [.fv (.lst 3 (g.rules.map Rul.row)), .fv (.lst 1 (g.nonts.map sRow)), .fv (.lst 2 (g.levels.map Lev.row)), .ref 2 3 0 g.prods.length, .fv (.int .i64 g.start)],
          .box [.fv .nils, .fv .nils, .fv .nils, .fv .nils, .fv (.int .i64 0)], .plain 3 (g.prods.map Prd.row)], []⟩)
      (fun i => i ≤ g.prods.length) (fun i => g.prods.length - i) 0 (le_pkf [0, 1, 8] [2, 4, 6] rfl (by simp) (by simp) (by simp) (fun i hi => ?_) ?_ ?_) (by simp) (fun i hi s hs => ?_)
    · simp at hi
      rcases hi with rfl | rfl | rfl <;> exact ⟨_, _, rfl⟩
    · have t1 : (g.rules.map Rul.row).take g.rules.length = g.rules.map Rul.row := List.take_of_length_le (by simp)
      have t2 : (g.nonts.map sRow).take g.nonts.length = g.nonts.map sRow := List.take_of_length_le (by simp)
      have t3 : (g.levels.map Lev.row).take g.levels.length = g.levels.map Lev.row := List.take_of_length_le (by simp)
      simp [subBlk, subAny, subA, mkSub, idx, t1, t2, t3]
    · simp [wk, subAny, subA, mkSub, idx]
    by_cases hlt2 : i < g.prods.length
    · have hr := rows_at Prd.row g.prods i hlt2
      have hre := hg.prods _ (List.getElem_mem hlt2)
      have htl : (thaw (g.prods.map Prd.row)).length = g.prods.length * 3 := by rw [thaw_len (prd_rows _), List.length_map]
      have hk : i * 3 + 1 < (thaw (g.prods.map Prd.row)).length := by rw [htl]; omega
      have hat : (thaw (g.prods.map Prd.row))[i * 3 + 1]? = some (.fv (.lst 1 (g.prods[i].right.map iRow))) := thaw_at (prd_rows _) hr rfl
      generalize g.prods[i] = r at hr hre hat
      simp -implicitDefEqProofs only [awp_draw _ _ Trydr7_5, awp_draw _ _ Trydr7_13, List.length_map, bsE_r0, lt_true hlt2, Nat.zero_add, hr, Prd.row, stB_ref (hk := hk), wsucc i (by omega),
    evx, true_and, Option.map_none, ofValue, ofCell, Option.map_some, List.range, List.range.loop, Array.size, List.length_cons, List.length_nil, List.size_toArray, Nat.reduceAdd, Nat.reduceSub, Nat.reduceEqDiff, List.getElem?_toArray, List.getElem?_cons_zero, List.getElem?_cons_succ, List.replicate, List.cons_append, List.nil_append, List.append_nil, List.set_cons_zero, List.set_cons_succ, List.getD_cons_zero, List.getD_cons_succ, decide_not, ne_eq, if_true, if_false, eq_self, ↓reduceIte, reduceCtorEq, splice_one, map_ite, elB, bind_ite, ite_ite, evParts, Option.bind_some, Option.some.injEq, Int.reduceToNat, Int.reduceLE, Int.reduceLT, Int.reduceEq, Nat.reduceMul, Nat.reduceLeDiff, Nat.reduceLT, List.drop_zero, List.take_succ_cons, List.take_zero, List.drop_succ_cons, List.take_nil, List.map_cons, List.map_nil, List.length_append, ty124, ty3, ty4, ty9, ty22, ty23, ty24, ty25, ty27, ty38, ty40, ty41, ty43, ty95]
      refine ⟨by omega, by kernel_rfl, by kernel_rfl, back_intro hs (i + 1) ?_ (by omega) (by omega)⟩
      refine Le.trans (le_wk (t' := [.any, .ptr 0 0 0 0, .ptr 1 0 0 0, .any, .any, .any, .any, .any, .any, .any, .any, .any, .any, .any, .any, .any, .any, .any, .any, .any, .any, .any, .any, .any, .any, .any, .any, .any, .any, .any, .any, .any, .any, .any, .any, .any, .any, .any, .any, .any, .any, .any, .any, .any, .any, .any, .any, .fv (.int .i64 g.prods.length), .fv (.int .i64 ((i + 1 : Nat) : Int)), .any, .any, .any, .any, .any, .any, .any, .any, .any, .any, .any, .any, .any, .any, .any, .any, .any]) (by simp [wk])) ?_
      refine Le.trans (le_freeze [4] (fun k hk => by simp at hk; subst hk; exact ⟨_, _, rfl⟩)) (Le.trans (le_eq (s' := ⟨[.any, .ptr 0 0 0 0, .ptr 1 0 0 0, .any, .any, .any, .any, .any, .any, .any, .any, .any, .any, .any, .any, .any, .any, .any, .any, .any, .any, .any, .any, .any, .any, .any, .any, .any, .any, .any, .any, .any, .any, .any, .any, .any, .any, .any, .any, .any, .any, .any, .any, .any, .any, .any, .any, .fv (.int .i64 g.prods.length), .fv (.int .i64 ((i + 1 : Nat) : Int)), .any, .any, .any, .any, .any, .any, .any, .any, .any, .any, .any, .any, .any, .any, .any, .any, .any],
        [.box [.fv (.lst 3 (g.rules.map Rul.row)), .fv (.lst 1 (g.nonts.map sRow)), .fv (.lst 2 (g.levels.map Lev.row)), .ref 2 3 0 g.prods.length, .fv (.int .i64 g.start)],
          .box [.fv .nils, .fv .nils, .fv .nils, .fv .nils, .fv (.int .i64 0)], .box (thaw (g.prods.map Prd.row)), .dead, .dead], []⟩) ?_) ?_)
      · have e1 : subAny (frzSub [4] [Blk.box [AV.fv (FV.lst 3 (List.map Rul.row g.rules)), AV.fv (FV.lst 1 (List.map sRow g.nonts)), AV.fv (FV.lst 2 (List.map Lev.row g.levels)), AV.ref 2 3 0 g.prods.length, AV.fv (FV.int IntKind.i64 g.start)],
                  Blk.box [AV.fv FV.nils, AV.fv FV.nils, AV.fv FV.nils, AV.fv FV.nils, AV.fv (FV.int IntKind.i64 0)],
                  Blk.box ((thaw (List.map Prd.row g.prods)).set (i * 3 + 1) (AV.ref 4 1 0 r.right.length)), Blk.dead,
                  Blk.plain 1 (List.map iRow r.right)]) (AV.ref 4 1 0 r.right.length) = .fv (.lst 1 (r.right.map iRow)) := by
          have : (r.right.map iRow).take r.right.length = r.right.map iRow := List.take_of_length_le (by simp)
          simp [subAny, subA, frzSub, this]
        simp only [freezeSt, List.map_cons, List.map_nil, killAll, subBlk, List.map_set, map_sub_thaw, e1, set_same hat, List.set_cons_succ, List.set_cons_zero]
        simp [subAny, subA, frzSub]
      · refine Le.trans (le_plain 2 3 (g.prods.map Prd.row) rfl (prd_rows _)) (le_pk [0, 1, 2] rfl (by simp) (by simp) ?_ ?_)
        · simp [subBlk, subAny, subA, mkSub, idx]
        · simp [wk, subAny, subA, mkSub, idx]
    · simp -implicitDefEqProofs only [awp_draw _ _ Trydr7_5, awp_draw _ _ Trydr7_13, List.length_map, bsE_r0, lt_false hlt2, Nat.zero_add, stB_boxA, splice_all, List.all_cons, List.all_nil,
    evx, true_and, Option.map_none, ofValue, ofCell, Option.map_some, List.range, List.range.loop, Array.size, List.length_cons, List.length_nil, List.size_toArray, Nat.reduceAdd, Nat.reduceSub, Nat.reduceEqDiff, List.getElem?_toArray, List.getElem?_cons_zero, List.getElem?_cons_succ, List.replicate, List.cons_append, List.nil_append, List.append_nil, List.set_cons_zero, List.set_cons_succ, List.getD_cons_zero, List.getD_cons_succ, decide_not, ne_eq, if_true, if_false, eq_self, ↓reduceIte, reduceCtorEq, splice_one, map_ite, elB, bind_ite, ite_ite, evParts, Option.bind_some, Option.some.injEq, Int.reduceToNat, Int.reduceLE, Int.reduceLT, Int.reduceEq, Nat.reduceMul, Nat.reduceLeDiff, Nat.reduceLT, List.drop_zero, List.take_succ_cons, List.take_zero, List.drop_succ_cons, List.take_nil, List.map_cons, List.map_nil, List.length_append, ty124, ty3, ty4, ty9, ty22, ty23, ty24, ty25, ty27, ty38, ty40, ty41, ty43, ty95]
      refine le_to [] [2] rfl List.nodup_nil (fun i hi => by simp at hi) (fun i _ hi => by simp at hi) (fun i hi => by simp at hi; subst hi; exact ⟨_, _, rfl⟩) ?_
      have t4 : (g.prods.map Prd.row).take g.prods.length = g.prods.map Prd.row := List.take_of_length_le (by simp)
      simp [subSt, subAny, subA, subL, mkSub, idx, t4]
end Go.Abs
