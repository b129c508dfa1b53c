/- Items: sides of productions, what is an item. -/
import Derived.Test.YtlfocagdjjgmmaaGreatTyTryzq
import Derived.Test.YtlfocagdjjgmmaaGreatDrTryzq
import Derived.Test.YtlfocagdjjgmmaaGreatFiKq
import Derived.Test.YtlfocagdjjgmmaaGreatCkHq
import Derived.Test.YtlfocagdjjgmmaaGreatCkIq
import Derived.Test.YtlfocagdjjgmmaaGreatZopHq
namespace Go.Abs
open Go.Proofs
set_option linter.unusedVariables false
set_option linter.unusedSimpArgs false
set_option maxRecDepth 100000
set_option maxHeartbeats 8000000
theorem bsE_21 (b : Nat) (dd : TypeDesc) (z1 z2 x1 x2 : FV) (h : List Blk) : bsE (some ⟨dd, 2, b, some [z1, z2]⟩) 1 h (some [(0, .agg [.fv x1, .fv x2])]) = some (.ref h.length 2 0 1, h ++ [.plain 2 [[x1, x2]]], []) :=
  bsE_rows b dd 2 [z1, z2] 1 h [[x1, x2]] _ rfl (by omega) rfl (by omega) (by simp) rfl
theorem bsE_23 (b : Nat) (dd : TypeDesc) (z1 z2 x1 x2 y1 y2 u1 u2 : FV) (h : List Blk) : bsE (some ⟨dd, 2, b, some [z1, z2]⟩) 3 h (some [(0, .agg [.fv x1, .fv x2]), (1, .agg [.fv y1, .fv y2]), (2, .agg [.fv u1, .fv u2])]) = some (.ref h.length 2 0 3, h ++ [.plain 2 [[x1, x2], [y1, y2], [u1, u2]]], []) :=
  bsE_rows b dd 2 [z1, z2] 3 h [[x1, x2], [y1, y2], [u1, u2]] _ rfl (by omega) rfl (by omega) (by simp) rfl
structure Itm where
  prod : Int
  dot : Int
def Itm.row (x : Itm) : List FV := [.int .i64 x.prod, .int .i64 x.dot]
def Itm.av (x : Itm) : AV := .agg [.fv (.int .i64 x.prod), .fv (.int .i64 x.dot)]
def Gra.usB (g : Gra) : Bool := decide (g.nonts.length ≠ 0) && g.sound
def sideL (g : Gra) (p : Int) : List Int := if p < 0 then [g.start] else ((g.prods[p.toNat]?).map Prd.right).getD []
def Gra.isProd (g : Gra) (p : Int) : Bool := decide (-1 ≤ p) && decide (p < (g.prods.length : Int))
def Gra.isItm (g : Gra) (x : Itm) : Bool := g.isProd x.prod && (decide (0 ≤ x.dot) && decide (x.dot ≤ ((sideL g x.prod).length : Int)))
theorem ok47 (g : Gra) (hg : Small g 100) : Ok Tryz.prog 47 [g.av] [] (.ret (.fv (.bool g.usB))) [] := by
  have hs := ok54 g hg
  refine ok_start (k := 10) (n0 := 0) (rs := [.tmp 2]) mix Tryz.func47 rfl rfl rfl rfl rfl rfl rfl ?_
  by_cases h0 : g.nonts.length = 0
  · have hc : ((0 : Int) < (g.nonts.length : Int)) = False := by simp [h0]
    have e : g.usB = false := by simp [Gra.usB, h0]
    rw [e]
    simp -implicitDefEqProofs only [Gra.av, Gra.cells, List.length_map, hc,
    evx, evy, ofValue, ofCell, List.range, List.range.loop, Array.size, Nat.reduceAdd, Nat.reduceSub, Nat.reduceEqDiff, List.replicate, if_true, if_false, ↓reduceIte, reduceCtorEq, elB, evParts, Int.reduceToNat, Int.reduceLE, Int.reduceLT, Int.reduceEq, Nat.reduceMul, Nat.reduceLeDiff, Nat.reduceLT, ty3, ty4, ty9, ty28, ty22, ty23, ty24, ty25, ty27, ty55, ty39, ty43]
    exact le_flat rfl
  · have hc : ((0 : Int) < (g.nonts.length : Int)) = True := by simp; omega
    have e : g.usB = g.sound := by simp [Gra.usB, h0]
    rw [e]
    simp -implicitDefEqProofs only [Gra.av, Gra.cells, List.length_map, hc,
    evx, evy, ofValue, ofCell, List.range, List.range.loop, Array.size, Nat.reduceAdd, Nat.reduceSub, Nat.reduceEqDiff, List.replicate, if_true, if_false, ↓reduceIte, reduceCtorEq, elB, evParts, Int.reduceToNat, Int.reduceLE, Int.reduceLT, Int.reduceEq, Nat.reduceMul, Nat.reduceLeDiff, Nat.reduceLT, ty3, ty4, ty9, ty28, ty22, ty23, ty24, ty25, ty27, ty55, ty39, ty43]
    refine callK_ret _ _ _ _ (call_pure (hs) (fun _ => rfl) (fun _ => rfl)) (ok_nil _ _) ?_
    simp -implicitDefEqProofs only [evx, evy, ofValue, ofCell, List.range, List.range.loop, Array.size, Nat.reduceAdd, Nat.reduceSub, Nat.reduceEqDiff, List.replicate, if_true, if_false, ↓reduceIte, reduceCtorEq, elB, evParts, Int.reduceToNat, Int.reduceLE, Int.reduceLT, Int.reduceEq, Nat.reduceMul, Nat.reduceLeDiff, Nat.reduceLT, ty3, ty4, ty9, ty28, ty22, ty23, ty24, ty25, ty27, ty55, ty39, ty43]
    cases g.sound <;> exact le_flat rfl
theorem ok42 (g : Gra) (hg : Small g 100) : Ok Tryz.prog 42 [g.av] [] (.ret (.fv (.bool g.usB))) [] := by
  have hs := ok26 g hg
  refine ok_start (k := 10) (n0 := 0) (rs := [.tmp 2]) mix Tryz.func42 rfl rfl rfl rfl rfl rfl rfl ?_
  by_cases h0 : g.nonts.length = 0
  · have hc : ((0 : Int) < (g.nonts.length : Int)) = False := by simp [h0]
    have e : g.usB = false := by simp [Gra.usB, h0]
    rw [e]
    simp -implicitDefEqProofs only [Gra.av, Gra.cells, List.length_map, hc,
    evx, evy, ofValue, ofCell, List.range, List.range.loop, Array.size, Nat.reduceAdd, Nat.reduceSub, Nat.reduceEqDiff, List.replicate, if_true, if_false, ↓reduceIte, reduceCtorEq, elB, evParts, Int.reduceToNat, Int.reduceLE, Int.reduceLT, Int.reduceEq, Nat.reduceMul, Nat.reduceLeDiff, Nat.reduceLT, ty3, ty4, ty9, ty28, ty22, ty23, ty24, ty25, ty27, ty55, ty39, ty43]
    exact le_flat rfl
  · have hc : ((0 : Int) < (g.nonts.length : Int)) = True := by simp; omega
    have e : g.usB = g.sound := by simp [Gra.usB, h0]
    rw [e]
    simp -implicitDefEqProofs only [Gra.av, Gra.cells, List.length_map, hc,
    evx, evy, ofValue, ofCell, List.range, List.range.loop, Array.size, Nat.reduceAdd, Nat.reduceSub, Nat.reduceEqDiff, List.replicate, if_true, if_false, ↓reduceIte, reduceCtorEq, elB, evParts, Int.reduceToNat, Int.reduceLE, Int.reduceLT, Int.reduceEq, Nat.reduceMul, Nat.reduceLeDiff, Nat.reduceLT, ty3, ty4, ty9, ty28, ty22, ty23, ty24, ty25, ty27, ty55, ty39, ty43]
    refine callK_ret _ _ _ _ (call_pure (hs) (fun _ => rfl) (fun _ => rfl)) (ok_nil _ _) ?_
    simp -implicitDefEqProofs only [evx, evy, ofValue, ofCell, List.range, List.range.loop, Array.size, Nat.reduceAdd, Nat.reduceSub, Nat.reduceEqDiff, List.replicate, if_true, if_false, ↓reduceIte, reduceCtorEq, elB, evParts, Int.reduceToNat, Int.reduceLE, Int.reduceLT, Int.reduceEq, Nat.reduceMul, Nat.reduceLeDiff, Nat.reduceLT, ty3, ty4, ty9, ty28, ty22, ty23, ty24, ty25, ty27, ty55, ty39, ty43]
    cases g.sound <;> exact le_flat rfl
theorem side_at {g : Gra} {p : Int} (h0 : 0 ≤ p) (h : p < (g.prods.length : Int)) : ∃ q, g.prods[p.toNat]? = some q ∧ sideL g p = q.right ∧ (g.prods.map Prd.row)[p.toNat]? = some q.row := by
  have hlt : p.toNat < g.prods.length := by omega
  refine ⟨g.prods[p.toNat], List.getElem?_eq_getElem hlt, ?_, by rw [List.getElem?_map, List.getElem?_eq_getElem hlt]; rfl⟩
  unfold sideL
  rw [if_neg (by omega), List.getElem?_eq_getElem hlt]
  rfl
theorem ok49 (g : Gra) (p : Int) (h : g.isProd p = true) : Ok Tryz.prog 49 [g.av, .fv (.int .i64 p)] [] (.ret (.fv (.lst 1 (ints (sideL g p))))) [] := by
  simp only [Gra.isProd, Bool.and_eq_true, decide_eq_true_eq] at h
  refine ok_start (k := 14) (n0 := 0) (rs := [.tmp 4]) mix Tryz.func49 rfl rfl rfl rfl rfl rfl rfl ?_
  by_cases hp : p = -1
  · have hpt : (p = -1) = True := by simpa using hp
    have e : sideL g p = [g.start] := by unfold sideL; rw [if_pos (by omega)]
    rw [e]
    simp -implicitDefEqProofs only [Gra.av, Gra.cells, hpt,
    evx, evy, ofValue, ofCell, List.range, List.range.loop, Array.size, Nat.reduceAdd, Nat.reduceSub, Nat.reduceEqDiff, List.replicate, if_true, if_false, ↓reduceIte, reduceCtorEq, elB, evParts, Int.reduceToNat, Int.reduceLE, Int.reduceLT, Int.reduceEq, Nat.reduceMul, Nat.reduceLeDiff, Nat.reduceLT, ty3, ty4, ty9, ty28, ty22, ty23, ty24, ty25, ty27, ty55, ty39, ty43]
    exact le_lst (rows := [[.int .i64 g.start]]) rfl (by simp) rfl
  · have hpt : (p = -1) = False := by simpa using hp
    obtain ⟨q, _, e, hr⟩ := side_at (g := g) (p := p) (by omega) h.2
    have h0 : (0 ≤ p) = True := by simp; omega
    rw [e]
    simp -implicitDefEqProofs only [Gra.av, Gra.cells, hpt, h0, hr, Prd.row,
    evx, evy, ofValue, ofCell, List.range, List.range.loop, Array.size, Nat.reduceAdd, Nat.reduceSub, Nat.reduceEqDiff, List.replicate, if_true, if_false, ↓reduceIte, reduceCtorEq, elB, evParts, Int.reduceToNat, Int.reduceLE, Int.reduceLT, Int.reduceEq, Nat.reduceMul, Nat.reduceLeDiff, Nat.reduceLT, ty3, ty4, ty9, ty28, ty22, ty23, ty24, ty25, ty27, ty55, ty39, ty43]
    exact le_to [] [] rfl (by simp) (by simp) (by simp) (by simp) rfl
theorem ok21 (g : Gra) (p : Int) (h : g.isProd p = true) (hl : ∀ q ∈ g.prods, q.right.length ≤ 1000) : Ok Tryz.prog 21 [g.av, .fv (.int .i64 p)] [] (.ret (.fv (.lst 1 (ints (sideL g p))))) [] := by
  simp only [Gra.isProd, Bool.and_eq_true, decide_eq_true_eq] at h
  refine ok_start (k := 20) (n0 := 0) (rs := [.tmp 4]) mix Tryz.func21 rfl rfl rfl rfl rfl rfl rfl ?_
  by_cases hp : p < 0
  · have hpt : (p < 0) = True := by simpa using hp
    have e : sideL g p = [g.start] := by unfold sideL; rw [if_pos (by omega)]
    rw [e]
    simp -implicitDefEqProofs only [Gra.av, Gra.cells, hpt,
    evx, evy, ofValue, ofCell, List.range, List.range.loop, Array.size, Nat.reduceAdd, Nat.reduceSub, Nat.reduceEqDiff, List.replicate, if_true, if_false, ↓reduceIte, reduceCtorEq, elB, evParts, Int.reduceToNat, Int.reduceLE, Int.reduceLT, Int.reduceEq, Nat.reduceMul, Nat.reduceLeDiff, Nat.reduceLT, ty3, ty4, ty9, ty28, ty22, ty23, ty24, ty25, ty27, ty55, ty39, ty43]
    exact le_lst (rows := [[.int .i64 g.start]]) rfl (by simp) rfl
  · have hpt : (p < 0) = False := by simpa using hp
    obtain ⟨q, hq, e, hr⟩ := side_at (g := g) (p := p) (by omega) h.2
    have hql := hl q (List.mem_of_getElem? hq)
    have h0 : (0 ≤ p) = True := by simp; omega
    rw [e]
    simp -implicitDefEqProofs only [Gra.av, Gra.cells, hpt, h0, hr, Prd.row, List.length_map,
    evx, evy, ofValue, ofCell, List.range, List.range.loop, Array.size, Nat.reduceAdd, Nat.reduceSub, Nat.reduceEqDiff, List.replicate, if_true, if_false, ↓reduceIte, reduceCtorEq, elB, evParts, Int.reduceToNat, Int.reduceLE, Int.reduceLT, Int.reduceEq, Nat.reduceMul, Nat.reduceLeDiff, Nat.reduceLT, ty3, ty4, ty9, ty28, ty22, ty23, ty24, ty25, ty27, ty55, ty39, ty43]
    refine ⟨by omega, ?_⟩
    exact le_lst (rows := q.right.map iRow) rfl (by simp) (by rw [List.drop_zero, List.take_of_length_le (by simp)]; rfl)
end Go.Abs
