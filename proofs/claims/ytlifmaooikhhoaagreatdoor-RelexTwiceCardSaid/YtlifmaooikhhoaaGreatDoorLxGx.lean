/- Lists of numbers side by side; what the seat's texts need. -/
import Derived.Test.YtlifmaooikhhoaaGreatDoorTyTryzx
import Derived.Test.YtlifmaooikhhoaaGreatDoorDrTryzx
import Derived.Test.YtlifmaooikhhoaaGreatDoorAbsZ
import Derived.Test.YtlifmaooikhhoaaGreatDoorTopA
import Derived.Test.YtlifmaooikhhoaaGreatDoorAbsU
import Derived.Test.YtlifmaooikhhoaaGreatDoorLxA
namespace Go.Abs
open Go.Proofs
set_option linter.unusedVariables false
set_option linter.unusedSimpArgs false
set_option maxRecDepth 100000
set_option maxHeartbeats 1000000
theorem wrap_small {n : Int} (h1 : -9223372036854775808 ≤ n) (h2 : n ≤ 9223372036854775807) : IntKind.wrap .i64 n = n := by
  simp only [IntKind.wrap, IntKind.signed, IntKind.bits]
  simp
  omega
theorem wsucc (n : Nat) (h : n < 4611686018427387904) : IntKind.wrap .i64 ((n : Int) + 1) = ((n + 1 : Nat) : Int) := wrap_small (by omega) (by omega)
theorem rows_at {α : Type} (f : α → List FV) (l : List α) (i : Nat) (h : i < l.length) : (l.map f)[i]? = some (f l[i]) := by
  rw [List.getElem?_map, List.getElem?_eq_getElem h]; rfl
theorem lt_true {i n : Nat} (h : i < n) : ((i : Int) < (n : Int)) = True := by simp; omega
theorem lt_false {i n : Nat} (h : ¬ i < n) : ((i : Int) < (n : Int)) = False := by simp; omega
theorem le_pk {n0 : Nat} (keep : List Nat) {t t' : List AV} {h h' : List Blk} (hpre : keep.take n0 = List.range n0) (hnd : keep.Nodup) (hlt : ∀ i ∈ keep, i < h.length)
    (hh : keep.map (fun i => subBlk (mkSub keep [] h) (h.getD i .dead)) = h') (hw : wk (t.map (subAny (mkSub keep [] h))) t') : Le n0 ⟨t, h, []⟩ ⟨t', h', []⟩ := by
  subst hh
  refine Le.trans (le_to keep [] hpre hnd hlt (fun i hi => by simp at hi) (fun i hi => by simp at hi) rfl) ?_
  simp only [subSt, List.map_nil]
  exact le_wk hw
theorem lit_true {n : Nat} {k : Int} (h : k < (n : Int)) : (k < (n : Int)) = True := by simpa using h
theorem lit_false {n : Nat} {k : Int} (h : ¬ k < (n : Int)) : (k < (n : Int)) = False := by simpa using h
theorem le_sf {v : AV} {h : List Blk} (hv : subAny (mkSub [] [] h) v = v) : Le 0 ⟨[v], h, []⟩ ⟨[v], [], []⟩ :=
  le_to [] [] rfl List.nodup_nil (fun i hi => by simp at hi) (fun i hi => by simp at hi) (fun i hi => by simp at hi) (by simp [subSt, hv])
def Aut.cells (d : Aut) : List AV := [.fv (.lst 1 (d.next.map nRow)), .fv (.lst 1 (d.acc.map iRow))]
def ints (l : List Int) : List (List FV) := l.map fun n => [.int .i64 n]
theorem ints_length (l : List Int) : (ints l).length = l.length := by simp [ints]
theorem ints_get (l : List Int) (i : Nat) (h : i < l.length) : (ints l)[i]? = some [.int .i64 l[i]] := by simp [ints, h]
def cmpI (x y : Int) : Int := if x < y then -1 else if y < x then 1 else 0
def cmpL : List Int → List Int → Int
  | [], [] => 0
  | [], _ :: _ => -1
  | _ :: _, [] => 1
  | x :: a, y :: b => if cmpI x y = 0 then cmpL a b else cmpI x y
theorem cmpL_step (a b : List Int) (i : Nat) (ha : i < a.length) (hb : i < b.length) : cmpL (a.drop i) (b.drop i) = if cmpI a[i] b[i] = 0 then cmpL (a.drop (i + 1)) (b.drop (i + 1)) else cmpI a[i] b[i] := by
  rw [List.drop_eq_getElem_cons ha, List.drop_eq_getElem_cons hb, cmpL]
theorem ok41 (a b : List Int) (ha : a.length < 4611686018427387904) (hb : b.length < 4611686018427387904) :
    Ok Tryz.prog 41 [.fv (.lst 1 (ints a)), .fv (.lst 1 (ints b))] [] (.ret (.fv (.int .i64 (cmpL a b)))) [] := by
  refine ok_start (k := 44) (n0 := 0) (rs := [.tmp 4]) mix Tryz.func41 rfl rfl rfl rfl rfl rfl rfl ?_
  simp -implicitDefEqProofs only [len_lst 23 ty23 rfl,
    evv, ofValue, ofCell, List.range, List.range.loop, Array.size, Nat.reduceAdd, Nat.reduceSub, Nat.reduceEqDiff, List.replicate, if_true, if_false, ↓reduceIte, reduceCtorEq]
  refine loop_rule (fun i : Nat => ⟨[.fv (.lst 1 (ints a)), .fv (.lst 1 (ints b)), .any, .any, .fv (.int .i64 0), .fv (.int .i64 i), .any, .any, .any, .any, .any, .any, .any, .any, .any, .any, .any, .any, .any, .any, .any, .any, .any, .any, .any, .any, .any, .any, .any, .any, .any, .any, .any, .any, .any, .any, .any, .any, .any, .any, .any, .any, .any, .any, .any, .any], [], []⟩)
    (fun i => i ≤ a.length ∧ i ≤ b.length ∧ cmpL a b = cmpL (a.drop i) (b.drop i)) (fun i => a.length - i) 0 (le_wk (by simp [wk])) (by simp) (fun i hp s hs => ?_)
  obtain ⟨h1, h2, h3⟩ := hp
  have hla := ints_length a
  have hlb := ints_length b
  by_cases hia : i < a.length
  · have hc : ((i : Int) < ((ints a).length : Int)) = True := by simp; omega
    have hra : (ints a)[(i : Int).toNat]? = some [.int .i64 a[i]] := ints_get a i hia
    by_cases hib : i < b.length
    · have hc2 : ((i : Int) < ((ints b).length : Int)) = True := by simp; omega
      have hrb : (ints b)[(i : Int).toNat]? = some [.int .i64 b[i]] := ints_get b i hib
      have hw : IntKind.wrap .i64 ((i : Int) + 1) = ((i + 1 : Nat) : Int) := wrap_small (by omega) (by omega)
      simp -implicitDefEqProofs only [awp_draw _ _ Tryzdr41_4, awp_draw _ _ Tryzdr41_6, len_lst 23 ty23 rfl, hc, hc2, hw, idx_lst 23 ty23 rfl ty3 1 rfl (ints a) i _ hra (by omega), ld_fptr 3 ty3 rfl, idx_lst 23 ty23 rfl ty3 1 rfl (ints b) i _ hrb (by omega),
    evv, ofValue, ofCell, List.range, List.range.loop, Array.size, Nat.reduceAdd, Nat.reduceSub, Nat.reduceEqDiff, List.replicate, if_true, if_false, ↓reduceIte, reduceCtorEq]
      have hs3 := cmpL_step a b i hia hib
      by_cases hz : a[i] < b[i]
      · have hk : cmpI a[i] b[i] = -1 := by simp [cmpI, hz]
        rw [if_pos hz, h3, hs3, hk]
        exact Le.refl _ _
      · rw [if_neg hz]
        by_cases hy : b[i] < a[i]
        · have hk : cmpI a[i] b[i] = 1 := by simp [cmpI, hz, hy]
          rw [if_pos hy, h3, hs3, hk]
          exact Le.refl _ _
        · have hk : cmpI a[i] b[i] = 0 := by simp [cmpI, hz, hy]
          rw [if_neg hy]
          exact back_intro hs (i + 1) (le_wk (by simp [wk])) ⟨by omega, by omega, by rw [h3, hs3, if_pos hk]⟩ (by omega)
    · have hc2 : ((i : Int) < ((ints b).length : Int)) = False := by simp; omega
      have hc3 : (((ints a).length : Int) < ((ints b).length : Int)) = False := by simp; omega
      have hc4 : (((ints b).length : Int) < ((ints a).length : Int)) = True := by simp; omega
      simp -implicitDefEqProofs only [len_lst 23 ty23 rfl, hc, hc2, hc3, hc4,
    evv, ofValue, ofCell, List.range, List.range.loop, Array.size, Nat.reduceAdd, Nat.reduceSub, Nat.reduceEqDiff, List.replicate, if_true, if_false, ↓reduceIte, reduceCtorEq]
      rw [h3, List.drop_eq_getElem_cons hia, List.drop_eq_nil_of_le (Nat.le_of_not_lt hib)]
      exact Le.refl _ _
  · have hc : ((i : Int) < ((ints a).length : Int)) = False := by simp; omega
    have hc4 : (((ints b).length : Int) < ((ints a).length : Int)) = False := by simp; omega
    rw [List.drop_eq_nil_of_le (Nat.le_of_not_lt hia)] at h3
    by_cases hib : i < b.length
    · have hc2 : (((ints a).length : Int) < ((ints b).length : Int)) = True := by simp; omega
      simp -implicitDefEqProofs only [len_lst 23 ty23 rfl, hc, hc2,
    evv, ofValue, ofCell, List.range, List.range.loop, Array.size, Nat.reduceAdd, Nat.reduceSub, Nat.reduceEqDiff, List.replicate, if_true, if_false, ↓reduceIte, reduceCtorEq]
      rw [h3, List.drop_eq_getElem_cons hib]
      exact Le.refl _ _
    · have hc2 : (((ints a).length : Int) < ((ints b).length : Int)) = False := by simp; omega
      simp -implicitDefEqProofs only [len_lst 23 ty23 rfl, hc, hc2, hc4,
    evv, ofValue, ofCell, List.range, List.range.loop, Array.size, Nat.reduceAdd, Nat.reduceSub, Nat.reduceEqDiff, List.replicate, if_true, if_false, ↓reduceIte, reduceCtorEq]
      rw [h3, List.drop_eq_nil_of_le (Nat.le_of_not_lt hib)]
      exact Le.refl _ _
theorem ok23 (a b : List Int) (ha : a.length < 4611686018427387904) (hb : b.length < 4611686018427387904) :
    Ok Tryz.prog 23 [.fv (.lst 1 (ints a)), .fv (.lst 1 (ints b))] [] (.ret (.fv (.bool (decide (cmpL a b = 0))))) [] := by
  refine ok_start (k := 7) (n0 := 0) (rs := [.tmp 4]) mix Tryz.func23 rfl rfl rfl rfl rfl rfl rfl ?_
  simp -implicitDefEqProofs only [evv, ofValue, ofCell, List.range, List.range.loop, Array.size, Nat.reduceAdd, Nat.reduceSub, Nat.reduceEqDiff, List.replicate, if_true, if_false, ↓reduceIte, reduceCtorEq]
  refine callK_ret _ _ _ _ (call_pure (ok41 a b ha hb) (fun _ => rfl) (fun _ => rfl)) (ok_nil _ _) ?_
  simp -implicitDefEqProofs only [evv, ofValue, ofCell, List.range, List.range.loop, Array.size, Nat.reduceAdd, Nat.reduceSub, Nat.reduceEqDiff, List.replicate, if_true, if_false, ↓reduceIte, reduceCtorEq]
  exact Le.refl _ _
end Go.Abs
/- Automata: whether they are right. -/
namespace Go.Abs
open Go.Proofs
set_option linter.unusedVariables false
set_option linter.unusedSimpArgs false
set_option maxRecDepth 100000
set_option maxHeartbeats 4000000
theorem ints_row (l : List Int) : l.map iRow = ints l := rfl
theorem all_upto {p : Nat → Bool} {n : Nat} (h : ∀ j, j < n → p j = true) : (List.range n).all p = true := List.all_eq_true.2 fun j hj => h j (List.mem_range.1 hj)
theorem not_all {p : Nat → Bool} {n i : Nat} (hi : i < n) (h : p i = false) : (List.range n).all p = false := by
  cases hq : (List.range n).all p with
  | false => rfl
  | true => rw [List.all_eq_true.1 hq i (List.mem_range.2 hi)] at h; cases h
def Aut.numB (d : Aut) (k : Int) : Bool := decide (-1 ≤ k) && decide (k < (d.next.length : Int))
theorem take_all_succ {α : Type} (p : α → Bool) (l : List α) (i : Nat) (h : i < l.length) : (l.take (i + 1)).all p = ((l.take i).all p && p l[i]) := by
  rw [List.take_succ_eq_append_getElem h, List.all_append]
  simp
theorem rowB_eq {d : Aut} {i : Nat} (h : i < d.next.length) (h2 : i < d.acc.length) : d.rowB i = (decide (d.next[i].length = 256) && decide (-1 ≤ d.acc[i]) && d.next[i].all d.numB) := by
  unfold Aut.rowB
  rw [getD_at h, getD_at h2]
  rfl
theorem all_false {α : Type} {p : α → Bool} {l : List α} {x : α} (h : x ∈ l) (hp : p x = false) : l.all p = false := by
  cases hq : l.all p with
  | false => rfl
  | true => rw [List.all_eq_true.1 hq x h] at hp; cases hp
def Aut.rowsB (d : Aut) : Bool := (List.range d.next.length).all d.rowB
theorem right_of {d : Aut} (h1 : 1 ≤ d.next.length) (h2 : d.next.length ≤ 240) (h3 : d.acc.length = d.next.length) : d.rightB = d.rowsB := by
  unfold Aut.rightB Aut.rowsB
  rw [decide_eq_true h1, decide_eq_true h2, decide_eq_true h3]
  rfl
theorem ok15 (d : Aut) (hn : d.next.length ≤ 100000) : Ok Tryz.prog 15 [d.av] [] (.ret (.fv (.bool d.rightB))) [] := by
  refine ok_start (k := 57) (n0 := 0) (rs := [.tmp 2]) mix Tryz.func15 rfl rfl rfl rfl rfl rfl rfl ?_
  by_cases a1 : d.next.length = 0
  · have a1t : ((d.next.length : Int) = 0) = True := by simp [a1]
    have e : d.rightB = false := by unfold Aut.rightB; rw [a1]; rfl
    rw [e]
    simp -implicitDefEqProofs only [Aut.av, List.length_map, a1t,
    evx, evy, ofValue, ofCell, List.range, List.range.loop, Array.size, Nat.reduceAdd, Nat.reduceSub, Nat.reduceEqDiff, List.replicate, if_true, if_false, ↓reduceIte, reduceCtorEq, elB, evParts, Int.reduceToNat, Int.reduceLE, Int.reduceLT, Int.reduceEq, Nat.reduceMul, Nat.reduceLeDiff, Nat.reduceLT, ty3, ty4, ty9, ty23, ty22, ty25, ty5]
    exact le_flat rfl
  have a1t : ((d.next.length : Int) = 0) = False := eq_false (by omega)
  by_cases a2 : (240 : Int) < (d.next.length : Int)
  · have e : d.rightB = false := by unfold Aut.rightB; rw [decide_eq_false (show ¬ d.next.length ≤ 240 by omega)]; simp
    rw [e]
    simp -implicitDefEqProofs only [Aut.av, List.length_map, a1t, lit_true a2,
    evx, evy, ofValue, ofCell, List.range, List.range.loop, Array.size, Nat.reduceAdd, Nat.reduceSub, Nat.reduceEqDiff, List.replicate, if_true, if_false, ↓reduceIte, reduceCtorEq, elB, evParts, Int.reduceToNat, Int.reduceLE, Int.reduceLT, Int.reduceEq, Nat.reduceMul, Nat.reduceLeDiff, Nat.reduceLT, ty3, ty4, ty9, ty23, ty22, ty25, ty5]
    exact le_flat rfl
  by_cases a3 : d.acc.length = d.next.length
  · have a3t : ((d.acc.length : Int) = (d.next.length : Int)) = True := by simp [a3]
    rw [right_of (by omega) (by omega) a3]
    simp -implicitDefEqProofs only [Aut.av, List.length_map, a1t, lit_false a2, a3t,
    evx, evy, ofValue, ofCell, List.range, List.range.loop, Array.size, Nat.reduceAdd, Nat.reduceSub, Nat.reduceEqDiff, List.replicate, if_true, if_false, ↓reduceIte, reduceCtorEq, elB, evParts, Int.reduceToNat, Int.reduceLE, Int.reduceLT, Int.reduceEq, Nat.reduceMul, Nat.reduceLeDiff, Nat.reduceLT, ty3, ty4, ty9, ty23, ty22, ty25, ty5]
    refine loop_rule (fun i : Nat => ⟨[.any, .ptr 0 0 0 0, .any, .fv (.int .i64 d.next.length), .any, .any, .any, .any, .any, .any, .any, .any, .any, .any, .any, .any, .any, .any, .any, .any, .any, .any, .any, .any, .any, .fv (.lst 1 (d.next.map nRow)), .fv (.int .i64 d.next.length), .fv (.int .i64 i), .any, .any, .any, .any, .any, .any, .any, .any, .any, .any, .any, .any, .any, .any, .any, .any, .any, .any, .any, .any, .any, .any, .any, .any, .any, .any, .any, .any, .any, .any], [.box d.cells], []⟩)
      (fun i => i ≤ d.next.length ∧ ∀ j, j < i → d.rowB j = true) (fun i => d.next.length - i) 0 (le_wk (by simp [wk, Aut.cells])) ⟨by omega, fun j hj => by omega⟩ (fun i hi s hs => ?_)
    obtain ⟨hi, hall⟩ := hi
    by_cases hlt : i < d.next.length
    · have hr := rows_at nRow d.next i hlt
      have hac := rows_at iRow d.acc i (by omega)
      have hrb := rowB_eq hlt (show i < d.acc.length by omega)
      have hfin : d.rowB i = false → d.rowsB = false := @not_all d.rowB d.next.length i hlt
      generalize d.next[i] = row at hr hrb
      generalize d.acc[i] = ac at hac hrb
      by_cases b1 : row.length = 256
      · have b1t : ((row.length : Int) = 256) = True := by simp; omega
        by_cases b2 : ac < -1
        · have b2t : (ac < -1) = True := by simpa using b2
          simp -implicitDefEqProofs only [Aut.cells, List.length_map, lt_true hlt, hr, nRow, b1t, hac, iRow, b2t,
    evx, evy, ofValue, ofCell, List.range, List.range.loop, Array.size, Nat.reduceAdd, Nat.reduceSub, Nat.reduceEqDiff, List.replicate, if_true, if_false, ↓reduceIte, reduceCtorEq, elB, evParts, Int.reduceToNat, Int.reduceLE, Int.reduceLT, Int.reduceEq, Nat.reduceMul, Nat.reduceLeDiff, Nat.reduceLT, ty3, ty4, ty9, ty23, ty22, ty25, ty5]
          rw [hfin (by rw [hrb, decide_eq_false (show ¬ -1 ≤ ac by omega)]; simp)]
          exact le_flat rfl
        · have b2t : (ac < -1) = False := by simpa using b2
          simp -implicitDefEqProofs only [Aut.cells, List.length_map, lt_true hlt, hr, nRow, b1t, hac, iRow, b2t,
    evx, evy, ofValue, ofCell, List.range, List.range.loop, Array.size, Nat.reduceAdd, Nat.reduceSub, Nat.reduceEqDiff, List.replicate, if_true, if_false, ↓reduceIte, reduceCtorEq, elB, evParts, Int.reduceToNat, Int.reduceLE, Int.reduceLT, Int.reduceEq, Nat.reduceMul, Nat.reduceLeDiff, Nat.reduceLT, ty3, ty4, ty9, ty23, ty22, ty25, ty5]
          refine loop_rule (fun k : Nat => ⟨[.any, .ptr 0 0 0 0, .any, .fv (.int .i64 d.next.length), .any, .any, .any, .any, .any, .any, .any, .any, .any, .any, .any, .any, .any, .any, .any, .any, .any, .any, .any, .any, .any, .fv (.lst 1 (d.next.map nRow)), .fv (.int .i64 d.next.length), .fv (.int .i64 i), .any, .any, .any, .any, .any, .any, .any, .any, .any, .any, .any, .any, .any, .any, .any, .fv (.lst 1 (row.map iRow)), .fv (.int .i64 row.length), .fv (.int .i64 k), .any, .any, .any, .any, .any, .any, .any, .any, .any, .any, .any, .any], [.box d.cells], []⟩)
            (fun k => k ≤ row.length ∧ (row.take k).all d.numB = true) (fun k => row.length - k) 0 (le_wk (by simp [wk, Aut.cells])) ⟨by omega, by simp⟩ (fun k hk s2 hs2 => ?_)
          obtain ⟨hk, hka⟩ := hk
          by_cases hkl : k < row.length
          · have hr2 := rows_at iRow row k hkl
            have hst := take_all_succ d.numB row k hkl
            have hmem := List.getElem_mem hkl
            generalize row[k] = x at hr2 hst hmem
            by_cases c1 : x < -1
            · have c1t : (x < -1) = True := by simpa using c1
              simp -implicitDefEqProofs only [Aut.cells, List.length_map, lt_true hkl, hr2, iRow, c1t,
    evx, evy, ofValue, ofCell, List.range, List.range.loop, Array.size, Nat.reduceAdd, Nat.reduceSub, Nat.reduceEqDiff, List.replicate, if_true, if_false, ↓reduceIte, reduceCtorEq, elB, evParts, Int.reduceToNat, Int.reduceLE, Int.reduceLT, Int.reduceEq, Nat.reduceMul, Nat.reduceLeDiff, Nat.reduceLT, ty3, ty4, ty9, ty23, ty22, ty25, ty5]
              rw [hfin (by rw [hrb, all_false hmem (by simp [Aut.numB]; omega)]; simp)]
              exact le_flat rfl
            have c1t : (x < -1) = False := by simpa using c1
            by_cases c2 : (d.next.length : Int) ≤ x
            · have c2t : ((d.next.length : Int) ≤ x) = True := by simpa using c2
              simp -implicitDefEqProofs only [Aut.cells, List.length_map, lt_true hkl, hr2, iRow, c1t, c2t,
    evx, evy, ofValue, ofCell, List.range, List.range.loop, Array.size, Nat.reduceAdd, Nat.reduceSub, Nat.reduceEqDiff, List.replicate, if_true, if_false, ↓reduceIte, reduceCtorEq, elB, evParts, Int.reduceToNat, Int.reduceLE, Int.reduceLT, Int.reduceEq, Nat.reduceMul, Nat.reduceLeDiff, Nat.reduceLT, ty3, ty4, ty9, ty23, ty22, ty25, ty5]
              rw [hfin (by rw [hrb, all_false hmem (by simp [Aut.numB]; omega)]; simp)]
              exact le_flat rfl
            · have c2t : ((d.next.length : Int) ≤ x) = False := by simpa using c2
              simp -implicitDefEqProofs only [Aut.cells, List.length_map, lt_true hkl, hr2, iRow, c1t, c2t, wsucc k (by omega),
    evx, evy, ofValue, ofCell, List.range, List.range.loop, Array.size, Nat.reduceAdd, Nat.reduceSub, Nat.reduceEqDiff, List.replicate, if_true, if_false, ↓reduceIte, reduceCtorEq, elB, evParts, Int.reduceToNat, Int.reduceLE, Int.reduceLT, Int.reduceEq, Nat.reduceMul, Nat.reduceLeDiff, Nat.reduceLT, ty3, ty4, ty9, ty23, ty22, ty25, ty5]
              refine back_intro hs2 (k + 1) (le_wk ?_) ⟨by omega, by rw [hst, hka]; simp [Aut.numB]; omega⟩ (by omega)
              simp [wk, Aut.cells]
          · have hke : k = row.length := by omega
            subst hke
            rw [List.take_length] at hka
            simp -implicitDefEqProofs only [Aut.cells, List.length_map, lt_false hkl, wsucc i (by omega),
    evx, evy, ofValue, ofCell, List.range, List.range.loop, Array.size, Nat.reduceAdd, Nat.reduceSub, Nat.reduceEqDiff, List.replicate, if_true, if_false, ↓reduceIte, reduceCtorEq, elB, evParts, Int.reduceToNat, Int.reduceLE, Int.reduceLT, Int.reduceEq, Nat.reduceMul, Nat.reduceLeDiff, Nat.reduceLT, ty3, ty4, ty9, ty23, ty22, ty25, ty5]
            refine back_intro hs (i + 1) (le_wk ?_) ⟨by omega, fun j hj => ?_⟩ (by omega)
            · simp [wk, Aut.cells]
            · by_cases hji : j = i
              · subst hji
                rw [hrb, hka]
                simp
                omega
              · exact hall j (by omega)
      · have b1t : ((row.length : Int) = 256) = False := by simp; omega
        simp -implicitDefEqProofs only [Aut.cells, List.length_map, lt_true hlt, hr, nRow, b1t,
    evx, evy, ofValue, ofCell, List.range, List.range.loop, Array.size, Nat.reduceAdd, Nat.reduceSub, Nat.reduceEqDiff, List.replicate, if_true, if_false, ↓reduceIte, reduceCtorEq, elB, evParts, Int.reduceToNat, Int.reduceLE, Int.reduceLT, Int.reduceEq, Nat.reduceMul, Nat.reduceLeDiff, Nat.reduceLT, ty3, ty4, ty9, ty23, ty22, ty25, ty5]
        rw [hfin (by rw [hrb, decide_eq_false b1]; simp)]
        exact le_flat rfl
    · have hie : i = d.next.length := by omega
      subst hie
      simp -implicitDefEqProofs only [Aut.cells, List.length_map, lt_false hlt,
    evx, evy, ofValue, ofCell, List.range, List.range.loop, Array.size, Nat.reduceAdd, Nat.reduceSub, Nat.reduceEqDiff, List.replicate, if_true, if_false, ↓reduceIte, reduceCtorEq, elB, evParts, Int.reduceToNat, Int.reduceLE, Int.reduceLT, Int.reduceEq, Nat.reduceMul, Nat.reduceLeDiff, Nat.reduceLT, ty3, ty4, ty9, ty23, ty22, ty25, ty5]
      rw [show d.rowsB = true from all_upto hall]
      exact le_flat rfl
  · have a3t : ((d.acc.length : Int) = (d.next.length : Int)) = False := by simp; omega
    have e : d.rightB = false := by unfold Aut.rightB; rw [decide_eq_false a3]; simp
    rw [e]
    simp -implicitDefEqProofs only [Aut.av, List.length_map, a1t, lit_false a2, a3t,
    evx, evy, ofValue, ofCell, List.range, List.range.loop, Array.size, Nat.reduceAdd, Nat.reduceSub, Nat.reduceEqDiff, List.replicate, if_true, if_false, ↓reduceIte, reduceCtorEq, elB, evParts, Int.reduceToNat, Int.reduceLE, Int.reduceLT, Int.reduceEq, Nat.reduceMul, Nat.reduceLeDiff, Nat.reduceLT, ty3, ty4, ty9, ty23, ty22, ty25, ty5]
    exact le_flat rfl
end Go.Abs
