/- Sets of bytes: the least byte, by the library's table. -/
import Derived.Test.YtablmjophjjabaaDoorBytesB
namespace Go.Abs
open Go.Proofs
set_option linter.unusedVariables false
set_option linter.unusedSimpArgs false
set_option maxRecDepth 100000
set_option maxHeartbeats 1000000
theorem gdata_of {P : Program} {g : Nat} {n : String} (h : (P.globals[g]?).map (·.name) = some n) : gdata P g = (gtab.find? fun e => e.1 == n).map Prod.snd := by
  unfold gdata
  cases hg : P.globals[g]? with
  | none => rw [hg] at h; cases h
  | some v =>
    rw [hg] at h
    simp only [Option.map_some, Option.some.injEq] at h
    subst h
    rfl
theorem gn0 : (Tryd.prog.globals[0]?).map (·.name) = some "math/bits.deBruijn64tab" := by kernel_rfl
theorem gt0 : ((gtab.find? fun e => e.1 == "math/bits.deBruijn64tab").map Prod.snd) = some (Lib.deBruijn64tab.map fun n : Nat => FV.int .u8 (n : Int)) := by kernel_rfl
theorem g0 : gdata Tryd.prog 0 = some (Lib.deBruijn64tab.map fun n : Nat => FV.int .u8 (n : Int)) := (gdata_of gn0).trans gt0
theorem tab_at (l : List Nat) (i k : Nat) (hi : i < l.length) (h : l.getD i 0 = k) : ((l.map fun n : Nat => FV.int .u8 (n : Int)).map AV.fv)[i]? = some (.fv (.int .u8 (k : Int))) := by
  rw [List.getD_eq_getElem?_getD, List.getElem?_eq_getElem hi, Option.getD_some] at h
  simp [hi, h]
theorem ok37 (x : Nat) (hx : x < 18446744073709551616) : Ok Tryd.prog 37 [.fv (.int .u64 x)] [] (.ret (.fv (.int .i64 (Lib.ctz 64 x)))) [] := by
  by_cases h0 : x = 0
  · subst h0
    have hz : (((0 : Nat) : Int) = 0) = True := by simp
    have e : ((Lib.ctz 64 0 : Nat) : Int) = 64 := rfl
    rw [e]
    refine ok_start (k := 13) (n0 := 0) (rs := [.tmp 2]) mix Tryd.func37 rfl rfl rfl rfl rfl rfl rfl ?_
    simp -implicitDefEqProofs only [hz,
    evx, true_and, Option.map_none, ofValue, ofCell, Option.map_some, List.range, List.range.loop, Array.size, List.length_cons, List.length_nil, List.size_toArray, Nat.reduceAdd, Nat.reduceSub, Nat.reduceEqDiff, List.getElem?_toArray, List.getElem?_cons_zero, List.getElem?_cons_succ, List.replicate, List.cons_append, List.nil_append, List.append_nil, List.set_cons_zero, List.set_cons_succ, List.getD_cons_zero, List.getD_cons_succ, decide_not, ne_eq, if_true, if_false, eq_self, ↓reduceIte, reduceCtorEq, splice_one, map_ite, elB, bind_ite, ite_ite, evParts, Option.bind_some, Option.some.injEq, Int.reduceToNat, Int.reduceLE, Int.reduceLT, Int.reduceEq, Nat.reduceMul, Nat.reduceLeDiff, Nat.reduceLT, List.drop_zero, List.take_succ_cons, List.take_zero, List.drop_succ_cons, List.take_nil, List.map_cons, List.map_nil, List.length_append, ty3, ty4, ty5, ty23, ty24, ty25, ty33, ty39, ty40, ty45, ty51, ty74]
    exact le_flat rfl
  · obtain ⟨hlow, hk⟩ := Lib.lowest_bit 64 x h0 hx
    obtain ⟨hi, htab⟩ := Lib.deBruijn64_at _ hk
    have hxz : ((x : Int) = 0) = False := by simp; omega
    generalize hkk : Lib.ctz 64 x = k at *
    have hp : 2 ^ k < 18446744073709551616 := Nat.pow_lt_pow_right (n := 64) (by omega) hk
    have hneg : IntKind.wrap .u64 (0 - (x : Int)) = ((18446744073709551616 - x : Nat) : Int) := by
      simp only [IntKind.wrap, IntKind.signed, IntKind.bits]
      simp
      omega
    have hand : intBits .and .u64 (x : Int) ((18446744073709551616 - x : Nat) : Int) = some ((2 ^ k : Nat) : Int) := by
      rw [and_u64 hx (by omega), hlow]
    have hmul : IntKind.wrap .u64 (((2 ^ k : Nat) : Int) * 285870213051353865) = ((2 ^ k * 285870213051353865 % 18446744073709551616 : Nat) : Int) := by
      simp only [IntKind.wrap, IntKind.signed, IntKind.bits]
      simp
    have hsh : shiftA .shr .u64 ((2 ^ k * 285870213051353865 % 18446744073709551616 : Nat) : Int) 58 = some (.int .u64 ((2 ^ k * 285870213051353865 % 18446744073709551616) >>> 58 : Nat)) := shr_wd (2 ^ k * 285870213051353865 % 18446744073709551616) 58 (by omega)
    rw [Nat.shiftRight_eq_div_pow] at hsh
    have e58 : (2 : Nat) ^ 58 = 288230376151711744 := by decide
    rw [e58] at hsh
    generalize hidx : 2 ^ k * 285870213051353865 % 18446744073709551616 / 288230376151711744 = idx at *
    generalize 2 ^ k * 285870213051353865 % 18446744073709551616 = y at *
    generalize hy : ((2 ^ k : Nat) : Int) = z at *
    have hrow : ((Lib.deBruijn64tab.map fun n : Nat => FV.int .u8 (n : Int)).map AV.fv)[idx]? = some (.fv (.int .u8 (k : Int))) := tab_at Lib.deBruijn64tab idx k hi htab
    have hwk : IntKind.wrap .i64 (k : Int) = k := wrapn _ (by omega)
    refine ok_start (k := 13) (n0 := 0) (rs := [.tmp 2]) mix Tryd.func37 rfl rfl rfl rfl rfl rfl rfl ?_
    simp -implicitDefEqProofs only [hxz, hneg, bin_and hand, hmul, bin_shr hsh, g0, hrow, hwk,
    evx, true_and, Option.map_none, ofValue, ofCell, Option.map_some, List.range, List.range.loop, Array.size, List.length_cons, List.length_nil, List.size_toArray, Nat.reduceAdd, Nat.reduceSub, Nat.reduceEqDiff, List.getElem?_toArray, List.getElem?_cons_zero, List.getElem?_cons_succ, List.replicate, List.cons_append, List.nil_append, List.append_nil, List.set_cons_zero, List.set_cons_succ, List.getD_cons_zero, List.getD_cons_succ, decide_not, ne_eq, if_true, if_false, eq_self, ↓reduceIte, reduceCtorEq, splice_one, map_ite, elB, bind_ite, ite_ite, evParts, Option.bind_some, Option.some.injEq, Int.reduceToNat, Int.reduceLE, Int.reduceLT, Int.reduceEq, Nat.reduceMul, Nat.reduceLeDiff, Nat.reduceLT, List.drop_zero, List.take_succ_cons, List.take_zero, List.drop_succ_cons, List.take_nil, List.map_cons, List.map_nil, List.length_append, ty3, ty4, ty5, ty23, ty24, ty25, ty33, ty39, ty40, ty45, ty51, ty74]
    exact ⟨by omega, le_flat rfl⟩
theorem wd_zero_iff (p : Nat → Bool) (i : Nat) : wd p i = 0 ↔ ∀ j, j < 64 → p (64 * i + j) = false := by
  constructor
  · intro h j hj
    have := wd_test p i j hj
    rw [h] at this
    simpa using this.symm
  · intro h
    exact (eq_wd (by omega) fun j hj => by rw [h j hj]; simp).symm
theorem ctz_wd (p : Nat → Bool) (i : Nat) (h : wd p i ≠ 0) : ∃ k, k < 64 ∧ Lib.ctz 64 (wd p i) = k ∧ p (64 * i + k) = true ∧ ∀ j, j < k → p (64 * i + j) = false := by
  obtain ⟨m, hm, hk⟩ := Lib.ctzFrom_spec 64 (wd p i) (by omega) (wd_lt p i)
  refine ⟨Lib.ctzFrom 64 (wd p i), hk, by rw [Lib.ctz, if_neg h], ?_, fun j hj => ?_⟩
  · rw [← wd_test p i _ hk]
    generalize Lib.ctzFrom 64 (wd p i) = k at *
    rw [hm, Nat.mul_comm, Nat.testBit_mul_two_pow]
    simp [Nat.testBit_zero]
  · rw [← wd_test p i _ (by omega)]
    generalize Lib.ctzFrom 64 (wd p i) = k at *
    rw [hm, Nat.mul_comm, Nat.testBit_mul_two_pow]
    have : ¬ k ≤ j := by omega
    simp [this]
theorem ok23 (p : Nat → Bool) : Ok Tryd.prog 23 [.agg (sc p)] [] (.ret (.fv (.int .i64 (leastP p)))) [] := by
  refine ok_start (k := 17) (n0 := 0) (rs := [.tmp 2]) mix Tryd.func23 rfl rfl rfl rfl rfl rfl rfl ?_
  simp -implicitDefEqProofs only [sc_len, sc_take, sc_zl, stB_boxA, sc_ok, splice_all,
    evx, true_and, Option.map_none, ofValue, ofCell, Option.map_some, List.range, List.range.loop, Array.size, List.length_cons, List.length_nil, List.size_toArray, Nat.reduceAdd, Nat.reduceSub, Nat.reduceEqDiff, List.getElem?_toArray, List.getElem?_cons_zero, List.getElem?_cons_succ, List.replicate, List.cons_append, List.nil_append, List.append_nil, List.set_cons_zero, List.set_cons_succ, List.getD_cons_zero, List.getD_cons_succ, decide_not, ne_eq, if_true, if_false, eq_self, ↓reduceIte, reduceCtorEq, splice_one, map_ite, elB, bind_ite, ite_ite, evParts, Option.bind_some, Option.some.injEq, Int.reduceToNat, Int.reduceLE, Int.reduceLT, Int.reduceEq, Nat.reduceMul, Nat.reduceLeDiff, Nat.reduceLT, List.drop_zero, List.take_succ_cons, List.take_zero, List.drop_succ_cons, List.take_nil, List.map_cons, List.map_nil, List.length_append, ty3, ty4, ty5, ty23, ty24, ty25, ty33, ty39, ty40, ty45, ty51, ty74]
  refine loop_rule (fun i : Nat => ⟨[.any, .any, .any, .any, .any, .agg (sc p), .fv (.int .i64 i), .any, .any, .any, .any, .any, .any, .any, .any, .any, .any, .any], [.box (sc p)], []⟩)
    (fun i => i ≤ 4 ∧ ∀ j, j < 64 * i → p j = false) (fun i => 4 - i) 0 (le_wk (by simp [wk])) (by simp) (fun i hi s hs => ?_)
  obtain ⟨hi, hn⟩ := hi
  by_cases h4 : i < 4
  · have hc : ((i : Int) < 4) = True := by simp; omega
    have hg := sc_get p i h4
    have hw : IntKind.wrap .i64 ((i : Int) + 1) = ((i + 1 : Nat) : Int) := wrap_small (by omega) (by omega)
    by_cases hz : wd p i = 0
    · have hzz : ((wd p i : Int) = 0) = True := by simp; omega
      simp -implicitDefEqProofs only [hc, hg, hw, hzz,
    evx, true_and, Option.map_none, ofValue, ofCell, Option.map_some, List.range, List.range.loop, Array.size, List.length_cons, List.length_nil, List.size_toArray, Nat.reduceAdd, Nat.reduceSub, Nat.reduceEqDiff, List.getElem?_toArray, List.getElem?_cons_zero, List.getElem?_cons_succ, List.replicate, List.cons_append, List.nil_append, List.append_nil, List.set_cons_zero, List.set_cons_succ, List.getD_cons_zero, List.getD_cons_succ, decide_not, ne_eq, if_true, if_false, eq_self, ↓reduceIte, reduceCtorEq, splice_one, map_ite, elB, bind_ite, ite_ite, evParts, Option.bind_some, Option.some.injEq, Int.reduceToNat, Int.reduceLE, Int.reduceLT, Int.reduceEq, Nat.reduceMul, Nat.reduceLeDiff, Nat.reduceLT, List.drop_zero, List.take_succ_cons, List.take_zero, List.drop_succ_cons, List.take_nil, List.map_cons, List.map_nil, List.length_append, ty3, ty4, ty5, ty23, ty24, ty25, ty33, ty39, ty40, ty45, ty51, ty74]
      refine ⟨by omega, ?_⟩
      refine back_intro hs (i + 1) (le_wk (by simp [wk])) ⟨by omega, fun j hj => ?_⟩ (by omega)
      by_cases e : j < 64 * i
      · exact hn j e
      · have := (wd_zero_iff p i).1 hz (j - 64 * i) (by omega)
        rwa [show 64 * i + (j - 64 * i) = j from by omega] at this
    · have hzz : ((wd p i : Int) = 0) = False := by simp; omega
      obtain ⟨k, hk, hck, hpk, hnk⟩ := ctz_wd p i hz
      have h37 := ok37 (wd p i) (wd_lt p i)
      rw [hck] at h37
      have hm : IntKind.wrap .i64 (64 * (i : Int)) = ((64 * i : Nat) : Int) := by rw [wrap_small (by omega) (by omega)]; omega
      have ha : IntKind.wrap .i64 (((64 * i : Nat) : Int) + (k : Int)) = ((64 * i + k : Nat) : Int) := by rw [wrap_small (by omega) (by omega)]; omega
      rw [least_at p (64 * i + k) (by omega) hpk fun j hj => by
        by_cases e : j < 64 * i
        · exact hn j e
        · have := hnk (j - 64 * i) (by omega)
          rwa [show 64 * i + (j - 64 * i) = j from by omega] at this]
      simp -implicitDefEqProofs only [hc, hg, hw, hzz, hm,
    evx, true_and, Option.map_none, ofValue, ofCell, Option.map_some, List.range, List.range.loop, Array.size, List.length_cons, List.length_nil, List.size_toArray, Nat.reduceAdd, Nat.reduceSub, Nat.reduceEqDiff, List.getElem?_toArray, List.getElem?_cons_zero, List.getElem?_cons_succ, List.replicate, List.cons_append, List.nil_append, List.append_nil, List.set_cons_zero, List.set_cons_succ, List.getD_cons_zero, List.getD_cons_succ, decide_not, ne_eq, if_true, if_false, eq_self, ↓reduceIte, reduceCtorEq, splice_one, map_ite, elB, bind_ite, ite_ite, evParts, Option.bind_some, Option.some.injEq, Int.reduceToNat, Int.reduceLE, Int.reduceLT, Int.reduceEq, Nat.reduceMul, Nat.reduceLeDiff, Nat.reduceLT, List.drop_zero, List.take_succ_cons, List.take_zero, List.drop_succ_cons, List.take_nil, List.map_cons, List.map_nil, List.length_append, ty3, ty4, ty5, ty23, ty24, ty25, ty33, ty39, ty40, ty45, ty51, ty74]
      refine ⟨by omega, ?_⟩
      refine callK_ret _ _ _ _ (call_pure (h37) (fun _ => rfl) (fun _ => rfl)) (ok_nil _ _) ?_
      simp -implicitDefEqProofs only [ha,
    evx, true_and, Option.map_none, ofValue, ofCell, Option.map_some, List.range, List.range.loop, Array.size, List.length_cons, List.length_nil, List.size_toArray, Nat.reduceAdd, Nat.reduceSub, Nat.reduceEqDiff, List.getElem?_toArray, List.getElem?_cons_zero, List.getElem?_cons_succ, List.replicate, List.cons_append, List.nil_append, List.append_nil, List.set_cons_zero, List.set_cons_succ, List.getD_cons_zero, List.getD_cons_succ, decide_not, ne_eq, if_true, if_false, eq_self, ↓reduceIte, reduceCtorEq, splice_one, map_ite, elB, bind_ite, ite_ite, evParts, Option.bind_some, Option.some.injEq, Int.reduceToNat, Int.reduceLE, Int.reduceLT, Int.reduceEq, Nat.reduceMul, Nat.reduceLeDiff, Nat.reduceLT, List.drop_zero, List.take_succ_cons, List.take_zero, List.drop_succ_cons, List.take_nil, List.map_cons, List.map_nil, List.length_append, ty3, ty4, ty5, ty23, ty24, ty25, ty33, ty39, ty40, ty45, ty51, ty74]
      exact le_flat rfl
  · have hc : ((i : Int) < 4) = False := by simp; omega
    rw [least_none p fun j hj => hn j (by omega)]
    simp -implicitDefEqProofs only [hc,
    evx, true_and, Option.map_none, ofValue, ofCell, Option.map_some, List.range, List.range.loop, Array.size, List.length_cons, List.length_nil, List.size_toArray, Nat.reduceAdd, Nat.reduceSub, Nat.reduceEqDiff, List.getElem?_toArray, List.getElem?_cons_zero, List.getElem?_cons_succ, List.replicate, List.cons_append, List.nil_append, List.append_nil, List.set_cons_zero, List.set_cons_succ, List.getD_cons_zero, List.getD_cons_succ, decide_not, ne_eq, if_true, if_false, eq_self, ↓reduceIte, reduceCtorEq, splice_one, map_ite, elB, bind_ite, ite_ite, evParts, Option.bind_some, Option.some.injEq, Int.reduceToNat, Int.reduceLE, Int.reduceLT, Int.reduceEq, Nat.reduceMul, Nat.reduceLeDiff, Nat.reduceLT, List.drop_zero, List.take_succ_cons, List.take_zero, List.drop_succ_cons, List.take_nil, List.map_cons, List.map_nil, List.length_append, ty3, ty4, ty5, ty23, ty24, ty25, ty33, ty39, ty40, ty45, ty51, ty74]
    exact le_flat rfl
def cmpI (x y : Int) : Int := if x < y then -1 else if y < x then 1 else 0
theorem ok44 (x : Int) : Ok Tryd.prog 44 [.fv (.int .i64 x)] [] (.ret (.fv (.bool false))) [] := by
  refine ok_start (k := 5) (n0 := 0) (rs := [.tmp 2]) mix Tryd.func44 rfl rfl rfl rfl rfl rfl rfl ?_
  simp -implicitDefEqProofs only [evx, true_and, Option.map_none, ofValue, ofCell, Option.map_some, List.range, List.range.loop, Array.size, List.length_cons, List.length_nil, List.size_toArray, Nat.reduceAdd, Nat.reduceSub, Nat.reduceEqDiff, List.getElem?_toArray, List.getElem?_cons_zero, List.getElem?_cons_succ, List.replicate, List.cons_append, List.nil_append, List.append_nil, List.set_cons_zero, List.set_cons_succ, List.getD_cons_zero, List.getD_cons_succ, decide_not, ne_eq, if_true, if_false, eq_self, ↓reduceIte, reduceCtorEq, splice_one, map_ite, elB, bind_ite, ite_ite, evParts, Option.bind_some, Option.some.injEq, Int.reduceToNat, Int.reduceLE, Int.reduceLT, Int.reduceEq, Nat.reduceMul, Nat.reduceLeDiff, Nat.reduceLT, List.drop_zero, List.take_succ_cons, List.take_zero, List.drop_succ_cons, List.take_nil, List.map_cons, List.map_nil, List.length_append, ty3, ty4, ty5, ty23, ty24, ty25, ty33, ty39, ty40, ty45, ty51, ty74]
  exact Le.refl _ _
theorem ok34 (x y : Int) : Ok Tryd.prog 34 [.fv (.int .i64 x), .fv (.int .i64 y)] [] (.ret (.fv (.int .i64 (cmpI x y)))) [] := by
  refine ok_start (k := 18) (n0 := 0) (rs := [.tmp 4]) mix Tryd.func34 rfl rfl rfl rfl rfl rfl rfl ?_
  simp -implicitDefEqProofs only [evx, true_and, Option.map_none, ofValue, ofCell, Option.map_some, List.range, List.range.loop, Array.size, List.length_cons, List.length_nil, List.size_toArray, Nat.reduceAdd, Nat.reduceSub, Nat.reduceEqDiff, List.getElem?_toArray, List.getElem?_cons_zero, List.getElem?_cons_succ, List.replicate, List.cons_append, List.nil_append, List.append_nil, List.set_cons_zero, List.set_cons_succ, List.getD_cons_zero, List.getD_cons_succ, decide_not, ne_eq, if_true, if_false, eq_self, ↓reduceIte, reduceCtorEq, splice_one, map_ite, elB, bind_ite, ite_ite, evParts, Option.bind_some, Option.some.injEq, Int.reduceToNat, Int.reduceLE, Int.reduceLT, Int.reduceEq, Nat.reduceMul, Nat.reduceLeDiff, Nat.reduceLT, List.drop_zero, List.take_succ_cons, List.take_zero, List.drop_succ_cons, List.take_nil, List.map_cons, List.map_nil, List.length_append, ty3, ty4, ty5, ty23, ty24, ty25, ty33, ty39, ty40, ty45, ty51, ty74]
  refine callK_ret _ _ _ _ (call_pure (ok44 _) (fun _ => rfl) (fun _ => rfl)) (ok_nil _ _) ?_
  simp -implicitDefEqProofs only [evx, true_and, Option.map_none, ofValue, ofCell, Option.map_some, List.range, List.range.loop, Array.size, List.length_cons, List.length_nil, List.size_toArray, Nat.reduceAdd, Nat.reduceSub, Nat.reduceEqDiff, List.getElem?_toArray, List.getElem?_cons_zero, List.getElem?_cons_succ, List.replicate, List.cons_append, List.nil_append, List.append_nil, List.set_cons_zero, List.set_cons_succ, List.getD_cons_zero, List.getD_cons_succ, decide_not, ne_eq, if_true, if_false, eq_self, ↓reduceIte, reduceCtorEq, splice_one, map_ite, elB, bind_ite, ite_ite, evParts, Option.bind_some, Option.some.injEq, Int.reduceToNat, Int.reduceLE, Int.reduceLT, Int.reduceEq, Nat.reduceMul, Nat.reduceLeDiff, Nat.reduceLT, List.drop_zero, List.take_succ_cons, List.take_zero, List.drop_succ_cons, List.take_nil, List.map_cons, List.map_nil, List.length_append, ty3, ty4, ty5, ty23, ty24, ty25, ty33, ty39, ty40, ty45, ty51, ty74]
  refine callK_ret _ _ _ _ (call_pure (ok44 _) (fun _ => rfl) (fun _ => rfl)) (ok_nil _ _) ?_
  simp -implicitDefEqProofs only [evx, true_and, Option.map_none, ofValue, ofCell, Option.map_some, List.range, List.range.loop, Array.size, List.length_cons, List.length_nil, List.size_toArray, Nat.reduceAdd, Nat.reduceSub, Nat.reduceEqDiff, List.getElem?_toArray, List.getElem?_cons_zero, List.getElem?_cons_succ, List.replicate, List.cons_append, List.nil_append, List.append_nil, List.set_cons_zero, List.set_cons_succ, List.getD_cons_zero, List.getD_cons_succ, decide_not, ne_eq, if_true, if_false, eq_self, ↓reduceIte, reduceCtorEq, splice_one, map_ite, elB, bind_ite, ite_ite, evParts, Option.bind_some, Option.some.injEq, Int.reduceToNat, Int.reduceLE, Int.reduceLT, Int.reduceEq, Nat.reduceMul, Nat.reduceLeDiff, Nat.reduceLT, List.drop_zero, List.take_succ_cons, List.take_zero, List.drop_succ_cons, List.take_nil, List.map_cons, List.map_nil, List.length_append, ty3, ty4, ty5, ty23, ty24, ty25, ty33, ty39, ty40, ty45, ty51, ty74]
  unfold cmpI
  by_cases h : x < y
  · simp only [h, if_true]
    exact Le.refl _ _
  · by_cases h2 : y < x
    · simp only [h, h2, if_true, if_false]
      exact Le.refl _ _
    · simp only [h, h2, if_false]
      exact Le.refl _ _
theorem ok33 (p q : Nat → Bool) : Ok Tryd.prog 33 [.agg (sc p), .agg (sc q)] [] (.ret (.fv (.int .i64 (cmpI (leastP p) (leastP q))))) [] := by
  refine ok_start (k := 8) (n0 := 0) (rs := [.tmp 4]) mix Tryd.func33 rfl rfl rfl rfl rfl rfl rfl ?_
  simp -implicitDefEqProofs only [awp_draw _ _ Tryddr33_1, sc_len, sc_take, sc_zl, stB_boxA, sc_ok, splice_all,
    evx, true_and, Option.map_none, ofValue, ofCell, Option.map_some, List.range, List.range.loop, Array.size, List.length_cons, List.length_nil, List.size_toArray, Nat.reduceAdd, Nat.reduceSub, Nat.reduceEqDiff, List.getElem?_toArray, List.getElem?_cons_zero, List.getElem?_cons_succ, List.replicate, List.cons_append, List.nil_append, List.append_nil, List.set_cons_zero, List.set_cons_succ, List.getD_cons_zero, List.getD_cons_succ, decide_not, ne_eq, if_true, if_false, eq_self, ↓reduceIte, reduceCtorEq, splice_one, map_ite, elB, bind_ite, ite_ite, evParts, Option.bind_some, Option.some.injEq, Int.reduceToNat, Int.reduceLE, Int.reduceLT, Int.reduceEq, Nat.reduceMul, Nat.reduceLeDiff, Nat.reduceLT, List.drop_zero, List.take_succ_cons, List.take_zero, List.drop_succ_cons, List.take_nil, List.map_cons, List.map_nil, List.length_append, ty3, ty4, ty5, ty23, ty24, ty25, ty33, ty39, ty40, ty45, ty51, ty74]
  refine callK_ret _ _ _ _ (call_pure (ok23 p) (fun _ => rfl) (fun _ => rfl)) (ok_nil _ _) ?_
  simp -implicitDefEqProofs only [awp_draw _ _ Tryddr33_1, sc_len, sc_take, sc_zl, stB_boxA, sc_ok, splice_all,
    evx, true_and, Option.map_none, ofValue, ofCell, Option.map_some, List.range, List.range.loop, Array.size, List.length_cons, List.length_nil, List.size_toArray, Nat.reduceAdd, Nat.reduceSub, Nat.reduceEqDiff, List.getElem?_toArray, List.getElem?_cons_zero, List.getElem?_cons_succ, List.replicate, List.cons_append, List.nil_append, List.append_nil, List.set_cons_zero, List.set_cons_succ, List.getD_cons_zero, List.getD_cons_succ, decide_not, ne_eq, if_true, if_false, eq_self, ↓reduceIte, reduceCtorEq, splice_one, map_ite, elB, bind_ite, ite_ite, evParts, Option.bind_some, Option.some.injEq, Int.reduceToNat, Int.reduceLE, Int.reduceLT, Int.reduceEq, Nat.reduceMul, Nat.reduceLeDiff, Nat.reduceLT, List.drop_zero, List.take_succ_cons, List.take_zero, List.drop_succ_cons, List.take_nil, List.map_cons, List.map_nil, List.length_append, ty3, ty4, ty5, ty23, ty24, ty25, ty33, ty39, ty40, ty45, ty51, ty74]
  refine callK_ret _ _ _ _ (call_pure (ok23 q) (fun _ => rfl) (fun _ => rfl)) (ok_nil _ _) ?_
  simp -implicitDefEqProofs only [evx, true_and, Option.map_none, ofValue, ofCell, Option.map_some, List.range, List.range.loop, Array.size, List.length_cons, List.length_nil, List.size_toArray, Nat.reduceAdd, Nat.reduceSub, Nat.reduceEqDiff, List.getElem?_toArray, List.getElem?_cons_zero, List.getElem?_cons_succ, List.replicate, List.cons_append, List.nil_append, List.append_nil, List.set_cons_zero, List.set_cons_succ, List.getD_cons_zero, List.getD_cons_succ, decide_not, ne_eq, if_true, if_false, eq_self, ↓reduceIte, reduceCtorEq, splice_one, map_ite, elB, bind_ite, ite_ite, evParts, Option.bind_some, Option.some.injEq, Int.reduceToNat, Int.reduceLE, Int.reduceLT, Int.reduceEq, Nat.reduceMul, Nat.reduceLeDiff, Nat.reduceLT, List.drop_zero, List.take_succ_cons, List.take_zero, List.drop_succ_cons, List.take_nil, List.map_cons, List.map_nil, List.length_append, ty3, ty4, ty5, ty23, ty24, ty25, ty33, ty39, ty40, ty45, ty51, ty74]
  refine callK_ret _ _ _ _ (call_pure (ok34 _ _) (fun _ => rfl) (fun _ => rfl)) (ok_nil _ _) ?_
  simp -implicitDefEqProofs only [evx, true_and, Option.map_none, ofValue, ofCell, Option.map_some, List.range, List.range.loop, Array.size, List.length_cons, List.length_nil, List.size_toArray, Nat.reduceAdd, Nat.reduceSub, Nat.reduceEqDiff, List.getElem?_toArray, List.getElem?_cons_zero, List.getElem?_cons_succ, List.replicate, List.cons_append, List.nil_append, List.append_nil, List.set_cons_zero, List.set_cons_succ, List.getD_cons_zero, List.getD_cons_succ, decide_not, ne_eq, if_true, if_false, eq_self, ↓reduceIte, reduceCtorEq, splice_one, map_ite, elB, bind_ite, ite_ite, evParts, Option.bind_some, Option.some.injEq, Int.reduceToNat, Int.reduceLE, Int.reduceLT, Int.reduceEq, Nat.reduceMul, Nat.reduceLeDiff, Nat.reduceLT, List.drop_zero, List.take_succ_cons, List.take_zero, List.drop_succ_cons, List.take_nil, List.map_cons, List.map_nil, List.length_append, ty3, ty4, ty5, ty23, ty24, ty25, ty33, ty39, ty40, ty45, ty51, ty74]
  exact le_flat rfl
end Go.Abs
