/- Sets of bytes: Count; the law BytesCounts. -/
import Derived.Test.YtablmjophjjabaaDoorBytesF
namespace Go.Abs
open Go.Proofs
set_option linter.unusedVariables false
set_option linter.unusedSimpArgs false
set_option maxRecDepth 100000
set_option maxHeartbeats 1000000
theorem and_i64 {x y : Nat} (hx : x < 9223372036854775808) (hy : y < 9223372036854775808) : intBits .and .i64 x y = some ((x &&& y : Nat) : Int) := by
  show some (IntKind.wrap .i64 ↑(BitVec.ofInt 64 (x : Int) &&& BitVec.ofInt 64 (y : Int)).toNat) = _
  rw [ofInt_nat, ofInt_nat, BitVec.toNat_and, toNat_small (by omega), toNat_small (by omega)]
  have h : x &&& y < 9223372036854775808 := Nat.and_lt_two_pow (n := 63) _ hy
  rw [wrap_small (by omega) (by omega)]
theorem m0 : Msk 0x55 8 = 6148914691236517205 := by decide
theorem m1 : Msk 0x33 8 = 3689348814741910323 := by decide
theorem m2 : Msk 0x0f 8 = 1085102592571150095 := by decide
theorem ok36 (x : Nat) (hx : x < 18446744073709551616) : Ok Tryd.prog 36 [.fv (.int .u64 x)] [] (.ret (.fv (.int .i64 (cnt x.testBit 64)))) [] := by
  obtain ⟨ho, hlim⟩ := ones_eq x
  rw [← ho]
  have l1 : ∀ a b : Nat, b < 18446744073709551616 → a &&& b ≤ b := fun a b _ => Nat.and_le_right
  have s1 := shr_wd x 1 (by omega)
  have a1 : intBits .and .u64 ((x >>> 1 : Nat) : Int) 6148914691236517205 = some (((x >>> 1) &&& 6148914691236517205 : Nat) : Int) := and_u64 (y := 6148914691236517205) (shr_lt 1 hx) (by decide)
  have a2 : intBits .and .u64 (x : Int) 6148914691236517205 = some ((x &&& 6148914691236517205 : Nat) : Int) := and_u64 (y := 6148914691236517205) hx (by decide)
  have e1 : ((x >>> 1) &&& 6148914691236517205) + (x &&& 6148914691236517205) = T1 8 x := by rw [T1, m0]
  have b1 : T1 8 x ≤ 12297829382473034410 := by
    rw [← e1]
    have := l1 (x >>> 1) 6148914691236517205 (by omega)
    have := l1 x 6148914691236517205 (by omega)
    omega
  have w1 : IntKind.wrap .u64 ((((x >>> 1) &&& 6148914691236517205 : Nat) : Int) + ((x &&& 6148914691236517205 : Nat) : Int)) = (T1 8 x : Int) := by
    rw [← e1, ← wrap_u64 (n := ((x >>> 1) &&& 6148914691236517205) + (x &&& 6148914691236517205)) (by rw [e1]; omega)]
    rfl
  generalize hx1 : T1 8 x = x1 at *
  have s2 := shr_wd x1 2 (by omega)
  have a3 : intBits .and .u64 ((x1 >>> 2 : Nat) : Int) 3689348814741910323 = some (((x1 >>> 2) &&& 3689348814741910323 : Nat) : Int) := and_u64 (y := 3689348814741910323) (shr_lt 2 (by omega)) (by decide)
  have a4 : intBits .and .u64 (x1 : Int) 3689348814741910323 = some ((x1 &&& 3689348814741910323 : Nat) : Int) := and_u64 (y := 3689348814741910323) (by omega) (by decide)
  have e2 : ((x1 >>> 2) &&& 3689348814741910323) + (x1 &&& 3689348814741910323) = T2 8 x1 := by rw [T2, m1]
  have b2 : T2 8 x1 ≤ 7378697629483820646 := by
    rw [← e2]
    have := l1 (x1 >>> 2) 3689348814741910323 (by omega)
    have := l1 x1 3689348814741910323 (by omega)
    omega
  have w2 : IntKind.wrap .u64 ((((x1 >>> 2) &&& 3689348814741910323 : Nat) : Int) + ((x1 &&& 3689348814741910323 : Nat) : Int)) = (T2 8 x1 : Int) := by
    rw [← e2, ← wrap_u64 (n := ((x1 >>> 2) &&& 3689348814741910323) + (x1 &&& 3689348814741910323)) (by rw [e2]; omega)]
    rfl
  have hp : pops 8 x = T3 8 (T2 8 x1) := by rw [pops, T12, hx1]
  rw [ones, hp]
  rw [hp] at hlim
  generalize hx2 : T2 8 x1 = x2 at *
  have s3 := shr_wd x2 4 (by omega)
  have b4 : x2 >>> 4 ≤ x2 := by rw [Nat.shiftRight_eq_div_pow]; exact Nat.div_le_self _ _
  have b5 : x2 >>> 4 ≤ 461168601842738791 := by
    rw [Nat.shiftRight_eq_div_pow, show (2 : Nat) ^ 4 = 16 from rfl]; omega
  have w3 : IntKind.wrap .u64 (((x2 >>> 4 : Nat) : Int) + (x2 : Int)) = ((x2 >>> 4 + x2 : Nat) : Int) := by
    rw [← wrap_u64 (n := x2 >>> 4 + x2) (by omega)]
    rfl
  have a5 : intBits .and .u64 ((x2 >>> 4 + x2 : Nat) : Int) 1085102592571150095 = some ((T3 8 x2 : Nat) : Int) := by
    rw [T3, m2]
    exact and_u64 (y := 1085102592571150095) (by omega) (by decide)
  have b3 : T3 8 x2 ≤ 1085102592571150095 := by rw [T3, m2]; exact Nat.and_le_right
  generalize hx3 : T3 8 x2 = x3 at *
  have s4 := shr_wd x3 8 (by omega)
  rw [Nat.shiftRight_eq_div_pow, show (2 : Nat) ^ 8 = 256 from rfl] at s4
  have w4 : IntKind.wrap .u64 ((x3 : Int) + ((x3 / 256 : Nat) : Int)) = ((x3 + x3 / 256 : Nat) : Int) := by
    rw [← wrap_u64 (n := x3 + x3 / 256) (by omega)]
    rfl
  generalize hx4 : x3 + x3 / 256 = x4 at *
  have s5 := shr_wd x4 16 (by omega)
  rw [Nat.shiftRight_eq_div_pow, show (2 : Nat) ^ 16 = 65536 from rfl] at s5
  have w5 : IntKind.wrap .u64 ((x4 : Int) + ((x4 / 65536 : Nat) : Int)) = ((x4 + x4 / 65536 : Nat) : Int) := by
    rw [← wrap_u64 (n := x4 + x4 / 65536) (by omega)]
    rfl
  generalize hx5 : x4 + x4 / 65536 = x5 at *
  have s6 := shr_wd x5 32 (by omega)
  rw [Nat.shiftRight_eq_div_pow, show (2 : Nat) ^ 32 = 4294967296 from rfl] at s6
  have w6 : IntKind.wrap .u64 ((x5 : Int) + ((x5 / 4294967296 : Nat) : Int)) = ((x5 + x5 / 4294967296 : Nat) : Int) := by
    rw [← wrap_u64 (n := x5 + x5 / 4294967296) (by omega)]
    rfl
  generalize hx6 : x5 + x5 / 4294967296 = x6 at *
  have w7 : IntKind.wrap .i64 (x6 : Int) = x6 := wrap_small (by omega) (by omega)
  have a6 : intBits .and .i64 (x6 : Int) 127 = some ((x6 % 128 : Nat) : Int) := by
    have h := and_i64 (x := x6) (y := 127) (by omega) (by decide)
    rw [show (127 : Nat) = 2 ^ 7 - 1 from rfl, Nat.and_two_pow_sub_one_eq_mod] at h
    exact h
  have s1' : shiftA .shr .u64 (x : Int) 1 = some (.int .u64 ((x >>> 1 : Nat) : Int)) := s1
  have s2' : shiftA .shr .u64 (x1 : Int) 2 = some (.int .u64 ((x1 >>> 2 : Nat) : Int)) := s2
  have s3' : shiftA .shr .u64 (x2 : Int) 4 = some (.int .u64 ((x2 >>> 4 : Nat) : Int)) := s3
  have s4' : shiftA .shr .u64 (x3 : Int) 8 = some (.int .u64 ((x3 / 256 : Nat) : Int)) := s4
  have s5' : shiftA .shr .u64 (x4 : Int) 16 = some (.int .u64 ((x4 / 65536 : Nat) : Int)) := s5
  have s6' : shiftA .shr .u64 (x5 : Int) 32 = some (.int .u64 ((x5 / 4294967296 : Nat) : Int)) := s6
  clear s1 s2 s3 s4 s5 s6
  refine ok_start (k := 34) (n0 := 0) (rs := [.tmp 2]) mix Tryd.func36 rfl rfl rfl rfl rfl rfl rfl ?_
  simp -implicitDefEqProofs only [bin_shr s1', bin_and a1, bin_and a2, w1, bin_shr s2', bin_and a3, bin_and a4, w2, bin_shr s3', w3, bin_and a5, bin_shr s4', w4, bin_shr s5', w5, bin_shr s6', w6, w7, bin_and a6,
    evx, true_and, Option.map_none, ofValue, ofCell, Option.map_some, List.range, List.range.loop, Array.size, List.length_cons, List.length_nil, List.size_toArray, Nat.reduceAdd, Nat.reduceSub, Nat.reduceEqDiff, List.getElem?_toArray, List.getElem?_cons_zero, List.getElem?_cons_succ, List.replicate, List.cons_append, List.nil_append, List.append_nil, List.set_cons_zero, List.set_cons_succ, List.getD_cons_zero, List.getD_cons_succ, decide_not, ne_eq, if_true, if_false, eq_self, ↓reduceIte, reduceCtorEq, splice_one, map_ite, elB, bind_ite, ite_ite, evParts, Option.bind_some, Option.some.injEq, Int.reduceToNat, Int.reduceLE, Int.reduceLT, Int.reduceEq, Nat.reduceMul, Nat.reduceLeDiff, Nat.reduceLT, List.drop_zero, List.take_succ_cons, List.take_zero, List.drop_succ_cons, List.take_nil, List.map_cons, List.map_nil, List.length_append, ty3, ty4, ty5, ty23, ty24, ty25, ty33, ty39, ty40, ty45, ty51, ty74]
  exact le_flat rfl
theorem cnt_wd (p : Nat → Bool) (i : Nat) : cnt (wd p i).testBit 64 = cnt (fun j => p (64 * i + j)) 64 := cnt_congr 64 fun j hj => wd_test p i j hj
theorem ok21 (p : Nat → Bool) : Ok Tryd.prog 21 [.agg (sc p)] [] (.ret (.fv (.int .i64 (cnt p 256)))) [] := by
  refine ok_start (k := 15) (n0 := 0) (rs := [.tmp 2]) mix Tryd.func21 rfl rfl rfl rfl rfl rfl rfl ?_
  simp -implicitDefEqProofs only [sc_len, sc_take, sc_zl, stB_boxA, sc_ok, splice_all,
    evx, true_and, Option.map_none, ofValue, ofCell, Option.map_some, List.range, List.range.loop, Array.size, List.length_cons, List.length_nil, List.size_toArray, Nat.reduceAdd, Nat.reduceSub, Nat.reduceEqDiff, List.getElem?_toArray, List.getElem?_cons_zero, List.getElem?_cons_succ, List.replicate, List.cons_append, List.nil_append, List.append_nil, List.set_cons_zero, List.set_cons_succ, List.getD_cons_zero, List.getD_cons_succ, decide_not, ne_eq, if_true, if_false, eq_self, ↓reduceIte, reduceCtorEq, splice_one, map_ite, elB, bind_ite, ite_ite, evParts, Option.bind_some, Option.some.injEq, Int.reduceToNat, Int.reduceLE, Int.reduceLT, Int.reduceEq, Nat.reduceMul, Nat.reduceLeDiff, Nat.reduceLT, List.drop_zero, List.take_succ_cons, List.take_zero, List.drop_succ_cons, List.take_nil, List.map_cons, List.map_nil, List.length_append, ty3, ty4, ty5, ty23, ty24, ty25, ty33, ty39, ty40, ty45, ty51, ty74]
  refine loop_rule (fun i : Nat => ⟨[.any, .any, .any, .fv (.int .i64 (cnt p (64 * i))), .any, .any, .agg (sc p), .fv (.int .i64 i), .any, .any, .any, .any, .any, .any, .any, .any], [.box (sc p)], []⟩)
    (fun i => i ≤ 4) (fun i => 4 - i) 0 (le_wk (by simp [wk, cnt])) (by simp) (fun i hi s hs => ?_)
  by_cases h4 : i < 4
  · have hc : ((i : Int) < 4) = True := by simp; omega
    have hg := sc_get p i h4
    have hw : IntKind.wrap .i64 ((i : Int) + 1) = ((i + 1 : Nat) : Int) := wrap_small (by omega) (by omega)
    have h36 := ok36 (wd p i) (wd_lt p i)
    rw [cnt_wd] at h36
    have e : cnt p (64 * (i + 1)) = cnt p (64 * i) + cnt (fun j => p (64 * i + j)) 64 := by rw [Nat.mul_add, cnt_add]
    have l1 := cnt_le p (64 * i)
    have l2 := cnt_le (fun j => p (64 * i + j)) 64
    have ha : IntKind.wrap .i64 ((cnt p (64 * i) : Int) + (cnt (fun j => p (64 * i + j)) 64 : Int)) = ((cnt p (64 * (i + 1)) : Nat) : Int) := by
      rw [e, wrap_small (by omega) (by omega)]; omega
    generalize cnt (fun j => p (64 * i + j)) 64 = c at *
    simp -implicitDefEqProofs only [hc, hg,
    evx, true_and, Option.map_none, ofValue, ofCell, Option.map_some, List.range, List.range.loop, Array.size, List.length_cons, List.length_nil, List.size_toArray, Nat.reduceAdd, Nat.reduceSub, Nat.reduceEqDiff, List.getElem?_toArray, List.getElem?_cons_zero, List.getElem?_cons_succ, List.replicate, List.cons_append, List.nil_append, List.append_nil, List.set_cons_zero, List.set_cons_succ, List.getD_cons_zero, List.getD_cons_succ, decide_not, ne_eq, if_true, if_false, eq_self, ↓reduceIte, reduceCtorEq, splice_one, map_ite, elB, bind_ite, ite_ite, evParts, Option.bind_some, Option.some.injEq, Int.reduceToNat, Int.reduceLE, Int.reduceLT, Int.reduceEq, Nat.reduceMul, Nat.reduceLeDiff, Nat.reduceLT, List.drop_zero, List.take_succ_cons, List.take_zero, List.drop_succ_cons, List.take_nil, List.map_cons, List.map_nil, List.length_append, ty3, ty4, ty5, ty23, ty24, ty25, ty33, ty39, ty40, ty45, ty51, ty74]
    refine ⟨by omega, ?_⟩
    refine callK_ret _ _ _ _ (call_pure (h36) (fun _ => rfl) (fun _ => rfl)) (ok_nil _ _) ?_
    simp -implicitDefEqProofs only [ha, hw,
    evx, true_and, Option.map_none, ofValue, ofCell, Option.map_some, List.range, List.range.loop, Array.size, List.length_cons, List.length_nil, List.size_toArray, Nat.reduceAdd, Nat.reduceSub, Nat.reduceEqDiff, List.getElem?_toArray, List.getElem?_cons_zero, List.getElem?_cons_succ, List.replicate, List.cons_append, List.nil_append, List.append_nil, List.set_cons_zero, List.set_cons_succ, List.getD_cons_zero, List.getD_cons_succ, decide_not, ne_eq, if_true, if_false, eq_self, ↓reduceIte, reduceCtorEq, splice_one, map_ite, elB, bind_ite, ite_ite, evParts, Option.bind_some, Option.some.injEq, Int.reduceToNat, Int.reduceLE, Int.reduceLT, Int.reduceEq, Nat.reduceMul, Nat.reduceLeDiff, Nat.reduceLT, List.drop_zero, List.take_succ_cons, List.take_zero, List.drop_succ_cons, List.take_nil, List.map_cons, List.map_nil, List.length_append, ty3, ty4, ty5, ty23, ty24, ty25, ty33, ty39, ty40, ty45, ty51, ty74]
    exact back_intro hs (i + 1) (le_wk (by simp [wk])) (by omega) (by omega)
  · have hc : ((i : Int) < 4) = False := by simp; omega
    have hie : i = 4 := by omega
    subst hie
    simp -implicitDefEqProofs only [hc,
    evx, true_and, Option.map_none, ofValue, ofCell, Option.map_some, List.range, List.range.loop, Array.size, List.length_cons, List.length_nil, List.size_toArray, Nat.reduceAdd, Nat.reduceSub, Nat.reduceEqDiff, List.getElem?_toArray, List.getElem?_cons_zero, List.getElem?_cons_succ, List.replicate, List.cons_append, List.nil_append, List.append_nil, List.set_cons_zero, List.set_cons_succ, List.getD_cons_zero, List.getD_cons_succ, decide_not, ne_eq, if_true, if_false, eq_self, ↓reduceIte, reduceCtorEq, splice_one, map_ite, elB, bind_ite, ite_ite, evParts, Option.bind_some, Option.some.injEq, Int.reduceToNat, Int.reduceLE, Int.reduceLT, Int.reduceEq, Nat.reduceMul, Nat.reduceLeDiff, Nat.reduceLT, List.drop_zero, List.take_succ_cons, List.take_zero, List.drop_succ_cons, List.take_nil, List.map_cons, List.map_nil, List.length_append, ty3, ty4, ty5, ty23, ty24, ty25, ty33, ty39, ty40, ty45, ty51, ty74]
    exact le_flat rfl
theorem ok6 (p : Nat → Bool) (b : Nat) (hb : b < 256) : Ok Tryd.prog 6 [.agg (sc p), .fv (.int .u8 b)] [] (.ret (.fv (.bool true))) [] := by
  have hwb : IntKind.wrap .i64 (b : Int) = b := wrapn _ (by omega)
  have hn := cnt_not p 256
  have l1 := cnt_le p 256
  have ha : IntKind.wrap .i64 ((cnt p 256 : Int) + (cnt (fun b => !p b) 256 : Int)) = 256 := by
    rw [wrap_small (by omega) (by omega)]; omega
  have h21 := ok21 p
  have h22 := ok22 p
  have h21n := ok21 (fun b => !p b)
  have h25 := ok25 p b hb
  have h26 := ok26 p b hb
  have h23 := ok23 p
  have h24 := ok24 p
  generalize cnt p 256 = c at *
  generalize cnt (fun b => !p b) 256 = cn at *
  generalize leastP p = le at *
  generalize p b = t at *
  refine ok_start (k := 37) (n0 := 0) (rs := [.tmp 4]) mix Tryd.func6 rfl rfl rfl rfl rfl rfl rfl ?_
  simp -implicitDefEqProofs only [awp_draw _ _ Tryddr6_1, sc_len, sc_take, sc_zl, stB_boxA, sc_ok, splice_all,
    evx, true_and, Option.map_none, ofValue, ofCell, Option.map_some, List.range, List.range.loop, Array.size, List.length_cons, List.length_nil, List.size_toArray, Nat.reduceAdd, Nat.reduceSub, Nat.reduceEqDiff, List.getElem?_toArray, List.getElem?_cons_zero, List.getElem?_cons_succ, List.replicate, List.cons_append, List.nil_append, List.append_nil, List.set_cons_zero, List.set_cons_succ, List.getD_cons_zero, List.getD_cons_succ, decide_not, ne_eq, if_true, if_false, eq_self, ↓reduceIte, reduceCtorEq, splice_one, map_ite, elB, bind_ite, ite_ite, evParts, Option.bind_some, Option.some.injEq, Int.reduceToNat, Int.reduceLE, Int.reduceLT, Int.reduceEq, Nat.reduceMul, Nat.reduceLeDiff, Nat.reduceLT, List.drop_zero, List.take_succ_cons, List.take_zero, List.drop_succ_cons, List.take_nil, List.map_cons, List.map_nil, List.length_append, ty3, ty4, ty5, ty23, ty24, ty25, ty33, ty39, ty40, ty45, ty51, ty74]
  refine callK_ret _ _ _ _ (call_pure (ok9) (fun _ => rfl) (fun _ => rfl)) (ok_nil _ _) ?_
  simp -implicitDefEqProofs only [awp_draw _ _ Tryddr6_1, sc_len, sc_take, sc_zl, stB_boxA, sc_ok, splice_all,
    evx, true_and, Option.map_none, ofValue, ofCell, Option.map_some, List.range, List.range.loop, Array.size, List.length_cons, List.length_nil, List.size_toArray, Nat.reduceAdd, Nat.reduceSub, Nat.reduceEqDiff, List.getElem?_toArray, List.getElem?_cons_zero, List.getElem?_cons_succ, List.replicate, List.cons_append, List.nil_append, List.append_nil, List.set_cons_zero, List.set_cons_succ, List.getD_cons_zero, List.getD_cons_succ, decide_not, ne_eq, if_true, if_false, eq_self, ↓reduceIte, reduceCtorEq, splice_one, map_ite, elB, bind_ite, ite_ite, evParts, Option.bind_some, Option.some.injEq, Int.reduceToNat, Int.reduceLE, Int.reduceLT, Int.reduceEq, Nat.reduceMul, Nat.reduceLeDiff, Nat.reduceLT, List.drop_zero, List.take_succ_cons, List.take_zero, List.drop_succ_cons, List.take_nil, List.map_cons, List.map_nil, List.length_append, ty3, ty4, ty5, ty23, ty24, ty25, ty33, ty39, ty40, ty45, ty51, ty74]
  refine callK_ret _ _ _ _ (call_pure (h21) (fun _ => rfl) (fun _ => rfl)) (ok_nil _ _) ?_
  simp -implicitDefEqProofs only [awp_draw _ _ Tryddr6_1, sc_len, sc_take, sc_zl, stB_boxA, sc_ok, splice_all,
    evx, true_and, Option.map_none, ofValue, ofCell, Option.map_some, List.range, List.range.loop, Array.size, List.length_cons, List.length_nil, List.size_toArray, Nat.reduceAdd, Nat.reduceSub, Nat.reduceEqDiff, List.getElem?_toArray, List.getElem?_cons_zero, List.getElem?_cons_succ, List.replicate, List.cons_append, List.nil_append, List.append_nil, List.set_cons_zero, List.set_cons_succ, List.getD_cons_zero, List.getD_cons_succ, decide_not, ne_eq, if_true, if_false, eq_self, ↓reduceIte, reduceCtorEq, splice_one, map_ite, elB, bind_ite, ite_ite, evParts, Option.bind_some, Option.some.injEq, Int.reduceToNat, Int.reduceLE, Int.reduceLT, Int.reduceEq, Nat.reduceMul, Nat.reduceLeDiff, Nat.reduceLT, List.drop_zero, List.take_succ_cons, List.take_zero, List.drop_succ_cons, List.take_nil, List.map_cons, List.map_nil, List.length_append, ty3, ty4, ty5, ty23, ty24, ty25, ty33, ty39, ty40, ty45, ty51, ty74]
  refine callK_ret _ _ _ _ (call_pure (h22) (fun _ => rfl) (fun _ => rfl)) (ok_nil _ _) ?_
  simp -implicitDefEqProofs only [awp_draw _ _ Tryddr6_1, sc_len, sc_take, sc_zl, stB_boxA, sc_ok, splice_all,
    evx, true_and, Option.map_none, ofValue, ofCell, Option.map_some, List.range, List.range.loop, Array.size, List.length_cons, List.length_nil, List.size_toArray, Nat.reduceAdd, Nat.reduceSub, Nat.reduceEqDiff, List.getElem?_toArray, List.getElem?_cons_zero, List.getElem?_cons_succ, List.replicate, List.cons_append, List.nil_append, List.append_nil, List.set_cons_zero, List.set_cons_succ, List.getD_cons_zero, List.getD_cons_succ, decide_not, ne_eq, if_true, if_false, eq_self, ↓reduceIte, reduceCtorEq, splice_one, map_ite, elB, bind_ite, ite_ite, evParts, Option.bind_some, Option.some.injEq, Int.reduceToNat, Int.reduceLE, Int.reduceLT, Int.reduceEq, Nat.reduceMul, Nat.reduceLeDiff, Nat.reduceLT, List.drop_zero, List.take_succ_cons, List.take_zero, List.drop_succ_cons, List.take_nil, List.map_cons, List.map_nil, List.length_append, ty3, ty4, ty5, ty23, ty24, ty25, ty33, ty39, ty40, ty45, ty51, ty74]
  refine callK_ret _ _ _ _ (call_pure (h23) (fun _ => rfl) (fun _ => rfl)) (ok_nil _ _) ?_
  simp -implicitDefEqProofs only [awp_draw _ _ Tryddr6_1, sc_len, sc_take, sc_zl, stB_boxA, sc_ok, splice_all,
    evx, true_and, Option.map_none, ofValue, ofCell, Option.map_some, List.range, List.range.loop, Array.size, List.length_cons, List.length_nil, List.size_toArray, Nat.reduceAdd, Nat.reduceSub, Nat.reduceEqDiff, List.getElem?_toArray, List.getElem?_cons_zero, List.getElem?_cons_succ, List.replicate, List.cons_append, List.nil_append, List.append_nil, List.set_cons_zero, List.set_cons_succ, List.getD_cons_zero, List.getD_cons_succ, decide_not, ne_eq, if_true, if_false, eq_self, ↓reduceIte, reduceCtorEq, splice_one, map_ite, elB, bind_ite, ite_ite, evParts, Option.bind_some, Option.some.injEq, Int.reduceToNat, Int.reduceLE, Int.reduceLT, Int.reduceEq, Nat.reduceMul, Nat.reduceLeDiff, Nat.reduceLT, List.drop_zero, List.take_succ_cons, List.take_zero, List.drop_succ_cons, List.take_nil, List.map_cons, List.map_nil, List.length_append, ty3, ty4, ty5, ty23, ty24, ty25, ty33, ty39, ty40, ty45, ty51, ty74]
  refine callK_ret _ _ _ _ (call_pure (h24) (fun _ => rfl) (fun _ => rfl)) (ok_nil _ _) ?_
  simp -implicitDefEqProofs only [awp_draw _ _ Tryddr6_1, sc_len, sc_take, sc_zl, stB_boxA, sc_ok, splice_all,
    evx, true_and, Option.map_none, ofValue, ofCell, Option.map_some, List.range, List.range.loop, Array.size, List.length_cons, List.length_nil, List.size_toArray, Nat.reduceAdd, Nat.reduceSub, Nat.reduceEqDiff, List.getElem?_toArray, List.getElem?_cons_zero, List.getElem?_cons_succ, List.replicate, List.cons_append, List.nil_append, List.append_nil, List.set_cons_zero, List.set_cons_succ, List.getD_cons_zero, List.getD_cons_succ, decide_not, ne_eq, if_true, if_false, eq_self, ↓reduceIte, reduceCtorEq, splice_one, map_ite, elB, bind_ite, ite_ite, evParts, Option.bind_some, Option.some.injEq, Int.reduceToNat, Int.reduceLE, Int.reduceLT, Int.reduceEq, Nat.reduceMul, Nat.reduceLeDiff, Nat.reduceLT, List.drop_zero, List.take_succ_cons, List.take_zero, List.drop_succ_cons, List.take_nil, List.map_cons, List.map_nil, List.length_append, ty3, ty4, ty5, ty23, ty24, ty25, ty33, ty39, ty40, ty45, ty51, ty74]
  refine callK_ret _ _ _ _ (call_pure (h25) (fun _ => rfl) (fun _ => rfl)) (ok_nil _ _) ?_
  simp -implicitDefEqProofs only [awp_draw _ _ Tryddr6_1, sc_len, sc_take, sc_zl, stB_boxA, sc_ok, splice_all, hwb,
    evx, true_and, Option.map_none, ofValue, ofCell, Option.map_some, List.range, List.range.loop, Array.size, List.length_cons, List.length_nil, List.size_toArray, Nat.reduceAdd, Nat.reduceSub, Nat.reduceEqDiff, List.getElem?_toArray, List.getElem?_cons_zero, List.getElem?_cons_succ, List.replicate, List.cons_append, List.nil_append, List.append_nil, List.set_cons_zero, List.set_cons_succ, List.getD_cons_zero, List.getD_cons_succ, decide_not, ne_eq, if_true, if_false, eq_self, ↓reduceIte, reduceCtorEq, splice_one, map_ite, elB, bind_ite, ite_ite, evParts, Option.bind_some, Option.some.injEq, Int.reduceToNat, Int.reduceLE, Int.reduceLT, Int.reduceEq, Nat.reduceMul, Nat.reduceLeDiff, Nat.reduceLT, List.drop_zero, List.take_succ_cons, List.take_zero, List.drop_succ_cons, List.take_nil, List.map_cons, List.map_nil, List.length_append, ty3, ty4, ty5, ty23, ty24, ty25, ty33, ty39, ty40, ty45, ty51, ty74]
  refine callK_ret _ _ _ _ (call_pure (h26) (fun _ => rfl) (fun _ => rfl)) (ok_nil _ _) ?_
  simp -implicitDefEqProofs only [awp_draw _ _ Tryddr6_1, sc_len, sc_take, sc_zl, stB_boxA, sc_ok, splice_all, eql_bool ty4, beq_self_eq_true,
    evx, true_and, Option.map_none, ofValue, ofCell, Option.map_some, List.range, List.range.loop, Array.size, List.length_cons, List.length_nil, List.size_toArray, Nat.reduceAdd, Nat.reduceSub, Nat.reduceEqDiff, List.getElem?_toArray, List.getElem?_cons_zero, List.getElem?_cons_succ, List.replicate, List.cons_append, List.nil_append, List.append_nil, List.set_cons_zero, List.set_cons_succ, List.getD_cons_zero, List.getD_cons_succ, decide_not, ne_eq, if_true, if_false, eq_self, ↓reduceIte, reduceCtorEq, splice_one, map_ite, elB, bind_ite, ite_ite, evParts, Option.bind_some, Option.some.injEq, Int.reduceToNat, Int.reduceLE, Int.reduceLT, Int.reduceEq, Nat.reduceMul, Nat.reduceLeDiff, Nat.reduceLT, List.drop_zero, List.take_succ_cons, List.take_zero, List.drop_succ_cons, List.take_nil, List.map_cons, List.map_nil, List.length_append, ty3, ty4, ty5, ty23, ty24, ty25, ty33, ty39, ty40, ty45, ty51, ty74]
  refine callK_ret _ _ _ _ (call_pure (h21) (fun _ => rfl) (fun _ => rfl)) (ok_nil _ _) ?_
  simp -implicitDefEqProofs only [awp_draw _ _ Tryddr6_1, sc_len, sc_take, sc_zl, stB_boxA, sc_ok, splice_all,
    evx, true_and, Option.map_none, ofValue, ofCell, Option.map_some, List.range, List.range.loop, Array.size, List.length_cons, List.length_nil, List.size_toArray, Nat.reduceAdd, Nat.reduceSub, Nat.reduceEqDiff, List.getElem?_toArray, List.getElem?_cons_zero, List.getElem?_cons_succ, List.replicate, List.cons_append, List.nil_append, List.append_nil, List.set_cons_zero, List.set_cons_succ, List.getD_cons_zero, List.getD_cons_succ, decide_not, ne_eq, if_true, if_false, eq_self, ↓reduceIte, reduceCtorEq, splice_one, map_ite, elB, bind_ite, ite_ite, evParts, Option.bind_some, Option.some.injEq, Int.reduceToNat, Int.reduceLE, Int.reduceLT, Int.reduceEq, Nat.reduceMul, Nat.reduceLeDiff, Nat.reduceLT, List.drop_zero, List.take_succ_cons, List.take_zero, List.drop_succ_cons, List.take_nil, List.map_cons, List.map_nil, List.length_append, ty3, ty4, ty5, ty23, ty24, ty25, ty33, ty39, ty40, ty45, ty51, ty74]
  refine callK_ret _ _ _ _ (call_pure (ok17 p) (fun _ => rfl) (fun _ => rfl)) (ok_nil _ _) ?_
  simp -implicitDefEqProofs only [awp_draw _ _ Tryddr6_1, sc_len, sc_take, sc_zl, stB_boxA, sc_ok, splice_all,
    evx, true_and, Option.map_none, ofValue, ofCell, Option.map_some, List.range, List.range.loop, Array.size, List.length_cons, List.length_nil, List.size_toArray, Nat.reduceAdd, Nat.reduceSub, Nat.reduceEqDiff, List.getElem?_toArray, List.getElem?_cons_zero, List.getElem?_cons_succ, List.replicate, List.cons_append, List.nil_append, List.append_nil, List.set_cons_zero, List.set_cons_succ, List.getD_cons_zero, List.getD_cons_succ, decide_not, ne_eq, if_true, if_false, eq_self, ↓reduceIte, reduceCtorEq, splice_one, map_ite, elB, bind_ite, ite_ite, evParts, Option.bind_some, Option.some.injEq, Int.reduceToNat, Int.reduceLE, Int.reduceLT, Int.reduceEq, Nat.reduceMul, Nat.reduceLeDiff, Nat.reduceLT, List.drop_zero, List.take_succ_cons, List.take_zero, List.drop_succ_cons, List.take_nil, List.map_cons, List.map_nil, List.length_append, ty3, ty4, ty5, ty23, ty24, ty25, ty33, ty39, ty40, ty45, ty51, ty74]
  refine callK_ret _ _ _ _ (call_pure (h21n) (fun _ => rfl) (fun _ => rfl)) (ok_nil _ _) ?_
  simp -implicitDefEqProofs only [awp_draw _ _ Tryddr6_1, sc_len, sc_take, sc_zl, stB_boxA, sc_ok, splice_all, ha,
    evx, true_and, Option.map_none, ofValue, ofCell, Option.map_some, List.range, List.range.loop, Array.size, List.length_cons, List.length_nil, List.size_toArray, Nat.reduceAdd, Nat.reduceSub, Nat.reduceEqDiff, List.getElem?_toArray, List.getElem?_cons_zero, List.getElem?_cons_succ, List.replicate, List.cons_append, List.nil_append, List.append_nil, List.set_cons_zero, List.set_cons_succ, List.getD_cons_zero, List.getD_cons_succ, decide_not, ne_eq, if_true, if_false, eq_self, ↓reduceIte, reduceCtorEq, splice_one, map_ite, elB, bind_ite, ite_ite, evParts, Option.bind_some, Option.some.injEq, Int.reduceToNat, Int.reduceLE, Int.reduceLT, Int.reduceEq, Nat.reduceMul, Nat.reduceLeDiff, Nat.reduceLT, List.drop_zero, List.take_succ_cons, List.take_zero, List.drop_succ_cons, List.take_nil, List.map_cons, List.map_nil, List.length_append, ty3, ty4, ty5, ty23, ty24, ty25, ty33, ty39, ty40, ty45, ty51, ty74]
  exact le_flat rfl
end Go.Abs
