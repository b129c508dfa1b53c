/- Sets of bytes: the program's and the document's simple functions. -/
import Derived.Test.YtablmjophjjabaaDoorAbsU
import Derived.Test.YtablmjophjjabaaDoorBytesO
import Derived.Test.YtablmjophjjabaaDoorBytesDr
import Derived.Test.YtablmjophjjabaaDoorProg
namespace Go.Abs
open Go.Proofs
set_option linter.unusedVariables false
set_option linter.unusedSimpArgs false
set_option maxRecDepth 100000
set_option maxHeartbeats 1000000
theorem ty3 : tiOf Tryd.prog 3 = some ⟨.int .i64, 1, 8, some [.int .i64 0]⟩ := by kernel_rfl
theorem ty4 : tiOf Tryd.prog 4 = some ⟨.bool, 1, 1, some [.bool false]⟩ := by kernel_rfl
theorem ty5 : tiOf Tryd.prog 5 = some ⟨.int .u8, 1, 1, some [.int .u8 0]⟩ := by kernel_rfl
theorem ty23 : tiOf Tryd.prog 23 = some ⟨.int .u64, 1, 8, some [.int .u64 0]⟩ := by kernel_rfl
theorem ty24 : tiOf Tryd.prog 24 = some ⟨.array 4 23, 4, 32, some [.int .u64 0, .int .u64 0, .int .u64 0, .int .u64 0]⟩ := by kernel_rfl
theorem ty25 : tiOf Tryd.prog 25 = some ⟨.array 4 23, 4, 32, some [.int .u64 0, .int .u64 0, .int .u64 0, .int .u64 0]⟩ := by kernel_rfl
theorem ty33 : tiOf Tryd.prog 33 = some ⟨.slice 25, 1, 24, some [.nils]⟩ := by kernel_rfl
theorem ty39 : tiOf Tryd.prog 39 = some ⟨.slice 40, 1, 24, some [.nils]⟩ := by kernel_rfl
theorem ty40 : tiOf Tryd.prog 40 = some ⟨.slice 3, 1, 24, some [.nils]⟩ := by kernel_rfl
theorem ty45 : tiOf Tryd.prog 45 = some ⟨.array 2 25, 8, 64, some [.int .u64 0, .int .u64 0, .int .u64 0, .int .u64 0, .int .u64 0, .int .u64 0, .int .u64 0, .int .u64 0]⟩ := by kernel_rfl
theorem ty51 : tiOf Tryd.prog 51 = some ⟨.int .u64, 1, 8, some [.int .u64 0]⟩ := by kernel_rfl
theorem ty74 : tiOf Tryd.prog 74 = some ⟨.array 64 5, 64, 64, some [.int .u8 0, .int .u8 0, .int .u8 0, .int .u8 0, .int .u8 0, .int .u8 0, .int .u8 0, .int .u8 0, .int .u8 0, .int .u8 0, .int .u8 0, .int .u8 0, .int .u8 0, .int .u8 0, .int .u8 0, .int .u8 0, .int .u8 0, .int .u8 0, .int .u8 0, .int .u8 0, .int .u8 0, .int .u8 0, .int .u8 0, .int .u8 0, .int .u8 0, .int .u8 0, .int .u8 0, .int .u8 0, .int .u8 0, .int .u8 0, .int .u8 0, .int .u8 0, .int .u8 0, .int .u8 0, .int .u8 0, .int .u8 0, .int .u8 0, .int .u8 0, .int .u8 0, .int .u8 0, .int .u8 0, .int .u8 0, .int .u8 0, .int .u8 0, .int .u8 0, .int .u8 0, .int .u8 0, .int .u8 0, .int .u8 0, .int .u8 0, .int .u8 0, .int .u8 0, .int .u8 0, .int .u8 0, .int .u8 0, .int .u8 0, .int .u8 0, .int .u8 0, .int .u8 0, .int .u8 0, .int .u8 0, .int .u8 0, .int .u8 0, .int .u8 0]⟩ := by kernel_rfl
theorem mix : Tryd.prog.follows .mixedOrders = true := by kernel_rfl
theorem wrap_small {n : Int} (h1 : -9223372036854775808 ≤ n) (h2 : n ≤ 9223372036854775807) : IntKind.wrap .i64 n = n := by
  simp only [IntKind.wrap, IntKind.signed, IntKind.bits]
  simp
  omega
theorem wrapn (n : Nat) (h : n < 4611686018427387904) : IntKind.wrap .i64 (n : Int) = n := wrap_small (by omega) (by omega)
theorem wrap_u8 {n : Nat} (h : n < 256) : IntKind.wrap .u8 (n : Int) = n := by
  simp only [IntKind.wrap, IntKind.signed, IntKind.bits]
  simp
  omega
/-- A set as a value's cells. -/
def sc (p : Nat → Bool) : List AV := [.fv (.int .u64 (wd p 0)), .fv (.int .u64 (wd p 1)), .fv (.int .u64 (wd p 2)), .fv (.int .u64 (wd p 3))]
theorem sc_len (p : Nat → Bool) : (sc p).length = 4 := rfl
theorem sc_take (p : Nat → Bool) : (sc p).take 4 = sc p := rfl
theorem sc_ok (p : Nat → Bool) : (sc p).all okCell = true := rfl
theorem sc_get (p : Nat → Bool) (i : Nat) (h : i < 4) : (sc p)[i]? = some (.fv (.int .u64 (wd p i))) := by
  match i, h with
  | 0, _ => rfl
  | 1, _ => rfl
  | 2, _ => rfl
  | 3, _ => rfl
theorem sc_congr {p q : Nat → Bool} (h : ∀ b, b < 256 → p b = q b) : sc p = sc q := by
  simp only [sc]
  rw [wd_congr (p := p) (q := q) (i := 0) fun j hj => h _ (by omega), wd_congr (p := p) (q := q) (i := 1) fun j hj => h _ (by omega),
    wd_congr (p := p) (q := q) (i := 2) fun j hj => h _ (by omega), wd_congr (p := p) (q := q) (i := 3) fun j hj => h _ (by omega)]
theorem sc_set (p q : Nat → Bool) (i : Nat) (hi : i < 4) (h : ∀ b, b < 256 → b / 64 ≠ i → p b = q b) : (sc p).set i (.fv (.int .u64 (wd q i))) = sc q := by
  have hw : ∀ k, k < 4 → k ≠ i → wd p k = wd q k := fun k hk hki => wd_congr fun j hj => h _ (by omega) (by omega)
  match i, hi with
  | 0, _ => simp [sc, hw 1 (by omega) (by omega), hw 2 (by omega) (by omega), hw 3 (by omega) (by omega)]
  | 1, _ => simp [sc, hw 0 (by omega) (by omega), hw 2 (by omega) (by omega), hw 3 (by omega) (by omega)]
  | 2, _ => simp [sc, hw 1 (by omega) (by omega), hw 0 (by omega) (by omega), hw 3 (by omega) (by omega)]
  | 3, _ => simp [sc, hw 1 (by omega) (by omega), hw 2 (by omega) (by omega), hw 0 (by omega) (by omega)]
theorem sc_zero : sc (fun _ => false) = [.fv (.int .u64 0), .fv (.int .u64 0), .fv (.int .u64 0), .fv (.int .u64 0)] := by
  simp [sc, wd_zero]
theorem sc_zero' : List.map AV.fv [.int .u64 0, .int .u64 0, .int .u64 0, .int .u64 0] = sc (fun _ => false) := by
  rw [sc_zero]; rfl
theorem sc_zl : [AV.fv (.int .u64 0), .fv (.int .u64 0), .fv (.int .u64 0), .fv (.int .u64 0)] = sc (fun _ => false) := sc_zero.symm
theorem shr_wd (x k : Nat) (hk : k < 64) : shiftA .shr .u64 (x : Int) (k : Int) = some (.int .u64 ((x >>> k : Nat) : Int)) := by
  have h1 : ¬ ((k : Int) < 0) := by omega
  have h2 : min k 64 = k := by omega
  simp only [shiftA, h1, if_false, Int.toNat_natCast, IntKind.bits, h2]
  have h3 : (2 : Int) ^ k = ((2 ^ k : Nat) : Int) := by simp
  rw [Nat.shiftRight_eq_div_pow, h3, Int.fdiv_eq_ediv_of_nonneg _ (Int.natCast_nonneg _)]
  rfl
theorem shl_one (k : Nat) (hk : k < 64) : shiftA .shl .u64 1 (k : Int) = some (.int .u64 ((2 ^ k : Nat) : Int)) := by
  have h1 : ¬ ((k : Int) < 0) := by omega
  have h2 : min k 64 = k := by omega
  simp only [shiftA, h1, if_false, Int.toNat_natCast, IntKind.bits, h2]
  have h3 : (2 : Nat) ^ k < 18446744073709551616 := Nat.pow_lt_pow_right (n := 64) (by omega) hk
  have h4 : (1 : Int) * 2 ^ k = ((2 ^ k : Nat) : Int) := by simp
  rw [h4, wrap_u64 h3]
theorem and1_u64 (x : Nat) (hx : x < 18446744073709551616) : intBits .and .u64 (x : Int) 1 = some ((x % 2 : Nat) : Int) := by
  have h := and_u64 hx (y := 1) (by omega)
  rw [Nat.and_one_is_mod] at h
  exact h
theorem shr_lt {x : Nat} (k : Nat) (hx : x < 18446744073709551616) : x >>> k < 18446744073709551616 := by
  rw [Nat.shiftRight_eq_div_pow]
  exact Nat.lt_of_le_of_lt (Nat.div_le_self _ _) hx
theorem test_mod (x k : Nat) : decide (((x >>> k % 2 : Nat) : Int) = 1) = x.testBit k := by
  rw [Nat.testBit_eq_decide_div_mod_eq, ← Nat.shiftRight_eq_div_pow, decide_eq_decide]
  omega
theorem wd_bit (p : Nat → Bool) (b : Nat) (hb : b < 256) : (wd p (b / 64)).testBit (b % 64) = p b := by
  rw [wd_test _ _ _ (Nat.mod_lt _ (by omega)), show 64 * (b / 64) + b % 64 = b from by omega]
theorem ok25 (p : Nat → Bool) (b : Nat) (hb : b < 256) : Ok Tryd.prog 25 [.agg (sc p), .fv (.int .u8 b)] [] (.ret (.fv (.bool (p b)))) [] := by
  have hq : IntKind.wrap .u8 ((b : Int).tdiv 64) = ((b / 64 : Nat) : Int) := by
    rw [show ((b : Int).tdiv 64) = ((b / 64 : Nat) : Int) from by rw [Int.tdiv_eq_ediv_of_nonneg (by omega)]; rfl, wrap_u8 (by omega)]
  have hr : (b : Int).tmod 64 = ((b % 64 : Nat) : Int) := by rw [Int.tmod_eq_emod_of_nonneg (by omega)]; rfl
  have hi : (((b / 64 : Nat) : Int) < 4) = True := by simp; omega
  have hg := sc_get p (b / 64) (by omega)
  have hk : b % 64 < 64 := Nat.mod_lt _ (by omega)
  have hs := shr_wd (wd p (b / 64)) (b % 64) hk
  have ha := and1_u64 _ (shr_lt (b % 64) (wd_lt p (b / 64)))
  have ht := test_mod (wd p (b / 64)) (b % 64)
  rw [wd_bit p b hb] at ht
  generalize hx : wd p (b / 64) >>> (b % 64) = x at *
  refine ok_start (k := 12) (n0 := 0) (rs := [.tmp 4]) mix Tryd.func25 rfl rfl rfl rfl rfl rfl rfl ?_
  simp -implicitDefEqProofs only [bin_quo, bin_rem, hq, hr, hi, hg, bin_shr hs, bin_and ha, ht,
    evx, true_and, Option.map_none, ofValue, ofCell, Option.map_some, List.range, List.range.loop, Array.size, List.length_cons, List.length_nil, List.size_toArray, Nat.reduceAdd, Nat.reduceSub, Nat.reduceEqDiff, List.getElem?_toArray, List.getElem?_cons_zero, List.getElem?_cons_succ, List.replicate, List.cons_append, List.nil_append, List.append_nil, List.set_cons_zero, List.set_cons_succ, List.getD_cons_zero, List.getD_cons_succ, decide_not, ne_eq, if_true, if_false, eq_self, ↓reduceIte, reduceCtorEq, splice_one, map_ite, elB, bind_ite, ite_ite, evParts, Option.bind_some, Option.some.injEq, Int.reduceToNat, Int.reduceLE, Int.reduceLT, Int.reduceEq, Nat.reduceMul, Nat.reduceLeDiff, Nat.reduceLT, List.drop_zero, List.take_succ_cons, List.take_zero, List.drop_succ_cons, List.take_nil, List.map_cons, List.map_nil, List.length_append, ty3, ty4, ty5, ty23, ty24, ty25, ty33, ty39, ty40, ty45, ty51, ty74]
  exact ⟨by omega, le_flat rfl⟩
theorem ok26 (p : Nat → Bool) (b : Nat) (hb : b < 256) : Ok Tryd.prog 26 [.agg (sc p), .fv (.int .i64 b)] [] (.ret (.fv (.bool (p b)))) [] := by
  have hq : IntKind.wrap .i64 ((b : Int).tdiv 64) = ((b / 64 : Nat) : Int) := by
    rw [show ((b : Int).tdiv 64) = ((b / 64 : Nat) : Int) from by rw [Int.tdiv_eq_ediv_of_nonneg (by omega)]; rfl, wrapn _ (by omega)]
  have hr : (b : Int).tmod 64 = ((b % 64 : Nat) : Int) := by rw [Int.tmod_eq_emod_of_nonneg (by omega)]; rfl
  have hk : b % 64 < 64 := Nat.mod_lt _ (by omega)
  have hwr : IntKind.wrap .u64 ((b % 64 : Nat) : Int) = ((b % 64 : Nat) : Int) := wrap_u64 (by omega)
  have hg := sc_get p (b / 64) (by omega)
  have hs := shl_one (b % 64) hk
  have hne : ((2 ^ (b % 64) : Nat) : Int) ≠ 0 := by
    have := Nat.two_pow_pos (b % 64)
    omega
  have hd : IntKind.wrap .u64 ((wd p (b / 64) : Int).tdiv ((2 ^ (b % 64) : Nat) : Int)) = ((wd p (b / 64) >>> (b % 64) : Nat) : Int) := by
    rw [Int.tdiv_eq_ediv_of_nonneg (Int.natCast_nonneg _), Nat.shiftRight_eq_div_pow]
    exact wrap_u64 (Nat.lt_of_le_of_lt (Nat.div_le_self _ _) (wd_lt p _))
  have hm : ((wd p (b / 64) >>> (b % 64) : Nat) : Int).tmod 2 = ((wd p (b / 64) >>> (b % 64) % 2 : Nat) : Int) := by rw [Int.tmod_eq_emod_of_nonneg (Int.natCast_nonneg _)]; rfl
  have ht := test_mod (wd p (b / 64)) (b % 64)
  rw [wd_bit p b hb] at ht
  generalize hx : wd p (b / 64) >>> (b % 64) = x at *
  generalize hy : ((2 ^ (b % 64) : Nat) : Int) = y at *
  refine ok_start (k := 14) (n0 := 0) (rs := [.tmp 4]) mix Tryd.func26 rfl rfl rfl rfl rfl rfl rfl ?_
  simp -implicitDefEqProofs only [bin_quo, bin_rem, hq, hr, hg, convT_int, hwr, bin_shl hs, hne, hd, hm, ht,
    evx, true_and, Option.map_none, ofValue, ofCell, Option.map_some, List.range, List.range.loop, Array.size, List.length_cons, List.length_nil, List.size_toArray, Nat.reduceAdd, Nat.reduceSub, Nat.reduceEqDiff, List.getElem?_toArray, List.getElem?_cons_zero, List.getElem?_cons_succ, List.replicate, List.cons_append, List.nil_append, List.append_nil, List.set_cons_zero, List.set_cons_succ, List.getD_cons_zero, List.getD_cons_succ, decide_not, ne_eq, if_true, if_false, eq_self, ↓reduceIte, reduceCtorEq, splice_one, map_ite, elB, bind_ite, ite_ite, evParts, Option.bind_some, Option.some.injEq, Int.reduceToNat, Int.reduceLE, Int.reduceLT, Int.reduceEq, Nat.reduceMul, Nat.reduceLeDiff, Nat.reduceLT, List.drop_zero, List.take_succ_cons, List.take_zero, List.drop_succ_cons, List.take_nil, List.map_cons, List.map_nil, List.length_append, ty3, ty4, ty5, ty23, ty24, ty25, ty33, ty39, ty40, ty45, ty51, ty74]
  exact ⟨by omega, le_flat rfl⟩
/-- A set and one more. -/
def putP (p : Nat → Bool) (b : Nat) : Nat → Bool := fun c => p c || c == b
theorem bits_put (p : Nat → Bool) (k : Nat) : ∀ n, k < n → p k = false → bits (fun c => p c || c == k) n = bits p n + 2 ^ k
  | 0, h, _ => by omega
  | n + 1, h, hp => by
    rw [bits, bits]
    by_cases e : k = n
    · subst e
      have h1 : bits (fun c => p c || c == k) k = bits p k := bits_congr k fun j hj => by
        have : ¬ j = k := by omega
        simp [this]
      simp [h1, hp]
    · rw [bits_put p k n (by omega) hp]
      have h2 : (n == k) = false := by simp; omega
      rw [h2, Bool.or_false]
      omega
theorem wd_put (p : Nat → Bool) (b : Nat) (hb : b < 256) (hp : p b = false) : wd p (b / 64) + 2 ^ (b % 64) = wd (putP p b) (b / 64) := by
  have hk : b % 64 < 64 := Nat.mod_lt _ (by omega)
  have e : 64 * (b / 64) + b % 64 = b := by omega
  rw [wd, wd, ← bits_put (fun j => p (64 * (b / 64) + j)) (b % 64) 64 hk (by simp only [e]; exact hp)]
  refine bits_congr _ fun j hj => ?_
  simp only [putP]
  by_cases h : j = b % 64
  · subst h; simp [e]
  · have h1 : (j == b % 64) = false := by simpa using h
    have h2 : (64 * (b / 64) + j == b) = false := by simp; omega
    rw [h1, h2]
theorem put_out (p : Nat → Bool) (b c : Nat) (h : c / 64 ≠ b / 64) : p c = putP p b c := by
  have : ¬ c = b := fun e => h (by rw [e])
  simp [putP, this]
theorem ok31 (p : Nat → Bool) (b : Nat) (hb : b < 256) : Ok Tryd.prog 31 [.agg (sc p), .fv (.int .i64 b)] [] (.ret (.agg (sc (putP p b)))) [] := by
  have hk : b % 64 < 64 := Nat.mod_lt _ (by omega)
  cases hp : p b with
  | true =>
    have e : sc (putP p b) = sc p := sc_congr fun c hc => by
      by_cases h : c = b
      · subst h; simp [putP, hp]
      · simp [putP, h]
    have h26 := ok26 p b hb
    rw [hp] at h26
    rw [e]
    refine ok_start (k := 20) (n0 := 0) (rs := [.cell 4 25]) mix Tryd.func31 rfl rfl rfl rfl rfl rfl rfl ?_
    simp -implicitDefEqProofs only [sc_len, sc_take, sc_zero',
    evx, true_and, Option.map_none, ofValue, ofCell, Option.map_some, List.range, List.range.loop, Array.size, List.length_cons, List.length_nil, List.size_toArray, Nat.reduceAdd, Nat.reduceSub, Nat.reduceEqDiff, List.getElem?_toArray, List.getElem?_cons_zero, List.getElem?_cons_succ, List.replicate, List.cons_append, List.nil_append, List.append_nil, List.set_cons_zero, List.set_cons_succ, List.getD_cons_zero, List.getD_cons_succ, decide_not, ne_eq, if_true, if_false, eq_self, ↓reduceIte, reduceCtorEq, splice_one, map_ite, elB, bind_ite, ite_ite, evParts, Option.bind_some, Option.some.injEq, Int.reduceToNat, Int.reduceLE, Int.reduceLT, Int.reduceEq, Nat.reduceMul, Nat.reduceLeDiff, Nat.reduceLT, List.drop_zero, List.take_succ_cons, List.take_zero, List.drop_succ_cons, List.take_nil, List.map_cons, List.map_nil, List.length_append, ty3, ty4, ty5, ty23, ty24, ty25, ty33, ty39, ty40, ty45, ty51, ty74]
    refine callK_ret _ _ _ _ (call_pure (h26) (fun _ => rfl) (fun _ => rfl)) (ok_nil _ _) ?_
    simp -implicitDefEqProofs only [sc_len, sc_take, stB_boxA, sc_ok, splice_all,
    evx, true_and, Option.map_none, ofValue, ofCell, Option.map_some, List.range, List.range.loop, Array.size, List.length_cons, List.length_nil, List.size_toArray, Nat.reduceAdd, Nat.reduceSub, Nat.reduceEqDiff, List.getElem?_toArray, List.getElem?_cons_zero, List.getElem?_cons_succ, List.replicate, List.cons_append, List.nil_append, List.append_nil, List.set_cons_zero, List.set_cons_succ, List.getD_cons_zero, List.getD_cons_succ, decide_not, ne_eq, if_true, if_false, eq_self, ↓reduceIte, reduceCtorEq, splice_one, map_ite, elB, bind_ite, ite_ite, evParts, Option.bind_some, Option.some.injEq, Int.reduceToNat, Int.reduceLE, Int.reduceLT, Int.reduceEq, Nat.reduceMul, Nat.reduceLeDiff, Nat.reduceLT, List.drop_zero, List.take_succ_cons, List.take_zero, List.drop_succ_cons, List.take_nil, List.map_cons, List.map_nil, List.length_append, ty3, ty4, ty5, ty23, ty24, ty25, ty33, ty39, ty40, ty45, ty51, ty74]
    exact le_flat rfl
  | false =>
    have hq : IntKind.wrap .i64 ((b : Int).tdiv 64) = ((b / 64 : Nat) : Int) := by
      rw [show ((b : Int).tdiv 64) = ((b / 64 : Nat) : Int) from by rw [Int.tdiv_eq_ediv_of_nonneg (by omega)]; rfl, wrapn _ (by omega)]
    have hr : (b : Int).tmod 64 = ((b % 64 : Nat) : Int) := by rw [Int.tmod_eq_emod_of_nonneg (by omega)]; rfl
    have hwr : IntKind.wrap .u64 ((b % 64 : Nat) : Int) = ((b % 64 : Nat) : Int) := wrap_u64 (by omega)
    have hg := sc_get p (b / 64) (by omega)
    have hs := shl_one (b % 64) hk
    have hw := wd_put p b hb hp
    have ha : IntKind.wrap .u64 ((wd p (b / 64) : Int) + ((2 ^ (b % 64) : Nat) : Int)) = (wd (putP p b) (b / 64) : Int) := by
      rw [← hw, ← wrap_u64 (n := wd p (b / 64) + 2 ^ (b % 64)) (by rw [hw]; exact wd_lt _ _)]
      rfl
    have hset := sc_set p (putP p b) (b / 64) (by omega) fun c _ h => put_out p b c h
    have h26 := ok26 p b hb
    rw [hp] at h26
    have hlt : (b / 64 < 4) = True := by simp; omega
    generalize hy : ((2 ^ (b % 64) : Nat) : Int) = y at *
    refine ok_start (k := 20) (n0 := 0) (rs := [.cell 4 25]) mix Tryd.func31 rfl rfl rfl rfl rfl rfl rfl ?_
    simp -implicitDefEqProofs only [sc_len, sc_take, sc_zero',
    evx, true_and, Option.map_none, ofValue, ofCell, Option.map_some, List.range, List.range.loop, Array.size, List.length_cons, List.length_nil, List.size_toArray, Nat.reduceAdd, Nat.reduceSub, Nat.reduceEqDiff, List.getElem?_toArray, List.getElem?_cons_zero, List.getElem?_cons_succ, List.replicate, List.cons_append, List.nil_append, List.append_nil, List.set_cons_zero, List.set_cons_succ, List.getD_cons_zero, List.getD_cons_succ, decide_not, ne_eq, if_true, if_false, eq_self, ↓reduceIte, reduceCtorEq, splice_one, map_ite, elB, bind_ite, ite_ite, evParts, Option.bind_some, Option.some.injEq, Int.reduceToNat, Int.reduceLE, Int.reduceLT, Int.reduceEq, Nat.reduceMul, Nat.reduceLeDiff, Nat.reduceLT, List.drop_zero, List.take_succ_cons, List.take_zero, List.drop_succ_cons, List.take_nil, List.map_cons, List.map_nil, List.length_append, ty3, ty4, ty5, ty23, ty24, ty25, ty33, ty39, ty40, ty45, ty51, ty74]
    refine callK_ret _ _ _ _ (call_pure (h26) (fun _ => rfl) (fun _ => rfl)) (ok_nil _ _) ?_
    simp -implicitDefEqProofs only [bin_quo, bin_rem, hq, hr, hg, convT_int, hwr, bin_shl hs, ha, hset, hlt, sc_len, sc_take, stB_boxA, sc_ok, splice_all,
    evx, true_and, Option.map_none, ofValue, ofCell, Option.map_some, List.range, List.range.loop, Array.size, List.length_cons, List.length_nil, List.size_toArray, Nat.reduceAdd, Nat.reduceSub, Nat.reduceEqDiff, List.getElem?_toArray, List.getElem?_cons_zero, List.getElem?_cons_succ, List.replicate, List.cons_append, List.nil_append, List.append_nil, List.set_cons_zero, List.set_cons_succ, List.getD_cons_zero, List.getD_cons_succ, decide_not, ne_eq, if_true, if_false, eq_self, ↓reduceIte, reduceCtorEq, splice_one, map_ite, elB, bind_ite, ite_ite, evParts, Option.bind_some, Option.some.injEq, Int.reduceToNat, Int.reduceLE, Int.reduceLT, Int.reduceEq, Nat.reduceMul, Nat.reduceLeDiff, Nat.reduceLT, List.drop_zero, List.take_succ_cons, List.take_zero, List.drop_succ_cons, List.take_nil, List.map_cons, List.map_nil, List.length_append, ty3, ty4, ty5, ty23, ty24, ty25, ty33, ty39, ty40, ty45, ty51, ty74]
    exact ⟨by omega, by omega, le_flat rfl⟩
theorem ok13 (p q : Nat → Bool) : Ok Tryd.prog 13 [.agg (sc p), .agg (sc q)] [] (.ret (.agg (sc (fun b => p b || q b)))) [] := by
  refine ok_start (k := 18) (n0 := 0) (rs := [.cell 4 25]) mix Tryd.func13 rfl rfl rfl rfl rfl rfl rfl ?_
  simp -implicitDefEqProofs only [sc_len, sc_take, sc_zero',
    evx, true_and, Option.map_none, ofValue, ofCell, Option.map_some, List.range, List.range.loop, Array.size, List.length_cons, List.length_nil, List.size_toArray, Nat.reduceAdd, Nat.reduceSub, Nat.reduceEqDiff, List.getElem?_toArray, List.getElem?_cons_zero, List.getElem?_cons_succ, List.replicate, List.cons_append, List.nil_append, List.append_nil, List.set_cons_zero, List.set_cons_succ, List.getD_cons_zero, List.getD_cons_succ, decide_not, ne_eq, if_true, if_false, eq_self, ↓reduceIte, reduceCtorEq, splice_one, map_ite, elB, bind_ite, ite_ite, evParts, Option.bind_some, Option.some.injEq, Int.reduceToNat, Int.reduceLE, Int.reduceLT, Int.reduceEq, Nat.reduceMul, Nat.reduceLeDiff, Nat.reduceLT, List.drop_zero, List.take_succ_cons, List.take_zero, List.drop_succ_cons, List.take_nil, List.map_cons, List.map_nil, List.length_append, ty3, ty4, ty5, ty23, ty24, ty25, ty33, ty39, ty40, ty45, ty51, ty74]
  refine loop_rule (fun i : Nat => ⟨[.any, .any, .ptr 0 0 0 0, .any, .ptr 2 0 0 0, .any, .any, .agg (sc q), .fv (.int .i64 i), .any, .any, .any, .any, .any, .any, .any, .any, .any, .any, .any], [.box (sc (fun b => if b / 64 < i then p b || q b else p b)), .box (sc q), .box (sc fun _ => false)], []⟩)
    (fun i => i ≤ 4) (fun i => 4 - i) 0 (le_wk (by simp [wk])) (by simp) (fun i hi s hs => ?_)
  by_cases h4 : i < 4
  · have hc : ((i : Int) < 4) = True := by simp; omega
    have hlt : (i < 4) = True := by simp; omega
    have hg := sc_get (fun b => if b / 64 < i then p b || q b else p b) i h4
    have hgq := sc_get q i h4
    have hw : IntKind.wrap .i64 ((i : Int) + 1) = ((i + 1 : Nat) : Int) := wrap_small (by omega) (by omega)
    have ho := or_wd (fun b => if b / 64 < i then p b || q b else p b) q i
    have he : wd (fun b => (if b / 64 < i then p b || q b else p b) || q b) i = wd (fun b => if b / 64 < i + 1 then p b || q b else p b) i := wd_congr fun j hj => by
      have h1 : ¬ (64 * i + j) / 64 < i := by omega
      have h2 : (64 * i + j) / 64 < i + 1 := by omega
      simp [h1, h2]
    rw [he] at ho
    have hset := sc_set (fun b => if b / 64 < i then p b || q b else p b) (fun b => if b / 64 < i + 1 then p b || q b else p b) i h4 fun b _ h => by
      by_cases h1 : b / 64 < i
      · have h2 : b / 64 < i + 1 := by omega
        simp [h1, h2]
      · have h2 : ¬ b / 64 < i + 1 := by omega
        simp [h1, h2]
    simp -implicitDefEqProofs only [hc, hg, hgq, bin_or ho, hset, hlt, sc_len, hw,
    evx, true_and, Option.map_none, ofValue, ofCell, Option.map_some, List.range, List.range.loop, Array.size, List.length_cons, List.length_nil, List.size_toArray, Nat.reduceAdd, Nat.reduceSub, Nat.reduceEqDiff, List.getElem?_toArray, List.getElem?_cons_zero, List.getElem?_cons_succ, List.replicate, List.cons_append, List.nil_append, List.append_nil, List.set_cons_zero, List.set_cons_succ, List.getD_cons_zero, List.getD_cons_succ, decide_not, ne_eq, if_true, if_false, eq_self, ↓reduceIte, reduceCtorEq, splice_one, map_ite, elB, bind_ite, ite_ite, evParts, Option.bind_some, Option.some.injEq, Int.reduceToNat, Int.reduceLE, Int.reduceLT, Int.reduceEq, Nat.reduceMul, Nat.reduceLeDiff, Nat.reduceLT, List.drop_zero, List.take_succ_cons, List.take_zero, List.drop_succ_cons, List.take_nil, List.map_cons, List.map_nil, List.length_append, ty3, ty4, ty5, ty23, ty24, ty25, ty33, ty39, ty40, ty45, ty51, ty74]
    refine ⟨by omega, by omega, by omega, ?_⟩
    exact back_intro hs (i + 1) (le_wk (by simp [wk])) (by omega) (by omega)
  · have hc : ((i : Int) < 4) = False := by simp; omega
    have e : sc (fun b => if b / 64 < i then p b || q b else p b) = sc (fun b => p b || q b) := sc_congr fun b hb => by
      have : b / 64 < i := by omega
      simp [this]
    simp -implicitDefEqProofs only [hc, sc_len, sc_take, stB_boxA, sc_ok, splice_all, e,
    evx, true_and, Option.map_none, ofValue, ofCell, Option.map_some, List.range, List.range.loop, Array.size, List.length_cons, List.length_nil, List.size_toArray, Nat.reduceAdd, Nat.reduceSub, Nat.reduceEqDiff, List.getElem?_toArray, List.getElem?_cons_zero, List.getElem?_cons_succ, List.replicate, List.cons_append, List.nil_append, List.append_nil, List.set_cons_zero, List.set_cons_succ, List.getD_cons_zero, List.getD_cons_succ, decide_not, ne_eq, if_true, if_false, eq_self, ↓reduceIte, reduceCtorEq, splice_one, map_ite, elB, bind_ite, ite_ite, evParts, Option.bind_some, Option.some.injEq, Int.reduceToNat, Int.reduceLE, Int.reduceLT, Int.reduceEq, Nat.reduceMul, Nat.reduceLeDiff, Nat.reduceLT, List.drop_zero, List.take_succ_cons, List.take_zero, List.drop_succ_cons, List.take_nil, List.map_cons, List.map_nil, List.length_append, ty3, ty4, ty5, ty23, ty24, ty25, ty33, ty39, ty40, ty45, ty51, ty74]
    exact le_flat rfl
theorem ok15 (p q : Nat → Bool) : Ok Tryd.prog 15 [.agg (sc p), .agg (sc q)] [] (.ret (.agg (sc (fun b => p b && q b)))) [] := by
  refine ok_start (k := 18) (n0 := 0) (rs := [.cell 4 25]) mix Tryd.func15 rfl rfl rfl rfl rfl rfl rfl ?_
  simp -implicitDefEqProofs only [sc_len, sc_take, sc_zero',
    evx, true_and, Option.map_none, ofValue, ofCell, Option.map_some, List.range, List.range.loop, Array.size, List.length_cons, List.length_nil, List.size_toArray, Nat.reduceAdd, Nat.reduceSub, Nat.reduceEqDiff, List.getElem?_toArray, List.getElem?_cons_zero, List.getElem?_cons_succ, List.replicate, List.cons_append, List.nil_append, List.append_nil, List.set_cons_zero, List.set_cons_succ, List.getD_cons_zero, List.getD_cons_succ, decide_not, ne_eq, if_true, if_false, eq_self, ↓reduceIte, reduceCtorEq, splice_one, map_ite, elB, bind_ite, ite_ite, evParts, Option.bind_some, Option.some.injEq, Int.reduceToNat, Int.reduceLE, Int.reduceLT, Int.reduceEq, Nat.reduceMul, Nat.reduceLeDiff, Nat.reduceLT, List.drop_zero, List.take_succ_cons, List.take_zero, List.drop_succ_cons, List.take_nil, List.map_cons, List.map_nil, List.length_append, ty3, ty4, ty5, ty23, ty24, ty25, ty33, ty39, ty40, ty45, ty51, ty74]
  refine loop_rule (fun i : Nat => ⟨[.any, .any, .ptr 0 0 0 0, .any, .ptr 2 0 0 0, .any, .any, .agg (sc q), .fv (.int .i64 i), .any, .any, .any, .any, .any, .any, .any, .any, .any, .any, .any], [.box (sc (fun b => if b / 64 < i then p b && q b else p b)), .box (sc q), .box (sc fun _ => false)], []⟩)
    (fun i => i ≤ 4) (fun i => 4 - i) 0 (le_wk (by simp [wk])) (by simp) (fun i hi s hs => ?_)
  by_cases h4 : i < 4
  · have hc : ((i : Int) < 4) = True := by simp; omega
    have hlt : (i < 4) = True := by simp; omega
    have hg := sc_get (fun b => if b / 64 < i then p b && q b else p b) i h4
    have hgq := sc_get q i h4
    have hw : IntKind.wrap .i64 ((i : Int) + 1) = ((i + 1 : Nat) : Int) := wrap_small (by omega) (by omega)
    have ho := and_wd (fun b => if b / 64 < i then p b && q b else p b) q i
    have he : wd (fun b => (if b / 64 < i then p b && q b else p b) && q b) i = wd (fun b => if b / 64 < i + 1 then p b && q b else p b) i := wd_congr fun j hj => by
      have h1 : ¬ (64 * i + j) / 64 < i := by omega
      have h2 : (64 * i + j) / 64 < i + 1 := by omega
      simp [h1, h2]
    rw [he] at ho
    have hset := sc_set (fun b => if b / 64 < i then p b && q b else p b) (fun b => if b / 64 < i + 1 then p b && q b else p b) i h4 fun b _ h => by
      by_cases h1 : b / 64 < i
      · have h2 : b / 64 < i + 1 := by omega
        simp [h1, h2]
      · have h2 : ¬ b / 64 < i + 1 := by omega
        simp [h1, h2]
    simp -implicitDefEqProofs only [hc, hg, hgq, bin_and ho, hset, hlt, sc_len, hw,
    evx, true_and, Option.map_none, ofValue, ofCell, Option.map_some, List.range, List.range.loop, Array.size, List.length_cons, List.length_nil, List.size_toArray, Nat.reduceAdd, Nat.reduceSub, Nat.reduceEqDiff, List.getElem?_toArray, List.getElem?_cons_zero, List.getElem?_cons_succ, List.replicate, List.cons_append, List.nil_append, List.append_nil, List.set_cons_zero, List.set_cons_succ, List.getD_cons_zero, List.getD_cons_succ, decide_not, ne_eq, if_true, if_false, eq_self, ↓reduceIte, reduceCtorEq, splice_one, map_ite, elB, bind_ite, ite_ite, evParts, Option.bind_some, Option.some.injEq, Int.reduceToNat, Int.reduceLE, Int.reduceLT, Int.reduceEq, Nat.reduceMul, Nat.reduceLeDiff, Nat.reduceLT, List.drop_zero, List.take_succ_cons, List.take_zero, List.drop_succ_cons, List.take_nil, List.map_cons, List.map_nil, List.length_append, ty3, ty4, ty5, ty23, ty24, ty25, ty33, ty39, ty40, ty45, ty51, ty74]
    refine ⟨by omega, by omega, by omega, ?_⟩
    exact back_intro hs (i + 1) (le_wk (by simp [wk])) (by omega) (by omega)
  · have hc : ((i : Int) < 4) = False := by simp; omega
    have e : sc (fun b => if b / 64 < i then p b && q b else p b) = sc (fun b => p b && q b) := sc_congr fun b hb => by
      have : b / 64 < i := by omega
      simp [this]
    simp -implicitDefEqProofs only [hc, sc_len, sc_take, stB_boxA, sc_ok, splice_all, e,
    evx, true_and, Option.map_none, ofValue, ofCell, Option.map_some, List.range, List.range.loop, Array.size, List.length_cons, List.length_nil, List.size_toArray, Nat.reduceAdd, Nat.reduceSub, Nat.reduceEqDiff, List.getElem?_toArray, List.getElem?_cons_zero, List.getElem?_cons_succ, List.replicate, List.cons_append, List.nil_append, List.append_nil, List.set_cons_zero, List.set_cons_succ, List.getD_cons_zero, List.getD_cons_succ, decide_not, ne_eq, if_true, if_false, eq_self, ↓reduceIte, reduceCtorEq, splice_one, map_ite, elB, bind_ite, ite_ite, evParts, Option.bind_some, Option.some.injEq, Int.reduceToNat, Int.reduceLE, Int.reduceLT, Int.reduceEq, Nat.reduceMul, Nat.reduceLeDiff, Nat.reduceLT, List.drop_zero, List.take_succ_cons, List.take_zero, List.drop_succ_cons, List.take_nil, List.map_cons, List.map_nil, List.length_append, ty3, ty4, ty5, ty23, ty24, ty25, ty33, ty39, ty40, ty45, ty51, ty74]
    exact le_flat rfl
theorem ok17 (p : Nat → Bool) : Ok Tryd.prog 17 [.agg (sc p)] [] (.ret (.agg (sc (fun b => !p b)))) [] := by
  refine ok_start (k := 14) (n0 := 0) (rs := [.cell 2 25]) mix Tryd.func17 rfl rfl rfl rfl rfl rfl rfl ?_
  simp -implicitDefEqProofs only [sc_len, sc_take, sc_zero',
    evx, true_and, Option.map_none, ofValue, ofCell, Option.map_some, List.range, List.range.loop, Array.size, List.length_cons, List.length_nil, List.size_toArray, Nat.reduceAdd, Nat.reduceSub, Nat.reduceEqDiff, List.getElem?_toArray, List.getElem?_cons_zero, List.getElem?_cons_succ, List.replicate, List.cons_append, List.nil_append, List.append_nil, List.set_cons_zero, List.set_cons_succ, List.getD_cons_zero, List.getD_cons_succ, decide_not, ne_eq, if_true, if_false, eq_self, ↓reduceIte, reduceCtorEq, splice_one, map_ite, elB, bind_ite, ite_ite, evParts, Option.bind_some, Option.some.injEq, Int.reduceToNat, Int.reduceLE, Int.reduceLT, Int.reduceEq, Nat.reduceMul, Nat.reduceLeDiff, Nat.reduceLT, List.drop_zero, List.take_succ_cons, List.take_zero, List.drop_succ_cons, List.take_nil, List.map_cons, List.map_nil, List.length_append, ty3, ty4, ty5, ty23, ty24, ty25, ty33, ty39, ty40, ty45, ty51, ty74]
  refine loop_rule (fun i : Nat => ⟨[.any, .ptr 0 0 0 0, .ptr 1 0 0 0, .any, .fv (.int .i64 i), .any, .any, .any, .any, .any, .any, .any, .any, .any, .any], [.box (sc (fun b => if b / 64 < i then !p b else p b)), .box (sc fun _ => false)], []⟩)
    (fun i => i ≤ 4) (fun i => 4 - i) 0 (le_wk (by simp [wk])) (by simp) (fun i hi s hs => ?_)
  by_cases h4 : i < 4
  · have hc : ((i : Int) < 4) = True := by simp; omega
    have hlt : (i < 4) = True := by simp; omega
    have hg := sc_get (fun b => if b / 64 < i then !p b else p b) i h4
    have hw : IntKind.wrap .i64 ((i : Int) + 1) = ((i + 1 : Nat) : Int) := wrap_small (by omega) (by omega)
    have ho := not_wd (fun b => if b / 64 < i then !p b else p b) i
    have he : wd (fun b => !(if b / 64 < i then !p b else p b)) i = wd (fun b => if b / 64 < i + 1 then !p b else p b) i := wd_congr fun j hj => by
      have h1 : ¬ (64 * i + j) / 64 < i := by omega
      have h2 : (64 * i + j) / 64 < i + 1 := by omega
      simp [h1, h2]
    rw [he] at ho
    have hset := sc_set (fun b => if b / 64 < i then !p b else p b) (fun b => if b / 64 < i + 1 then !p b else p b) i h4 fun b _ h => by
      by_cases h1 : b / 64 < i
      · have h2 : b / 64 < i + 1 := by omega
        simp [h1, h2]
      · have h2 : ¬ b / 64 < i + 1 := by omega
        simp [h1, h2]
    simp -implicitDefEqProofs only [hc, hg, ho, hset, hlt, sc_len, hw,
    evx, true_and, Option.map_none, ofValue, ofCell, Option.map_some, List.range, List.range.loop, Array.size, List.length_cons, List.length_nil, List.size_toArray, Nat.reduceAdd, Nat.reduceSub, Nat.reduceEqDiff, List.getElem?_toArray, List.getElem?_cons_zero, List.getElem?_cons_succ, List.replicate, List.cons_append, List.nil_append, List.append_nil, List.set_cons_zero, List.set_cons_succ, List.getD_cons_zero, List.getD_cons_succ, decide_not, ne_eq, if_true, if_false, eq_self, ↓reduceIte, reduceCtorEq, splice_one, map_ite, elB, bind_ite, ite_ite, evParts, Option.bind_some, Option.some.injEq, Int.reduceToNat, Int.reduceLE, Int.reduceLT, Int.reduceEq, Nat.reduceMul, Nat.reduceLeDiff, Nat.reduceLT, List.drop_zero, List.take_succ_cons, List.take_zero, List.drop_succ_cons, List.take_nil, List.map_cons, List.map_nil, List.length_append, ty3, ty4, ty5, ty23, ty24, ty25, ty33, ty39, ty40, ty45, ty51, ty74]
    refine ⟨by omega, by omega, ?_⟩
    exact back_intro hs (i + 1) (le_wk (by simp [wk])) (by omega) (by omega)
  · have hc : ((i : Int) < 4) = False := by simp; omega
    have e : sc (fun b => if b / 64 < i then !p b else p b) = sc (fun b => !p b) := sc_congr fun b hb => by
      have : b / 64 < i := by omega
      simp [this]
    simp -implicitDefEqProofs only [hc, sc_len, sc_take, stB_boxA, sc_ok, splice_all, e,
    evx, true_and, Option.map_none, ofValue, ofCell, Option.map_some, List.range, List.range.loop, Array.size, List.length_cons, List.length_nil, List.size_toArray, Nat.reduceAdd, Nat.reduceSub, Nat.reduceEqDiff, List.getElem?_toArray, List.getElem?_cons_zero, List.getElem?_cons_succ, List.replicate, List.cons_append, List.nil_append, List.append_nil, List.set_cons_zero, List.set_cons_succ, List.getD_cons_zero, List.getD_cons_succ, decide_not, ne_eq, if_true, if_false, eq_self, ↓reduceIte, reduceCtorEq, splice_one, map_ite, elB, bind_ite, ite_ite, evParts, Option.bind_some, Option.some.injEq, Int.reduceToNat, Int.reduceLE, Int.reduceLT, Int.reduceEq, Nat.reduceMul, Nat.reduceLeDiff, Nat.reduceLT, List.drop_zero, List.take_succ_cons, List.take_zero, List.drop_succ_cons, List.take_nil, List.map_cons, List.map_nil, List.length_append, ty3, ty4, ty5, ty23, ty24, ty25, ty33, ty39, ty40, ty45, ty51, ty74]
    exact le_flat rfl
theorem ok12 (b : Nat) (hb : b < 256) : Ok Tryd.prog 12 [.fv (.int .u8 b)] [] (.ret (.agg (sc (fun c => c == b)))) [] := by
  have hq : IntKind.wrap .u8 ((b : Int).tdiv 64) = ((b / 64 : Nat) : Int) := by
    rw [show ((b : Int).tdiv 64) = ((b / 64 : Nat) : Int) from by rw [Int.tdiv_eq_ediv_of_nonneg (by omega)]; rfl, wrap_u8 (by omega)]
  have hr : (b : Int).tmod 64 = ((b % 64 : Nat) : Int) := by rw [Int.tmod_eq_emod_of_nonneg (by omega)]; rfl
  have hs := shl_one (b % 64) (Nat.mod_lt _ (by omega))
  have hw : ((2 ^ (b % 64) : Nat) : Int) = (wd (fun c => c == b) (b / 64) : Int) := by rw [wd_one, if_pos rfl]
  rw [hw] at hs
  have hlt : (b / 64 < 4) = True := by simp; omega
  have hset := sc_set (fun _ => false) (fun c => c == b) (b / 64) (by omega) fun c _ h => by
    have : ¬ c = b := fun e => h (by rw [e])
    simp [this]
  refine ok_start (k := 10) (n0 := 0) (rs := [.cell 2 25]) mix Tryd.func12 rfl rfl rfl rfl rfl rfl rfl ?_
  simp -implicitDefEqProofs only [sc_len, sc_take, sc_zl, bin_quo, bin_rem, hq, hr, bin_shl hs, hset, hlt, stB_boxA, sc_ok, splice_all,
    evx, true_and, Option.map_none, ofValue, ofCell, Option.map_some, List.range, List.range.loop, Array.size, List.length_cons, List.length_nil, List.size_toArray, Nat.reduceAdd, Nat.reduceSub, Nat.reduceEqDiff, List.getElem?_toArray, List.getElem?_cons_zero, List.getElem?_cons_succ, List.replicate, List.cons_append, List.nil_append, List.append_nil, List.set_cons_zero, List.set_cons_succ, List.getD_cons_zero, List.getD_cons_succ, decide_not, ne_eq, if_true, if_false, eq_self, ↓reduceIte, reduceCtorEq, splice_one, map_ite, elB, bind_ite, ite_ite, evParts, Option.bind_some, Option.some.injEq, Int.reduceToNat, Int.reduceLE, Int.reduceLT, Int.reduceEq, Nat.reduceMul, Nat.reduceLeDiff, Nat.reduceLT, List.drop_zero, List.take_succ_cons, List.take_zero, List.drop_succ_cons, List.take_nil, List.map_cons, List.map_nil, List.length_append, ty3, ty4, ty5, ty23, ty24, ty25, ty33, ty39, ty40, ty45, ty51, ty74]
  exact ⟨by omega, le_flat rfl⟩
/-- All between. -/
def spanP (a b : Nat) : Nat → Bool := fun c => decide (a ≤ c) && decide (c ≤ b)
theorem ok10 (a b : Nat) (ha : a < 256) (hb : b < 256) : Ok Tryd.prog 10 [.fv (.int .u8 a), .fv (.int .u8 b)] [] (.ret (.agg (sc (spanP a b)))) [] := by
  have hwa : IntKind.wrap .i64 (a : Int) = a := wrapn _ (by omega)
  have hwb : IntKind.wrap .i64 (b : Int) = b := wrapn _ (by omega)
  have e0 : sc (fun c => decide (a ≤ c) && decide (c < a + 0)) = sc (fun _ => false) := sc_congr fun c _ => by
    rw [Bool.eq_iff_iff]
    simp only [Bool.and_eq_true, decide_eq_true_eq, Bool.false_eq_true, iff_false]
    omega
  refine ok_start (k := 19) (n0 := 0) (rs := [.cell 4 25]) mix Tryd.func10 rfl rfl rfl rfl rfl rfl rfl ?_
  simp -implicitDefEqProofs only [sc_len, sc_take, sc_zl, hwa,
    evx, true_and, Option.map_none, ofValue, ofCell, Option.map_some, List.range, List.range.loop, Array.size, List.length_cons, List.length_nil, List.size_toArray, Nat.reduceAdd, Nat.reduceSub, Nat.reduceEqDiff, List.getElem?_toArray, List.getElem?_cons_zero, List.getElem?_cons_succ, List.replicate, List.cons_append, List.nil_append, List.append_nil, List.set_cons_zero, List.set_cons_succ, List.getD_cons_zero, List.getD_cons_succ, decide_not, ne_eq, if_true, if_false, eq_self, ↓reduceIte, reduceCtorEq, splice_one, map_ite, elB, bind_ite, ite_ite, evParts, Option.bind_some, Option.some.injEq, Int.reduceToNat, Int.reduceLE, Int.reduceLT, Int.reduceEq, Nat.reduceMul, Nat.reduceLeDiff, Nat.reduceLT, List.drop_zero, List.take_succ_cons, List.take_zero, List.drop_succ_cons, List.take_nil, List.map_cons, List.map_nil, List.length_append, ty3, ty4, ty5, ty23, ty24, ty25, ty33, ty39, ty40, ty45, ty51, ty74]
  refine loop_rule (fun k : Nat => ⟨[.fv (.int .u8 a), .fv (.int .u8 b), .any, .any, .ptr 0 0 0 0, .ptr 1 0 0 0, .fv (.int .i64 (a + k : Nat)), .any, .any, .any, .any, .any, .any, .any, .any, .any, .any, .any, .any, .any, .any], [.box (sc fun _ => false), .box (sc (fun c => decide (a ≤ c) && decide (c < a + k)))], []⟩)
    (fun k => k = 0 ∨ a + k ≤ b + 1) (fun k => 256 - (a + k)) 0 (by
      show Le 0 _ ⟨_, [.box (sc fun _ => false), .box (sc (fun c => decide (a ≤ c) && decide (c < a + 0)))], []⟩
      rw [e0]
      exact le_wk (by simp [wk])) (by simp) (fun k hk s hs => ?_)
  by_cases hkb : a + k ≤ b
  · have hc : (((a + k : Nat) : Int) ≤ (b : Int)) = True := by simp; omega
    have hw8 : IntKind.wrap .u8 ((a + k : Nat) : Int) = ((a + k : Nat) : Int) := wrap_u8 (by omega)
    have hw : IntKind.wrap .i64 (((a + k : Nat) : Int) + 1) = ((a + (k + 1) : Nat) : Int) := by rw [wrap_small (by omega) (by omega)]; omega
    have h13 := ok13 (fun c => decide (a ≤ c) && decide (c < a + k)) (fun c => c == a + k)
    have e : (fun c => (decide (a ≤ c) && decide (c < a + k)) || c == a + k) = (fun c => decide (a ≤ c) && decide (c < a + (k + 1))) := by
      funext c
      rw [Bool.eq_iff_iff]
      simp only [Bool.or_eq_true, Bool.and_eq_true, decide_eq_true_eq, beq_iff_eq]
      omega
    rw [e] at h13
    simp -implicitDefEqProofs only [awp_draw _ _ Tryddr10_5, hwb, hc, sc_len, sc_take, hw8,
    evx, true_and, Option.map_none, ofValue, ofCell, Option.map_some, List.range, List.range.loop, Array.size, List.length_cons, List.length_nil, List.size_toArray, Nat.reduceAdd, Nat.reduceSub, Nat.reduceEqDiff, List.getElem?_toArray, List.getElem?_cons_zero, List.getElem?_cons_succ, List.replicate, List.cons_append, List.nil_append, List.append_nil, List.set_cons_zero, List.set_cons_succ, List.getD_cons_zero, List.getD_cons_succ, decide_not, ne_eq, if_true, if_false, eq_self, ↓reduceIte, reduceCtorEq, splice_one, map_ite, elB, bind_ite, ite_ite, evParts, Option.bind_some, Option.some.injEq, Int.reduceToNat, Int.reduceLE, Int.reduceLT, Int.reduceEq, Nat.reduceMul, Nat.reduceLeDiff, Nat.reduceLT, List.drop_zero, List.take_succ_cons, List.take_zero, List.drop_succ_cons, List.take_nil, List.map_cons, List.map_nil, List.length_append, ty3, ty4, ty5, ty23, ty24, ty25, ty33, ty39, ty40, ty45, ty51, ty74]
    refine callK_ret _ _ _ _ (call_pure (ok12 (a + k) (by omega)) (fun _ => rfl) (fun _ => rfl)) (ok_nil _ _) ?_
    simp -implicitDefEqProofs only [evx, true_and, Option.map_none, ofValue, ofCell, Option.map_some, List.range, List.range.loop, Array.size, List.length_cons, List.length_nil, List.size_toArray, Nat.reduceAdd, Nat.reduceSub, Nat.reduceEqDiff, List.getElem?_toArray, List.getElem?_cons_zero, List.getElem?_cons_succ, List.replicate, List.cons_append, List.nil_append, List.append_nil, List.set_cons_zero, List.set_cons_succ, List.getD_cons_zero, List.getD_cons_succ, decide_not, ne_eq, if_true, if_false, eq_self, ↓reduceIte, reduceCtorEq, splice_one, map_ite, elB, bind_ite, ite_ite, evParts, Option.bind_some, Option.some.injEq, Int.reduceToNat, Int.reduceLE, Int.reduceLT, Int.reduceEq, Nat.reduceMul, Nat.reduceLeDiff, Nat.reduceLT, List.drop_zero, List.take_succ_cons, List.take_zero, List.drop_succ_cons, List.take_nil, List.map_cons, List.map_nil, List.length_append, ty3, ty4, ty5, ty23, ty24, ty25, ty33, ty39, ty40, ty45, ty51, ty74]
    refine callK_ret _ _ _ _ (call_pure (h13) (fun _ => rfl) (fun _ => rfl)) (ok_nil _ _) ?_
    simp -implicitDefEqProofs only [sc_len, stB_boxA, sc_ok, splice_all, hw,
    evx, true_and, Option.map_none, ofValue, ofCell, Option.map_some, List.range, List.range.loop, Array.size, List.length_cons, List.length_nil, List.size_toArray, Nat.reduceAdd, Nat.reduceSub, Nat.reduceEqDiff, List.getElem?_toArray, List.getElem?_cons_zero, List.getElem?_cons_succ, List.replicate, List.cons_append, List.nil_append, List.append_nil, List.set_cons_zero, List.set_cons_succ, List.getD_cons_zero, List.getD_cons_succ, decide_not, ne_eq, if_true, if_false, eq_self, ↓reduceIte, reduceCtorEq, splice_one, map_ite, elB, bind_ite, ite_ite, evParts, Option.bind_some, Option.some.injEq, Int.reduceToNat, Int.reduceLE, Int.reduceLT, Int.reduceEq, Nat.reduceMul, Nat.reduceLeDiff, Nat.reduceLT, List.drop_zero, List.take_succ_cons, List.take_zero, List.drop_succ_cons, List.take_nil, List.map_cons, List.map_nil, List.length_append, ty3, ty4, ty5, ty23, ty24, ty25, ty33, ty39, ty40, ty45, ty51, ty74]
    refine ⟨by decide +kernel, ?_⟩
    exact back_intro hs (k + 1) (le_wk (by simp [wk])) (by omega) (by omega)
  · have hc : (((a + k : Nat) : Int) ≤ (b : Int)) = False := by simp; omega
    have e : sc (fun c => decide (a ≤ c) && decide (c < a + k)) = sc (spanP a b) := sc_congr fun c _ => by
      rw [Bool.eq_iff_iff]
      simp only [spanP, Bool.and_eq_true, decide_eq_true_eq]
      omega
    simp -implicitDefEqProofs only [hwb, hc, sc_len, sc_take, stB_boxA, sc_ok, splice_all, e,
    evx, true_and, Option.map_none, ofValue, ofCell, Option.map_some, List.range, List.range.loop, Array.size, List.length_cons, List.length_nil, List.size_toArray, Nat.reduceAdd, Nat.reduceSub, Nat.reduceEqDiff, List.getElem?_toArray, List.getElem?_cons_zero, List.getElem?_cons_succ, List.replicate, List.cons_append, List.nil_append, List.append_nil, List.set_cons_zero, List.set_cons_succ, List.getD_cons_zero, List.getD_cons_succ, decide_not, ne_eq, if_true, if_false, eq_self, ↓reduceIte, reduceCtorEq, splice_one, map_ite, elB, bind_ite, ite_ite, evParts, Option.bind_some, Option.some.injEq, Int.reduceToNat, Int.reduceLE, Int.reduceLT, Int.reduceEq, Nat.reduceMul, Nat.reduceLeDiff, Nat.reduceLT, List.drop_zero, List.take_succ_cons, List.take_zero, List.drop_succ_cons, List.take_nil, List.map_cons, List.map_nil, List.length_append, ty3, ty4, ty5, ty23, ty24, ty25, ty33, ty39, ty40, ty45, ty51, ty74]
    exact le_flat rfl
theorem ok11 (a b : Nat) (ha : a < 256) (hb : b < 256) : Ok Tryd.prog 11 [.fv (.int .i64 a), .fv (.int .i64 b)] [] (.ret (.agg (sc (spanP a b)))) [] := by
  have e0 : sc (fun c => decide (a ≤ c) && decide (c < a + 0)) = sc (fun _ => false) := sc_congr fun c _ => by
    rw [Bool.eq_iff_iff]
    simp only [Bool.and_eq_true, decide_eq_true_eq, Bool.false_eq_true, iff_false]
    omega
  refine ok_start (k := 16) (n0 := 0) (rs := [.cell 4 25]) mix Tryd.func11 rfl rfl rfl rfl rfl rfl rfl ?_
  simp -implicitDefEqProofs only [sc_len, sc_take, sc_zl, stB_boxA, sc_ok, splice_all,
    evx, true_and, Option.map_none, ofValue, ofCell, Option.map_some, List.range, List.range.loop, Array.size, List.length_cons, List.length_nil, List.size_toArray, Nat.reduceAdd, Nat.reduceSub, Nat.reduceEqDiff, List.getElem?_toArray, List.getElem?_cons_zero, List.getElem?_cons_succ, List.replicate, List.cons_append, List.nil_append, List.append_nil, List.set_cons_zero, List.set_cons_succ, List.getD_cons_zero, List.getD_cons_succ, decide_not, ne_eq, if_true, if_false, eq_self, ↓reduceIte, reduceCtorEq, splice_one, map_ite, elB, bind_ite, ite_ite, evParts, Option.bind_some, Option.some.injEq, Int.reduceToNat, Int.reduceLE, Int.reduceLT, Int.reduceEq, Nat.reduceMul, Nat.reduceLeDiff, Nat.reduceLT, List.drop_zero, List.take_succ_cons, List.take_zero, List.drop_succ_cons, List.take_nil, List.map_cons, List.map_nil, List.length_append, ty3, ty4, ty5, ty23, ty24, ty25, ty33, ty39, ty40, ty45, ty51, ty74]
  refine loop_rule (fun k : Nat => ⟨[.fv (.int .i64 a), .fv (.int .i64 b), .any, .any, .ptr 0 0 0 0, .ptr 1 0 0 0, .fv (.int .i64 (a + k : Nat)), .any, .any, .any, .any, .any, .any, .any, .any, .any, .any, .any], [.box (sc fun _ => false), .box (sc (fun c => decide (a ≤ c) && decide (c < a + k)))], []⟩)
    (fun k => k = 0 ∨ a + k ≤ b + 1) (fun k => 256 - (a + k)) 0 (by
      show Le 0 _ ⟨_, [.box (sc fun _ => false), .box (sc (fun c => decide (a ≤ c) && decide (c < a + 0)))], []⟩
      rw [e0]
      exact le_wk (by simp [wk])) (by simp) (fun k hk s hs => ?_)
  by_cases hkb : a + k ≤ b
  · have hc : (((a + k : Nat) : Int) ≤ (b : Int)) = True := by simp; omega
    have hw : IntKind.wrap .i64 (((a + k : Nat) : Int) + 1) = ((a + (k + 1) : Nat) : Int) := by rw [wrap_small (by omega) (by omega)]; omega
    have h31 := ok31 (fun c => decide (a ≤ c) && decide (c < a + k)) (a + k) (by omega)
    have e : putP (fun c => decide (a ≤ c) && decide (c < a + k)) (a + k) = (fun c => decide (a ≤ c) && decide (c < a + (k + 1))) := by
      funext c
      rw [Bool.eq_iff_iff]
      simp only [putP, Bool.or_eq_true, Bool.and_eq_true, decide_eq_true_eq, beq_iff_eq]
      omega
    rw [e] at h31
    simp -implicitDefEqProofs only [hc, sc_len, sc_take, sc_zl, stB_boxA, sc_ok, splice_all,
    evx, true_and, Option.map_none, ofValue, ofCell, Option.map_some, List.range, List.range.loop, Array.size, List.length_cons, List.length_nil, List.size_toArray, Nat.reduceAdd, Nat.reduceSub, Nat.reduceEqDiff, List.getElem?_toArray, List.getElem?_cons_zero, List.getElem?_cons_succ, List.replicate, List.cons_append, List.nil_append, List.append_nil, List.set_cons_zero, List.set_cons_succ, List.getD_cons_zero, List.getD_cons_succ, decide_not, ne_eq, if_true, if_false, eq_self, ↓reduceIte, reduceCtorEq, splice_one, map_ite, elB, bind_ite, ite_ite, evParts, Option.bind_some, Option.some.injEq, Int.reduceToNat, Int.reduceLE, Int.reduceLT, Int.reduceEq, Nat.reduceMul, Nat.reduceLeDiff, Nat.reduceLT, List.drop_zero, List.take_succ_cons, List.take_zero, List.drop_succ_cons, List.take_nil, List.map_cons, List.map_nil, List.length_append, ty3, ty4, ty5, ty23, ty24, ty25, ty33, ty39, ty40, ty45, ty51, ty74]
    refine callK_ret _ _ _ _ (call_pure (h31) (fun _ => rfl) (fun _ => rfl)) (ok_nil _ _) ?_
    simp -implicitDefEqProofs only [hw, sc_len, sc_take, sc_zl, stB_boxA, sc_ok, splice_all,
    evx, true_and, Option.map_none, ofValue, ofCell, Option.map_some, List.range, List.range.loop, Array.size, List.length_cons, List.length_nil, List.size_toArray, Nat.reduceAdd, Nat.reduceSub, Nat.reduceEqDiff, List.getElem?_toArray, List.getElem?_cons_zero, List.getElem?_cons_succ, List.replicate, List.cons_append, List.nil_append, List.append_nil, List.set_cons_zero, List.set_cons_succ, List.getD_cons_zero, List.getD_cons_succ, decide_not, ne_eq, if_true, if_false, eq_self, ↓reduceIte, reduceCtorEq, splice_one, map_ite, elB, bind_ite, ite_ite, evParts, Option.bind_some, Option.some.injEq, Int.reduceToNat, Int.reduceLE, Int.reduceLT, Int.reduceEq, Nat.reduceMul, Nat.reduceLeDiff, Nat.reduceLT, List.drop_zero, List.take_succ_cons, List.take_zero, List.drop_succ_cons, List.take_nil, List.map_cons, List.map_nil, List.length_append, ty3, ty4, ty5, ty23, ty24, ty25, ty33, ty39, ty40, ty45, ty51, ty74]
    exact back_intro hs (k + 1) (le_wk (by simp [wk])) (by omega) (by omega)
  · have hc : (((a + k : Nat) : Int) ≤ (b : Int)) = False := by simp; omega
    have e : sc (fun c => decide (a ≤ c) && decide (c < a + k)) = sc (spanP a b) := sc_congr fun c _ => by
      rw [Bool.eq_iff_iff]
      simp only [spanP, Bool.and_eq_true, decide_eq_true_eq]
      omega
    simp -implicitDefEqProofs only [hc, e, sc_len, sc_take, sc_zl, stB_boxA, sc_ok, splice_all,
    evx, true_and, Option.map_none, ofValue, ofCell, Option.map_some, List.range, List.range.loop, Array.size, List.length_cons, List.length_nil, List.size_toArray, Nat.reduceAdd, Nat.reduceSub, Nat.reduceEqDiff, List.getElem?_toArray, List.getElem?_cons_zero, List.getElem?_cons_succ, List.replicate, List.cons_append, List.nil_append, List.append_nil, List.set_cons_zero, List.set_cons_succ, List.getD_cons_zero, List.getD_cons_succ, decide_not, ne_eq, if_true, if_false, eq_self, ↓reduceIte, reduceCtorEq, splice_one, map_ite, elB, bind_ite, ite_ite, evParts, Option.bind_some, Option.some.injEq, Int.reduceToNat, Int.reduceLE, Int.reduceLT, Int.reduceEq, Nat.reduceMul, Nat.reduceLeDiff, Nat.reduceLT, List.drop_zero, List.take_succ_cons, List.take_zero, List.drop_succ_cons, List.take_nil, List.map_cons, List.map_nil, List.length_append, ty3, ty4, ty5, ty23, ty24, ty25, ty33, ty39, ty40, ty45, ty51, ty74]
    exact le_flat rfl
end Go.Abs
