/- Plain facts about sets of bytes: four words of 64 bits each. -/
import Derived.Test.YtmnbljfbdiodbaaAbsA
namespace Go.Abs
/-- The number whose first n bits are told. -/
def bits (p : Nat → Bool) : Nat → Nat
 | 0 => 0
 | n + 1 => bits p n + if p n then 2 ^ n else 0
theorem bits_lt (p : Nat → Bool) : ∀ n,bits p n < 2 ^ n
 | 0 => by simp [bits]
 | n + 1 => by
  have := bits_lt p n
  rw [bits,Nat.pow_succ]
  split <;> omega
theorem bits_test (p : Nat → Bool) : ∀ n j,(bits p n).testBit j = (decide (j < n) && p j)
 | 0,j => by simp [bits]
 | n + 1,j => by
  have ih := bits_test p n
  have hlt := bits_lt p n
  rw [bits]
  by_cases hp : p n
  ·rw [if_pos hp,Nat.add_comm]
   rcases Nat.lt_trichotomy j n with h | h | h
   ·rw [Nat.testBit_two_pow_add_gt h,ih j]
    simp [h,Nat.lt_succ_of_lt h]
   ·subst h
    rw [Nat.testBit_two_pow_add_eq,ih j]
    simp [hp]
   ·have h2 : 2 ^ n + bits p n < 2 ^ j := by
     have : 2 ^ (n + 1) ≤ 2 ^ j := Nat.pow_le_pow_right (by omega) h
     rw [Nat.pow_succ] at this
     omega
    rw [Nat.testBit_lt_two_pow h2]
    have : ¬ j < n + 1 := by omega
    simp [this]
  ·rw [if_neg hp,Nat.add_zero,ih j]
   rcases Nat.lt_trichotomy j n with h | h | h
   ·simp [h,Nat.lt_succ_of_lt h]
   ·subst h
    simp [hp]
   ·have h1 : ¬ j < n + 1 := by omega
    have h2 : ¬ j < n := by omega
    simp [h1,h2]
theorem bits_congr {p q : Nat → Bool} : ∀ n,(∀ j,j < n → p j = q j) → bits p n = bits q n
 | 0,_ => rfl
 | n + 1,h => by rw [bits,bits,bits_congr n fun j hj => h j (by omega),h n (by omega)]
theorem bits_inj {p q : Nat → Bool} {n : Nat} (h : bits p n = bits q n) (j : Nat) (hj : j < n) : p j = q j := by
 have h1 := bits_test p n j
 have h2 := bits_test q n j
 rw [h,h2] at h1
 simpa [hj] using h1.symm
theorem eq_bits {x : Nat} {p : Nat → Bool} {n : Nat} (hx : x < 2 ^ n) (h : ∀ j,j < n → x.testBit j = p j) : x = bits p n := by
 refine Nat.eq_of_testBit_eq fun j => ?_
 rw [bits_test]
 by_cases hj : j < n
 ·simp [hj,h j hj]
 ·rw [Nat.testBit_lt_two_pow (Nat.lt_of_lt_of_le hx (Nat.pow_le_pow_right (by omega) (by omega)))]
  simp [hj]
/-- The word in which bytes 64 i .. 64 i + 63 lie. -/
def wd (p : Nat → Bool) (i : Nat) : Nat := bits (fun j => p (64 * i + j)) 64
theorem wd_lt (p : Nat → Bool) (i : Nat) : wd p i < 18446744073709551616 := bits_lt _ 64
theorem wd_test (p : Nat → Bool) (i j : Nat) (h : j < 64) : (wd p i).testBit j = p (64 * i + j) := by
 rw [wd,bits_test]; simp [h]
theorem eq_wd {x : Nat} {p : Nat → Bool} {i : Nat} (hx : x < 18446744073709551616) (h : ∀ j,j < 64 → x.testBit j = p (64 * i + j)) : x = wd p i := eq_bits hx h
theorem wd_or (p q : Nat → Bool) (i : Nat) : wd p i ||| wd q i = wd (fun b => p b || q b) i :=
 eq_wd (Nat.or_lt_two_pow (n := 64) (wd_lt p i) (wd_lt q i)) fun j hj => by rw [Nat.testBit_or,wd_test p i j hj,wd_test q i j hj]
theorem wd_and (p q : Nat → Bool) (i : Nat) : wd p i &&& wd q i = wd (fun b => p b && q b) i :=
 eq_wd (Nat.and_lt_two_pow (n := 64) _ (wd_lt q i)) fun j hj => by rw [Nat.testBit_and,wd_test p i j hj,wd_test q i j hj]
theorem wd_not (p : Nat → Bool) (i : Nat) : 18446744073709551615 ^^^ wd p i = wd (fun b => !p b) i :=
 eq_wd (Nat.xor_lt_two_pow (n := 64) (by omega) (wd_lt p i)) fun j hj => by
  rw [Nat.testBit_xor,wd_test p i j hj,show 18446744073709551615 = 2 ^ 64 - 1 from rfl,Nat.testBit_two_pow_sub_one]
  simp [hj]
theorem wd_zero (i : Nat) : wd (fun _ => false) i = 0 := (eq_wd (by omega) fun j hj => by simp).symm
theorem wd_congr {p q : Nat → Bool} {i : Nat} (h : ∀ j,j < 64 → p (64 * i + j) = q (64 * i + j)) : wd p i = wd q i := bits_congr _ h
theorem wd_one (b i : Nat) : wd (fun c => c == b) i = if b / 64 = i then 2 ^ (b % 64) else 0 := by
 symm
 split
 ·rename_i h
  refine eq_wd ?_ fun j hj => ?_
  ·exact Nat.pow_lt_pow_right (n := 64) (by omega) (Nat.mod_lt _ (by omega))
  ·rw [Nat.testBit_two_pow]
   by_cases e : b % 64 = j
   ·have : 64 * i + j = b := by omega
    simp [e,this]
   ·have : ¬ 64 * i + j = b := by omega
    simp [e,this]
 ·rename_i h
  refine eq_wd (by omega) fun j hj => ?_
  have : ¬ 64 * i + j = b := by omega
  simp [this]
/-- A set's four words. -/
def ws (p : Nat → Bool) : List Int := [(wd p 0 : Int),wd p 1,wd p 2,wd p 3]
theorem ws_get (p : Nat → Bool) (i : Nat) (h : i < 4) : (ws p)[i]? = some (wd p i : Int) := by
 match i,h with
 | 0,_ => rfl
 | 1,_ => rfl
 | 2,_ => rfl
 | 3,_ => rfl
theorem ws_congr {p q : Nat → Bool} (h : ∀ b,b < 256 → p b = q b) : ws p = ws q := by
 simp only [ws]
 rw [wd_congr (p := p) (q := q) (i := 0) fun j hj => h _ (by omega),wd_congr (p := p) (q := q) (i := 1) fun j hj => h _ (by omega),
  wd_congr (p := p) (q := q) (i := 2) fun j hj => h _ (by omega),wd_congr (p := p) (q := q) (i := 3) fun j hj => h _ (by omega)]
theorem wd_inj {p q : Nat → Bool} {i : Nat} (h : wd p i = wd q i) (j : Nat) (hj : j < 64) : p (64 * i + j) = q (64 * i + j) := bits_inj h j hj
theorem ws_inj {p q : Nat → Bool} (h : ws p = ws q) (b : Nat) (hb : b < 256) : p b = q b := by
 have hk : ∀ i,i < 4 → wd p i = wd q i := fun i hi => by
  have h1 := ws_get p i hi
  rw [h,ws_get q i hi] at h1
  have h2 := Option.some.inj h1
  exact (Int.ofNat.inj h2).symm
 have h1 := wd_inj (hk (b / 64) (by omega)) (b % 64) (Nat.mod_lt _ (by omega))
 rwa [show 64 * (b / 64) + b % 64 = b from by omega] at h1
/-- Every four words are a set's. -/
def pOf (a b c d : Nat) (x : Nat) : Bool := if x / 64 = 0 then a.testBit (x % 64) else if x / 64 = 1 then b.testBit (x % 64) else if x / 64 = 2 then c.testBit (x % 64) else d.testBit (x % 64)
theorem ws_pOf {a b c d : Nat} (ha : a < 18446744073709551616) (hb : b < 18446744073709551616) (hc : c < 18446744073709551616) (hd : d < 18446744073709551616) : ws (pOf a b c d) = [(a : Int),b,c,d] := by
 have h0 : a = wd (pOf a b c d) 0 := eq_wd ha fun j hj => by
  have h1 : (64 * 0 + j) / 64 = 0 := by omega
  have h2 : (64 * 0 + j) % 64 = j := by omega
  simp only [pOf,h1,h2,if_true]
 have h1 : b = wd (pOf a b c d) 1 := eq_wd hb fun j hj => by
  have h1 : (64 * 1 + j) / 64 = 1 := by omega
  have h2 : (64 * 1 + j) % 64 = j := by omega
  simp [pOf,h1,h2]
 have h2 : c = wd (pOf a b c d) 2 := eq_wd hc fun j hj => by
  have h1 : (64 * 2 + j) / 64 = 2 := by omega
  have h2 : (64 * 2 + j) % 64 = j := by omega
  simp [pOf,h1,h2]
 have h3 : d = wd (pOf a b c d) 3 := eq_wd hd fun j hj => by
  have h1 : (64 * 3 + j) / 64 = 3 := by omega
  have h2 : (64 * 3 + j) % 64 = j := by omega
  simp [pOf,h1,h2]
 simp only [ws]
 rw [← h0,← h1,← h2,← h3]
end Go.Abs
/- The machine's operations on words of bits. -/
namespace Go.Abs
theorem wrap_u64 {n : Nat} (h : n < 18446744073709551616) : IntKind.wrap .u64 (n : Int) = n := by
 simp only [IntKind.wrap,IntKind.signed,IntKind.bits]
 simp
 omega
theorem ofInt_nat (n : Nat) : (BitVec.ofInt 64 (n : Int)) = BitVec.ofNat 64 n := by
 apply BitVec.eq_of_toNat_eq
 simp
theorem toNat_small {n : Nat} (h : n < 18446744073709551616) : (BitVec.ofNat 64 n).toNat = n := by
 rw [BitVec.toNat_ofNat]; exact Nat.mod_eq_of_lt h
theorem or_u64 {x y : Nat} (hx : x < 18446744073709551616) (hy : y < 18446744073709551616) : intBits .or .u64 x y = some ((x ||| y : Nat) : Int) := by
 show some (IntKind.wrap .u64 ↑(BitVec.ofInt 64 (x : Int) ||| BitVec.ofInt 64 (y : Int)).toNat) = _
 rw [ofInt_nat,ofInt_nat,BitVec.toNat_or,toNat_small hx,toNat_small hy,wrap_u64 (Nat.or_lt_two_pow (n := 64) hx hy)]
theorem and_u64 {x y : Nat} (hx : x < 18446744073709551616) (hy : y < 18446744073709551616) : intBits .and .u64 x y = some ((x &&& y : Nat) : Int) := by
 show some (IntKind.wrap .u64 ↑(BitVec.ofInt 64 (x : Int) &&& BitVec.ofInt 64 (y : Int)).toNat) = _
 rw [ofInt_nat,ofInt_nat,BitVec.toNat_and,toNat_small hx,toNat_small hy,wrap_u64 (Nat.and_lt_two_pow (n := 64) _ hy)]
theorem xor_u64 {x y : Nat} (hx : x < 18446744073709551616) (hy : y < 18446744073709551616) : intBits .xor .u64 x y = some ((x ^^^ y : Nat) : Int) := by
 show some (IntKind.wrap .u64 ↑(BitVec.ofInt 64 (x : Int) ^^^ BitVec.ofInt 64 (y : Int)).toNat) = _
 rw [ofInt_nat,ofInt_nat,BitVec.toNat_xor,toNat_small hx,toNat_small hy,wrap_u64 (Nat.xor_lt_two_pow (n := 64) hx hy)]
theorem or_wd (p q : Nat → Bool) (i : Nat) : intBits .or .u64 (wd p i) (wd q i) = some (wd (fun b => p b || q b) i : Int) := by
 rw [or_u64 (wd_lt _ _) (wd_lt _ _),wd_or]
theorem and_wd (p q : Nat → Bool) (i : Nat) : intBits .and .u64 (wd p i) (wd q i) = some (wd (fun b => p b && q b) i : Int) := by
 rw [and_u64 (wd_lt _ _) (wd_lt _ _),wd_and]
theorem max_u64 : IntKind.max .u64 = ((18446744073709551615 : Nat) : Int) := by decide
theorem not_wd (p : Nat → Bool) (i : Nat) : unA .xor (.fv (.int .u64 (wd p i))) = some (.fv (.int .u64 (wd (fun b => !p b) i : Int))) := by
 have e : (if IntKind.signed .u64 = true then (-1 : Int) else IntKind.max .u64) = ((18446744073709551615 : Nat) : Int) := by decide
 simp only [unA]
 rw [e,xor_u64 (by omega) (wd_lt _ _),wd_not]
 rfl
end Go.Abs
