/- Plain facts about sets of bytes: four words of 64 bits each. -/
import Derived.Test.YtmnbljfbdiodbaaAbsA
namespace Go.Abs
/-- The number whose first n bits are told. -/
def bits (p : Nat → Bool) : Nat → Nat
 | 0 => 0
 | n + 1 => bits p n + if p n then 2 ^ n else 0
theorem bits_lt (p : Nat → Bool) : ∀ n,bits p n < 2 ^ n
 | 0 => by simp [bits]
 | n + 1 => by
  have := bits_lt p n
  rw [bits,Nat.pow_succ]
  split <;> omega
theorem bits_test (p : Nat → Bool) : ∀ n j,(bits p n).testBit j = (decide (j < n) && p j)
 | 0,j => by simp [bits]
 | n + 1,j => by
  have ih := bits_test p n
  have hlt := bits_lt p n
  rw [bits]
  by_cases hp : p n
  ·rw [if_pos hp,Nat.add_comm]
   rcases Nat.lt_trichotomy j n with h | h | h
   ·rw [Nat.testBit_two_pow_add_gt h,ih j]
    simp [h,Nat.lt_succ_of_lt h]
   ·subst h
    rw [Nat.testBit_two_pow_add_eq,ih j]
    simp [hp]
   ·have h2 : 2 ^ n + bits p n < 2 ^ j := by
     have : 2 ^ (n + 1) ≤ 2 ^ j := Nat.pow_le_pow_right (by omega) h
     rw [Nat.pow_succ] at this
     omega
    rw [Nat.testBit_lt_two_pow h2]
    have : ¬ j < n + 1 := by omega
    simp [this]
  ·rw [if_neg hp,Nat.add_zero,ih j]
   rcases Nat.lt_trichotomy j n with h | h | h
   ·simp [h,Nat.lt_succ_of_lt h]
   ·subst h
    simp [hp]
   ·have h1 : ¬ j < n + 1 := by omega
    have h2 : ¬ j < n := by omega
    simp [h1,h2]
theorem eq_bits {x : Nat} {p : Nat → Bool} {n : Nat} (hx : x < 2 ^ n) (h : ∀ j,j < n → x.testBit j = p j) : x = bits p n := by
 refine Nat.eq_of_testBit_eq fun j => ?_
 rw [bits_test]
 by_cases hj : j < n
 ·simp [hj,h j hj]
 ·rw [Nat.testBit_lt_two_pow (Nat.lt_of_lt_of_le hx (Nat.pow_le_pow_right (by omega) (by omega)))]
  simp [hj]
/-- The word in which bytes 64 i .. 64 i + 63 lie. -/
def wd (p : Nat → Bool) (i : Nat) : Nat := bits (fun j => p (64 * i + j)) 64
theorem eq_wd {x : Nat} {p : Nat → Bool} {i : Nat} (hx : x < 18446744073709551616) (h : ∀ j,j < 64 → x.testBit j = p (64 * i + j)) : x = wd p i := eq_bits hx h
/-- A set's four words. -/
def ws (p : Nat → Bool) : List Int := [(wd p 0 : Int),wd p 1,wd p 2,wd p 3]
/-- Every four words are a set's. -/
def pOf (a b c d : Nat) (x : Nat) : Bool := if x / 64 = 0 then a.testBit (x % 64) else if x / 64 = 1 then b.testBit (x % 64) else if x / 64 = 2 then c.testBit (x % 64) else d.testBit (x % 64)
theorem ws_pOf {a b c d : Nat} (ha : a < 18446744073709551616) (hb : b < 18446744073709551616) (hc : c < 18446744073709551616) (hd : d < 18446744073709551616) : ws (pOf a b c d) = [(a : Int),b,c,d] := by
 have h0 : a = wd (pOf a b c d) 0 := eq_wd ha fun j hj => by
  have h1 : (64 * 0 + j) / 64 = 0 := by omega
  have h2 : (64 * 0 + j) % 64 = j := by omega
  simp only [pOf,h1,h2,if_true]
 have h1 : b = wd (pOf a b c d) 1 := eq_wd hb fun j hj => by
  have h1 : (64 * 1 + j) / 64 = 1 := by omega
  have h2 : (64 * 1 + j) % 64 = j := by omega
  simp [pOf,h1,h2]
 have h2 : c = wd (pOf a b c d) 2 := eq_wd hc fun j hj => by
  have h1 : (64 * 2 + j) / 64 = 2 := by omega
  have h2 : (64 * 2 + j) % 64 = j := by omega
  simp [pOf,h1,h2]
 have h3 : d = wd (pOf a b c d) 3 := eq_wd hd fun j hj => by
  have h1 : (64 * 3 + j) / 64 = 3 := by omega
  have h2 : (64 * 3 + j) % 64 = j := by omega
  simp [pOf,h1,h2]
 simp only [ws]
 rw [← h0,← h1,← h2,← h3]
end Go.Abs
/- The machine's operations on words of bits. -/
namespace Go.Abs
end Go.Abs
