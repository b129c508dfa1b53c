/- The machine's operations on words of bits. -/
import Derived.Test.YtablmjophjjabaaDoorBytesM
namespace Go.Abs
theorem wrap_u64 {n : Nat} (h : n < 18446744073709551616) : IntKind.wrap .u64 (n : Int) = n := by
  simp only [IntKind.wrap, IntKind.signed, IntKind.bits]
  simp
  omega
theorem ofInt_nat (n : Nat) : (BitVec.ofInt 64 (n : Int)) = BitVec.ofNat 64 n := by
  apply BitVec.eq_of_toNat_eq
  simp
theorem toNat_small {n : Nat} (h : n < 18446744073709551616) : (BitVec.ofNat 64 n).toNat = n := by
  rw [BitVec.toNat_ofNat]; exact Nat.mod_eq_of_lt h
theorem or_u64 {x y : Nat} (hx : x < 18446744073709551616) (hy : y < 18446744073709551616) : intBits .or .u64 x y = some ((x ||| y : Nat) : Int) := by
  show some (IntKind.wrap .u64 ↑(BitVec.ofInt 64 (x : Int) ||| BitVec.ofInt 64 (y : Int)).toNat) = _
  rw [ofInt_nat, ofInt_nat, BitVec.toNat_or, toNat_small hx, toNat_small hy, wrap_u64 (Nat.or_lt_two_pow (n := 64) hx hy)]
theorem and_u64 {x y : Nat} (hx : x < 18446744073709551616) (hy : y < 18446744073709551616) : intBits .and .u64 x y = some ((x &&& y : Nat) : Int) := by
  show some (IntKind.wrap .u64 ↑(BitVec.ofInt 64 (x : Int) &&& BitVec.ofInt 64 (y : Int)).toNat) = _
  rw [ofInt_nat, ofInt_nat, BitVec.toNat_and, toNat_small hx, toNat_small hy, wrap_u64 (Nat.and_lt_two_pow (n := 64) _ hy)]
theorem xor_u64 {x y : Nat} (hx : x < 18446744073709551616) (hy : y < 18446744073709551616) : intBits .xor .u64 x y = some ((x ^^^ y : Nat) : Int) := by
  show some (IntKind.wrap .u64 ↑(BitVec.ofInt 64 (x : Int) ^^^ BitVec.ofInt 64 (y : Int)).toNat) = _
  rw [ofInt_nat, ofInt_nat, BitVec.toNat_xor, toNat_small hx, toNat_small hy, wrap_u64 (Nat.xor_lt_two_pow (n := 64) hx hy)]
theorem or_wd (p q : Nat → Bool) (i : Nat) : intBits .or .u64 (wd p i) (wd q i) = some (wd (fun b => p b || q b) i : Int) := by
  rw [or_u64 (wd_lt _ _) (wd_lt _ _), wd_or]
theorem and_wd (p q : Nat → Bool) (i : Nat) : intBits .and .u64 (wd p i) (wd q i) = some (wd (fun b => p b && q b) i : Int) := by
  rw [and_u64 (wd_lt _ _) (wd_lt _ _), wd_and]
theorem max_u64 : IntKind.max .u64 = ((18446744073709551615 : Nat) : Int) := by decide
theorem not_wd (p : Nat → Bool) (i : Nat) : unA .xor (.fv (.int .u64 (wd p i))) = some (.fv (.int .u64 (wd (fun b => !p b) i : Int))) := by
  have e : (if IntKind.signed .u64 = true then (-1 : Int) else IntKind.max .u64) = ((18446744073709551615 : Nat) : Int) := by decide
  simp only [unA]
  rw [e, xor_u64 (by omega) (wd_lt _ _), wd_not]
  rfl
end Go.Abs
