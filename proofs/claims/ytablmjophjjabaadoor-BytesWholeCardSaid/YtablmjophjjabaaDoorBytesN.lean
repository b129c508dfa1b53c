/- Plain: how many bits, by the library's additions. -/
namespace Go.Abs
/-- How many of the first n. -/
def cnt (p : Nat → Bool) : Nat → Nat
  | 0 => 0
  | n + 1 => cnt p n + if p n then 1 else 0
theorem cnt_le (p : Nat → Bool) : ∀ n, cnt p n ≤ n
  | 0 => Nat.le_refl _
  | n + 1 => by have := cnt_le p n; rw [cnt]; split <;> omega
theorem cnt_congr {p q : Nat → Bool} : ∀ n, (∀ j, j < n → p j = q j) → cnt p n = cnt q n
  | 0, _ => rfl
  | n + 1, h => by rw [cnt, cnt, cnt_congr n fun j hj => h j (by omega), h n (by omega)]
theorem cnt_add (p : Nat → Bool) (k : Nat) : ∀ n, cnt p (k + n) = cnt p k + cnt (fun j => p (k + j)) n
  | 0 => rfl
  | n + 1 => by rw [← Nat.add_assoc, cnt, cnt_add p k n, cnt]; omega
theorem cnt_not (p : Nat → Bool) : ∀ n, cnt p n + cnt (fun b => !p b) n = n
  | 0 => rfl
  | n + 1 => by
    have := cnt_not p n
    rw [cnt, cnt]
    cases p n <;> simp <;> omega
def pc (a : Nat) : Nat := cnt a.testBit 8
def Msk (c : Nat) : Nat → Nat
  | 0 => 0
  | n + 1 => c + 256 * Msk c n
theorem and_peel (x y : Nat) : x &&& y = (x % 256 &&& y % 256) + 256 * (x / 256 &&& y / 256) := by
  have h1 : (x &&& y) % 2 ^ 8 = (x % 2 ^ 8) &&& (y % 2 ^ 8) := Nat.and_mod_two_pow
  have h2 : (x &&& y) / 2 ^ 8 = (x / 2 ^ 8) &&& (y / 2 ^ 8) := Nat.and_div_two_pow
  have h3 := Nat.mod_add_div (x &&& y) 256
  have e : (2 : Nat) ^ 8 = 256 := rfl
  rw [e] at h1 h2
  rw [h1, h2] at h3
  exact h3.symm
theorem msk_mod (c n : Nat) (h : c < 256) : Msk c (n + 1) % 256 = c ∧ Msk c (n + 1) / 256 = Msk c n := by
  rw [Msk]; omega
theorem and_msk (x c n : Nat) (h : c < 256) : x &&& Msk c (n + 1) = (x % 256 &&& c) + 256 * (x / 256 &&& Msk c n) := by
  rw [and_peel, (msk_mod c n h).1, (msk_mod c n h).2]
def T1 (n x : Nat) : Nat := ((x >>> 1) &&& Msk 0x55 n) + (x &&& Msk 0x55 n)
def T2 (n x : Nat) : Nat := ((x >>> 2) &&& Msk 0x33 n) + (x &&& Msk 0x33 n)
def T3 (n x : Nat) : Nat := ((x >>> 4) + x) &&& Msk 0x0f n
def g1 (a : Nat) : Nat := ((a >>> 1) &&& 0x55) + (a &&& 0x55)
def g2 (a : Nat) : Nat := ((a >>> 2) &&& 0x33) + (a &&& 0x33)
theorem low1 : ∀ u : Fin 512, ((u.val >>> 1) % 256 &&& 0x55) + (u.val % 256 &&& 0x55) = g1 (u.val % 256) ∧ g1 (u.val % 256) < 256 := by decide +kernel
theorem low2 : ∀ u : Fin 1024, ((u.val >>> 2) % 256 &&& 0x33) + (u.val % 256 &&& 0x33) = g2 (u.val % 256) ∧ g2 (u.val % 256) < 256 := by decide +kernel
theorem low3 : ∀ a : Fin 256, ∀ v : Fin 5, ((g2 (g1 a.val)) / 16 + 16 * v.val + g2 (g1 a.val)) < 256 ∧ ((g2 (g1 a.val)) / 16 + 16 * v.val + g2 (g1 a.val)) &&& 0x0f = pc a.val ∧ (g2 (g1 a.val)) % 16 ≤ 4 ∧ pc a.val ≤ 8 := by decide +kernel
theorem T1_peel (n x : Nat) : T1 (n + 1) x = g1 (x % 256) + 256 * T1 n (x / 256) := by
  have hl := (low1 ⟨x % 512, Nat.mod_lt _ (by omega)⟩).1
  simp only [Nat.shiftRight_eq_div_pow, Nat.pow_one] at hl
  have e1 : x % 512 / 2 % 256 = x / 2 % 256 := by omega
  have e2 : x % 512 % 256 = x % 256 := by omega
  rw [e1, e2] at hl
  simp only [T1, and_msk _ _ _ (by omega : 0x55 < 256), Nat.shiftRight_eq_div_pow, Nat.pow_one]
  have e3 : x / 2 / 256 = x / 256 / 2 := by omega
  rw [e3, ← hl]
  omega
theorem T2_peel (n x : Nat) : T2 (n + 1) x = g2 (x % 256) + 256 * T2 n (x / 256) := by
  have hl := (low2 ⟨x % 1024, Nat.mod_lt _ (by omega)⟩).1
  have p2 : (2 : Nat) ^ 2 = 4 := rfl
  simp only [Nat.shiftRight_eq_div_pow, p2] at hl
  have e1 : x % 1024 / 4 % 256 = x / 4 % 256 := by omega
  have e2 : x % 1024 % 256 = x % 256 := by omega
  rw [e1, e2] at hl
  simp only [T2, and_msk _ _ _ (by omega : 0x33 < 256), Nat.shiftRight_eq_div_pow, p2]
  have e3 : x / 4 / 256 = x / 256 / 4 := by omega
  rw [e3, ← hl]
  omega
def T12 (n x : Nat) : Nat := T2 n (T1 n x)
theorem T12_peel (n x : Nat) : T12 (n + 1) x = g2 (g1 (x % 256)) + 256 * T12 n (x / 256) := by
  have hg := (low1 ⟨x % 256, by have := Nat.mod_lt x (show 256 > 0 by omega); omega⟩).2
  have e : x % 256 % 256 = x % 256 := by omega
  simp only [e] at hg
  rw [T12, T2_peel, T1_peel]
  have h1 : (g1 (x % 256) + 256 * T1 n (x / 256)) % 256 = g1 (x % 256) := by omega
  have h2 : (g1 (x % 256) + 256 * T1 n (x / 256)) / 256 = T1 n (x / 256) := by omega
  rw [h1, h2]
  rfl
theorem T12_mod (n x : Nat) : T12 n x % 16 ≤ 4 := by
  cases n with
  | zero => simp [T12, T2, T1, Msk]
  | succ n =>
    have hl := (low3 ⟨x % 256, Nat.mod_lt _ (by omega)⟩ 0).2.2.1
    rw [T12_peel]
    simp only at hl
    omega
def pops (n x : Nat) : Nat := T3 n (T12 n x)
theorem pops_peel (n x : Nat) : pops (n + 1) x = pc (x % 256) + 256 * pops n (x / 256) := by
  have hm := T12_mod n (x / 256)
  have hv : T12 n (x / 256) % 16 < 5 := by omega
  obtain ⟨l1, l2, _, _⟩ := low3 ⟨x % 256, Nat.mod_lt _ (by omega)⟩ ⟨T12 n (x / 256) % 16, hv⟩
  simp only at l1 l2
  have p4 : (2 : Nat) ^ 4 = 16 := rfl
  simp only [pops, T3, and_msk _ _ _ (by omega : 0x0f < 256), Nat.shiftRight_eq_div_pow, p4, T12_peel n x]
  generalize T12 n (x / 256) = Y at *
  generalize hh : g2 (g1 (x % 256)) = h at *
  have e1 : ((h + 256 * Y) / 16 + (h + 256 * Y)) % 256 = h / 16 + 16 * (Y % 16) + h := by omega
  have e2 : ((h + 256 * Y) / 16 + (h + 256 * Y)) / 256 = Y / 16 + Y := by omega
  rw [e1, e2, l2]
theorem pc_le (a : Nat) (_ : a < 256) : pc a ≤ 8 := cnt_le _ 8
theorem cnt_byte (x n : Nat) : cnt x.testBit (8 + n) = pc (x % 256) + cnt (x / 256).testBit n := by
  rw [cnt_add]
  congr 1
  · refine cnt_congr 8 fun j hj => ?_
    have h : (x % 2 ^ 8).testBit j = (decide (j < 8) && x.testBit j) := Nat.testBit_mod_two_pow x 8 j
    rw [show (256 : Nat) = 2 ^ 8 from rfl, h]
    simp [hj]
  · refine cnt_congr n fun j _ => ?_
    have h : (x / 2 ^ 8).testBit j = x.testBit (8 + j) := by rw [Nat.testBit_div_two_pow, Nat.add_comm]
    rw [show (256 : Nat) = 2 ^ 8 from rfl, h]
/-- The library's number of bits. -/
def ones (x : Nat) : Nat :=
  let x3 := pops 8 x
  let x4 := x3 + x3 / 256
  let x5 := x4 + x4 / 65536
  let x6 := x5 + x5 / 4294967296
  x6 % 128
theorem div_of {A L M B : Nat} (h : A = L + M * B) (hL : L < M) : A / M = B := by
  rw [h, Nat.add_mul_div_left _ _ (by omega), Nat.div_eq_of_lt hL, Nat.zero_add]
theorem mod_of {A s M K : Nat} (h : A = s + M * K) (hs : s < M) : A % M = s := by
  rw [h, Nat.add_mul_mod_self_left, Nat.mod_eq_of_lt hs]
theorem sum8 (X r1 r2 r3 r4 r5 r6 r7 q0 q1 q2 q3 q4 q5 q6 : Nat) (h0 : X = q0 + 256 * r1) (h1 : r1 = q1 + 256 * r2) (h2 : r2 = q2 + 256 * r3) (h3 : r3 = q3 + 256 * r4) (h4 : r4 = q4 + 256 * r5) (h5 : r5 = q5 + 256 * r6) (h6 : r6 = q6 + 256 * r7)
    (b0 : q0 ≤ 8) (b1 : q1 ≤ 8) (b2 : q2 ≤ 8) (b3 : q3 ≤ 8) (b4 : q4 ≤ 8) (b5 : q5 ≤ 8) (b6 : q6 ≤ 8) (b7 : r7 ≤ 8) :
    X / 256 = r1 ∧ (X + r1) / 65536 = r2 + r3 ∧ (X + r1 + (r2 + r3)) / 4294967296 = r4 + r5 + (r6 + r7) ∧ (X + r1 + (r2 + r3) + (r4 + r5 + (r6 + r7))) % 128 = q0 + (q1 + (q2 + (q3 + (q4 + (q5 + (q6 + r7)))))) ∧ X + r1 + (r2 + r3) + (r4 + r5 + (r6 + r7)) < 9223372036854775808 := by
  have e1 : X / 256 = r1 := div_of h0 (by clear h0 h1 h2 h3 h4 h5 h6; omega)
  have i2 : X + r1 = (q0 + q1 + 256 * (q1 + q2)) + 65536 * (r2 + r3) := by clear h3 h4 h5 h6 b0 b1 b2 b3 b4 b5 b6 b7; omega
  have e2 : (X + r1) / 65536 = r2 + r3 := div_of i2 (by clear h0 h1 h2 h3 h4 h5 h6 i2; omega)
  have k3 : r2 + r3 = (q2 + q3) + 256 * (q3 + q4) + 65536 * (q4 + q5) + 16777216 * (q5 + q6) + 4294967296 * (r6 + r7) := by clear h0 h1 e1 e2 i2 b0 b1 b2 b3 b4 b5 b6 b7; omega
  have k4 : r2 + r3 = (q2 + q3) + 256 * (q3 + q4) + 65536 * (r4 + r5) := by clear h0 h1 e1 e2 i2 k3 h5 h6 b0 b1 b2 b3 b4 b5 b6 b7; omega
  have k5 : r4 + r5 = (q4 + q5) + 256 * (q5 + q6) + 65536 * (r6 + r7) := by clear h0 h1 e1 e2 i2 k3 k4 h2 h3 b0 b1 b2 b3 b4 b5 b6 b7; omega
  have k6 : r6 + r7 = (q6 + r7) + 256 * r7 := by clear h0 h1 e1 e2 i2 k3 k4 k5 h2 h3 h4 h5 b0 b1 b2 b3 b4 b5 b6 b7; omega
  clear h0 h1 h2 h3 h4 h5 h6
  refine ⟨e1, e2, ?_⟩
  clear e1 e2
  rw [i2]
  generalize r2 + r3 = P at *
  generalize r4 + r5 = Q at *
  generalize hR : r6 + r7 = R at *
  clear hR
  have i3 : (q0 + q1 + 256 * (q1 + q2)) + 65536 * P + P = (q0 + q1 + (q2 + q3)) + 256 * (q1 + q2 + (q3 + q4)) + 65536 * (q2 + q3 + (q4 + q5)) + 16777216 * (q3 + q4 + (q5 + q6)) + 4294967296 * (Q + R) := by
    have k7 : P = (q2 + q3) + 256 * (q3 + q4) + 65536 * ((q4 + q5) + 256 * (q5 + q6) + 65536 * R) := by omega
    rw [k4, k5]
    omega
  rw [i3]
  refine ⟨div_of rfl (by omega), ?_, ?_⟩
  · refine mod_of (K := 2 * (q1 + q2 + (q3 + q4)) + 512 * (q2 + q3 + (q4 + q5)) + 131072 * (q3 + q4 + (q5 + q6)) + 33554432 * (Q + R) + 2 * (q5 + q6) + 512 * R + 2 * r7) ?_ (by omega)
    rw [k5, k6]
    omega
  · rw [k5, k6]
    omega
theorem ones_eq (x : Nat) : ones x = cnt x.testBit 64 ∧ pops 8 x + pops 8 x / 256 + (pops 8 x + pops 8 x / 256) / 65536 + (pops 8 x + pops 8 x / 256 + (pops 8 x + pops 8 x / 256) / 65536) / 4294967296 < 9223372036854775808 := by
  have b : ∀ y, pc (y % 256) ≤ 8 := fun y => pc_le _ (Nat.mod_lt _ (by omega))
  have h7 : pops 1 (x / 256 / 256 / 256 / 256 / 256 / 256 / 256) = pc (x / 256 / 256 / 256 / 256 / 256 / 256 / 256 % 256) := by
    rw [pops_peel]
    have : pops 0 (x / 256 / 256 / 256 / 256 / 256 / 256 / 256 / 256) = 0 := by simp [pops, T3, Msk]
    rw [this]; omega
  have b7 := b (x / 256 / 256 / 256 / 256 / 256 / 256 / 256)
  rw [← h7] at b7
  obtain ⟨e1, e2, e3, e4, e5⟩ := sum8 _ _ _ _ _ _ _ _ _ _ _ _ _ _ _ (pops_peel 7 x) (pops_peel 6 (x / 256)) (pops_peel 5 (x / 256 / 256)) (pops_peel 4 (x / 256 / 256 / 256)) (pops_peel 3 (x / 256 / 256 / 256 / 256)) (pops_peel 2 (x / 256 / 256 / 256 / 256 / 256)) (pops_peel 1 (x / 256 / 256 / 256 / 256 / 256 / 256))
    (b _) (b _) (b _) (b _) (b _) (b _) (b _) b7
  have hc : cnt x.testBit 64 = pc (x % 256) + (pc (x / 256 % 256) + (pc (x / 256 / 256 % 256) + (pc (x / 256 / 256 / 256 % 256) + (pc (x / 256 / 256 / 256 / 256 % 256) + (pc (x / 256 / 256 / 256 / 256 / 256 % 256) + (pc (x / 256 / 256 / 256 / 256 / 256 / 256 % 256) + pc (x / 256 / 256 / 256 / 256 / 256 / 256 / 256 % 256))))))) := by
    rw [show 64 = 8 + (8 + (8 + (8 + (8 + (8 + (8 + (8 + 0))))))) from rfl, cnt_byte, cnt_byte, cnt_byte, cnt_byte, cnt_byte, cnt_byte, cnt_byte, cnt_byte]
    rfl
  rw [hc]
  simp only [ones]
  rw [e1, e2, e3]
  refine ⟨?_, e5⟩
  rw [e4, h7]
end Go.Abs
