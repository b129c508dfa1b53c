/- Automata and tokens: what cutting a text computes; what an edit leaves. -/
import Derived.Test.YtlifmaooikhhoaaGreatDoorTopA
namespace Go.Abs
set_option linter.unusedVariables false
set_option linter.unusedSimpArgs false

theorem getD_at {α : Type} {l : List α} {i : Nat} {z : α} (h : i < l.length) : l.getD i z = l[i] := by simp [List.getD, h]
structure Aut where
  next : List (List Int)
  acc : List Int
def nRow (l : List Int) : List FV := [.lst 1 (l.map iRow)]
def Aut.row (d : Aut) : List FV := [.lst 1 (d.next.map nRow), .lst 1 (d.acc.map iRow)]
def Aut.av (d : Aut) : AV := .agg [.fv (.lst 1 (d.next.map nRow)), .fv (.lst 1 (d.acc.map iRow))]
def Aut.rowB (d : Aut) (i : Nat) : Bool := decide ((d.next.getD i []).length = 256) && decide (-1 ≤ d.acc.getD i 0) && (d.next.getD i []).all fun k => decide (-1 ≤ k) && decide (k < (d.next.length : Int))
def Aut.rightB (d : Aut) : Bool := decide (1 ≤ d.next.length) && decide (d.next.length ≤ 240) && decide (d.acc.length = d.next.length) && (List.range d.next.length).all d.rowB
def Aut.step (d : Aut) (a : Int) (c : UInt8) : Int := (d.next.getD a.toNat []).getD c.toNat (-1)
def Aut.go (d : Aut) : Int → Bs → Int
  | a, [] => a
  | a, c :: s => if a < 0 then -1 else d.go (d.step a c) s
def Aut.accI (d : Aut) (a : Int) : Int := d.acc.getD a.toNat (-1)
structure Aut.Right (d : Aut) : Prop where
  pos : 1 ≤ d.next.length
  most : d.next.length ≤ 240
  same : d.acc.length = d.next.length
  wide : ∀ i (h : i < d.next.length), d.next[i].length = 256
  acc : ∀ i (h : i < d.acc.length), -1 ≤ d.acc[i]
  to : ∀ i (h : i < d.next.length), ∀ k ∈ d.next[i], -1 ≤ k ∧ k < d.next.length
theorem Aut.right_iff {d : Aut} : d.rightB = true ↔ d.Right := by
  constructor
  · intro h
    unfold Aut.rightB at h
    simp only [Bool.and_eq_true, decide_eq_true_eq] at h
    obtain ⟨⟨⟨h1, h2⟩, h3⟩, h4⟩ := h
    have h5 : ∀ i (hi : i < d.next.length), d.next[i].length = 256 ∧ -1 ≤ d.acc[i]'(by omega) ∧ ∀ k ∈ d.next[i], -1 ≤ k ∧ k < (d.next.length : Int) := fun i hi => by
      have h6 := List.all_eq_true.1 h4 i (List.mem_range.2 hi)
      unfold Aut.rowB at h6
      rw [getD_at hi, getD_at (show i < d.acc.length by omega)] at h6
      simp only [Bool.and_eq_true, decide_eq_true_eq] at h6
      refine ⟨h6.1.1, h6.1.2, fun k hk => ?_⟩
      have h7 := List.all_eq_true.1 h6.2 k hk
      simpa using h7
    exact ⟨h1, h2, h3, fun i hi => (h5 i hi).1, fun i hi => (h5 i (by omega)).2.1, fun i hi => (h5 i hi).2.2⟩
  · rintro ⟨h1, h2, h3, h4, h5, h6⟩
    unfold Aut.rightB
    simp only [Bool.and_eq_true, decide_eq_true_eq]
    refine ⟨⟨⟨h1, h2⟩, h3⟩, List.all_eq_true.2 fun i hi => ?_⟩
    have hi := List.mem_range.1 hi
    unfold Aut.rowB
    rw [getD_at hi, getD_at (show i < d.acc.length by omega)]
    simp only [Bool.and_eq_true, decide_eq_true_eq]
    refine ⟨⟨h4 i hi, h5 i (by omega)⟩, List.all_eq_true.2 fun k hk => ?_⟩
    have := h6 i hi k hk
    simpa using this
/-- Where a state leads. -/
theorem Aut.Right.step {d : Aut} (h : d.Right) {a : Int} (h0 : 0 ≤ a) (h1 : a < d.next.length) (c : UInt8) : -1 ≤ d.step a c ∧ d.step a c < d.next.length := by
  have hc : c.toNat < 256 := c.toNat_lt
  unfold Aut.step
  rw [getD_at (show a.toNat < d.next.length by omega)]
  rw [getD_at (by rw [h.wide]; exact hc)]
  exact h.to _ _ _ (List.getElem_mem _)
theorem Aut.Right.go {d : Aut} (h : d.Right) : ∀ (s : Bs) {a : Int}, -1 ≤ a → a < d.next.length → -1 ≤ d.go a s ∧ d.go a s < d.next.length
  | [], a, h0, h1 => by rw [Aut.go]; exact ⟨h0, h1⟩
  | c :: s, a, h0, h1 => by
    rw [Aut.go]
    split
    · omega
    · have := h.step (a := a) (by omega) h1 c
      exact h.go s this.1 this.2
theorem Aut.go_neg {d : Aut} {s : Bs} : d.go (-1) s = -1 := by
  cases s with
  | nil => rfl
  | cons c s => rw [Aut.go, if_pos (by omega)]
theorem Aut.Right.go_append {d : Aut} (h : d.Right) (t : Bs) : ∀ (s : Bs) {a : Int}, -1 ≤ a → a < d.next.length → d.go a (s ++ t) = d.go (d.go a s) t
  | [], a, h0, h1 => rfl
  | c :: s, a, h0, h1 => by
    rw [List.cons_append, Aut.go, Aut.go]
    by_cases ha : a < 0
    · rw [if_pos ha, if_pos ha, Aut.go_neg]
    · rw [if_neg ha, if_neg ha]
      have := h.step (a := a) (by omega) h1 c
      exact h.go_append t s this.1 this.2

/-! ### The longest match -/
def Aut.best (d : Aut) (st : Int) (n : Nat) (b : Int × Nat) : Int × Nat := if 0 < n ∧ 0 ≤ d.accI st then (d.accI st, n) else b
/-- From a state on, so many bytes behind the place: the best match, how many places were seen. -/
def Aut.oneG (d : Aut) : Bs → Int → Nat → Int × Nat → (Int × Nat) × Nat
  | [], st, n, b => (d.best st n b, n + 1)
  | c :: r, st, n, b => if d.step st c < 0 then (d.best st n b, n + 1) else d.oneG r (d.step st c) (n + 1) (d.best st n b)
def Aut.one (d : Aut) (r : Bs) : (Int × Nat) × Nat := d.oneG r 0 0 (0, 0)
theorem Aut.best_le {d : Aut} {st : Int} {n : Nat} {b : Int × Nat} (h : b.2 ≤ n) : (d.best st n b).2 ≤ n := by
  unfold Aut.best
  split <;> simp_all
theorem Aut.oneG_le {d : Aut} : ∀ (r : Bs) (st : Int) (n : Nat) (b : Int × Nat), b.2 ≤ n → (d.oneG r st n b).1.2 ≤ n + r.length ∧ (d.oneG r st n b).1.2 < (d.oneG r st n b).2 ∧ n < (d.oneG r st n b).2 ∧ (d.oneG r st n b).2 ≤ n + r.length + 1
  | [], st, n, b, h => by
    have := Aut.best_le (d := d) (st := st) h
    rw [Aut.oneG]
    refine ⟨?_, ?_, ?_, ?_⟩ <;> simp <;> omega
  | c :: r, st, n, b, h => by
    have h1 := Aut.best_le (d := d) (st := st) h
    rw [Aut.oneG]
    split
    · refine ⟨?_, ?_, ?_, ?_⟩ <;> simp <;> omega
    · have := Aut.oneG_le (d := d) r (d.step st c) (n + 1) (d.best st n b) (by omega)
      simp only [List.length_cons]
      omega
theorem Aut.one_le (d : Aut) (r : Bs) : (d.one r).1.2 ≤ r.length ∧ (d.one r).1.2 < (d.one r).2 ∧ (d.one r).2 ≤ r.length + 1 := by
  have := Aut.oneG_le (d := d) r 0 0 (0, 0) (by simp)
  unfold Aut.one
  omega
theorem Aut.oneG_pre {d : Aut} : ∀ (r r' : Bs) (p : Nat) (st : Int) (n : Nat) (b : Int × Nat), p ≤ r.length → r.take p = r'.take p → (d.oneG r st n b).2 ≤ n + p → b.2 ≤ n → d.oneG r' st n b = d.oneG r st n b
  | [], r', p, st, n, b, hp, he, hs, hb => by
    rw [Aut.oneG] at hs
    simp at hp hs
    omega
  | c :: r, r', p, st, n, b, hp, he, hs, hb => by
    have h1 := (Aut.oneG_le (d := d) (c :: r) st n b hb).2.2.1
    obtain ⟨q, rfl⟩ : ∃ q, p = q + 1 := ⟨p - 1, by omega⟩
    cases r' with
    | nil => simp at he
    | cons c' r' =>
      simp only [List.take_succ_cons, List.cons.injEq] at he
      obtain ⟨rfl, he⟩ := he
      rw [Aut.oneG] at hs ⊢
      rw [Aut.oneG]
      split
      · rfl
      · rename_i hn
        rw [if_neg hn] at hs
        exact Aut.oneG_pre r r' q _ _ _ (by simpa using hp) he (by omega) (by have := Aut.best_le (d := d) (st := st) hb; omega)

/-! ### All tokens -/
structure Tok where
  rule : Int
  at_ : Nat
  len : Nat
  seen : Nat
def Aut.allG (d : Aut) : Nat → Bs → Nat → List Tok × Int
  | 0, _, _ => ([], -1)
  | f + 1, r, a => if r = [] then ([], -1) else if (d.one r).1.2 = 0 then ([], a) else
      (⟨(d.one r).1.1, a, (d.one r).1.2, a + (d.one r).2⟩ :: (d.allG f (r.drop (d.one r).1.2) (a + (d.one r).1.2)).1, (d.allG f (r.drop (d.one r).1.2) (a + (d.one r).1.2)).2)
theorem Aut.allG_fuel {d : Aut} : ∀ (f : Nat) (r : Bs) (a : Nat), r.length ≤ f → d.allG f r a = d.allG r.length r a
  | 0, r, a, h => by rw [show r.length = 0 by omega]
  | f + 1, r, a, h => by
    cases hr : r.length with
    | zero =>
      obtain rfl := List.length_eq_zero_iff.1 hr
      rfl
    | succ k =>
      rw [Aut.allG, Aut.allG]
      by_cases h0 : (d.one r).1.2 = 0
      · rw [if_pos h0, if_pos h0]
      · have hl : (r.drop (d.one r).1.2).length ≤ k := by rw [List.length_drop]; omega
        rw [Aut.allG_fuel f _ _ (by omega), Aut.allG_fuel k _ _ hl]
  termination_by f => f
  decreasing_by all_goals omega
def Aut.allF (d : Aut) (r : Bs) (a : Nat) : List Tok × Int := d.allG r.length r a
theorem Aut.allF_nil {d : Aut} {a : Nat} : d.allF [] a = ([], -1) := rfl
theorem Aut.allF_none {d : Aut} {r : Bs} {a : Nat} (hr : r ≠ []) (h : (d.one r).1.2 = 0) : d.allF r a = ([], (a : Int)) := by
  unfold Aut.allF
  cases r with
  | nil => exact absurd rfl hr
  | cons c r => rw [List.length_cons, Aut.allG, if_neg hr, if_pos h]
theorem Aut.allF_some {d : Aut} {r : Bs} {a : Nat} (h : (d.one r).1.2 ≠ 0) : d.allF r a =
    (⟨(d.one r).1.1, a, (d.one r).1.2, a + (d.one r).2⟩ :: (d.allF (r.drop (d.one r).1.2) (a + (d.one r).1.2)).1, (d.allF (r.drop (d.one r).1.2) (a + (d.one r).1.2)).2) := by
  have hr : r ≠ [] := by
    rintro rfl
    have := (d.one_le []).1
    simp at this
    exact h this
  unfold Aut.allF
  cases hl : r.length with
  | zero => exact absurd (List.length_eq_zero_iff.1 hl) hr
  | succ k =>
    rw [Aut.allG, if_neg hr, if_neg h]
    rw [Aut.allG_fuel k _ _ (by rw [List.length_drop]; omega)]
def Aut.all (d : Aut) (s : Bs) : List Tok × Int := if d.rightB then d.allF s 0 else ([], 0)
/-- The induction over a text by its tokens. -/
theorem Aut.lex_ind {d : Aut} {p : Bs → Nat → Prop} (h0 : ∀ a, p [] a) (h1 : ∀ r a, r ≠ [] → (d.one r).1.2 = 0 → p r a)
    (h2 : ∀ r a, (d.one r).1.2 ≠ 0 → p (r.drop (d.one r).1.2) (a + (d.one r).1.2) → p r a) : ∀ (n : Nat) (r : Bs) (a : Nat), r.length ≤ n → p r a
  | 0, r, a, h => by
    obtain rfl : r = [] := List.length_eq_zero_iff.1 (by omega)
    exact h0 a
  | n + 1, r, a, h => by
    by_cases hr : r = []
    · subst hr; exact h0 a
    by_cases h3 : (d.one r).1.2 = 0
    · exact h1 r a hr h3
    · exact h2 r a h3 (Aut.lex_ind h0 h1 h2 n _ _ (by rw [List.length_drop]; omega))
theorem Aut.lex_in {d : Aut} {p : Bs → Nat → Prop} (h0 : ∀ a, p [] a) (h1 : ∀ r a, r ≠ [] → (d.one r).1.2 = 0 → p r a)
    (h2 : ∀ r a, (d.one r).1.2 ≠ 0 → p (r.drop (d.one r).1.2) (a + (d.one r).1.2) → p r a) (r : Bs) (a : Nat) : p r a := Aut.lex_ind h0 h1 h2 r.length r a (Nat.le_refl _)
def Tok.shift (n : Nat) (t : Tok) : Tok := ⟨t.rule, t.at_ + n, t.len, t.seen + n⟩
def fin (n : Nat) (x : Int) : Int := if 0 ≤ x then x + n else -1
theorem Aut.allF_shift {d : Aut} (n : Nat) (r : Bs) (a : Nat) : d.allF r (a + n) = ((d.allF r a).1.map (Tok.shift n), fin n (d.allF r a).2) := by
  refine Aut.lex_in (d := d) (p := fun r a => d.allF r (a + n) = ((d.allF r a).1.map (Tok.shift n), fin n (d.allF r a).2)) (fun a => by simp [Aut.allF_nil, fin]) (fun r a hr h => ?_) (fun r a h ih => ?_) r a
  · rw [Aut.allF_none hr h, Aut.allF_none hr h]
    simp [fin]
  · rw [Aut.allF_some h, Aut.allF_some h]
    have e : a + n + (d.one r).1.2 = a + (d.one r).1.2 + n := by omega
    rw [e, ih]
    simp [Tok.shift]
    omega
/-- What the tokens' numbers are. -/
theorem Aut.allF_cover {d : Aut} (r : Bs) (a : Nat) : ∀ x ∈ (d.allF r a).1, 1 ≤ x.len ∧ a ≤ x.at_ ∧ x.at_ + x.len ≤ a + r.length ∧ x.seen ≤ a + r.length + 1 ∧ x.at_ + x.len < x.seen := by
  refine Aut.lex_in (d := d) (p := fun r a => ∀ x ∈ (d.allF r a).1, 1 ≤ x.len ∧ a ≤ x.at_ ∧ x.at_ + x.len ≤ a + r.length ∧ x.seen ≤ a + r.length + 1 ∧ x.at_ + x.len < x.seen) (fun a => by simp [Aut.allF_nil]) (fun r a hr h => by simp [Aut.allF_none hr h]) (fun r a h ih x hx => ?_) r a
  rw [Aut.allF_some h] at hx
  have h1 := d.one_le r
  rcases List.mem_cons.1 hx with rfl | hx
  · simp only
    omega
  · have := ih x hx
    rw [List.length_drop] at this
    omega
theorem Aut.allF_len {d : Aut} (r : Bs) (a : Nat) : (d.allF r a).1.length ≤ r.length := by
  refine Aut.lex_in (d := d) (p := fun r a => (d.allF r a).1.length ≤ r.length) (fun a => by simp [Aut.allF_nil]) (fun r a hr h => by simp [Aut.allF_none hr h]) (fun r a h ih => ?_) r a
  rw [Aut.allF_some h]
  have h1 := d.one_le r
  rw [List.length_drop] at ih
  simp only [List.length_cons]
  omega
theorem Aut.allF_fin {d : Aut} (r : Bs) (a : Nat) : -1 ≤ (d.allF r a).2 ∧ (d.allF r a).2 ≤ a + r.length := by
  refine Aut.lex_in (d := d) (p := fun r a => -1 ≤ (d.allF r a).2 ∧ (d.allF r a).2 ≤ a + r.length) (fun a => by simp [Aut.allF_nil] <;> omega) (fun r a hr h => by rw [Aut.allF_none hr h]; simp; omega) (fun r a h ih => ?_) r a
  rw [Aut.allF_some h]
  have h1 := d.one_le r
  rw [List.length_drop] at ih
  simp only
  omega
/-- Where so many tokens end. -/
def endT (l : List Tok) (a : Nat) : Nat := match l.getLast? with
  | some x => x.at_ + x.len
  | none => a
theorem endT_cons {x : Tok} {l : List Tok} {a : Nat} : endT (x :: l) a = endT l (x.at_ + x.len) := by
  unfold endT
  cases l with
  | nil => rfl
  | cons y l => rw [List.getLast?_cons_cons]; cases h : (y :: l).getLast? with
    | none => simp at h
    | some z => rfl
theorem endT_append {x : Tok} {l : List Tok} {a : Nat} : endT (l ++ [x]) a = x.at_ + x.len := by
  unfold endT
  rw [List.getLast?_concat]
/-- The tokens from the n-th one on are the rest's. -/
theorem Aut.allF_drop {d : Aut} (r : Bs) (a : Nat) : ∀ n, n ≤ (d.allF r a).1.length → a ≤ endT ((d.allF r a).1.take n) a ∧ endT ((d.allF r a).1.take n) a ≤ a + r.length ∧
    d.allF (r.drop (endT ((d.allF r a).1.take n) a - a)) (endT ((d.allF r a).1.take n) a) = ((d.allF r a).1.drop n, (d.allF r a).2) ∧ (∀ h : n < (d.allF r a).1.length, (d.allF r a).1[n].at_ = endT ((d.allF r a).1.take n) a) := by
  refine Aut.lex_in (d := d) (p := fun r a => ∀ n, n ≤ (d.allF r a).1.length → a ≤ endT ((d.allF r a).1.take n) a ∧ endT ((d.allF r a).1.take n) a ≤ a + r.length ∧
    d.allF (r.drop (endT ((d.allF r a).1.take n) a - a)) (endT ((d.allF r a).1.take n) a) = ((d.allF r a).1.drop n, (d.allF r a).2) ∧ (∀ h : n < (d.allF r a).1.length, (d.allF r a).1[n].at_ = endT ((d.allF r a).1.take n) a)) (fun a n hn => ?_) (fun r a hr h n hn => ?_) (fun r a h ih n hn => ?_) r a
  · simp [Aut.allF_nil] at hn
    subst hn
    simp [Aut.allF_nil, endT]
  · rw [Aut.allF_none hr h] at hn ⊢
    simp at hn
    subst hn
    simp [endT, Aut.allF_none hr h]
  · cases n with
    | zero =>
      simp [endT]
      rw [Aut.allF_some h]
      simp
    | succ n =>
      have h1 := d.one_le r
      have ih := ih n (by rw [Aut.allF_some h] at hn; simpa using hn)
      rw [Aut.allF_some h]
      simp only [List.take_succ_cons, endT_cons, List.drop_succ_cons, List.length_cons, List.getElem_cons_succ]
      obtain ⟨i1, i2, i3, i4⟩ := ih
      rw [List.length_drop] at i2
      refine ⟨by omega, by omega, ?_, fun h' => i4 (by omega)⟩
      rw [List.drop_drop] at i3
      rw [← i3]
      congr 2
      omega
/-- Tokens of which nothing was seen behind a place stay, whatever comes from there on. -/
theorem Aut.allF_pre {d : Aut} (r : Bs) (a : Nat) : ∀ (r' : Bs) (p n : Nat), p ≤ r.length → r.take p = r'.take p → n ≤ (d.allF r a).1.length → (∀ x ∈ (d.allF r a).1.take n, x.seen ≤ a + p) →
    d.allF r' a = ((d.allF r a).1.take n ++ (d.allF (r'.drop (endT ((d.allF r a).1.take n) a - a)) (endT ((d.allF r a).1.take n) a)).1, (d.allF (r'.drop (endT ((d.allF r a).1.take n) a - a)) (endT ((d.allF r a).1.take n) a)).2) := by
  refine Aut.lex_in (d := d) (p := fun r a => ∀ (r' : Bs) (p n : Nat), p ≤ r.length → r.take p = r'.take p → n ≤ (d.allF r a).1.length → (∀ x ∈ (d.allF r a).1.take n, x.seen ≤ a + p) →
    d.allF r' a = ((d.allF r a).1.take n ++ (d.allF (r'.drop (endT ((d.allF r a).1.take n) a - a)) (endT ((d.allF r a).1.take n) a)).1, (d.allF (r'.drop (endT ((d.allF r a).1.take n) a - a)) (endT ((d.allF r a).1.take n) a)).2)) (fun a r' p n hp he hn hs => ?_) (fun r a hr h r' p n hp he hn hs => ?_) (fun r a h ih r' p n hp he hn hs => ?_) r a
  · simp [Aut.allF_nil] at hn
    subst hn
    simp [endT]
  · rw [Aut.allF_none hr h] at hn
    simp at hn
    subst hn
    simp [endT]
  · cases n with
    | zero => simp [endT]
    | succ n =>
      have h1 := d.one_le r
      have hd := Aut.allF_cover (d := d) (r.drop (d.one r).1.2) (a + (d.one r).1.2)
      rw [Aut.allF_some h] at hn hs
      rw [Aut.allF_some (r := r) h]
      simp only [List.take_succ_cons, endT_cons, List.length_cons, List.mem_cons, forall_eq_or_imp] at hn hs ⊢
      obtain ⟨hs0, hs⟩ := hs
      have e1 : d.one r' = d.one r := Aut.oneG_pre r r' p 0 0 (0, 0) hp he (by have : (d.one r).2 ≤ p := by omega
                                                                               unfold Aut.one at this; omega) (by simp)
      have hlp : (d.one r).1.2 ≤ p := by omega
      have ih := ih (r'.drop (d.one r).1.2) (p - (d.one r).1.2) n (by rw [List.length_drop]; omega) (by
        rw [← List.drop_take, ← List.drop_take, he]) (by omega) (fun x hx => by have := hs x hx; omega)
      rw [Aut.allF_some (r := r') (by rw [e1]; exact h), e1]
      have i1 := (Aut.allF_drop (d := d) (r.drop (d.one r).1.2) (a + (d.one r).1.2) n (by omega)).1
      rw [ih]
      simp only [List.cons_append]
      rw [List.drop_drop]
      have e2 : (d.one r).1.2 + (endT (List.take n (d.allF (List.drop (d.one r).1.2 r) (a + (d.one r).1.2)).1) (a + (d.one r).1.2) - (a + (d.one r).1.2)) = endT (List.take n (d.allF (List.drop (d.one r).1.2 r) (a + (d.one r).1.2)).1) (a + (d.one r).1.2) - a := by omega
      rw [e2]
end Go.Abs
/- Tokens behind an edit: what is cut anew, and why the rest may stay. -/
namespace Go.Abs
set_option linter.unusedVariables false
set_option linter.unusedSimpArgs false

structure Edt where
  at_ : Int
  len : Int
  text : Bs
def Edt.row (e : Edt) : List FV := [.int .i64 e.at_, .int .i64 e.len, .str e.text]
def Edt.av (e : Edt) : AV := .agg [.fv (.int .i64 e.at_), .fv (.int .i64 e.len), .fv (.str e.text)]
def Edt.fitsB (s : Bs) (e : Edt) : Bool := decide (0 ≤ e.at_) && decide (0 ≤ e.len) && decide (e.at_ ≤ s.length) && decide (e.len ≤ s.length - e.at_)
def Edt.done (s : Bs) (e : Edt) : Bs := s.take e.at_.toNat ++ e.text ++ s.drop (e.at_.toNat + e.len.toNat)
def Edt.fullB (s : Bs) (e : Edt) : Bool := decide (4000 < e.text.length) || decide (4000 < (s.length : Int) - e.len + e.text.length)
def applyE (s : Bs) (e : Edt) : Bs × Int := if e.fitsB s then (if e.fullB s then ([], 3) else (e.done s, 0)) else ([], 2)
theorem Edt.fits_iff {s : Bs} {e : Edt} : e.fitsB s = true ↔ 0 ≤ e.at_ ∧ 0 ≤ e.len ∧ e.at_ ≤ s.length ∧ e.len ≤ s.length - e.at_ := by
  unfold Edt.fitsB
  simp only [Bool.and_eq_true, decide_eq_true_eq]
  constructor
  · rintro ⟨⟨⟨a, b⟩, c⟩, d⟩; exact ⟨a, b, c, d⟩
  · rintro ⟨a, b, c, d⟩; exact ⟨⟨⟨a, b⟩, c⟩, d⟩
theorem Edt.done_length {s : Bs} {e : Edt} (h : e.fitsB s = true) : ((e.done s).length : Int) = s.length - e.len + e.text.length := by
  obtain ⟨h1, h2, h3, h4⟩ := Edt.fits_iff.1 h
  unfold Edt.done
  simp only [List.length_append, List.length_take, List.length_drop]
  omega

/-- Is a place the beginning of an old token behind the edit? -/
def beginsB (k : List Tok) (from_ by_ : Int) (a : Nat) : Bool := k.any fun x => decide (from_ ≤ x.at_) && decide ((x.at_ : Int) + by_ = a)
def refN (k : List Tok) (from_ by_ : Int) : List Tok → Nat → Nat
  | [], n => n
  | x :: X, n => if 0 < n ∧ beginsB k from_ by_ x.at_ = true then n else refN k from_ by_ X (n + 1)
def movedT (b : Int) (x : Tok) : Tok := ⟨x.rule, ((x.at_ : Int) + b).toNat, x.len, ((x.seen : Int) + b).toNat⟩
def movedF (b x : Int) : Int := if 0 ≤ x then x + b else -1
/-- The place of the first old token that begins there. -/
def behindI (k : List Tok) (from_ by_ : Int) (a : Nat) : Option Nat := k.findIdx? fun x => decide (from_ ≤ x.at_) && decide ((x.at_ : Int) + by_ = a)
def Aut.editG (d : Aut) (k : List Tok × Int) (from_ by_ : Int) : Nat → Bs → Nat → Nat → (List Tok × Int) × Nat
  | 0, _, _, n => (([], -1), n)
  | f + 1, r, a, n => if r = [] then (([], -1), n) else
    match (if 0 < n then behindI k.1 from_ by_ a else none) with
    | some i => (((k.1.drop i).map (movedT by_), movedF by_ k.2), n)
    | none => if (d.one r).1.2 = 0 then (([], (a : Int)), n) else
      (((⟨(d.one r).1.1, a, (d.one r).1.2, a + (d.one r).2⟩ :: (d.editG k from_ by_ f (r.drop (d.one r).1.2) (a + (d.one r).1.2) (n + 1)).1.1),
        (d.editG k from_ by_ f (r.drop (d.one r).1.2) (a + (d.one r).1.2) (n + 1)).1.2), (d.editG k from_ by_ f (r.drop (d.one r).1.2) (a + (d.one r).1.2) (n + 1)).2)
theorem begins_iff {k : List Tok} {f b : Int} {a : Nat} : beginsB k f b a = (behindI k f b a).isSome := by
  unfold beginsB behindI
  rw [List.findIdx?_isSome]
theorem behind_some {k : List Tok} {f b : Int} {a i : Nat} (h : behindI k f b a = some i) : ∃ hi : i < k.length, f ≤ k[i].at_ ∧ (k[i].at_ : Int) + b = a := by
  unfold behindI at h
  rw [List.findIdx?_eq_some_iff_getElem] at h
  obtain ⟨hi, h1, _⟩ := h
  simp only [Bool.and_eq_true, decide_eq_true_eq] at h1
  exact ⟨hi, h1.1, h1.2⟩
theorem fin_moved {x : Int} {n : Nat} (h : -1 ≤ x) : x = movedF (-(n : Int)) (fin n x) := by
  unfold fin movedF
  by_cases h0 : 0 ≤ x
  · rw [if_pos h0, if_pos (by omega)]; omega
  · rw [if_neg h0, if_neg (by omega)]; omega
/-- An old text's rest, moved. -/
theorem Aut.moved {d : Aut} {r : Bs} {a a' : Nat} {b : Int} (h : (a : Int) + b = a') : d.allF r a' = ((d.allF r a).1.map (movedT b), movedF b (d.allF r a).2) := by
  have hc := Aut.allF_cover (d := d) r a
  have hf := Aut.allF_fin (d := d) r a
  by_cases hb : 0 ≤ b
  · obtain ⟨n, rfl⟩ : ∃ n : Nat, b = n := ⟨b.toNat, by omega⟩
    obtain rfl : a' = a + n := by omega
    rw [Aut.allF_shift]
    refine Prod.ext ?_ ?_
    · simp only
      refine List.map_congr_left fun x hx => ?_
      simp only [Tok.shift, movedT, Tok.mk.injEq, true_and]
      omega
    · simp only [fin, movedF]
  · obtain ⟨n, rfl⟩ : ∃ n : Nat, b = -(n : Int) := ⟨(-b).toNat, by omega⟩
    obtain rfl : a = a' + n := by omega
    have hc' := Aut.allF_cover (d := d) r a'
    rw [Aut.allF_shift]
    refine Prod.ext ?_ ?_
    · simp only [List.map_map]
      conv => lhs; rw [← List.map_id (d.allF r a').1]
      refine List.map_congr_left fun x hx => ?_
      have := hc' x hx
      cases x
      simp only [Function.comp, Tok.shift, movedT, id, Tok.mk.injEq, true_and]
      omega
    · exact fin_moved (Aut.allF_fin (d := d) r a').1
/-- What is cut anew, and what is kept, are the new text's tokens. -/
theorem Aut.editG_eq {d : Aut} {s t : Bs} {from_ by_ : Int} (h0 : 0 ≤ from_) (hm : ∀ i a : Nat, from_ ≤ i → (i : Int) + by_ = a → t.drop a = s.drop i) :
    ∀ (f : Nat) (r : Bs) (a n : Nat), r.length ≤ f → r = t.drop a → d.editG (d.allF s 0) from_ by_ f r a n = (d.allF r a, refN (d.allF s 0).1 from_ by_ (d.allF r a).1 n)
  | 0, r, a, n, hl, he => by
    obtain rfl : r = [] := List.length_eq_zero_iff.1 (by omega)
    rfl
  | f + 1, r, a, n, hl, he => by
    rw [Aut.editG]
    by_cases hr : r = []
    · subst hr
      rw [if_pos rfl]
      rfl
    rw [if_neg hr]
    cases hb : (if 0 < n then behindI (d.allF s 0).1 from_ by_ a else none) with
    | some i =>
      have hn : 0 < n := by
        by_cases hn : 0 < n
        · exact hn
        · rw [if_neg hn] at hb; cases hb
      rw [if_pos hn] at hb
      obtain ⟨hi, h1, h2⟩ := behind_some hb
      have h3 := Aut.allF_drop (d := d) s 0 i (by omega)
      obtain ⟨h4, h5, h6, h7⟩ := h3
      have h7 := h7 hi
      rw [Nat.sub_zero, ← h7] at h6
      have h8 : d.allF r a = (((d.allF s 0).1.drop i).map (movedT by_), movedF by_ (d.allF s 0).2) := by
        rw [he, hm _ a h1 h2, Aut.moved h2, h6]
      simp only
      rw [h8]
      have h9 : (d.allF s 0).1.drop i = (d.allF s 0).1[i] :: (d.allF s 0).1.drop (i + 1) := by rw [List.drop_eq_getElem_cons hi]
      rw [h9]
      simp only [List.map_cons]
      rw [refN, if_pos]
      refine ⟨hn, ?_⟩
      have h10 : (movedT by_ (d.allF s 0).1[i]).at_ = a := by simp only [movedT]; omega
      rw [h10, begins_iff, hb]
      rfl
    | none =>
      simp only
      by_cases h1 : (d.one r).1.2 = 0
      · rw [if_pos h1, Aut.allF_none hr h1]
        rfl
      · rw [if_neg h1, Aut.allF_some h1]
        have ih := Aut.editG_eq (d := d) h0 hm f (r.drop (d.one r).1.2) (a + (d.one r).1.2) (n + 1) (by rw [List.length_drop]; omega) (by rw [he, List.drop_drop])
        rw [ih]
        simp only [Prod.mk.injEq, true_and]
        rw [refN, if_neg]
        rintro ⟨hn, hq⟩
        rw [if_pos hn] at hb
        simp only at hq
        rw [begins_iff, hb] at hq
        cases hq
def frontN (k : List Tok) (a : Int) : Nat := (k.takeWhile fun x => decide ((x.seen : Int) ≤ a)).length
theorem frontN_le (k : List Tok) (a : Int) : frontN k a ≤ k.length := (List.takeWhile_sublist _).length_le
theorem frontN_take (k : List Tok) (a : Int) : k.take (frontN k a) = k.takeWhile fun x => decide ((x.seen : Int) ≤ a) := by
  unfold frontN
  conv => lhs; arg 2; rw [← List.takeWhile_append_dropWhile (p := fun x : Tok => decide ((x.seen : Int) ≤ a)) (l := k)]
  exact List.take_left
theorem takeWhile_all {α : Type} {p : α → Bool} : ∀ {l : List α} {x : α}, x ∈ l.takeWhile p → p x = true
  | [], x, h => by simp at h
  | y :: l, x, h => by
    rw [List.takeWhile_cons] at h
    split at h
    · rename_i hy
      rcases List.mem_cons.1 h with rfl | h
      · exact hy
      · exact takeWhile_all h
    · simp at h
theorem frontN_seen {k : List Tok} {a : Int} : ∀ x ∈ k.take (frontN k a), (x.seen : Int) ≤ a := fun x hx => by
  rw [frontN_take] at hx
  simpa using takeWhile_all hx
/-- What the program does: the front stays, the rest is cut anew or kept. -/
def Aut.editR (d : Aut) (k : List Tok × Int) (s t : Bs) (e : Edt) : (List Tok × Int) × Nat :=
  let n := frontN k.1 e.at_
  let g := d.editG k (e.at_ + e.len) ((t.length : Int) - s.length) t.length (t.drop (endT (k.1.take n) 0)) (endT (k.1.take n) 0) 0
  ((k.1.take n ++ g.1.1, g.1.2), g.2)
/-- What the document says. -/
def Aut.editS (d : Aut) (k : List Tok × Int) (s t : Bs) (e : Edt) : (List Tok × Int) × Nat :=
  (d.allF t 0, refN k.1 (e.at_ + e.len) ((t.length : Int) - s.length) ((d.allF t 0).1.drop (frontN k.1 e.at_)) 0)
theorem Edt.drop_done {s : Bs} {e : Edt} (h : e.fitsB s = true) (i a : Nat) (hi : e.at_ + e.len ≤ i) (ha : (i : Int) + (((e.done s).length : Int) - s.length) = a) : (e.done s).drop a = s.drop i := by
  have hl := Edt.done_length h
  obtain ⟨h1, h2, h3, h4⟩ := Edt.fits_iff.1 h
  unfold Edt.done
  have e1 : (s.take e.at_.toNat ++ e.text).length = e.at_.toNat + e.text.length := by rw [List.length_append, List.length_take]; omega
  rw [List.drop_append, List.drop_eq_nil_of_le (by omega), List.nil_append, List.drop_drop]
  congr 1
  omega
theorem Edt.take_done {s : Bs} {e : Edt} (h : e.fitsB s = true) : s.take e.at_.toNat = (e.done s).take e.at_.toNat := by
  obtain ⟨h1, h2, h3, h4⟩ := Edt.fits_iff.1 h
  unfold Edt.done
  rw [List.append_assoc, List.take_append, List.take_take]
  have : (s.take e.at_.toNat).length = e.at_.toNat := by rw [List.length_take]; omega
  rw [this]
  simp
theorem Aut.front_eq {d : Aut} {s : Bs} {e : Edt} (h : e.fitsB s = true) :
    d.allF (e.done s) 0 = ((d.allF s 0).1.take (frontN (d.allF s 0).1 e.at_) ++ (d.allF ((e.done s).drop (endT ((d.allF s 0).1.take (frontN (d.allF s 0).1 e.at_)) 0)) (endT ((d.allF s 0).1.take (frontN (d.allF s 0).1 e.at_)) 0)).1,
      (d.allF ((e.done s).drop (endT ((d.allF s 0).1.take (frontN (d.allF s 0).1 e.at_)) 0)) (endT ((d.allF s 0).1.take (frontN (d.allF s 0).1 e.at_)) 0)).2) := by
  obtain ⟨h1, h2, h3, h4⟩ := Edt.fits_iff.1 h
  have := Aut.allF_pre (d := d) s 0 (e.done s) e.at_.toNat (frontN (d.allF s 0).1 e.at_) (by omega) (Edt.take_done h) (frontN_le _ _) (fun x hx => by have := frontN_seen x hx; omega)
  rw [Nat.sub_zero] at this
  exact this
theorem Aut.edit_eq {d : Aut} {s : Bs} {e : Edt} (h : e.fitsB s = true) : d.editR (d.allF s 0) s (e.done s) e = d.editS (d.allF s 0) s (e.done s) e := by
  obtain ⟨h1, h2, h3, h4⟩ := Edt.fits_iff.1 h
  unfold Aut.editR Aut.editS
  simp only
  have hfr := Aut.front_eq (d := d) h
  have hlen := List.length_take_of_le (frontN_le (d.allF s 0).1 e.at_)
  generalize hp : (d.allF s 0).1.take (frontN (d.allF s 0).1 e.at_) = p at hfr hlen ⊢
  have hg := Aut.editG_eq (d := d) (s := s) (t := e.done s) (from_ := e.at_ + e.len) (by_ := ((e.done s).length : Int) - s.length) (by omega) (fun i a h5 h6 => Edt.drop_done h i a h5 h6) (e.done s).length ((e.done s).drop (endT p 0)) (endT p 0) 0 (by rw [List.length_drop]; omega) rfl
  rw [hg, hfr]
  simp only [Prod.mk.injEq, true_and]
  rw [List.drop_left' hlen]
/-- The way back. -/
def backE (t : Bs) (e : Edt) : Edt := ⟨e.at_, e.text.length, (t.drop e.at_.toNat).take e.len.toNat⟩
theorem back_done {s : Bs} {e : Edt} (h : e.fitsB s = true) : (backE s e).fitsB (e.done s) = true ∧ (backE s e).done (e.done s) = s := by
  have hl := Edt.done_length h
  obtain ⟨h1, h2, h3, h4⟩ := Edt.fits_iff.1 h
  refine ⟨Edt.fits_iff.2 ⟨h1, by simp [backE], by simp only [backE]; omega, by simp only [backE]; omega⟩, ?_⟩
  show (e.done s).take e.at_.toNat ++ (s.drop e.at_.toNat).take e.len.toNat ++ (e.done s).drop (e.at_.toNat + (e.text.length : Int).toNat) = s
  have e1 : (e.done s).drop (e.at_.toNat + (e.text.length : Int).toNat) = s.drop (e.at_.toNat + e.len.toNat) := Edt.drop_done h _ _ (by omega) (by omega)
  rw [e1, ← Edt.take_done h, List.append_assoc, ← List.drop_drop, List.take_append_drop, List.take_append_drop]
end Go.Abs
/- Automata, edits, tokens, as a row hands them. -/
namespace Go.Abs
set_option linter.unusedVariables false
set_option linter.unusedSimpArgs false
structure Aut.ok (d : Aut) : Prop where
  next : ∀ l ∈ d.next, (∀ n ∈ l, I64 n) ∧ l.length * 8 ≤ reachBytes
  nnext : d.next.length * 24 ≤ reachBytes
  acc : ∀ n ∈ d.acc, I64 n
  nacc : d.acc.length * 8 ≤ reachBytes
def Edt.ok (e : Edt) : Prop := I64 e.at_ ∧ I64 e.len ∧ e.text.length ≤ reachBytes
structure Tk where
  rule : Int
  at_ : Int
  len : Int
def Tk.row (t : Tk) : List FV := [.int .i64 t.rule, .int .i64 t.at_, .int .i64 t.len]
def Tk.ok (t : Tk) : Prop := I64 t.rule ∧ I64 t.at_ ∧ I64 t.len
structure Oth where
  toks : List Tk
  seen : List Int
  at_ : Int
  e : Edt
def Oth.row (o : Oth) : List FV := [.lst 3 (o.toks.map Tk.row), .lst 1 (o.seen.map iRow), .int .i64 o.at_, .int .i64 o.e.at_, .int .i64 o.e.len, .str o.e.text]
structure Oth.ok (o : Oth) : Prop where
  toks : ∀ t ∈ o.toks, t.ok
  ntoks : o.toks.length * 24 ≤ reachBytes
  seen : ∀ n ∈ o.seen, I64 n
  nseen : o.seen.length * 8 ≤ reachBytes
  at_ : I64 o.at_
  e : o.e.ok
def shAut : List Sh := [.slc 24 [.slc 8 [.int .i64]], .slc 8 [.int .i64]]
def shEdt : List Sh := [.int .i64, .int .i64, .str]
theorem nrow_of (row : List FV) (h : RowC [.slc 8 [.int .i64]] row) : ∃ l : List Int, row = nRow l ∧ ((∀ n ∈ l, I64 n) ∧ l.length * 8 ≤ reachBytes) := by
  obtain ⟨x0, r0, rfl, h0, h⟩ := h.cons_inv
  obtain rfl := h.nil_inv
  obtain ⟨l, rfl, w1, w2⟩ := h0.slc_inv iRow I64 int_of
  exact ⟨l, rfl, w1, w2⟩
theorem aut_of (row : List FV) (h : RowC shAut row) : ∃ d : Aut, row = d.row ∧ d.ok := by
  obtain ⟨x0, r0, rfl, h0, h⟩ := h.cons_inv
  obtain ⟨x1, r1, rfl, h1, h⟩ := h.cons_inv
  obtain rfl := h.nil_inv
  obtain ⟨l, rfl, w1, w2⟩ := h0.slc_inv nRow (fun l => (∀ n ∈ l, I64 n) ∧ l.length * 8 ≤ reachBytes) nrow_of
  obtain ⟨a, rfl, w3, w4⟩ := h1.slc_inv iRow I64 int_of
  exact ⟨⟨l, a⟩, rfl, w1, w2, w3, w4⟩
theorem edt2_of (row : List FV) (h : RowC (shEdt ++ shEdt) row) : ∃ e f : Edt, row = e.row ++ f.row ∧ e.ok ∧ f.ok := by
  obtain ⟨x0, r0, rfl, h0, h⟩ := h.cons_inv
  obtain ⟨x1, r1, rfl, h1, h⟩ := h.cons_inv
  obtain ⟨x2, r2, rfl, h2, h⟩ := h.cons_inv
  obtain ⟨x3, r3, rfl, h3, h⟩ := h.cons_inv
  obtain ⟨x4, r4, rfl, h4, h⟩ := h.cons_inv
  obtain ⟨x5, r5, rfl, h5, h⟩ := h.cons_inv
  obtain rfl := h.nil_inv
  obtain ⟨n0, rfl, w0⟩ := h0.int_inv
  obtain ⟨n1, rfl, w1⟩ := h1.int_inv
  obtain ⟨s, rfl, w2⟩ := h2.str_inv
  obtain ⟨n3, rfl, w3⟩ := h3.int_inv
  obtain ⟨n4, rfl, w4⟩ := h4.int_inv
  obtain ⟨s5, rfl, w5⟩ := h5.str_inv
  exact ⟨⟨n0, n1, s⟩, ⟨n3, n4, s5⟩, rfl, ⟨wf_i64 w0, wf_i64 w1, w2⟩, wf_i64 w3, wf_i64 w4, w5⟩
section
variable {H : Type} {enc : TypeId × Value → H} {P : Program} {w : World} {base : Nat} {spare : Nat → Bool} {held : Bool}
theorem handed_arr {T e : TypeId} {len : Nat} {b0 : Nat} {v : Value} {d : DataW H} {ps : List MemPlace} {n : Nat} {sh : List Sh} (hu : P.underlying T = some (.array len e)) (hs : shOf P n T = some sh) (hval : Value.okWide P w .any b0 T v)
    (hd : DataW.Trod enc P w base spare held T v d ps) (hw : ∀ k ∈ d.weights P T, k ≤ reachBytes) : ∃ row, RowC sh row ∧ VRel w (fun b => b < w.heap.size) [] v (.agg (row.map .fv)) := by
  simp only [Value.okWide, hu] at hval
  obtain ⟨cs, rfl, hsz, _⟩ := hval
  obtain ⟨fuel, hf⟩ := hd
  obtain ⟨row, hrow⟩ := opened n fuel T _ (d, ps) sh hs hf hw
  refine ⟨row, hrow.rowC, .agg _ _ ?_ (fun i u x hu hx => ?_)⟩
  · have h1 := hrow.1
    have h2 := hrow.2.1
    simp only [Value.cells, Array.length_toList] at h1
    simp [h1, h2]
  · simp only [List.getElem?_map, Option.map_eq_some_iff] at hx
    obtain ⟨y, hy, rfl⟩ := hx
    exact .fv _ _ (hrow.2.2.1 i u y (by simpa [Value.cells] using hu) hy)
end
end Go.Abs
