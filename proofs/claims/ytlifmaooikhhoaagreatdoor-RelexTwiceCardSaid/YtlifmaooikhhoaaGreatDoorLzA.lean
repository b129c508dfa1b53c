/- Plain: tokens begin one behind the other; what is cut anew, without fuel; the map of the old tokens behind an edit. -/
import Derived.Test.YtlifmaooikhhoaaGreatDoorLxA
namespace Go.Abs
set_option linter.unusedVariables false
set_option linter.unusedSimpArgs false
theorem Aut.allF_next {d : Aut} (r : Bs) (a j : Nat) (h : j + 1 < (d.allF r a).1.length) : (d.allF r a).1[j + 1].at_ = (d.allF r a).1[j].at_ + (d.allF r a).1[j].len := by
  have h1 := (Aut.allF_drop (d := d) r a (j + 1) (by omega)).2.2.2 h
  rw [h1, List.take_succ_eq_append_getElem (by omega), endT_append]
theorem Aut.allF_mono {d : Aut} (r : Bs) (a : Nat) : ∀ (j i : Nat) (h : j < (d.allF r a).1.length) (hij : i < j), (d.allF r a).1[i].at_ + (d.allF r a).1[i].len ≤ (d.allF r a).1[j].at_
  | 0, i, h, hij => by omega
  | j + 1, i, h, hij => by
    have h1 := Aut.allF_next (d := d) r a j h
    have h2 := (Aut.allF_cover (d := d) r a _ (List.getElem_mem (show j < (d.allF r a).1.length by omega))).1
    by_cases e : i = j
    · subst e; omega
    · have := Aut.allF_mono (d := d) r a j i (by omega) (by omega)
      omega
theorem Aut.editG_fuel {d : Aut} {k : List Tok × Int} {f b : Int} : ∀ (n : Nat) (r : Bs) (a m : Nat), r.length ≤ n → d.editG k f b n r a m = d.editG k f b r.length r a m
  | 0, r, a, m, h => by
    obtain rfl : r = [] := List.length_eq_zero_iff.1 (by omega)
    rfl
  | n + 1, r, a, m, h => by
    cases hr : r with
    | nil => rfl
    | cons c r' =>
      have hl : (c :: r').length = r'.length + 1 := rfl
      have hne : c :: r' ≠ [] := by simp
      rw [hl, Aut.editG, Aut.editG, if_neg hne, if_neg hne]
      cases hb : (if 0 < m then behindI k.1 f b a else none) with
      | some i => rfl
      | none =>
        simp only
        by_cases h0 : (d.one (c :: r')).1.2 = 0
        · rw [if_pos h0, if_pos h0]
        · rw [if_neg h0, if_neg h0]
          have h1 : ((c :: r').drop (d.one (c :: r')).1.2).length ≤ r'.length := by rw [List.length_drop, hl]; omega
          have h2 : r'.length ≤ n := by rw [hr, hl] at h; omega
          rw [Aut.editG_fuel n _ _ _ (by omega), Aut.editG_fuel r'.length _ _ _ h1]
  termination_by n => n
  decreasing_by
    · simp_wf
    · simp_wf
      rw [hr] at h
      simp at h
      omega
def Aut.editF (d : Aut) (k : List Tok × Int) (f b : Int) (r : Bs) (a m : Nat) : (List Tok × Int) × Nat := d.editG k f b r.length r a m
theorem Aut.editF_nil {d : Aut} {k : List Tok × Int} {f b : Int} {a m : Nat} : d.editF k f b [] a m = (([], -1), m) := rfl
theorem Aut.editF_behind {d : Aut} {k : List Tok × Int} {f b : Int} {r : Bs} {a m i : Nat} (hr : r ≠ []) (hm : 0 < m) (hi : behindI k.1 f b a = some i) : d.editF k f b r a m = (((k.1.drop i).map (movedT b), movedF b k.2), m) := by
  unfold Aut.editF
  cases r with
  | nil => exact absurd rfl hr
  | cons c r => rw [List.length_cons, Aut.editG, if_neg hr, if_pos hm, hi]
theorem Aut.editF_none {d : Aut} {k : List Tok × Int} {f b : Int} {r : Bs} {a m : Nat} (hr : r ≠ []) (hi : (if 0 < m then behindI k.1 f b a else none) = none) (h0 : (d.one r).1.2 = 0) : d.editF k f b r a m = (([], (a : Int)), m) := by
  unfold Aut.editF
  cases r with
  | nil => exact absurd rfl hr
  | cons c r => rw [List.length_cons, Aut.editG, if_neg hr, hi]; simp only; rw [if_pos h0]
theorem Aut.editF_some {d : Aut} {k : List Tok × Int} {f b : Int} {r : Bs} {a m : Nat} (hr : r ≠ []) (hi : (if 0 < m then behindI k.1 f b a else none) = none) (h0 : (d.one r).1.2 ≠ 0) :
    d.editF k f b r a m = ((⟨(d.one r).1.1, a, (d.one r).1.2, a + (d.one r).2⟩ :: (d.editF k f b (r.drop (d.one r).1.2) (a + (d.one r).1.2) (m + 1)).1.1, (d.editF k f b (r.drop (d.one r).1.2) (a + (d.one r).1.2) (m + 1)).1.2), (d.editF k f b (r.drop (d.one r).1.2) (a + (d.one r).1.2) (m + 1)).2) := by
  have e : d.editF k f b r a m = d.editG k f b r.length r a m := rfl
  rw [e]
  cases hq : r.length with
  | zero => exact absurd (List.length_eq_zero_iff.1 hq) hr
  | succ n =>
    rw [Aut.editG, if_neg hr, hi]
    simp only
    rw [if_neg h0, Aut.editG_fuel n _ _ _ (by rw [List.length_drop]; omega)]
    rfl
theorem endT_le {l : List Tok} {n : Nat} (h : ∀ x ∈ l, x.at_ + x.len ≤ n) : endT l 0 ≤ n := by
  unfold endT
  cases hl : l.getLast? with
  | none => simp
  | some x => exact h x (List.mem_of_getLast? hl)
/-- What is known of a text's tokens. -/
structure EdFacts (s : Bs) (l : List Tok) (f : Int) : Prop where
  cov : ∀ x ∈ l, 1 ≤ x.len ∧ x.at_ + x.len ≤ s.length ∧ x.seen ≤ s.length + 1 ∧ x.at_ + x.len < x.seen
  mono : ∀ (i j : Nat) (x y : Tok), l[i]? = some x → l[j]? = some y → i < j → x.at_ + x.len ≤ y.at_
  fin : -1 ≤ f ∧ f ≤ s.length
  len : l.length ≤ s.length
  endle : ∀ n, n ≤ l.length → endT (l.take n) 0 ≤ s.length
theorem edFacts (d : Aut) (s : Bs) : EdFacts s (d.allF s 0).1 (d.allF s 0).2 where
  cov := fun x hx => by have := Aut.allF_cover (d := d) s 0 x hx; omega
  mono := fun i j x y hx hy hij => by
    have hj := (List.getElem?_eq_some_iff.1 hy).1
    have := Aut.allF_mono (d := d) s 0 j i hj hij
    rw [(List.getElem?_eq_some_iff.1 hy).2, (List.getElem?_eq_some_iff.1 hx).2] at this
    exact this
  fin := by have := Aut.allF_fin (d := d) s 0; omega
  len := Aut.allF_len s 0
  endle := fun n hn => by have := (Aut.allF_drop (d := d) s 0 n hn).2.1; omega
/-! ### The map -/
def ents (f b : Int) : List Tok → Nat → List (Int × Nat)
  | [], _ => []
  | x :: l, i => if f ≤ x.at_ then ((x.at_ : Int) + b, i) :: ents f b l (i + 1) else ents f b l (i + 1)
theorem ents_append (f b : Int) : ∀ (l m : List Tok) (i : Nat), ents f b (l ++ m) i = ents f b l i ++ ents f b m (i + l.length)
  | [], m, i => by simp [ents]
  | x :: l, m, i => by
    rw [List.cons_append, ents, ents, ents_append f b l m (i + 1)]
    have e : i + 1 + l.length = i + (x :: l).length := by simp; omega
    rw [e]
    split <;> rfl
theorem ents_snoc (f b : Int) (l : List Tok) (x : Tok) : ents f b (l ++ [x]) 0 = if f ≤ x.at_ then ents f b l 0 ++ [((x.at_ : Int) + b, l.length)] else ents f b l 0 := by
  rw [ents_append]
  simp only [ents, Nat.zero_add]
  split <;> simp
theorem ents_key (f b : Int) : ∀ (l : List Tok) (i : Nat) (p : Int × Nat), p ∈ ents f b l i → ∃ x ∈ l, p.1 = (x.at_ : Int) + b
  | [], i, p, h => by simp [ents] at h
  | x :: l, i, p, h => by
    rw [ents] at h
    split at h
    · rcases List.mem_cons.1 h with rfl | h
      · exact ⟨x, by simp, rfl⟩
      · obtain ⟨y, hy, e⟩ := ents_key f b l (i + 1) p h
        exact ⟨y, List.mem_cons_of_mem _ hy, e⟩
    · obtain ⟨y, hy, e⟩ := ents_key f b l (i + 1) p h
      exact ⟨y, List.mem_cons_of_mem _ hy, e⟩
def enc (p : Int × Nat) : FV × AV := (.int .i64 p.1, .fv (.int .i64 p.2))
def lookE (a : Int) : List (Int × Nat) → Nat → Option (Nat × AV)
  | [], _ => none
  | p :: l, j => if a = p.1 then some (j, .fv (.int .i64 p.2)) else lookE a l (j + 1)
theorem find_enc (a : Int) : ∀ (l : List (Int × Nat)) (j : Nat), findA (.int .i64 a) (l.map enc) j = some (lookE a l j)
  | [], j => rfl
  | p :: l, j => by
    rw [List.map_cons, enc, findA, lookE]
    simp only [sameK, if_true]
    by_cases h : a = p.1
    · subst h; simp
    · have hb : (a == p.1) = false := by simpa using h
      rw [hb, if_neg h]
      exact find_enc a l (j + 1)
theorem lookE_none {a : Int} : ∀ {l : List (Int × Nat)} {j : Nat}, (∀ p ∈ l, p.1 ≠ a) → lookE a l j = none
  | [], j, h => rfl
  | p :: l, j, h => by
    rw [lookE, if_neg (fun e => h p (by simp) e.symm)]
    exact lookE_none fun q hq => h q (List.mem_cons_of_mem _ hq)
/-- What the map says of a place is the first old token that begins there. -/
theorem look_behind (f b : Int) (a : Nat) : ∀ (l : List Tok) (i j : Nat), (lookE (a : Int) (ents f b l i) j).map Prod.snd = (l.findIdx? fun x => decide (f ≤ x.at_) && decide ((x.at_ : Int) + b = a)).map fun n => AV.fv (.int .i64 ((i + n : Nat) : Int))
  | [], i, j => rfl
  | x :: l, i, j => by
    rw [ents, List.findIdx?_cons]
    by_cases h1 : f ≤ (x.at_ : Int)
    · rw [if_pos h1, lookE, decide_eq_true h1, Bool.true_and]
      by_cases h2 : (x.at_ : Int) + b = a
      · rw [if_pos h2.symm, decide_eq_true h2, if_pos rfl]
        simp
      · rw [if_neg (fun e => h2 e.symm), decide_eq_false h2, if_neg (by simp), look_behind f b a l (i + 1) (j + 1)]
        rw [Option.map_map]
        congr 1
        funext n
        simp only [Function.comp]
        congr 3
        omega
    · rw [if_neg h1, decide_eq_false h1, Bool.false_and, if_neg (by simp), look_behind f b a l (i + 1) j]
      rw [Option.map_map]
      congr 1
      funext n
      simp only [Function.comp]
      congr 3
      omega
end Go.Abs
