/- Plain: what the parts of some sets are. -/
import Derived.Test.YtablmjophjjabaaDoorBytesD
import Derived.Test.YtablmjophjjabaaDoorSetsM
namespace Go.Abs
set_option linter.unusedVariables false
set_option linter.unusedSimpArgs false
/-- Are two bytes in the same sets? -/
def alike (l : List (Nat → Bool)) (a b : Nat) : Bool := l.all fun s => s a == s b
theorem alike_iff (l : List (Nat → Bool)) (a b : Nat) : alike l a b = true ↔ ∀ s ∈ l, s a = s b := by simp [alike, List.all_eq_true]
theorem alike_refl (l : List (Nat → Bool)) (a : Nat) : alike l a a = true := (alike_iff l a a).2 fun _ _ => rfl
theorem alike_symm {l : List (Nat → Bool)} {a b : Nat} (h : alike l a b = true) : alike l b a = true := (alike_iff l b a).2 fun s hs => ((alike_iff l a b).1 h s hs).symm
theorem alike_trans {l : List (Nat → Bool)} {a b c : Nat} (h : alike l a b = true) (h2 : alike l b c = true) : alike l a c = true :=
  (alike_iff l a c).2 fun s hs => ((alike_iff l a b).1 h s hs).trans ((alike_iff l b c).1 h2 s hs)
theorem alike_append (l : List (Nat → Bool)) (s : Nat → Bool) (a b : Nat) : alike (l ++ [s]) a b = (alike l a b && (s a == s b)) := by simp [alike]
/-- A set is the class of each of its bytes, and has one. -/
def IsClass (l : List (Nat → Bool)) (p : Nat → Bool) : Prop := (∃ a, a < 256 ∧ p a = true) ∧ ∀ a, a < 256 → p a = true → ∀ b, b < 256 → p b = alike l a b
theorem emp_false (p : Nat → Bool) : emp p = false ↔ ∃ a, a < 256 ∧ p a = true := by
  have h := same_iff p (fun _ => false)
  constructor
  · intro he
    apply Classical.byContradiction
    intro hn
    have : same p (fun _ => false) = true := h.2 fun b hb => by
      cases hp : p b with
      | false => rfl
      | true => exact absurd ⟨b, hb, hp⟩ hn
    unfold emp at he
    rw [this] at he
    cases he
  · rintro ⟨a, ha, hp⟩
    cases he : emp p with
    | false => rfl
    | true =>
      have := h.1 he a ha
      rw [hp] at this
      cases this
def Disj (p q : Nat → Bool) : Prop := ∀ b, b < 256 → p b = true → q b = true → False
theorem mem_part1 {p s q : Nat → Bool} : q ∈ part1 p s ↔ (q = (fun b => p b && s b) ∨ q = fun b => p b && !s b) ∧ emp q = false := by
  simp [part1, List.mem_filter]
theorem rev_ind {α : Type} {Q : List α → Prop} (h0 : Q []) (h1 : ∀ l a, Q l → Q (l ++ [a])) (l : List α) : Q l := by
  have h : ∀ m : List α, Q m.reverse := fun m => by
    induction m with
    | nil => simpa using h0
    | cons a m ih => rw [List.reverse_cons]; exact h1 _ _ ih
  have := h l.reverse
  rwa [List.reverse_reverse] at this
theorem parts_facts (l : List (Nat → Bool)) : (∀ p ∈ partsOf l, IsClass l p) ∧ (partsOf l).Pairwise Disj ∧ ∀ b, b < 256 → ∃ p ∈ partsOf l, p b = true := by
  induction l using rev_ind with
  | h0 =>
    refine ⟨fun p hp => ?_, by simp [partsOf], fun b hb => ⟨fun _ => true, by simp [partsOf], rfl⟩⟩
    simp [partsOf] at hp
    subst hp
    exact ⟨⟨0, by omega, rfl⟩, fun a _ _ b _ => rfl⟩
  | h1 l s ih =>
    obtain ⟨h1, h2, h3⟩ := ih
    have e : partsOf (l ++ [s]) = partS (partsOf l) s := by simp [partsOf, List.foldl_append]
    rw [e]
    refine ⟨fun q hq => ?_, ?_, fun b hb => ?_⟩
    · simp only [partS, List.mem_flatMap] at hq
      obtain ⟨p, hp, hq⟩ := hq
      obtain ⟨hq, he⟩ := mem_part1.1 hq
      refine ⟨(emp_false q).1 he, fun a ha hqa b hb => ?_⟩
      obtain ⟨_, hc⟩ := h1 p hp
      rw [alike_append]
      rcases hq with rfl | rfl
      · simp only [Bool.and_eq_true] at hqa ⊢
        rw [hc a ha hqa.1 b hb, hqa.2]
        cases s b <;> simp
      · simp only [Bool.and_eq_true, Bool.not_eq_true'] at hqa ⊢
        rw [hc a ha hqa.1 b hb, hqa.2]
        cases s b <;> simp
    · unfold partS
      rw [List.pairwise_flatMap]
      refine ⟨fun p hp => ?_, ?_⟩
      · unfold part1
        refine List.Pairwise.filter _ ?_
        simp only [List.pairwise_cons, List.mem_singleton, List.not_mem_nil, false_implies, implies_true, List.Pairwise.nil, and_true]
        rintro q rfl b hb h1 h2
        simp only [Bool.and_eq_true, Bool.not_eq_true'] at h1 h2
        rw [h1.2] at h2
        cases h2.2
      · refine h2.imp fun {p q} hd x hx y hy b hb hxb hyb => ?_
        have hsub : ∀ r z : Nat → Bool, z ∈ part1 r s → z b = true → r b = true := fun r z hz hzb => by
          rcases (mem_part1.1 hz).1 with rfl | rfl <;> simp only [Bool.and_eq_true] at hzb <;> exact hzb.1
        exact hd b hb (hsub p x hx hxb) (hsub q y hy hyb)
    · obtain ⟨p, hp, hpb⟩ := h3 b hb
      cases hs : s b with
      | true =>
        refine ⟨fun c => p c && s c, ?_, by simp [hpb, hs]⟩
        simp only [partS, List.mem_flatMap]
        exact ⟨p, hp, mem_part1.2 ⟨.inl rfl, (emp_false _).2 ⟨b, hb, by simp [hpb, hs]⟩⟩⟩
      | false =>
        refine ⟨fun c => p c && !s c, ?_, by simp [hpb, hs]⟩
        simp only [partS, List.mem_flatMap]
        exact ⟨p, hp, mem_part1.2 ⟨.inr rfl, (emp_false _).2 ⟨b, hb, by simp [hpb, hs]⟩⟩⟩
theorem least_of {p : Nat → Bool} {a : Nat} (ha : a < 256) (hp : p a = true) : ∃ m : Nat, m < 256 ∧ leastP p = m ∧ p m = true ∧ ∀ j, j < m → p j = false := by
  have hex : ∃ m, m < 256 ∧ p m = true ∧ ∀ j, j < m → p j = false := by
    have hk : ∀ n, (∃ a, a < n ∧ a < 256 ∧ p a = true) → ∃ m, m < 256 ∧ p m = true ∧ ∀ j, j < m → p j = false := by
      intro n
      induction n with
      | zero => rintro ⟨a, h, _⟩; omega
      | succ n ih =>
        rintro ⟨a, h1, h2, h3⟩
        by_cases hn : ∃ a, a < n ∧ a < 256 ∧ p a = true
        · exact ih hn
        · refine ⟨a, h2, h3, fun j hj => ?_⟩
          cases hpj : p j with
          | false => rfl
          | true => exact absurd ⟨j, by omega, by omega, hpj⟩ hn
    exact hk (a + 1) ⟨a, by omega, ha, hp⟩
  obtain ⟨m, h1, h2, h3⟩ := hex
  exact ⟨m, h1, least_at p m h1 h2 h3, h2, h3⟩
/-- The least of each class. -/
def heads (l : List (Nat → Bool)) : List Nat := (List.range 256).filter fun a => (List.range a).all fun b => !alike l a b
theorem mem_heads (l : List (Nat → Bool)) (a : Nat) : a ∈ heads l ↔ a < 256 ∧ ∀ b, b < a → alike l a b = false := by
  simp [heads, List.mem_filter, List.all_eq_true]
theorem heads_rises (l : List (Nat → Bool)) : (heads l).Pairwise (· < ·) := List.Pairwise.filter _ List.pairwise_lt_range
theorem heads_length (l : List (Nat → Bool)) : (heads l).length ≤ 256 := by
  have := List.length_filter_le (fun a => (List.range a).all fun b => !alike l a b) (List.range 256)
  simpa [heads] using this
/-- Sorted by their least bytes, the classes stand as their least bytes do. -/
theorem sorted_heads (l qs : List (Nat → Bool)) (hq : qs.Perm (partsOf l)) (hs : qs.Pairwise fun p q => leastP p ≤ leastP q) : qs.map leastP = (heads l).map fun a : Nat => (a : Int) := by
  obtain ⟨h1, h2, h3⟩ := parts_facts l
  have hcl : ∀ p ∈ qs, IsClass l p := fun p hp => h1 p (hq.mem_iff.1 hp)
  have hdis : qs.Pairwise Disj := (hq.symm.pairwise_iff (fun {x y} h b hb h1 h2 => h b hb h2 h1)).1 h2
  have hleast : ∀ p ∈ qs, ∃ m : Nat, m < 256 ∧ leastP p = m ∧ p m = true ∧ ∀ j, j < m → p j = false := fun p hp => by
    obtain ⟨⟨a, ha, hpa⟩, _⟩ := hcl p hp
    exact least_of ha hpa
  refine rises_unique _ _ ?_ ?_ ?_
  · rw [List.pairwise_map]
    have := hs.and hdis
    refine List.Pairwise.imp_of_mem ?_ this
    intro p q hp hq' ⟨hle, hd⟩
    obtain ⟨m, hm, e, hpm, _⟩ := hleast p hp
    obtain ⟨k, hk, e2, hqk, _⟩ := hleast q hq'
    have hne : m ≠ k := fun h => hd m hm hpm (h ▸ hqk)
    rw [e, e2] at hle ⊢
    omega
  · rw [List.pairwise_map]
    exact (heads_rises l).imp fun {a b} h => by omega
  · intro x
    rw [List.mem_map, List.mem_map]
    constructor
    · rintro ⟨p, hp, rfl⟩
      obtain ⟨m, hm, e, hpm, hn⟩ := hleast p hp
      refine ⟨m, (mem_heads l m).2 ⟨hm, fun b hb => ?_⟩, e.symm⟩
      have := (hcl p hp).2 m hm hpm b (by omega)
      rw [← this]
      exact hn b hb
    · rintro ⟨a, ha, rfl⟩
      obtain ⟨ha, hn⟩ := (mem_heads l a).1 ha
      obtain ⟨p, hp, hpa⟩ := h3 a ha
      have hp' := hq.mem_iff.2 hp
      refine ⟨p, hp', ?_⟩
      refine least_at p a ha hpa fun j hj => ?_
      rw [(h1 p hp).2 a ha hpa j (by omega)]
      exact hn j hj
theorem parts_len (l : List (Nat → Bool)) : partsOf l ≠ [] := by
  obtain ⟨_, _, h3⟩ := parts_facts l
  obtain ⟨p, hp, _⟩ := h3 0 (by omega)
  exact List.ne_nil_of_mem hp
/-- The class of a byte. -/
def classOf (l : List (Nat → Bool)) (a : Nat) : Nat → Bool := fun b => decide (a ≤ b) && alike l a b
theorem sorted_same (l qs : List (Nat → Bool)) (hq : qs.Perm (partsOf l)) (hs : qs.Pairwise fun p q => leastP p ≤ leastP q) : qs.length = (heads l).length ∧ ∀ i (h : i < qs.length) (h2 : i < (heads l).length), same qs[i] (classOf l (heads l)[i]) = true := by
  have hm := sorted_heads l qs hq hs
  obtain ⟨h1, _, _⟩ := parts_facts l
  refine ⟨by simpa using congrArg List.length hm, fun i h h2 => ?_⟩
  have hcl := h1 qs[i] (hq.mem_iff.1 (List.getElem_mem h))
  have e : leastP qs[i] = ((heads l)[i] : Nat) := by
    have := congrArg (fun z => z[i]?) hm
    simpa [h, h2] using this
  obtain ⟨⟨a, ha, hpa⟩, hc⟩ := hcl
  obtain ⟨m, hm', em, hpm, hn⟩ := least_of ha hpa
  have hmi : (heads l)[i] = m := by
    have : ((heads l)[i] : Int) = (m : Int) := by rw [← e, em]
    omega
  rw [hmi, same_iff]
  intro b hb
  simp only [classOf]
  by_cases hbm : m ≤ b
  · rw [hc m hm' hpm b hb]; simp [hbm]
  · rw [hn b (by omega)]; simp [hbm]
end Go.Abs
