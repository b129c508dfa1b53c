/- Going down to all that is reached. -/
import Derived.Test.YtckpaaeilbgiiaaGreatTopC
namespace Go.Abs
set_option linter.unusedVariables false
set_option linter.unusedSimpArgs false
/-- What stands right of a symbol. -/
def Gra.next (g : Gra) (n : Int) : List Int := g.prods.flatMap fun p => if p.left = n then p.right else []
def markF (g : Gra) : Nat → List Int → Int → List Int
  | 0, o, _ => o
  | f + 1, o, n => if n ≤ (g.terms : Int) ∨ n ∈ o then o else (g.next n).foldl (markF g f) (o ++ [n])
structure MarkI (g : Gra) (o : List Int) : Prop where
  nd : o.Nodup
  rg : ∀ x ∈ o, (g.terms : Int) < x ∧ x ≤ (g.all : Int)
theorem MarkI.len {g : Gra} {o : List Int} (h : MarkI g o) : o.length ≤ g.nonts.length := g.nont_len h.nd h.rg
/-- What a walk from one list to another leaves. -/
structure Went (g : Gra) (o o' : List Int) : Prop where
  inv : MarkI g o'
  sub : ∃ m, o' = o ++ m
  cls : ∀ x ∈ o', x ∉ o → ∀ k ∈ g.next x, (g.terms : Int) < k → k ∈ o'
  rea : (∀ x ∈ o, Reach g x) → ∀ x ∈ o', Reach g x
theorem mem_next {g : Gra} {n k : Int} : k ∈ g.next n ↔ ∃ p ∈ g.prods, p.left = n ∧ k ∈ p.right := by
  simp only [Gra.next, List.mem_flatMap]
  constructor
  · rintro ⟨p, hp, hk⟩
    split at hk
    · rename_i e; exact ⟨p, hp, e, hk⟩
    · simp at hk
  · rintro ⟨p, hp, e, hk⟩
    exact ⟨p, hp, by rw [if_pos e]; exact hk⟩
theorem Went.trans {g : Gra} {a b c : List Int} (h1 : Went g a b) (h2 : Went g b c) : Went g a c := by
  obtain ⟨m1, e1⟩ := h1.sub
  obtain ⟨m2, e2⟩ := h2.sub
  refine ⟨h2.inv, ⟨m1 ++ m2, by rw [e2, e1, List.append_assoc]⟩, fun x hx hn k hk ht => ?_, fun h => h2.rea (h1.rea h)⟩
  by_cases hb : x ∈ b
  · have := h1.cls x hb hn k hk ht
    rw [e2]; exact List.mem_append_left _ this
  · exact h2.cls x hx hb k hk ht
theorem Went.refl {g : Gra} {o : List Int} (h : MarkI g o) : Went g o o := ⟨h, ⟨[], by simp⟩, fun x hx hn => absurd hx hn, fun h => h⟩
theorem markF_went {g : Gra} (hs : Sound g) : ∀ (f : Nat) (o : List Int) (n : Int), MarkI g o → n ≤ (g.all : Int) → g.nonts.length < f + o.length → ((g.terms : Int) < n → (∀ x ∈ o, Reach g x) → Reach g n) →
    Went g o (markF g f o n) ∧ ((g.terms : Int) < n → n ∈ markF g f o n)
  | 0, o, n, hI, _, hf, _ => by have := hI.len; omega
  | f + 1, o, n, hI, hn, hf, hr => by
    unfold markF
    split
    · rename_i hc
      exact ⟨Went.refl hI, fun ht => by
        rcases hc with hc | hc
        · omega
        · exact hc⟩
    · rename_i hc
      have hT : (g.terms : Int) < n := by
        apply Classical.byContradiction
        intro h; exact hc (.inl (by omega))
      have hno : n ∉ o := fun h => hc (.inr h)
      have hI1 : MarkI g (o ++ [n]) := by
        refine ⟨?_, fun x hx => ?_⟩
        · rw [List.nodup_append]
          exact ⟨hI.nd, by simp, fun a ha b hb e => by simp at hb; subst hb; exact hno (e ▸ ha)⟩
        · rcases List.mem_append.1 hx with hx | hx
          · exact hI.rg x hx
          · simp at hx; subst hx; exact ⟨hT, hn⟩
      -- the walk over what stands right
      have fold : ∀ (ks : List Int) (o1 : List Int), MarkI g o1 → g.nonts.length < f + o1.length → (∀ k ∈ ks, k ≤ (g.all : Int)) → (∀ k ∈ ks, (g.terms : Int) < k → (∀ x ∈ o1, Reach g x) → Reach g k) →
          Went g o1 (ks.foldl (markF g f) o1) ∧ ∀ k ∈ ks, (g.terms : Int) < k → k ∈ ks.foldl (markF g f) o1 := by
        intro ks
        induction ks with
        | nil => intro o1 h1 _ _ _; exact ⟨Went.refl h1, by simp⟩
        | cons k ks ih =>
          intro o1 h1 h2 h3 h4
          obtain ⟨w1, m1⟩ := markF_went hs f o1 k h1 (h3 k (by simp)) h2 (h4 k (by simp))
          obtain ⟨m, e⟩ := w1.sub
          have hlen : o1.length ≤ (markF g f o1 k).length := by rw [e]; simp
          obtain ⟨w2, m2⟩ := ih (markF g f o1 k) w1.inv (by omega) (fun k' hk' => h3 k' (List.mem_cons_of_mem _ hk')) (fun k' hk' ht hx => h4 k' (List.mem_cons_of_mem _ hk') ht fun x hx1 => hx x (by rw [e]; exact List.mem_append_left _ hx1))
          rw [List.foldl_cons]
          refine ⟨w1.trans w2, fun k' hk' ht => ?_⟩
          rcases List.mem_cons.1 hk' with rfl | hk'
          · obtain ⟨m', e'⟩ := w2.sub
            rw [e']; exact List.mem_append_left _ (m1 ht)
          · exact m2 k' hk' ht
      have hks : ∀ k ∈ g.next n, k ≤ (g.all : Int) := fun k hk => by
        obtain ⟨p, hp, _, hk⟩ := mem_next.1 hk
        exact ((hs.prods p hp).2.2.2.2.2 k hk).2
      have hkr : ∀ k ∈ g.next n, (g.terms : Int) < k → (∀ x ∈ o ++ [n], Reach g x) → Reach g k := fun k hk ht hx => by
        obtain ⟨p, hp, e, hk⟩ := mem_next.1 hk
        exact .step p k hp (by rw [e]; exact hx n (by simp)) hk ht
      obtain ⟨w, mm⟩ := fold (g.next n) (o ++ [n]) hI1 (by simp only [List.length_append, List.length_cons, List.length_nil]; omega) hks hkr
      obtain ⟨m, e⟩ := w.sub
      have hnin : n ∈ (g.next n).foldl (markF g f) (o ++ [n]) := by rw [e]; simp
      refine ⟨⟨w.inv, ⟨[n] ++ m, by rw [e, List.append_assoc]⟩, fun x hx hxo k hk ht => ?_, fun h => w.rea fun x hx => ?_⟩, fun _ => hnin⟩
      · by_cases hxn : x = n
        · subst hxn; exact mm k hk ht
        · refine w.cls x hx (fun h => ?_) k hk ht
          rcases List.mem_append.1 h with h | h
          · exact hxo h
          · simp at h; exact hxn h
      · rcases List.mem_append.1 hx with hx | hx
        · exact h x hx
        · simp at hx; subst hx; exact hr hT h
theorem markF_inv {g : Gra} (hs : Sound g) : ∀ (f : Nat) (o : List Int) (n : Int), MarkI g o → n ≤ (g.all : Int) → g.nonts.length < f + o.length → MarkI g (markF g f o n) ∧ o.length ≤ (markF g f o n).length
  | 0, o, n, hI, _, hf => by have := hI.len; omega
  | f + 1, o, n, hI, hn, hf => by
    unfold markF
    split
    · exact ⟨hI, Nat.le_refl _⟩
    · rename_i hc
      have hT : (g.terms : Int) < n := by
        apply Classical.byContradiction
        intro h; exact hc (.inl (by omega))
      have hno : n ∉ o := fun h => hc (.inr h)
      have hI1 : MarkI g (o ++ [n]) := by
        refine ⟨?_, fun x hx => ?_⟩
        · rw [List.nodup_append]
          exact ⟨hI.nd, by simp, fun a ha b hb e => by simp at hb; subst hb; exact hno (e ▸ ha)⟩
        · rcases List.mem_append.1 hx with hx | hx
          · exact hI.rg x hx
          · simp at hx; subst hx; exact ⟨hT, hn⟩
      have hks : ∀ k ∈ g.next n, k ≤ (g.all : Int) := fun k hk => by
        obtain ⟨p, hp, _, hk⟩ := mem_next.1 hk
        exact ((hs.prods p hp).2.2.2.2.2 k hk).2
      have fold : ∀ (ks : List Int) (o1 : List Int), MarkI g o1 → g.nonts.length < f + o1.length → (∀ k ∈ ks, k ≤ (g.all : Int)) → MarkI g (ks.foldl (markF g f) o1) ∧ o1.length ≤ (ks.foldl (markF g f) o1).length := by
        intro ks
        induction ks with
        | nil => intro o1 h1 _ _; exact ⟨h1, Nat.le_refl _⟩
        | cons k ks ih =>
          intro o1 h1 h2 h3
          obtain ⟨w1, l1⟩ := markF_inv hs f o1 k h1 (h3 k (by simp)) h2
          obtain ⟨w2, l2⟩ := ih _ w1 (by omega) (fun k' h' => h3 k' (List.mem_cons_of_mem _ h'))
          exact ⟨w2, Nat.le_trans l1 l2⟩
      obtain ⟨w, l⟩ := fold (g.next n) (o ++ [n]) hI1 (by simp only [List.length_append, List.length_cons, List.length_nil]; omega) hks
      rw [List.length_append] at l
      exact ⟨w, by omega⟩
/-- From the start symbol all is found that is reached, and nothing else. -/
theorem markF_mem {g : Gra} (hs : Sound g) (hn : g.nonts ≠ []) (n : Int) : n ∈ markF g (g.nonts.length + 1) [] g.start ↔ Reach g n := by
  obtain ⟨h1, h2⟩ := hs.start.2 hn
  obtain ⟨w, m⟩ := markF_went hs (g.nonts.length + 1) [] g.start ⟨by simp, by simp⟩ h2 (by simp) (fun ht _ => .start ht)
  constructor
  · exact w.rea (by simp) n
  · intro hr
    induction hr with
    | start ht => exact m ht
    | step p k hp hl hk ht ih => exact w.cls p.left ih (by simp) k (mem_next.2 ⟨p, hp, rfl, hk⟩) ht
end Go.Abs
