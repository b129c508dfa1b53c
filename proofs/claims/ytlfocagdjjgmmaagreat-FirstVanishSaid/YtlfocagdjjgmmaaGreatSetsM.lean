/- Plain facts about sets of numbers as rising lists. -/
import Derived.Lib.SlicesCompact
import Derived.Test.YtlfocagdjjgmmaaGreatTopA
namespace Go.Abs
/-- A list of numbers, sorted. -/
def sorted (l : List Int) : List Int := l.mergeSort fun x y => decide (x ≤ y)
theorem sorted_length (l : List Int) : (sorted l).length = l.length := List.length_mergeSort l
theorem mem_sorted (l : List Int) (x : Int) : x ∈ sorted l ↔ x ∈ l := List.mem_mergeSort
theorem sorted_rises (l : List Int) : (sorted l).Pairwise (· ≤ ·) := by
  have h := List.pairwise_mergeSort (le := fun x y : Int => decide (x ≤ y)) (by intro a b c; simp; omega) (by intro a b; simp; omega) l
  simpa [sorted] using h
/-- The set of a list. -/
def setOf (zs : List Int) : List Int := Lib.compact (sorted zs)
theorem compactUpTo_facts (zs : List Int) (hz : zs.Pairwise (· ≤ ·)) : ∀ m, m ≤ zs.length →
    (Lib.compactUpTo zs.toArray m).Pairwise (· < ·) ∧ (∀ x, x ∈ Lib.compactUpTo zs.toArray m ↔ x ∈ zs.take m) ∧ (∀ x ∈ Lib.compactUpTo zs.toArray m, 0 < m ∧ x ≤ zs.toArray[m - 1]!)
  | 0, _ => by simp [Lib.compactUpTo]
  | m + 1, h => by
    obtain ⟨h1, h2, h3⟩ := compactUpTo_facts zs hz m (by omega)
    have hm : m < zs.length := by omega
    have hg : zs.toArray[m]! = zs[m] := by simp [hm]
    have hle : 0 < m → zs.toArray[m - 1]! ≤ zs[m] := fun hp => by
      have : m - 1 < zs.length := by omega
      have hg' : zs.toArray[m - 1]! = zs[m - 1] := by simp [this]
      rw [hg']
      exact List.pairwise_iff_getElem.1 hz (m - 1) m this hm (by omega)
    rw [Lib.compactUpTo_succ, List.take_succ_eq_append_getElem hm, hg]
    by_cases hk : Lib.keeps zs.toArray m = true
    · rw [if_pos hk]
      refine ⟨?_, ?_, ?_⟩
      · rw [List.pairwise_append]
        refine ⟨h1, by simp, fun x hx y hy => ?_⟩
        simp at hy; subst hy
        obtain ⟨hp, hxl⟩ := h3 x hx
        have := hle hp
        simp only [Lib.keeps, decide_eq_true_eq] at hk
        rcases hk with hk | hk
        · omega
        · rw [hg] at hk
          omega
      · intro x
        rw [List.mem_append, List.mem_append, h2 x]
      · intro x hx
        refine ⟨by omega, ?_⟩
        rw [show m + 1 - 1 = m from by omega, hg]
        simp at hx
        rcases hx with hx | hx
        · obtain ⟨hp, hxl⟩ := h3 x hx
          have := hle hp
          omega
        · omega
    · rw [if_neg hk, List.append_nil]
      simp only [Lib.keeps, decide_eq_true_eq, not_or, Classical.not_not] at hk
      obtain ⟨hk0, hk⟩ := hk
      have hp : 0 < m := by omega
      rw [hg] at hk
      refine ⟨h1, ?_, ?_⟩
      · intro x
        rw [h2 x, List.mem_append, List.mem_singleton]
        constructor
        · exact .inl
        · rintro (hx | hx)
          · exact hx
          · subst hx
            have hm' : m - 1 < zs.length := by omega
            have hg' : zs.toArray[m - 1]! = zs[m - 1] := by simp [hm']
            rw [hk, hg', List.mem_take_iff_getElem]
            exact ⟨m - 1, by omega, rfl⟩
      · intro x hx
        obtain ⟨_, hxl⟩ := h3 x hx
        refine ⟨by omega, ?_⟩
        rw [show m + 1 - 1 = m from by omega, hg]
        rw [hk]
        exact hxl
theorem setOf_rises (l : List Int) : (setOf l).Pairwise (· < ·) := (compactUpTo_facts (sorted l) (sorted_rises l) _ (Nat.le_refl _)).1
theorem mem_setOf (l : List Int) (x : Int) : x ∈ setOf l ↔ x ∈ l := by
  have h := (compactUpTo_facts (sorted l) (sorted_rises l) _ (Nat.le_refl _)).2.1 x
  rw [List.take_length, mem_sorted] at h
  exact h
theorem rises_unique : ∀ s t : List Int, s.Pairwise (· < ·) → t.Pairwise (· < ·) → (∀ x, x ∈ s ↔ x ∈ t) → s = t
  | [], [], _, _, _ => rfl
  | [], y :: t, _, _, h => by have := (h y).2 (by simp); simp at this
  | x :: s, [], _, _, h => by have := (h x).1 (by simp); simp at this
  | x :: s, y :: t, hs, ht, h => by
    rw [List.pairwise_cons] at hs ht
    have e : x = y := by
      have h1 := (h x).1 (by simp)
      have h2 := (h y).2 (by simp)
      simp only [List.mem_cons] at h1 h2
      rcases h1 with h1 | h1
      · exact h1
      · rcases h2 with h2 | h2
        · exact h2.symm
        · have := hs.1 y h2
          have := ht.1 x h1
          omega
    subst e
    rw [rises_unique s t hs.2 ht.2 fun z => ?_]
    constructor
    · intro hz
      have h1 := (h z).1 (by simp [hz])
      simp only [List.mem_cons] at h1
      rcases h1 with h1 | h1
      · have := hs.1 z hz; omega
      · exact h1
    · intro hz
      have h1 := (h z).2 (by simp [hz])
      simp only [List.mem_cons] at h1
      rcases h1 with h1 | h1
      · have := ht.1 z hz; omega
      · exact h1
theorem compact_len_le (zs : List Int) : (Lib.compact zs).length ≤ zs.length := by
  simp only [Lib.compact, Lib.compactUpTo, List.length_map]
  have := List.length_filter_le (Lib.keeps zs.toArray) (List.range zs.length)
  simpa using this
theorem setOf_length_le (l : List Int) : (setOf l).length ≤ l.length := by
  have := compact_len_le (sorted l)
  rw [sorted_length] at this
  exact this
end Go.Abs
namespace Go.Abs
/-- Is a number above the first k of the set? -/
def Above (S : List Int) (k : Nat) (x : Int) : Prop := k = 0 ∨ ∃ h : k - 1 < S.length, S[k - 1] < x
theorem above_iff (l : List Int) (k : Nat) (hk : k ≤ (setOf l).length) (x : Int) (hx : x ∈ l) : Above (setOf l) k x ↔ ∃ j, ∃ h : j < (setOf l).length, k ≤ j ∧ (setOf l)[j] = x := by
  have hr := List.pairwise_iff_getElem.1 (setOf_rises l)
  obtain ⟨j, hj, e⟩ := List.getElem_of_mem ((mem_setOf l x).2 hx)
  constructor
  · rintro (h0 | ⟨h, hlt⟩)
    · exact ⟨j, hj, by omega, e⟩
    · refine ⟨j, hj, ?_, e⟩
      rcases Nat.lt_or_ge j k with h' | h'
      · exfalso
        rcases Nat.lt_or_ge j (k - 1) with h2 | h2
        · have := hr j (k - 1) hj h h2
          omega
        · have : j = k - 1 := by omega
          subst this
          omega
      · exact h'
  · rintro ⟨j, hj, hkj, e⟩
    by_cases h0 : k = 0
    · exact .inl h0
    · have h : k - 1 < (setOf l).length := by omega
      have := hr (k - 1) j h hj (by omega)
      exact .inr ⟨h, by omega⟩
theorem above_end (l : List Int) (k : Nat) (hk : k ≤ (setOf l).length) (h : ∀ x ∈ l, ¬ Above (setOf l) k x) : k = (setOf l).length := by
  rcases Nat.lt_or_ge k (setOf l).length with h' | h'
  · have hm : (setOf l)[k] ∈ l := (mem_setOf l _).1 (List.getElem_mem h')
    exact absurd ((above_iff l k hk _ hm).2 ⟨k, h', Nat.le_refl _, rfl⟩) (h _ hm)
  · omega
theorem above_least (l : List Int) (k : Nat) (hk : k ≤ (setOf l).length) (y : Int) (hy : y ∈ l) (ha : Above (setOf l) k y) (hm : ∀ x ∈ l, Above (setOf l) k x → y ≤ x) :
    ∃ h : k < (setOf l).length, (setOf l)[k] = y := by
  obtain ⟨j, hj, hkj, e⟩ := (above_iff l k hk y hy).1 ha
  have h' : k < (setOf l).length := by omega
  refine ⟨h', ?_⟩
  have hm' : (setOf l)[k] ∈ l := (mem_setOf l _).1 (List.getElem_mem h')
  have h1 := hm _ hm' ((above_iff l k hk _ hm').2 ⟨k, h', Nat.le_refl _, rfl⟩)
  have hr := List.pairwise_iff_getElem.1 (setOf_rises l)
  rcases Nat.lt_or_ge k j with h2 | h2
  · have := hr k j h' hj h2
    omega
  · have : j = k := by omega
    subst this
    exact e
end Go.Abs
/- What is reached, what ends: closed lists, and the least one. -/
namespace Go.Abs
set_option linter.unusedVariables false
set_option linter.unusedSimpArgs false

/-! ### Lists that only grow -/
def iter {α : Type} (f : α → α) : Nat → α → α
  | 0, x => x
  | n + 1, x => iter f n (f x)
theorem iter_fix {α : Type} (f : α → α) {x : α} (h : f x = x) : ∀ n, iter f n x = x
  | 0 => rfl
  | n + 1 => by rw [iter, h]; exact iter_fix f h n
theorem iter_inv {α : Type} (f : α → α) (I : α → Prop) (hI : ∀ x, I x → I (f x)) : ∀ n x, I x → I (iter f n x)
  | 0, _, h => h
  | n + 1, x, h => iter_inv f I hI n _ (hI x h)
/-- A list that only grows, and not beyond a bound, stands in the end. -/
theorem iter_stands {α : Type} (f : List α → List α) (I : List α → Prop) (hI : ∀ x, I x → I (f x)) (hext : ∀ x, I x → ∃ m, f x = x ++ m) (N : Nat) (hN : ∀ x, I x → x.length ≤ N) :
    ∀ n x, I x → N < n + x.length → f (iter f n x) = iter f n x
  | 0, x, h, hl => by have := hN x h; omega
  | n + 1, x, h, hl => by
    rw [iter]
    obtain ⟨m, hm⟩ := hext x h
    cases m with
    | nil =>
      rw [List.append_nil] at hm
      rw [hm, iter_fix f hm n, hm]
    | cons a m =>
      refine iter_stands f I hI hext N hN n _ (hI x h) ?_
      rw [hm, List.length_append, List.length_cons]
      omega

/-! ### What is reached -/
inductive Reach (g : Gra) : Int → Prop
  | start (h : (g.terms : Int) < g.start) : Reach g g.start
  | step (p : Prd) (k : Int) (hp : p ∈ g.prods) (hl : Reach g p.left) (hk : k ∈ p.right) (ht : (g.terms : Int) < k) : Reach g k
inductive Ended (g : Gra) : Int → Prop
  | mk (p : Prd) (hp : p ∈ g.prods) (h : ∀ k ∈ p.right, (g.terms : Int) < k → Ended g k) : Ended g p.left
/-- The nonterminals that are so. -/
noncomputable def Gra.those (g : Gra) (Q : Int → Prop) : List Int :=
  haveI : DecidablePred Q := fun n => Classical.propDecidable (Q n)
  ((List.range g.nonts.length).map fun i : Nat => (g.terms : Int) + 1 + i).filter fun n => decide (Q n)
theorem Gra.mem_those (g : Gra) (Q : Int → Prop) (n : Int) : n ∈ g.those Q ↔ ((g.terms : Int) < n ∧ n ≤ (g.all : Int)) ∧ Q n := by
  unfold Gra.those
  simp only [List.mem_filter, List.mem_map, List.mem_range, decide_eq_true_eq]
  constructor
  · rintro ⟨⟨i, hi, rfl⟩, h⟩
    exact ⟨⟨by omega, by unfold Gra.all; omega⟩, h⟩
  · rintro ⟨⟨h1, h2⟩, h⟩
    exact ⟨⟨(n - g.terms - 1).toNat, by unfold Gra.all at h2; omega, by omega⟩, h⟩
theorem Gra.those_rises (g : Gra) (Q : Int → Prop) : (g.those Q).Pairwise (· < ·) := by
  unfold Gra.those
  refine List.Pairwise.filter _ ?_
  rw [List.pairwise_map]
  exact List.pairwise_lt_range.imp fun h => by omega
theorem Gra.setOf_those (g : Gra) (Q : Int → Prop) {l : List Int} (h : ∀ n, n ∈ l ↔ ((g.terms : Int) < n ∧ n ≤ (g.all : Int)) ∧ Q n) : setOf l = g.those Q :=
  rises_unique _ _ (setOf_rises l) (g.those_rises Q) fun n => by rw [mem_setOf, h n, g.mem_those]
theorem Gra.those_length (g : Gra) (Q : Int → Prop) : (g.those Q).length ≤ g.nonts.length := by
  unfold Gra.those
  refine Nat.le_trans (List.length_filter_le _ _) ?_
  simp
/-- Lists of nonterminals, each once, are no longer than these. -/
theorem Gra.nont_len (g : Gra) {l : List Int} (hnd : l.Nodup) (hl : ∀ n ∈ l, (g.terms : Int) < n ∧ n ≤ (g.all : Int)) : l.length ≤ g.nonts.length := by
  have h1 : (setOf l).length = l.length := by
    have e := g.setOf_those (fun n => n ∈ l) (l := l) (fun n => ⟨fun h => ⟨hl n h, h⟩, fun h => h.2⟩)
    have hp : (setOf l).Perm l := by
      rw [List.perm_ext_iff_of_nodup ((setOf_rises l).imp fun h => by omega) hnd]
      exact mem_setOf l
    exact hp.length_eq
  have e := g.setOf_those (fun n => n ∈ l) (l := l) (fun n => ⟨fun h => ⟨hl n h, h⟩, fun h => h.2⟩)
  rw [← h1, e]
  exact g.those_length _

structure Sound (g : Gra) : Prop where
  prods : ∀ p ∈ g.prods, (g.terms : Int) < p.left ∧ p.left ≤ (g.all : Int) ∧ p.right.length ≤ 8 ∧ 0 ≤ p.prec ∧ p.prec ≤ (g.terms : Int) ∧ ∀ n ∈ p.right, 1 ≤ n ∧ n ≤ (g.all : Int)
  start : (g.nonts = [] → g.start = 0) ∧ (g.nonts ≠ [] → (g.terms : Int) < g.start ∧ g.start ≤ (g.all : Int))
  nrules : g.rules.length ≤ 16
  nnonts : g.nonts.length ≤ 16
  nprods : g.prods.length ≤ 40
theorem Gra.sound_iff {g : Gra} (h : g.sound = true) : Sound g := by
  simp only [Gra.sound, Bool.and_eq_true, decide_eq_true_eq, List.all_eq_true] at h
  obtain ⟨⟨⟨⟨⟨⟨h1, h2⟩, h3⟩, _⟩, _⟩, h6⟩, h7⟩ := h
  refine ⟨fun p hp => ?_, ⟨fun hn => ?_, fun hn => ?_⟩, h1, h2, h3⟩
  · have := h7 p hp
    simp only [Prd.okB, Bool.and_eq_true, decide_eq_true_eq, List.all_eq_true] at this
    obtain ⟨⟨⟨⟨⟨a, b⟩, c⟩, d⟩, e⟩, f⟩ := this
    exact ⟨a, b, c, d, e, f⟩
  · unfold Gra.startB at h6
    rw [if_pos (by simp [hn])] at h6
    simpa using h6
  · unfold Gra.startB at h6
    rw [if_neg (by simpa using hn)] at h6
    simpa using h6
theorem Sound.terms_le {g : Gra} (h : Sound g) : g.terms ≤ 16 := by
  have := List.length_filter_le (fun r : Rul => !r.skip) g.rules
  have := h.nrules
  unfold Gra.terms
  omega
theorem Sound.all_le {g : Gra} (h : Sound g) : g.all ≤ 32 := by
  have := h.terms_le
  have := h.nnonts
  unfold Gra.all
  omega
theorem Sound.reach {g : Gra} (h : Sound g) {n : Int} (hr : Reach g n) : (g.terms : Int) < n ∧ n ≤ (g.all : Int) := by
  cases hr with
  | start ht =>
    refine ⟨ht, ?_⟩
    by_cases hn : g.nonts = []
    · have := h.start.1 hn; omega
    · exact (h.start.2 hn).2
  | step p k hp hl hk ht => exact ⟨ht, ((h.prods p hp).2.2.2.2.2 n hk).2⟩
theorem Sound.ended {g : Gra} (h : Sound g) {n : Int} (hr : Ended g n) : (g.terms : Int) < n ∧ n ≤ (g.all : Int) := by
  cases hr with
  | mk p hp _ => exact ⟨(h.prods p hp).1, (h.prods p hp).2.1⟩

/-! ### Steps that add one number or none -/
/-- Steps over a list of things, each of which may add one number. -/
def adds {β : Type} (c : List Int → β → Option Int) (out : List Int) (b : β) : List Int := match c out b with
  | some n => out ++ [n]
  | none => out
theorem adds_ext {β : Type} (c : List Int → β → Option Int) : ∀ (l : List β) (out : List Int), ∃ m, l.foldl (adds c) out = out ++ m
  | [], out => ⟨[], by simp⟩
  | b :: l, out => by
    obtain ⟨m, hm⟩ := adds_ext c l (adds c out b)
    rw [List.foldl_cons, hm]
    unfold adds
    split
    · rename_i n _; exact ⟨[n] ++ m, by simp⟩
    · exact ⟨m, rfl⟩
/-- Where nothing was added, nobody would. -/
theorem adds_fix {β : Type} (c : List Int → β → Option Int) : ∀ (l : List β) (out : List Int), l.foldl (adds c) out = out → ∀ b ∈ l, c out b = none
  | [], out, _, b, hb => by simp at hb
  | b0 :: l, out, h, b, hb => by
    rw [List.foldl_cons] at h
    cases hc : c out b0 with
    | some n =>
      exfalso
      obtain ⟨m, hm⟩ := adds_ext c l (adds c out b0)
      rw [hm] at h
      simp only [adds, hc] at h
      have := congrArg List.length h
      simp at this
    | none =>
      have e : adds c out b0 = out := by simp [adds, hc]
      rw [e] at h
      rcases List.mem_cons.1 hb with rfl | hb
      · exact hc
      · exact adds_fix c l out h b hb
/-! ### The document's rounds -/
def endsC (T : Nat) (out : List Int) (p : Prd) : Option Int := if (∀ n ∈ p.right, n ≤ (T : Int) ∨ n ∈ out) ∧ p.left ∉ out then some p.left else none
def EndsI (g : Gra) (l : List Int) : Prop := l.Nodup ∧ ∀ x ∈ l, Ended g x
theorem endsC_inv {g : Gra} {out : List Int} {p : Prd} {n : Int} (hI : EndsI g out) (hp : p ∈ g.prods) (hc : endsC g.terms out p = some n) : EndsI g (out ++ [n]) := by
  unfold endsC at hc
  split at hc
  · rename_i hcc
    cases hc
    refine ⟨?_, fun x hx => ?_⟩
    · rw [List.nodup_append]
      exact ⟨hI.1, by simp, fun a ha b' hb' => by rw [List.mem_singleton] at hb'; subst hb'; exact fun e => hcc.2 (e ▸ ha)⟩
    · rcases List.mem_append.1 hx with hx | hx
      · exact hI.2 x hx
      · rw [List.mem_singleton] at hx
        subst hx
        exact .mk p hp fun k hk ht => by
          rcases hcc.1 k hk with h1 | h1
          · omega
          · exact hI.2 k h1
  · cases hc
theorem EndsI.fold {g : Gra} : ∀ (l : List Prd) (out : List Int), (∀ p ∈ l, p ∈ g.prods) → EndsI g out → EndsI g (l.foldl (adds (endsC g.terms)) out)
  | [], out, _, hI => hI
  | p :: l, out, hl, hI => by
    rw [List.foldl_cons]
    refine EndsI.fold l _ (fun q hq => hl q (List.mem_cons_of_mem _ hq)) ?_
    unfold adds
    split
    · rename_i n hc; exact endsC_inv hI (hl p (by simp)) hc
    · exact hI
/-- A list to which no production adds is all that ends. -/
theorem EndsI.closed {g : Gra} {l : List Int} (hI : EndsI g l) (hc : ∀ p ∈ g.prods, endsC g.terms l p = none) (n : Int) : n ∈ l ↔ Ended g n := by
  constructor
  · exact hI.2 n
  · intro hr
    induction hr with
    | mk p hp h ih =>
      have h1 := hc p hp
      unfold endsC at h1
      split at h1
      · cases h1
      · rename_i hcc
        apply Classical.byContradiction
        intro hne
        refine hcc ⟨fun k hk => ?_, hne⟩
        by_cases ht : (g.terms : Int) < k
        · exact .inr (ih k hk ht)
        · exact .inl (by omega)
theorem EndsI.len {g : Gra} (h : Sound g) {l : List Int} (hI : EndsI g l) : l.length ≤ g.nonts.length := g.nont_len hI.1 fun n hn => h.ended (hI.2 n hn)
end Go.Abs
/- Names of symbols. -/
namespace Go.Abs
set_option linter.unusedVariables false
set_option linter.unusedSimpArgs false

def cntT (rs : List Rul) : Nat := (rs.filter fun r => !r.skip).length
theorem cntT_le (rs : List Rul) : cntT rs ≤ rs.length := List.length_filter_le _ _
theorem cntT_take_le (rs : List Rul) (i : Nat) : cntT (rs.take i) ≤ i := Nat.le_trans (cntT_le _) (by rw [List.length_take]; omega)
theorem cntT_yes {rs : List Rul} {i : Nat} (h : i < rs.length) (hs : rs[i].skip = false) : cntT (rs.take (i + 1)) = cntT (rs.take i) + 1 := by
  unfold cntT
  rw [List.take_succ_eq_append_getElem h, List.filter_append]
  simp [hs]
theorem cntT_no {rs : List Rul} {i : Nat} (h : i < rs.length) (hs : rs[i].skip = true) : cntT (rs.take (i + 1)) = cntT (rs.take i) := by
  unfold cntT
  rw [List.take_succ_eq_append_getElem h, List.filter_append]
  simp [hs]
/-! ### How great a grammar is -/
def Rul.longB (r : Rul) : Bool := decide (100 < r.re.length) || decide (100 < r.name.length)
def Gra.longB (g : Gra) (np : Nat) : Bool := decide (40 < g.rules.length) || decide (40 < g.nonts.length) || decide (100 < g.levels.length) || decide (np < g.prods.length) ||
  g.rules.any Rul.longB || g.nonts.any (fun s => decide (100 < s.length)) || g.prods.any fun p => decide (30 < p.right.length)
structure Small (g : Gra) (np : Nat) : Prop where
  nrules : g.rules.length ≤ 40
  nnonts : g.nonts.length ≤ 40
  nlevels : g.levels.length ≤ 100
  nprods : g.prods.length ≤ np
  rules : ∀ r ∈ g.rules, r.re.length ≤ 100 ∧ r.name.length ≤ 100
  nonts : ∀ s ∈ g.nonts, s.length ≤ 100
  prods : ∀ p ∈ g.prods, p.right.length ≤ 30
theorem small_of {g : Gra} {np : Nat} (h : g.longB np = false) : Small g np := by
  simp only [Gra.longB, Bool.or_eq_false_iff, decide_eq_false_iff_not, Nat.not_lt, List.any_eq_false, decide_eq_true_eq, Rul.longB, Bool.or_eq_true, not_or] at h
  obtain ⟨⟨⟨⟨⟨⟨h1, h2⟩, h3⟩, h4⟩, h5⟩, h6⟩, h7⟩ := h
  exact ⟨h1, h2, h3, h4, fun r hr => h5 r hr, fun s hs => h6 s hs, fun p hp => h7 p hp⟩
theorem any_take_succ {α : Type} (p : α → Bool) (l : List α) (i : Nat) (h : i < l.length) : (l.take (i + 1)).any p = ((l.take i).any p || p l[i]) := by
  rw [List.take_succ_eq_append_getElem h, List.any_append]
  simp
end Go.Abs
