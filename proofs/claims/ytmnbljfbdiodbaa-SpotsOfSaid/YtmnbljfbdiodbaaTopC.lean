/- What is reached, what ends: closed lists, and the least one. -/
import Derived.Test.YtmnbljfbdiodbaaTopA
namespace Go.Abs
set_option linter.unusedVariables false
set_option linter.unusedSimpArgs false
/-! ### Lists that only grow -/
/-! ### What is reached -/
inductive Reach (g : Gra) : Int → Prop
 | start (h : (g.terms : Int) < g.start) : Reach g g.start
 | step (p : Prd) (k : Int) (hp : p ∈ g.prods) (hl : Reach g p.left) (hk : k ∈ p.right) (ht : (g.terms : Int) < k) : Reach g k
inductive Ended (g : Gra) : Int → Prop
 | mk (p : Prd) (hp : p ∈ g.prods) (h : ∀ k ∈ p.right,(g.terms : Int) < k → Ended g k) : Ended g p.left
/-- The nonterminals that are so. -/
noncomputable def Gra.those (g : Gra) (Q : Int → Prop) : List Int :=
 haveI : DecidablePred Q := fun n => Classical.propDecidable (Q n)
 ((List.range g.nonts.length).map fun i : Nat => (g.terms : Int) + 1 + i).filter fun n => decide (Q n)
theorem Gra.mem_those (g : Gra) (Q : Int → Prop) (n : Int) : n ∈ g.those Q ↔ ((g.terms : Int) < n ∧ n ≤ (g.all : Int)) ∧ Q n := by
 unfold Gra.those
 simp only [List.mem_filter,List.mem_map,List.mem_range,decide_eq_true_eq]
 constructor
 ·rintro ⟨⟨i,hi,rfl⟩,h⟩
  exact ⟨⟨by omega,by unfold Gra.all; omega⟩,h⟩
 ·rintro ⟨⟨h1,h2⟩,h⟩
  exact ⟨⟨(n - g.terms - 1).toNat,by unfold Gra.all at h2; omega,by omega⟩,h⟩
theorem Gra.those_rises (g : Gra) (Q : Int → Prop) : (g.those Q).Pairwise (· < ·) := by
 unfold Gra.those
 refine List.Pairwise.filter _ ?_
 rw [List.pairwise_map]
 exact List.pairwise_lt_range.imp fun h => by omega
theorem Gra.setOf_those (g : Gra) (Q : Int → Prop) {l : List Int} (h : ∀ n,n ∈ l ↔ ((g.terms : Int) < n ∧ n ≤ (g.all : Int)) ∧ Q n) : setOf l = g.those Q :=
 rises_unique _ _ (setOf_rises l) (g.those_rises Q) fun n => by rw [mem_setOf,h n,g.mem_those]
theorem Gra.those_length (g : Gra) (Q : Int → Prop) : (g.those Q).length ≤ g.nonts.length := by
 unfold Gra.those
 refine Nat.le_trans (List.length_filter_le _ _) ?_
 simp
/-- Lists of nonterminals, each once, are no longer than these. -/
theorem Gra.nont_len (g : Gra) {l : List Int} (hnd : l.Nodup) (hl : ∀ n ∈ l,(g.terms : Int) < n ∧ n ≤ (g.all : Int)) : l.length ≤ g.nonts.length := by
 have h1 : (setOf l).length = l.length := by
  have e := g.setOf_those (fun n => n ∈ l) (l := l) (fun n => ⟨fun h => ⟨hl n h,h⟩,fun h => h.2⟩)
  have hp : (setOf l).Perm l := by
   rw [List.perm_ext_iff_of_nodup ((setOf_rises l).imp fun h => by omega) hnd]
   exact mem_setOf l
  exact hp.length_eq
 have e := g.setOf_those (fun n => n ∈ l) (l := l) (fun n => ⟨fun h => ⟨hl n h,h⟩,fun h => h.2⟩)
 rw [← h1,e]
 exact g.those_length _
structure Sound (g : Gra) : Prop where
 prods : ∀ p ∈ g.prods,(g.terms : Int) < p.left ∧ p.left ≤ (g.all : Int) ∧ p.right.length ≤ 8 ∧ 0 ≤ p.prec ∧ p.prec ≤ (g.terms : Int) ∧ ∀ n ∈ p.right,1 ≤ n ∧ n ≤ (g.all : Int)
 start : (g.nonts = [] → g.start = 0) ∧ (g.nonts ≠ [] → (g.terms : Int) < g.start ∧ g.start ≤ (g.all : Int))
 nrules : g.rules.length ≤ 16
 nnonts : g.nonts.length ≤ 16
 nprods : g.prods.length ≤ 40
theorem Sound.reach {g : Gra} (h : Sound g) {n : Int} (hr : Reach g n) : (g.terms : Int) < n ∧ n ≤ (g.all : Int) := by
 cases hr with
 | start ht =>
  refine ⟨ht,?_⟩
  by_cases hn : g.nonts = []
  ·have := h.start.1 hn; omega
  ·exact (h.start.2 hn).2
 | step p k hp hl hk ht => exact ⟨ht,((h.prods p hp).2.2.2.2.2 n hk).2⟩
theorem Sound.ended {g : Gra} (h : Sound g) {n : Int} (hr : Ended g n) : (g.terms : Int) < n ∧ n ≤ (g.all : Int) := by
 cases hr with
 | mk p hp _ => exact ⟨(h.prods p hp).1,(h.prods p hp).2.1⟩
/-! ### Steps that add one number or none -/
/-- Steps over a list of things, each of which may add one number. -/
def adds {β : Type} (c : List Int → β → Option Int) (out : List Int) (b : β) : List Int := match c out b with
 | some n => out ++ [n]
 | none => out
/-! ### The document's rounds -/
def endsC (T : Nat) (out : List Int) (p : Prd) : Option Int := if (∀ n ∈ p.right,n ≤ (T : Int) ∨ n ∈ out) ∧ p.left ∉ out then some p.left else none
def EndsI (g : Gra) (l : List Int) : Prop := l.Nodup ∧ ∀ x ∈ l,Ended g x
/-- A list to which no production adds is all that ends. -/
theorem EndsI.closed {g : Gra} {l : List Int} (hI : EndsI g l) (hc : ∀ p ∈ g.prods,endsC g.terms l p = none) (n : Int) : n ∈ l ↔ Ended g n := by
 constructor
 ·exact hI.2 n
 ·intro hr
  induction hr with
  | mk p hp h ih =>
   have h1 := hc p hp
   unfold endsC at h1
   split at h1
   ·cases h1
   ·rename_i hcc
    apply Classical.byContradiction
    intro hne
    refine hcc ⟨fun k hk => ?_,hne⟩
    by_cases ht : (g.terms : Int) < k
    ·exact .inr (ih k hk ht)
    ·exact .inl (by omega)
theorem EndsI.len {g : Gra} (h : Sound g) {l : List Int} (hI : EndsI g l) : l.length ≤ g.nonts.length := g.nont_len hI.1 fun n hn => h.ended (hI.2 n hn)
end Go.Abs
