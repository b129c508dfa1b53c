/- What is reached, what ends: closed lists, and the least one. -/
import Derived.Test.YtnhghoonlmoinaaGreatTopA
namespace Go.Abs
set_option linter.unusedSectionVars false
variable [Kn]
set_option linter.unusedVariables false
set_option linter.unusedSimpArgs false
/-! ### Lists that only grow -/
def iter {α : Type} (f : α → α) : Nat → α → α
 | 0,x => x
 | n + 1,x => iter f n (f x)
theorem iter_fix {α : Type} (f : α → α) {x : α} (h : f x = x) : ∀ n,iter f n x = x
 | 0 => rfl
 | n + 1 => by rw [iter,h]; exact iter_fix f h n
theorem iter_inv {α : Type} (f : α → α) (I : α → Prop) (hI : ∀ x,I x → I (f x)) : ∀ n x,I x → I (iter f n x)
 | 0,_,h => h
 | n + 1,x,h => iter_inv f I hI n _ (hI x h)
/-- A list that only grows, and not beyond a bound, stands in the end. -/
theorem iter_stands {α : Type} (f : List α → List α) (I : List α → Prop) (hI : ∀ x,I x → I (f x)) (hext : ∀ x,I x → ∃ m,f x = x ++ m) (N : Nat) (hN : ∀ x,I x → x.length ≤ N) :
  ∀ n x,I x → N < n + x.length → f (iter f n x) = iter f n x
 | 0,x,h,hl => by have := hN x h; omega
 | n + 1,x,h,hl => by
  rw [iter]
  obtain ⟨m,hm⟩ := hext x h
  cases m with
  | nil =>
   rw [List.append_nil] at hm
   rw [hm,iter_fix f hm n,hm]
  | cons a m =>
   refine iter_stands f I hI hext N hN n _ (hI x h) ?_
   rw [hm,List.length_append,List.length_cons]
   omega
/-! ### What is reached -/
inductive Reach (g : Gra) : Int → Prop
 | start (h : (g.terms : Int) < g.start) : Reach g g.start
 | step (p : Prd) (k : Int) (hp : p ∈ g.prods) (hl : Reach g p.left) (hk : k ∈ p.right) (ht : (g.terms : Int) < k) : Reach g k
inductive Ended (g : Gra) : Int → Prop
 | mk (p : Prd) (hp : p ∈ g.prods) (h : ∀ k ∈ p.right,(g.terms : Int) < k → Ended g k) : Ended g p.left
/-- The nonterminals that are so. -/
noncomputable def Gra.those (g : Gra) (Q : Int → Prop) : List Int :=
 haveI : DecidablePred Q := fun n => Classical.propDecidable (Q n)
 ((List.range g.nonts.length).map fun i : Nat => (g.terms : Int) + 1 + i).filter fun n => decide (Q n)
theorem Gra.mem_those (g : Gra) (Q : Int → Prop) (n : Int) : n ∈ g.those Q ↔ ((g.terms : Int) < n ∧ n ≤ (g.all : Int)) ∧ Q n := by
 unfold Gra.those
 simp only [List.mem_filter,List.mem_map,List.mem_range,decide_eq_true_eq]
 constructor
 ·rintro ⟨⟨i,hi,rfl⟩,h⟩
  exact ⟨⟨by omega,by unfold Gra.all; omega⟩,h⟩
 ·rintro ⟨⟨h1,h2⟩,h⟩
  exact ⟨⟨(n - g.terms - 1).toNat,by unfold Gra.all at h2; omega,by omega⟩,h⟩
theorem Gra.those_rises (g : Gra) (Q : Int → Prop) : (g.those Q).Pairwise (· < ·) := by
 unfold Gra.those
 refine List.Pairwise.filter _ ?_
 rw [List.pairwise_map]
 exact List.pairwise_lt_range.imp fun h => by omega
theorem Gra.setOf_those (g : Gra) (Q : Int → Prop) {l : List Int} (h : ∀ n,n ∈ l ↔ ((g.terms : Int) < n ∧ n ≤ (g.all : Int)) ∧ Q n) : setOf l = g.those Q :=
 rises_unique _ _ (setOf_rises l) (g.those_rises Q) fun n => by rw [mem_setOf,h n,g.mem_those]
theorem Gra.those_length (g : Gra) (Q : Int → Prop) : (g.those Q).length ≤ g.nonts.length := by
 unfold Gra.those
 refine Nat.le_trans (List.length_filter_le _ _) ?_
 simp
/-- Lists of nonterminals, each once, are no longer than these. -/
theorem Gra.nont_len (g : Gra) {l : List Int} (hnd : l.Nodup) (hl : ∀ n ∈ l,(g.terms : Int) < n ∧ n ≤ (g.all : Int)) : l.length ≤ g.nonts.length := by
 have h1 : (setOf l).length = l.length := by
  have e := g.setOf_those (fun n => n ∈ l) (l := l) (fun n => ⟨fun h => ⟨hl n h,h⟩,fun h => h.2⟩)
  have hp : (setOf l).Perm l := by
   rw [List.perm_ext_iff_of_nodup ((setOf_rises l).imp fun h => by omega) hnd]
   exact mem_setOf l
  exact hp.length_eq
 have e := g.setOf_those (fun n => n ∈ l) (l := l) (fun n => ⟨fun h => ⟨hl n h,h⟩,fun h => h.2⟩)
 rw [← h1,e]
 exact g.those_length _
structure Sound (g : Gra) : Prop where
 prods : ∀ p ∈ g.prods,(g.terms : Int) < p.left ∧ p.left ≤ (g.all : Int) ∧ p.right.length ≤ 8 ∧ 0 ≤ p.prec ∧ p.prec ≤ (g.terms : Int) ∧ ∀ n ∈ p.right,1 ≤ n ∧ n ≤ (g.all : Int)
 start : (g.nonts = [] → g.start = 0) ∧ (g.nonts ≠ [] → (g.terms : Int) < g.start ∧ g.start ≤ (g.all : Int))
 nrules : g.rules.length ≤ 16
 nnonts : g.nonts.length ≤ 16
 nprods : g.prods.length ≤ 40
theorem Gra.sound_iff {g : Gra} (h : g.sound = true) : Sound g := by
 simp only [Gra.sound,Bool.and_eq_true,decide_eq_true_eq,List.all_eq_true] at h
 obtain ⟨⟨⟨⟨⟨⟨h1,h2⟩,h3⟩,_⟩,_⟩,h6⟩,h7⟩ := h
 refine ⟨fun p hp => ?_,⟨fun hn => ?_,fun hn => ?_⟩,h1,h2,h3⟩
 ·have := h7 p hp
  simp only [Prd.okB,Bool.and_eq_true,decide_eq_true_eq,List.all_eq_true] at this
  obtain ⟨⟨⟨⟨⟨a,b⟩,c⟩,d⟩,e⟩,f⟩ := this
  exact ⟨a,b,c,d,e,f⟩
 ·unfold Gra.startB at h6
  rw [if_pos (by simp [hn])] at h6
  simpa using h6
 ·unfold Gra.startB at h6
  rw [if_neg (by simpa using hn)] at h6
  simpa using h6
theorem Sound.terms_le {g : Gra} (h : Sound g) : g.terms ≤ 16 := by
 have := List.length_filter_le (fun r : Rul => !r.skip) g.rules
 have := h.nrules
 unfold Gra.terms
 omega
theorem Sound.all_le {g : Gra} (h : Sound g) : g.all ≤ 32 := by
 have := h.terms_le
 have := h.nnonts
 unfold Gra.all
 omega
theorem Sound.reach {g : Gra} (h : Sound g) {n : Int} (hr : Reach g n) : (g.terms : Int) < n ∧ n ≤ (g.all : Int) := by
 cases hr with
 | start ht =>
  refine ⟨ht,?_⟩
  by_cases hn : g.nonts = []
  ·have := h.start.1 hn; omega
  ·exact (h.start.2 hn).2
 | step p k hp hl hk ht => exact ⟨ht,((h.prods p hp).2.2.2.2.2 n hk).2⟩
theorem Sound.ended {g : Gra} (h : Sound g) {n : Int} (hr : Ended g n) : (g.terms : Int) < n ∧ n ≤ (g.all : Int) := by
 cases hr with
 | mk p hp _ => exact ⟨(h.prods p hp).1,(h.prods p hp).2.1⟩
/-! ### Steps that add one number or none -/
/-- Steps over a list of things, each of which may add one number. -/
def adds {β : Type} (c : List Int → β → Option Int) (out : List Int) (b : β) : List Int := match c out b with
 | some n => out ++ [n]
 | none => out
theorem adds_ext {β : Type} (c : List Int → β → Option Int) : ∀ (l : List β) (out : List Int),∃ m,l.foldl (adds c) out = out ++ m
 | [],out => ⟨[],by simp⟩
 | b :: l,out => by
  obtain ⟨m,hm⟩ := adds_ext c l (adds c out b)
  rw [List.foldl_cons,hm]
  unfold adds
  split
  ·rename_i n _; exact ⟨[n] ++ m,by simp⟩
  ·exact ⟨m,rfl⟩
/-- Where nothing was added, nobody would. -/
theorem adds_fix {β : Type} (c : List Int → β → Option Int) : ∀ (l : List β) (out : List Int),l.foldl (adds c) out = out → ∀ b ∈ l,c out b = none
 | [],out,_,b,hb => by simp at hb
 | b0 :: l,out,h,b,hb => by
  rw [List.foldl_cons] at h
  cases hc : c out b0 with
  | some n =>
   exfalso
   obtain ⟨m,hm⟩ := adds_ext c l (adds c out b0)
   rw [hm] at h
   simp only [adds,hc] at h
   have := congrArg List.length h
   simp at this
  | none =>
   have e : adds c out b0 = out := by simp [adds,hc]
   rw [e] at h
   rcases List.mem_cons.1 hb with rfl | hb
   ·exact hc
   ·exact adds_fix c l out h b hb
/-! ### The document's rounds -/
def endsC (T : Nat) (out : List Int) (p : Prd) : Option Int := if (∀ n ∈ p.right,n ≤ (T : Int) ∨ n ∈ out) ∧ p.left ∉ out then some p.left else none
def EndsI (g : Gra) (l : List Int) : Prop := l.Nodup ∧ ∀ x ∈ l,Ended g x
theorem endsC_inv {g : Gra} {out : List Int} {p : Prd} {n : Int} (hI : EndsI g out) (hp : p ∈ g.prods) (hc : endsC g.terms out p = some n) : EndsI g (out ++ [n]) := by
 unfold endsC at hc
 split at hc
 ·rename_i hcc
  cases hc
  refine ⟨?_,fun x hx => ?_⟩
  ·rw [List.nodup_append]
   exact ⟨hI.1,by simp,fun a ha b' hb' => by rw [List.mem_singleton] at hb'; subst hb'; exact fun e => hcc.2 (e ▸ ha)⟩
  ·rcases List.mem_append.1 hx with hx | hx
   ·exact hI.2 x hx
   ·rw [List.mem_singleton] at hx
    subst hx
    exact .mk p hp fun k hk ht => by
     rcases hcc.1 k hk with h1 | h1
     ·omega
     ·exact hI.2 k h1
 ·cases hc
theorem EndsI.fold {g : Gra} : ∀ (l : List Prd) (out : List Int),(∀ p ∈ l,p ∈ g.prods) → EndsI g out → EndsI g (l.foldl (adds (endsC g.terms)) out)
 | [],out,_,hI => hI
 | p :: l,out,hl,hI => by
  rw [List.foldl_cons]
  refine EndsI.fold l _ (fun q hq => hl q (List.mem_cons_of_mem _ hq)) ?_
  unfold adds
  split
  ·rename_i n hc; exact endsC_inv hI (hl p (by simp)) hc
  ·exact hI
/-- A list to which no production adds is all that ends. -/
theorem EndsI.closed {g : Gra} {l : List Int} (hI : EndsI g l) (hc : ∀ p ∈ g.prods,endsC g.terms l p = none) (n : Int) : n ∈ l ↔ Ended g n := by
 constructor
 ·exact hI.2 n
 ·intro hr
  induction hr with
  | mk p hp h ih =>
   have h1 := hc p hp
   unfold endsC at h1
   split at h1
   ·cases h1
   ·rename_i hcc
    apply Classical.byContradiction
    intro hne
    refine hcc ⟨fun k hk => ?_,hne⟩
    by_cases ht : (g.terms : Int) < k
    ·exact .inr (ih k hk ht)
    ·exact .inl (by omega)
theorem EndsI.len {g : Gra} (h : Sound g) {l : List Int} (hI : EndsI g l) : l.length ≤ g.nonts.length := g.nont_len hI.1 fun n hn => h.ended (hI.2 n hn)
end Go.Abs
/- Going down to all that is reached. -/
namespace Go.Abs
set_option linter.unusedSectionVars false
variable [Kn]
set_option linter.unusedVariables false
set_option linter.unusedSimpArgs false
/-- What stands right of a symbol. -/
def Gra.next (g : Gra) (n : Int) : List Int := g.prods.flatMap fun p => if p.left = n then p.right else []
structure MarkI (g : Gra) (o : List Int) : Prop where
 nd : o.Nodup
 rg : ∀ x ∈ o,(g.terms : Int) < x ∧ x ≤ (g.all : Int)
theorem MarkI.len {g : Gra} {o : List Int} (h : MarkI g o) : o.length ≤ g.nonts.length := g.nont_len h.nd h.rg
/-- What a walk from one list to another leaves. -/
structure Went (g : Gra) (o o' : List Int) : Prop where
 inv : MarkI g o'
 sub : ∃ m,o' = o ++ m
 cls : ∀ x ∈ o',x ∉ o → ∀ k ∈ g.next x,(g.terms : Int) < k → k ∈ o'
 rea : (∀ x ∈ o,Reach g x) → ∀ x ∈ o',Reach g x
theorem Went.trans {g : Gra} {a b c : List Int} (h1 : Went g a b) (h2 : Went g b c) : Went g a c := by
 obtain ⟨m1,e1⟩ := h1.sub
 obtain ⟨m2,e2⟩ := h2.sub
 refine ⟨h2.inv,⟨m1 ++ m2,by rw [e2,e1,List.append_assoc]⟩,fun x hx hn k hk ht => ?_,fun h => h2.rea (h1.rea h)⟩
 by_cases hb : x ∈ b
 ·have := h1.cls x hb hn k hk ht
  rw [e2]; exact List.mem_append_left _ this
 ·exact h2.cls x hx hb k hk ht
theorem Went.refl {g : Gra} {o : List Int} (h : MarkI g o) : Went g o o := ⟨h,⟨[],by simp⟩,fun x hx hn => absurd hx hn,fun h => h⟩
end Go.Abs
