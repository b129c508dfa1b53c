/- A nil slice that lies in rows is an empty one. -/
import Derived.Test.YtnhghoonlmoinaaGreatAbsZ
import Derived.Test.YtnhghoonlmoinaaGreatTopA
namespace Go.Abs
variable [Kn]
set_option linter.unusedSectionVars false
set_option linter.unusedVariables false
set_option linter.unusedSimpArgs false
end Go.Abs
/- Productions, one behind the other: the text that they make. -/
namespace Go.Abs
set_option linter.unusedVariables false
set_option linter.unusedSimpArgs false
/-- The last one of the first k symbols that is no terminal. -/
def lastNt (T : Nat) (t : List Int) : Nat → Option Nat
 | 0 => none
 | k + 1 => if (T : Int) < t.getD k 0 then some k else lastNt T t k
theorem lastNt_lt {T : Nat} {t : List Int} : ∀ {k a : Nat},lastNt T t k = some a → a < k
 | 0,a,h => by simp [lastNt] at h
 | k + 1,a,h => by
  unfold lastNt at h
  split at h
  ·injection h with h; omega
  ·have := lastNt_lt h; omega
def madeT (t r : List Int) (a : Nat) : List Int := t.take a ++ r ++ t.drop (a + 1)
def Gra.pr (g : Gra) (p : Int) : Prd := (g.prods[p.toNat]?).getD ⟨0,[],0⟩
def replG (g : Gra) : List Int → List Int → List Int × Int
 | [],t => (t,0)
 | p :: r,t => match lastNt g.terms t t.length with
  | none => ([],13)
  | some a => if t.getD a 0 = (g.pr p).left then (if 400 < (madeT t (g.pr p).right a).length then ([],3) else replG g r (madeT t (g.pr p).right a)) else ([],13)
theorem replG_none {g : Gra} {p : Int} {r t : List Int} (h : lastNt g.terms t t.length = none) : replG g (p :: r) t = ([],13) := by rw [replG]; rw [h]
theorem replG_bad {g : Gra} {p : Int} {r t : List Int} {a : Nat} (h : lastNt g.terms t t.length = some a) (h2 : ¬ t.getD a 0 = (g.pr p).left) : replG g (p :: r) t = ([],13) := by rw [replG]; rw [h]; simp only; rw [if_neg h2]
theorem replG_full {g : Gra} {p : Int} {r t : List Int} {a : Nat} (h : lastNt g.terms t t.length = some a) (h2 : t.getD a 0 = (g.pr p).left) (h3 : 400 < (madeT t (g.pr p).right a).length) : replG g (p :: r) t = ([],3) := by rw [replG]; rw [h]; simp only; rw [if_pos h2,if_pos h3]
theorem replG_go {g : Gra} {p : Int} {r t : List Int} {a : Nat} (h : lastNt g.terms t t.length = some a) (h2 : t.getD a 0 = (g.pr p).left) (h3 : ¬ 400 < (madeT t (g.pr p).right a).length) : replG g (p :: r) t = replG g r (madeT t (g.pr p).right a) := by rw [replG]; rw [h]; simp only; rw [if_pos h2,if_neg h3]
def Gra.prodsB (g : Gra) (l : List Int) : Bool := l.all fun p => decide (0 ≤ p) && decide (p < (g.prods.length : Int))
theorem prodsB_iff {g : Gra} {l : List Int} : g.prodsB l = true ↔ ∀ p ∈ l,0 ≤ p ∧ p < (g.prods.length : Int) := by simp [Gra.prodsB]
def replA (g : Gra) (us : Bool) (l : List Int) : List Int × Int := if us = true ∧ g.prodsB l = true then replG g l [g.start] else ([],10)
theorem pr_at {g : Gra} {p : Int} (h0 : 0 ≤ p) (h : p < (g.prods.length : Int)) : (g.prods.map Prd.row)[p.toNat]? = some (g.pr p).row ∧ g.pr p ∈ g.prods := by
 have hlt : p.toNat < g.prods.length := by omega
 have e : g.pr p = g.prods[p.toNat] := by unfold Gra.pr; rw [List.getElem?_eq_getElem hlt]; rfl
 rw [e,List.getElem?_map,List.getElem?_eq_getElem hlt]
 exact ⟨rfl,List.getElem_mem hlt⟩
set_option linter.unusedSectionVars false
variable [Kn]
theorem le_tn {n0 : Nat} (k : Nat) (x : AV) (h : List Blk) : Le n0 ⟨[.tuple [.fv .nils,x]],h,[]⟩ ⟨[.tuple [.fv (.lst k []),x]],h,[]⟩ := by
 intro w0 S0 m0 w S m a hn hr
 refine ⟨S,m,hr.heap,⟨hr.tmps.1,fun j v y hv hy => ?_⟩,hr.defs,hr.fr⟩
 cases j with
 | succ j => simp at hy
 | zero =>
  simp at hy; subst hy
  have h0 := hr.tmps.2 0 v _ hv rfl
  cases h0 with
  | tuple vs cs hs hc =>
   refine .tuple vs _ (by simpa using hs) (fun i u z hu hz => ?_)
   cases i with
   | zero => simp at hz; subst hz; exact nils_lst k (hc 0 u _ hu rfl)
   | succ i => exact hc (i + 1) u z hu (by simpa using hz)
/-! ### How great a grammar is -/
def Rul.heavyB (r : Rul) : Bool := decide (30 < r.re.length) || decide (40 < r.name.length)
def Gra.heavyB (g : Gra) : Bool := decide (14 < g.prods.length) || decide (10 < g.rules.length) || decide (8 < g.nonts.length) || decide (20 < g.levels.length) ||
 g.rules.any Rul.heavyB || g.nonts.any (fun s => decide (40 < s.length)) || g.prods.any fun p => decide (8 < p.right.length)
theorem heavy_of {g : Gra} (h : (decide (14 < g.prods.length) || decide (10 < g.rules.length) || decide (8 < g.nonts.length) || decide (20 < g.levels.length)) = true) : g.heavyB = true := by
 unfold Gra.heavyB
 rw [h]; rfl
theorem small_heavy {g : Gra} (h : g.heavyB = false) : Small g 100 ∧ ∀ p ∈ g.prods,p.right.length ≤ 8 := by
 simp only [Gra.heavyB,Bool.or_eq_false_iff,decide_eq_false_iff_not,Nat.not_lt,List.any_eq_false,decide_eq_true_eq,Rul.heavyB,Bool.or_eq_true,not_or] at h
 obtain ⟨⟨⟨⟨⟨⟨h1,h2⟩,h3⟩,h4⟩,h5⟩,h6⟩,h7⟩ := h
 exact ⟨⟨by omega,by omega,by omega,by omega,fun r hr => by have := h5 r hr; omega,fun s hs => by have := h6 s hs; omega,fun p hp => by have := h7 p hp; omega⟩,fun p hp => h7 p hp⟩
end Go.Abs
