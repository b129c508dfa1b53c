/- Grammars as cells. -/
import Derived.Test.YtmnbljfbdiodbaaAbsZ
import Derived.Lib.SlicesCompact
namespace Go.Abs
set_option linter.unusedVariables false
set_option linter.unusedSimpArgs false
abbrev Bs := List UInt8
structure Cel where
 op : Int
 a : Int
 b : Int
 c : Int
 d : Int
structure Rul where
 name : Bs
 re : List Cel
 skip : Bool
structure Lev where
 power : Int
 side : Int
structure Prd where
 left : Int
 right : List Int
 prec : Int
structure Gra where
 rules : List Rul
 nonts : List Bs
 levels : List Lev
 prods : List Prd
 start : Int
def Cel.row (c : Cel) : List FV := [.int .i64 c.op,.int .u64 c.a,.int .u64 c.b,.int .u64 c.c,.int .u64 c.d]
def Rul.row (r : Rul) : List FV := [.str r.name,.lst 5 (r.re.map Cel.row),.bool r.skip]
def Lev.row (l : Lev) : List FV := [.int .i64 l.power,.int .i64 l.side]
def iRow (n : Int) : List FV := [.int .i64 n]
def sRow (s : Bs) : List FV := [.str s]
def Prd.row (p : Prd) : List FV := [.int .i64 p.left,.lst 1 (p.right.map iRow),.int .i64 p.prec]
def Gra.row (g : Gra) : List FV := [.lst 3 (g.rules.map Rul.row),.lst 1 (g.nonts.map sRow),.lst 2 (g.levels.map Lev.row),.lst 3 (g.prods.map Prd.row),.int .i64 g.start]
def Gra.av (g : Gra) : AV := .agg [.fv (.lst 3 (g.rules.map Rul.row)),.fv (.lst 1 (g.nonts.map sRow)),.fv (.lst 2 (g.levels.map Lev.row)),.fv (.lst 3 (g.prods.map Prd.row)),.fv (.int .i64 g.start)]
/-! ### What is handed -/
def I64 (n : Int) : Prop := -9223372036854775808 ≤ n ∧ n ≤ 9223372036854775807
def Cel.ok (c : Cel) : Prop := I64 c.op
def Rul.ok (r : Rul) : Prop := r.name.length ≤ reachBytes ∧ (∀ c ∈ r.re,c.ok) ∧ r.re.length * 40 ≤ reachBytes
def Lev.ok (l : Lev) : Prop := I64 l.power ∧ I64 l.side
def Prd.ok (p : Prd) : Prop := I64 p.left ∧ (∀ n ∈ p.right,I64 n) ∧ p.right.length * 8 ≤ reachBytes ∧ I64 p.prec
structure Gra.ok (g : Gra) : Prop where
 rules : ∀ r ∈ g.rules,r.ok
 nonts : ∀ s ∈ g.nonts,s.length ≤ reachBytes
 levels : ∀ l ∈ g.levels,l.ok
 prods : ∀ p ∈ g.prods,p.ok
 start : I64 g.start
 nrules : g.rules.length ≤ reachBytes
 nnonts : g.nonts.length ≤ reachBytes
 nlevels : g.levels.length ≤ reachBytes
 nprods : g.prods.length ≤ reachBytes
def shCel : List Sh := [.int .i64,.int .u64,.int .u64,.int .u64,.int .u64]
end Go.Abs
/- What a grammar must be: words, names, rules, soundness, in plain words. -/
namespace Go.Abs
set_option linter.unusedVariables false
set_option linter.unusedSimpArgs false
/-! ### Words -/
structure Wd where
 kind : Int
 at_ : Int
 text : Bs
def Wd.row (w : Wd) : List FV := [.int .i64 w.kind,.int .i64 w.at_,.str w.text]
/-! ### Rules -/
def wantsI (op : Int) : Int := if op = 1 ∨ op = 2 then 0 else if op = 5 ∨ op = 6 ∨ op = 7 then 1 else if op = 3 ∨ op = 4 then 2 else -1
def Cel.none_ (c : Cel) : Bool := c.a == 0 && c.b == 0 && c.c == 0 && c.d == 0
def rightG : List Cel → Int → Option Int
 | [],n => some n
 | c :: r,n => if wantsI c.op < 0 ∨ n < wantsI c.op ∨ (c.op == 1) = c.none_ then none else rightG r (n + 1 - wantsI c.op)
def rightB (l : List Cel) : Bool := decide (1 ≤ l.length) && decide (l.length ≤ 60) && (match rightG l 0 with
 | some n => decide (n = 1)
 | none => false)
/-! ### Soundness -/
def Gra.terms (g : Gra) : Nat := (g.rules.filter fun r => !r.skip).length
def Gra.all (g : Gra) : Nat := g.terms + g.nonts.length
def Gra.names (g : Gra) : List Bs := g.rules.map Rul.name ++ g.nonts
end Go.Abs
/- Names of symbols. -/
namespace Go.Abs
set_option linter.unusedVariables false
set_option linter.unusedSimpArgs false
/-! ### How great a grammar is -/
structure Small (g : Gra) (np : Nat) : Prop where
 nrules : g.rules.length ≤ 40
 nnonts : g.nonts.length ≤ 40
 nlevels : g.levels.length ≤ 100
 nprods : g.prods.length ≤ np
 rules : ∀ r ∈ g.rules,r.re.length ≤ 100 ∧ r.name.length ≤ 100
 nonts : ∀ s ∈ g.nonts,s.length ≤ 100
 prods : ∀ p ∈ g.prods,p.right.length ≤ 30
end Go.Abs
/- Plain facts about sets of numbers as rising lists. -/
namespace Go.Abs
/-- A list of numbers, sorted. -/
def sorted (l : List Int) : List Int := l.mergeSort fun x y => decide (x ≤ y)
theorem sorted_length (l : List Int) : (sorted l).length = l.length := List.length_mergeSort l
theorem mem_sorted (l : List Int) (x : Int) : x ∈ sorted l ↔ x ∈ l := List.mem_mergeSort
theorem sorted_rises (l : List Int) : (sorted l).Pairwise (· ≤ ·) := by
 have h := List.pairwise_mergeSort (le := fun x y : Int => decide (x ≤ y)) (by intro a b c; simp; omega) (by intro a b; simp; omega) l
 simpa [sorted] using h
/-- The set of a list. -/
def setOf (zs : List Int) : List Int := Lib.compact (sorted zs)
theorem compactUpTo_facts (zs : List Int) (hz : zs.Pairwise (· ≤ ·)) : ∀ m,m ≤ zs.length →
  (Lib.compactUpTo zs.toArray m).Pairwise (· < ·) ∧ (∀ x,x ∈ Lib.compactUpTo zs.toArray m ↔ x ∈ zs.take m) ∧ (∀ x ∈ Lib.compactUpTo zs.toArray m,0 < m ∧ x ≤ zs.toArray[m - 1]!)
 | 0,_ => by simp [Lib.compactUpTo]
 | m + 1,h => by
  obtain ⟨h1,h2,h3⟩ := compactUpTo_facts zs hz m (by omega)
  have hm : m < zs.length := by omega
  have hg : zs.toArray[m]! = zs[m] := by simp [hm]
  have hle : 0 < m → zs.toArray[m - 1]! ≤ zs[m] := fun hp => by
   have : m - 1 < zs.length := by omega
   have hg' : zs.toArray[m - 1]! = zs[m - 1] := by simp [this]
   rw [hg']
   exact List.pairwise_iff_getElem.1 hz (m - 1) m this hm (by omega)
  rw [Lib.compactUpTo_succ,List.take_succ_eq_append_getElem hm,hg]
  by_cases hk : Lib.keeps zs.toArray m = true
  ·rw [if_pos hk]
   refine ⟨?_,?_,?_⟩
   ·rw [List.pairwise_append]
    refine ⟨h1,by simp,fun x hx y hy => ?_⟩
    simp at hy; subst hy
    obtain ⟨hp,hxl⟩ := h3 x hx
    have := hle hp
    simp only [Lib.keeps,decide_eq_true_eq] at hk
    rcases hk with hk | hk
    ·omega
    ·rw [hg] at hk
     omega
   ·intro x
    rw [List.mem_append,List.mem_append,h2 x]
   ·intro x hx
    refine ⟨by omega,?_⟩
    rw [show m + 1 - 1 = m from by omega,hg]
    simp at hx
    rcases hx with hx | hx
    ·obtain ⟨hp,hxl⟩ := h3 x hx
     have := hle hp
     omega
    ·omega
  ·rw [if_neg hk,List.append_nil]
   simp only [Lib.keeps,decide_eq_true_eq,not_or,Classical.not_not] at hk
   obtain ⟨hk0,hk⟩ := hk
   have hp : 0 < m := by omega
   rw [hg] at hk
   refine ⟨h1,?_,?_⟩
   ·intro x
    rw [h2 x,List.mem_append,List.mem_singleton]
    constructor
    ·exact .inl
    ·rintro (hx | hx)
     ·exact hx
     ·subst hx
      have hm' : m - 1 < zs.length := by omega
      have hg' : zs.toArray[m - 1]! = zs[m - 1] := by simp [hm']
      rw [hk,hg',List.mem_take_iff_getElem]
      exact ⟨m - 1,by omega,rfl⟩
   ·intro x hx
    obtain ⟨_,hxl⟩ := h3 x hx
    refine ⟨by omega,?_⟩
    rw [show m + 1 - 1 = m from by omega,hg]
    rw [hk]
    exact hxl
theorem setOf_rises (l : List Int) : (setOf l).Pairwise (· < ·) := (compactUpTo_facts (sorted l) (sorted_rises l) _ (Nat.le_refl _)).1
theorem mem_setOf (l : List Int) (x : Int) : x ∈ setOf l ↔ x ∈ l := by
 have h := (compactUpTo_facts (sorted l) (sorted_rises l) _ (Nat.le_refl _)).2.1 x
 rw [List.take_length,mem_sorted] at h
 exact h
theorem rises_unique : ∀ s t : List Int,s.Pairwise (· < ·) → t.Pairwise (· < ·) → (∀ x,x ∈ s ↔ x ∈ t) → s = t
 | [],[],_,_,_ => rfl
 | [],y :: t,_,_,h => by have := (h y).2 (by simp); simp at this
 | x :: s,[],_,_,h => by have := (h x).1 (by simp); simp at this
 | x :: s,y :: t,hs,ht,h => by
  rw [List.pairwise_cons] at hs ht
  have e : x = y := by
   have h1 := (h x).1 (by simp)
   have h2 := (h y).2 (by simp)
   simp only [List.mem_cons] at h1 h2
   rcases h1 with h1 | h1
   ·exact h1
   ·rcases h2 with h2 | h2
    ·exact h2.symm
    ·have := hs.1 y h2
     have := ht.1 x h1
     omega
  subst e
  rw [rises_unique s t hs.2 ht.2 fun z => ?_]
  constructor
  ·intro hz
   have h1 := (h z).1 (by simp [hz])
   simp only [List.mem_cons] at h1
   rcases h1 with h1 | h1
   ·have := hs.1 z hz; omega
   ·exact h1
  ·intro hz
   have h1 := (h z).2 (by simp [hz])
   simp only [List.mem_cons] at h1
   rcases h1 with h1 | h1
   ·have := ht.1 z hz; omega
   ·exact h1
theorem setOf_set (l : List Int) (h : l.Pairwise (· < ·)) : setOf l = l := rises_unique _ _ (setOf_rises l) h (mem_setOf l)
theorem setOf_congr {a b : List Int} (h : ∀ x,x ∈ a ↔ x ∈ b) : setOf a = setOf b :=
 rises_unique _ _ (setOf_rises a) (setOf_rises b) fun x => by rw [mem_setOf,mem_setOf,h x]
theorem compact_len_le (zs : List Int) : (Lib.compact zs).length ≤ zs.length := by
 simp only [Lib.compact,Lib.compactUpTo,List.length_map]
 have := List.length_filter_le (Lib.keeps zs.toArray) (List.range zs.length)
 simpa using this
theorem setOf_length_le (l : List Int) : (setOf l).length ≤ l.length := by
 have := compact_len_le (sorted l)
 rw [sorted_length] at this
 exact this
end Go.Abs
namespace Go.Abs
/-- Is a number above the first k of the set? -/
def Above (S : List Int) (k : Nat) (x : Int) : Prop := k = 0 ∨ ∃ h : k - 1 < S.length,S[k - 1] < x
theorem above_iff (l : List Int) (k : Nat) (hk : k ≤ (setOf l).length) (x : Int) (hx : x ∈ l) : Above (setOf l) k x ↔ ∃ j,∃ h : j < (setOf l).length,k ≤ j ∧ (setOf l)[j] = x := by
 have hr := List.pairwise_iff_getElem.1 (setOf_rises l)
 obtain ⟨j,hj,e⟩ := List.getElem_of_mem ((mem_setOf l x).2 hx)
 constructor
 ·rintro (h0 | ⟨h,hlt⟩)
  ·exact ⟨j,hj,by omega,e⟩
  ·refine ⟨j,hj,?_,e⟩
   rcases Nat.lt_or_ge j k with h' | h'
   ·exfalso
    rcases Nat.lt_or_ge j (k - 1) with h2 | h2
    ·have := hr j (k - 1) hj h h2
     omega
    ·have : j = k - 1 := by omega
     subst this
     omega
   ·exact h'
 ·rintro ⟨j,hj,hkj,e⟩
  by_cases h0 : k = 0
  ·exact .inl h0
  ·have h : k - 1 < (setOf l).length := by omega
   have := hr (k - 1) j h hj (by omega)
   exact .inr ⟨h,by omega⟩
theorem above_end (l : List Int) (k : Nat) (hk : k ≤ (setOf l).length) (h : ∀ x ∈ l,¬ Above (setOf l) k x) : k = (setOf l).length := by
 rcases Nat.lt_or_ge k (setOf l).length with h' | h'
 ·have hm : (setOf l)[k] ∈ l := (mem_setOf l _).1 (List.getElem_mem h')
  exact absurd ((above_iff l k hk _ hm).2 ⟨k,h',Nat.le_refl _,rfl⟩) (h _ hm)
 ·omega
theorem above_least (l : List Int) (k : Nat) (hk : k ≤ (setOf l).length) (y : Int) (hy : y ∈ l) (ha : Above (setOf l) k y) (hm : ∀ x ∈ l,Above (setOf l) k x → y ≤ x) :
  ∃ h : k < (setOf l).length,(setOf l)[k] = y := by
 obtain ⟨j,hj,hkj,e⟩ := (above_iff l k hk y hy).1 ha
 have h' : k < (setOf l).length := by omega
 refine ⟨h',?_⟩
 have hm' : (setOf l)[k] ∈ l := (mem_setOf l _).1 (List.getElem_mem h')
 have h1 := hm _ hm' ((above_iff l k hk _ hm').2 ⟨k,h',Nat.le_refl _,rfl⟩)
 have hr := List.pairwise_iff_getElem.1 (setOf_rises l)
 rcases Nat.lt_or_ge k j with h2 | h2
 ·have := hr k j h' hj h2
  omega
 ·have : j = k := by omega
  subst this
  exact e
end Go.Abs
