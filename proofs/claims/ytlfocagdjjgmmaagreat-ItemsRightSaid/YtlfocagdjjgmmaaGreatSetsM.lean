/- Plain facts about sets of numbers as rising lists. -/
import Derived.Lib.SlicesCompact
import Derived.Test.YtlfocagdjjgmmaaGreatTopA
namespace Go.Abs
end Go.Abs
namespace Go.Abs
end Go.Abs
/- Names of symbols. -/
namespace Go.Abs
set_option linter.unusedVariables false
set_option linter.unusedSimpArgs false

def cntT (rs : List Rul) : Nat := (rs.filter fun r => !r.skip).length
theorem cntT_le (rs : List Rul) : cntT rs ≤ rs.length := List.length_filter_le _ _
theorem cntT_take_le (rs : List Rul) (i : Nat) : cntT (rs.take i) ≤ i := Nat.le_trans (cntT_le _) (by rw [List.length_take]; omega)
theorem cntT_yes {rs : List Rul} {i : Nat} (h : i < rs.length) (hs : rs[i].skip = false) : cntT (rs.take (i + 1)) = cntT (rs.take i) + 1 := by
  unfold cntT
  rw [List.take_succ_eq_append_getElem h, List.filter_append]
  simp [hs]
theorem cntT_no {rs : List Rul} {i : Nat} (h : i < rs.length) (hs : rs[i].skip = true) : cntT (rs.take (i + 1)) = cntT (rs.take i) := by
  unfold cntT
  rw [List.take_succ_eq_append_getElem h, List.filter_append]
  simp [hs]
/-! ### How great a grammar is -/
def Rul.longB (r : Rul) : Bool := decide (100 < r.re.length) || decide (100 < r.name.length)
def Gra.longB (g : Gra) (np : Nat) : Bool := decide (40 < g.rules.length) || decide (40 < g.nonts.length) || decide (100 < g.levels.length) || decide (np < g.prods.length) ||
  g.rules.any Rul.longB || g.nonts.any (fun s => decide (100 < s.length)) || g.prods.any fun p => decide (30 < p.right.length)
structure Small (g : Gra) (np : Nat) : Prop where
  nrules : g.rules.length ≤ 40
  nnonts : g.nonts.length ≤ 40
  nlevels : g.levels.length ≤ 100
  nprods : g.prods.length ≤ np
  rules : ∀ r ∈ g.rules, r.re.length ≤ 100 ∧ r.name.length ≤ 100
  nonts : ∀ s ∈ g.nonts, s.length ≤ 100
  prods : ∀ p ∈ g.prods, p.right.length ≤ 30
theorem small_of {g : Gra} {np : Nat} (h : g.longB np = false) : Small g np := by
  simp only [Gra.longB, Bool.or_eq_false_iff, decide_eq_false_iff_not, Nat.not_lt, List.any_eq_false, decide_eq_true_eq, Rul.longB, Bool.or_eq_true, not_or] at h
  obtain ⟨⟨⟨⟨⟨⟨h1, h2⟩, h3⟩, h4⟩, h5⟩, h6⟩, h7⟩ := h
  exact ⟨h1, h2, h3, h4, fun r hr => h5 r hr, fun s hs => h6 s hs, fun p hp => h7 p hp⟩
theorem any_take_succ {α : Type} (p : α → Bool) (l : List α) (i : Nat) (h : i < l.length) : (l.take (i + 1)).any p = ((l.take i).any p || p l[i]) := by
  rw [List.take_succ_eq_append_getElem h, List.any_append]
  simp
end Go.Abs
