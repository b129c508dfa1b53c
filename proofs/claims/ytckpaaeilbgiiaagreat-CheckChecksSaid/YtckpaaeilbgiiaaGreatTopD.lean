/- Names of symbols. -/
import Derived.Test.YtckpaaeilbgiiaaGreatTopA
namespace Go.Abs
set_option linter.unusedVariables false
set_option linter.unusedSimpArgs false

def termNames (rs : List Rul) : List Bs := (rs.filter fun r => !r.skip).map Rul.name
def cntT (rs : List Rul) : Nat := (rs.filter fun r => !r.skip).length
theorem termNames_length (rs : List Rul) : (termNames rs).length = cntT rs := by simp [termNames, cntT]
theorem terms_eq (g : Gra) : g.terms = cntT g.rules := rfl
theorem cntT_le (rs : List Rul) : cntT rs ≤ rs.length := List.length_filter_le _ _
theorem cntT_take_le (rs : List Rul) (i : Nat) : cntT (rs.take i) ≤ i := Nat.le_trans (cntT_le _) (by rw [List.length_take]; omega)
theorem cntT_take_mono (rs : List Rul) (i : Nat) : cntT (rs.take i) ≤ cntT rs := by
  unfold cntT
  exact ((List.take_sublist i rs).filter _).length_le
theorem cntT_yes {rs : List Rul} {i : Nat} (h : i < rs.length) (hs : rs[i].skip = false) : cntT (rs.take (i + 1)) = cntT (rs.take i) + 1 := by
  unfold cntT
  rw [List.take_succ_eq_append_getElem h, List.filter_append]
  simp [hs]
theorem cntT_no {rs : List Rul} {i : Nat} (h : i < rs.length) (hs : rs[i].skip = true) : cntT (rs.take (i + 1)) = cntT (rs.take i) := by
  unfold cntT
  rw [List.take_succ_eq_append_getElem h, List.filter_append]
  simp [hs]
theorem termNames_take_yes {rs : List Rul} {i : Nat} (h : i < rs.length) (hs : rs[i].skip = false) : termNames (rs.take (i + 1)) = termNames (rs.take i) ++ [rs[i].name] := by
  unfold termNames
  rw [List.take_succ_eq_append_getElem h, List.filter_append, List.map_append]
  simp [hs]
theorem termNames_take_no {rs : List Rul} {i : Nat} (h : i < rs.length) (hs : rs[i].skip = true) : termNames (rs.take (i + 1)) = termNames (rs.take i) := by
  unfold termNames
  rw [List.take_succ_eq_append_getElem h, List.filter_append, List.map_append]
  simp [hs]
theorem termNames_split (rs : List Rul) (i : Nat) : termNames rs = termNames (rs.take i) ++ termNames (rs.drop i) := by
  unfold termNames
  rw [← List.map_append, ← List.filter_append, List.take_append_drop]
theorem termNames_at {rs : List Rul} {i : Nat} (h : i < rs.length) (hs : rs[i].skip = false) : (termNames rs)[cntT (rs.take i)]? = some rs[i].name := by
  rw [termNames_split rs (i + 1), termNames_take_yes h hs, List.append_assoc, List.getElem?_append_right (by rw [termNames_length]; exact Nat.le_refl _), termNames_length, Nat.sub_self]
  rfl
/-- All names of a grammar's symbols, the end's first. -/
def Gra.allNames (g : Gra) : List Bs := [36] :: (termNames g.rules ++ g.nonts)
def nameOf (g : Gra) (sym : Int) : Bs := if 0 ≤ sym then (g.allNames[sym.toNat]?).getD [] else []
theorem allNames_length (g : Gra) : g.allNames.length = g.all + 1 := by
  simp [Gra.allNames, termNames_length, Gra.all, terms_eq]
theorem nameOf_zero (g : Gra) : nameOf g 0 = [36] := rfl
theorem nameOf_term {g : Gra} {i : Nat} {sym : Int} (h : i < g.rules.length) (hs : g.rules[i].skip = false) (he : sym = (cntT (g.rules.take i) : Int) + 1) : nameOf g sym = g.rules[i].name := by
  subst he
  have e : ((cntT (g.rules.take i) : Int) + 1).toNat = cntT (g.rules.take i) + 1 := by omega
  have hl : cntT (g.rules.take i) < (termNames g.rules).length := by
    have := cntT_take_mono g.rules (i + 1)
    rw [cntT_yes h hs] at this
    rw [termNames_length]; omega
  unfold nameOf
  rw [if_pos (by omega), e, Gra.allNames, List.getElem?_cons_succ, List.getElem?_append_left hl, termNames_at h hs]
  rfl
theorem nameOf_out {g : Gra} {sym : Int} (h : sym < 0 ∨ (g.all : Int) < sym) : nameOf g sym = [] := by
  unfold nameOf
  split
  · rw [List.getElem?_eq_none]
    · rfl
    · rw [allNames_length]; omega
  · rfl
theorem nameOf_nont {g : Gra} {k : Nat} {sym : Int} (h : k < g.nonts.length) (he : sym = (g.terms : Int) + 1 + k) : nameOf g sym = g.nonts[k] := by
  subst he
  have e : ((g.terms : Int) + 1 + k).toNat = (g.terms + k) + 1 := by omega
  unfold nameOf
  rw [if_pos (by omega), e, Gra.allNames, List.getElem?_cons_succ, List.getElem?_append_right (by rw [termNames_length, terms_eq]; omega), termNames_length, ← terms_eq, Nat.add_sub_cancel_left, List.getElem?_eq_getElem h]
  rfl

/-! ### How great a grammar is -/
def Rul.longB (r : Rul) : Bool := decide (100 < r.re.length) || decide (100 < r.name.length)
def Gra.longB (g : Gra) (np : Nat) : Bool := decide (40 < g.rules.length) || decide (40 < g.nonts.length) || decide (100 < g.levels.length) || decide (np < g.prods.length) ||
  g.rules.any Rul.longB || g.nonts.any (fun s => decide (100 < s.length)) || g.prods.any fun p => decide (30 < p.right.length)
structure Small (g : Gra) (np : Nat) : Prop where
  nrules : g.rules.length ≤ 40
  nnonts : g.nonts.length ≤ 40
  nlevels : g.levels.length ≤ 100
  nprods : g.prods.length ≤ np
  rules : ∀ r ∈ g.rules, r.re.length ≤ 100 ∧ r.name.length ≤ 100
  nonts : ∀ s ∈ g.nonts, s.length ≤ 100
  prods : ∀ p ∈ g.prods, p.right.length ≤ 30
theorem small_of {g : Gra} {np : Nat} (h : g.longB np = false) : Small g np := by
  simp only [Gra.longB, Bool.or_eq_false_iff, decide_eq_false_iff_not, Nat.not_lt, List.any_eq_false, decide_eq_true_eq, Rul.longB, Bool.or_eq_true, not_or] at h
  obtain ⟨⟨⟨⟨⟨⟨h1, h2⟩, h3⟩, h4⟩, h5⟩, h6⟩, h7⟩ := h
  exact ⟨h1, h2, h3, h4, fun r hr => h5 r hr, fun s hs => h6 s hs, fun p hp => h7 p hp⟩
theorem any_take_succ {α : Type} (p : α → Bool) (l : List α) (i : Nat) (h : i < l.length) : (l.take (i + 1)).any p = ((l.take i).any p || p l[i]) := by
  rw [List.take_succ_eq_append_getElem h, List.any_append]
  simp
end Go.Abs
