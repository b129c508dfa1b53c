/- Is a grammar fine: what is wrong first. -/
import Derived.Test.YtckpaaeilbgiiaaGreatTopC
namespace Go.Abs
set_option linter.unusedVariables false
set_option linter.unusedSimpArgs false
def nullIx (p : Rul → Bool) : List Rul → Nat → Option Nat
  | [], _ => none
  | r :: l, i => if p r then some i else nullIx p l (i + 1)
theorem nullIx_at {p : Rul → Bool} : ∀ {l : List Rul} {i : Nat} (k : Nat), i < l.length → (l.take i).all (fun r => !p r) = true → (h : i < l.length) → p l[i] = true → nullIx p l k = some (k + i)
  | r :: l, 0, k, _, _, h, hp => by
    simp only [List.getElem_cons_zero] at hp
    rw [nullIx, if_pos hp]; rfl
  | r :: l, i + 1, k, hi, ha, h, hp => by
    simp only [List.take_succ_cons, List.all_cons, Bool.and_eq_true, Bool.not_eq_true'] at ha
    rw [nullIx, if_neg (by simp [ha.1])]
    rw [nullIx_at (k + 1) (by simpa using hi) ha.2 (by simpa using h) (by simpa using hp)]
    congr 1; omega
theorem nullIx_none {p : Rul → Bool} : ∀ {l : List Rul} (k : Nat), l.all (fun r => !p r) = true → nullIx p l k = none
  | [], k, _ => rfl
  | r :: l, k, h => by
    simp only [List.all_cons, Bool.and_eq_true, Bool.not_eq_true'] at h
    rw [nullIx, if_neg (by simp [h.1]), nullIx_none (k + 1) h.2]
/-- The first number of a row that is not in a list. -/
def outN (T : Nat) (L : List Int) : Nat → Nat → Option Int
  | 0, _ => none
  | n + 1, k => if (T : Int) + 1 + k ∈ L then outN T L n (k + 1) else some ((T : Int) + 1 + k)
theorem outN_none {T : Nat} {L : List Int} : ∀ {n k : Nat}, outN T L n k = none → ∀ j, k ≤ j → j < k + n → (T : Int) + 1 + j ∈ L
  | 0, k, _, j, h1, h2 => by omega
  | n + 1, k, h, j, h1, h2 => by
    rw [outN] at h
    split at h
    · rename_i hm
      by_cases e : j = k
      · subst e; exact hm
      · exact outN_none h j (by omega) (by omega)
    · cases h
def chkB (g : Gra) (R E : List Int) : Int × Int := match outN g.terms R g.nonts.length 0 with
  | some n => (n, 8)
  | none => match outN g.terms E g.nonts.length 0 with
    | some n => (n, 9)
    | none => (0, 0)
def chkR (p : Rul → Bool) (g : Gra) (R E : List Int) : Int × Int := match nullIx p g.rules 0 with
  | some i => ((i : Int), 7)
  | none => if g.nonts.length = 0 then (0, 4) else chkB g R E
def chkG (p : Rul → Bool) (g : Gra) (R E : List Int) : Int × Int := if g.sound = true then chkR p g R E else (0, 10)
theorem chkR_some {p : Rul → Bool} {g : Gra} {R E : List Int} {i : Nat} (h : nullIx p g.rules 0 = some i) : chkR p g R E = ((i : Int), 7) := by unfold chkR; rw [h]
theorem chkR_none {p : Rul → Bool} {g : Gra} {R E : List Int} (h : nullIx p g.rules 0 = none) : chkR p g R E = if g.nonts.length = 0 then (0, 4) else chkB g R E := by unfold chkR; rw [h]
end Go.Abs
