/- Saying less of a state: cells that are all frozen values stand as rows again; a block is frozen where it lies in cells. -/
import Derived.Test.YtlfocagdjjgmmaaGreatAbsO
namespace Go.Abs
set_option linter.unusedVariables false
set_option linter.unusedSimpArgs false

end Go.Abs
/- A nil slice that lies in rows is an empty one. -/
namespace Go.Abs
set_option linter.unusedVariables false
set_option linter.unusedSimpArgs false
end Go.Abs
/- A call of what asks for a frozen list, with a list that lies in a block of ours: the block is ours no more. -/
namespace Go.Abs
set_option linter.unusedVariables false
set_option linter.unusedSimpArgs false
theorem fv_any {w : World} {S : Nat → Prop} {m m' : List Loc} {v : Value} {x : FV} (h : VRel w S m v (.fv x)) : VRel w S m' v (.fv x) := by
  cases h with
  | fv _ _ h => exact .fv _ _ h
theorem fr_refl (w : World) (S : Nat → Prop) (m : List Loc) (hlow : ∀ (i b o : Nat), m[i]? = some (some (b, o)) → b < w.heap.size) : Fr w S m w S m :=
  ⟨Nat.le_refl _, rfl, rfl, rfl, fun _ _ _ => rfl, fun _ _ _ => rfl, fun b _ => SameShape.of_eq rfl, fun _ h => h, fun _ h => .inl h, fun i b o h => .inl ⟨i, o, h⟩, fun _ _ => rfl⟩
theorem ok_frz {P : Program} {f : FuncId} {es off n k : Nat} {rows out : List (List FV)} (hl : off + n ≤ rows.length)
    (hok : Ok P f [.fv (.lst es ((rows.drop off).take n))] [] (.ret (.ref 0 es 0 k)) [.plain es out]) : Ok P f [.ref 0 es off n] [.plain es rows] (.ret (.ref 1 es 0 k)) [.dead, .plain es out] := by
  refine ⟨hok.1, fun w S m cargs hG hh hlr => ?_⟩
  obtain ⟨v, rfl⟩ : ∃ v, cargs = [v] := by
    have := hlr.1
    match cargs, this with
    | [v], _ => exact ⟨v, rfl⟩
  have hm1 : m.length = 1 := hh.len
  have hr : RelSM w S m w S m ⟨#[v], []⟩ ⟨[.ref 0 es off n], [.plain es rows], []⟩ := ⟨hh, hlr, ⟨rfl, fun i df x h => by simp at h⟩, fr_refl w S m hh.lowm⟩
  obtain ⟨S', hS, hσ, hr'⟩ := freeze_rel (frz := [0]) (fun i hi => by simp at hi; subst hi; exact ⟨_, _, rfl⟩) hr
  have hv : VRel w S' m v (.fv (.lst es ((rows.drop off).take n))) := by
    have h0 := hr'.tmps.2 0 v (subAny (frzSub [0] [.plain es rows]) (.ref 0 es off n)) rfl rfl
    have e : subAny (frzSub [0] [.plain es rows]) (.ref 0 es off n) = .fv (.lst es ((rows.drop off).take n)) := by
      simp [subAny, subA, frzSub, hl]
    rwa [e] at h0
  have hfr := hr'.fr
  have hG' : GOk P w S' := fun g row hg => (hG g row hg).stab hS (fun _ _ _ => rfl) (fun i b o hi => by simp at hi) (fun i b o hi => by simp at hi)
  have hlow' := hr'.heap.low
  refine Calls.mono (hok.2 w S' [] [v] hG' ⟨rfl, fun i l b hi => by simp at hi, fun i j bi bj b o o' _ hi => by simp at hi, fun i bi b o hi => by simp at hi, hlow', fun i b o hi => by simp at hi⟩ ⟨rfl, fun i u x hu hx => by
    cases i with
    | zero => simp at hu hx; subst hu; subst hx; exact fv_any hv
    | succ i => simp at hu⟩) fun e w' hq => ?_
  obtain ⟨S2, m2, h1, h2, h3⟩ := hq
  have hm2 : m2.length = 1 := h1.len
  have get0 : ∀ (i : Nat), i < m.length → (m ++ m2)[i]? = m[i]? := fun i hi => List.getElem?_append_left hi
  have get1 : (m ++ m2)[1]? = m2[0]? := by rw [List.getElem?_append_right (by omega), hm1]
  refine ⟨S2, m ++ m2, ⟨by simp [hm1, hm2], fun i l b hi hb => ?_, fun i j bi bj b o o' hij hi hj li lj mi mj => ?_, fun i bi b o hi li mi => ?_, h1.low, fun i b o hi => ?_⟩, ?_, ?_⟩
  · match i, hb with
    | 0, hb => simp at hb; subst hb; trivial
    | 1, hb =>
      simp at hb; subst hb
      rw [get1] at hi
      exact h1.blk 0 l _ hi rfl
    | i + 2, hb => simp at hb
  · match i, j, hi, hj with
    | 0, _, hi, _ => simp at hi; subst hi; cases li
    | 1, 0, _, hj => simp at hj; subst hj; cases lj
    | 1, 1, _, _ => exact hij rfl
    | 1, j + 2, _, hj => simp at hj
    | i + 2, _, hi, _ => simp at hi
  · match i, hi with
    | 0, hi => simp at hi; subst hi; cases li
    | 1, hi =>
      simp at hi; subst hi
      rw [get1] at mi
      exact h1.out 0 _ b o rfl rfl mi
    | i + 2, hi => simp at hi
  · match i with
    | 0 =>
      rw [get0 0 (by omega)] at hi
      exact Nat.lt_of_lt_of_le (hh.lowm 0 b o hi) h3.size
    | 1 =>
      rw [get1] at hi
      exact h1.lowm 0 b o hi
    | i + 2 =>
      rw [List.getElem?_eq_none (by simp [hm1, hm2])] at hi
      cases hi
  · cases e with
    | returned u =>
      have h2 : VRel w' S2 m2 u (.ref 0 es 0 k) := h2
      show VRel w' S2 (m ++ m2) u (.ref 1 es 0 k)
      cases h2 with
      | ref _ _ _ _ b o c hm hle hc => exact .ref 1 es 0 k b o c (by rw [get1]; exact hm) hle hc
      | refz _ _ _ a => exact .refz _ _ _ _
    | _ => exact h2.elim
  · refine ⟨h3.size, h3.os, h3.tape, h3.output, fun b hb _ => h3.same b hb (fun ⟨i, o, hi⟩ => by simp at hi), fun b hs hb => h3.frozen b (hS b hs) hb, h3.shape, fun b hs => h3.up b (hS b hs), fun b hb => ?_, fun i b o hi => ?_, fun i hi => get0 i hi⟩
    · rcases h3.down b hb with h | ⟨i, o, hi⟩ | h
      · exact hfr.down b h
      · simp at hi
      · exact .inr (.inr h)
    · match i with
      | 0 =>
        rw [get0 0 (by omega)] at hi
        exact .inl ⟨0, o, hi⟩
      | 1 =>
        rw [get1] at hi
        rcases h3.locs 0 b o hi with ⟨i, o, hi⟩ | h
        · simp at hi
        · exact .inr h
      | i + 2 =>
        rw [List.getElem?_eq_none (by simp [hm1, hm2])] at hi
        cases hi
end Go.Abs
