/- Saying less of a state: cells that are all frozen values stand as rows again; a block is frozen where it lies in cells. -/
import Derived.Test.YtlfocagdjjgmmaaGreatAbsO
namespace Go.Abs
set_option linter.unusedVariables false
set_option linter.unusedSimpArgs false

theorem flatten_get {α : Type} {es : Nat} : ∀ {rows : List (List α)}, (∀ row ∈ rows, row.length = es) → ∀ {r j : Nat} {row : List α} {x : α}, rows[r]? = some row → row[j]? = some x → rows.flatten[r * es + j]? = some x
  | [], _, r, j, row, x, h, _ => by simp at h
  | r0 :: rows, hl, r, j, row, x, h, hx => by
    have h0 : r0.length = es := hl r0 (by simp)
    rw [List.flatten_cons]
    cases r with
    | zero =>
      simp only [List.getElem?_cons_zero, Option.some.injEq] at h
      subst h
      rw [Nat.zero_mul, Nat.zero_add, List.getElem?_append_left (List.getElem?_eq_some_iff.1 hx).1]
      exact hx
    | succ r =>
      have e : (r + 1) * es + j = r0.length + (r * es + j) := by rw [h0, Nat.succ_mul]; omega
      rw [e, List.getElem?_append_right (by omega), Nat.add_sub_cancel_left]
      exact flatten_get (fun row hr => hl row (List.mem_cons_of_mem _ hr)) (by simpa using h) hx
theorem le_plain {n0 : Nat} {st : St} (i es : Nat) (rows : List (List FV)) (hi : st.h[i]? = some (.box (thaw rows))) (hl : ∀ row ∈ rows, row.length = es) : Le n0 st { st with h := st.h.set i (.plain es rows) } := by
  intro w0 S0 m0 w S m a hn hr
  have hlt : i < st.h.length := (List.getElem?_eq_some_iff.1 hi).1
  have get : ∀ (k : Nat) (b : Blk), (st.h.set i (.plain es rows))[k]? = some b → (k = i ∧ b = .plain es rows) ∨ (k ≠ i ∧ st.h[k]? = some b) := fun k b hk => by
    rw [List.getElem?_set] at hk
    split at hk
    · rename_i e
      simp only [hlt, if_true, Option.some.injEq] at hk
      exact .inl ⟨e.symm, hk.symm⟩
    · rename_i e
      exact .inr ⟨fun h => e h.symm, hk⟩
  refine ⟨S, m, ⟨by simpa using hr.heap.len, fun k l b hm hb => ?_, fun k j bi bj b o o' hne hk hj li lj mi mj => ?_, fun k bi b o hk li mi => ?_, hr.heap.low, hr.heap.lowm⟩, hr.tmps, hr.defs, hr.fr⟩
  · rcases get k b hb with ⟨rfl, rfl⟩ | ⟨_, hb'⟩
    · obtain ⟨b, o, arr, T, rfl, ha, hc⟩ := hr.heap.blk k l _ hm hi
      refine ⟨fun r row hrow => hl row (List.mem_of_getElem? hrow), arr, T, ha, fun r j row x hrow hx => ?_⟩
      have h1 : (thaw rows)[r * es + j]? = some (.fv x) := by
        simp only [thaw, List.getElem?_map, flatten_get hl hrow hx, Option.map_some]
      obtain ⟨u, hu, hv⟩ := hc (r * es + j) (.fv x) h1
      refine ⟨u, by rw [Nat.add_assoc]; exact hu, ?_⟩
      cases hv with
      | fv _ _ h => exact h
    · exact hr.heap.blk k l b hm hb'
  · rcases get k bi hk with ⟨rfl, rfl⟩ | ⟨_, hk'⟩ <;> rcases get j bj hj with ⟨rfl, rfl⟩ | ⟨_, hj'⟩
    · exact hne rfl
    · exact hr.heap.inj k j _ bj b o o' hne hi hj' rfl lj mi mj
    · exact hr.heap.inj k j bi _ b o o' hne hk' hi li rfl mi mj
    · exact hr.heap.inj k j bi bj b o o' hne hk' hj' li lj mi mj
  · rcases get k bi hk with ⟨rfl, rfl⟩ | ⟨_, hk'⟩
    · exact hr.heap.out k _ b o hi rfl mi
    · exact hr.heap.out k bi b o hk' li mi
end Go.Abs
/- A nil slice that lies in rows is an empty one. -/
namespace Go.Abs
set_option linter.unusedVariables false
set_option linter.unusedSimpArgs false
def fixNil (k : Nat) : FV → FV
  | .nils => .lst k []
  | .bool b => .bool b
  | .int i n => .int i n
  | .str s => .str s
  | .nil v => .nil v
  | .lst es xs => .lst es xs
theorem fixNil_rel {w : World} {S : Nat → Prop} {v : Value} {x : FV} (k : Nat) (h : FRel w S v x) : FRel w S v (fixNil k x) := by
  cases h with
  | nils => exact .lst _ _ _ _ _ (fun _ _ => Go.undef) ⟨0, 0, none⟩ (by simp) (Nat.le_refl _) (fun i row hrow => by simp at hrow) (fun h => by omega) (fun h => by omega) (fun i j hi => by omega) (fun i j row x hrow => by simp at hrow)
  | bool b => exact .bool b
  | int i n => exact .int i n
  | str s => exact .str s
  | nil v h => exact .nil v h
  | lst a n c es xs u ad hn hcp hes ha hs hc hr => exact .lst a n c es xs u ad hn hcp hes ha hs hc hr
theorem le_nilrows {n0 : Nat} {st : St} (i es k : Nat) (rows : List (List FV)) (hi : st.h[i]? = some (.plain es rows)) : Le n0 st { st with h := st.h.set i (.plain es (rows.map fun r => r.map (fixNil k))) } := by
  intro w0 S0 m0 w S m a hn hr
  have hlt : i < st.h.length := (List.getElem?_eq_some_iff.1 hi).1
  have get : ∀ (j : Nat) (b : Blk), (st.h.set i (.plain es (rows.map fun r => r.map (fixNil k))))[j]? = some b → (j = i ∧ b = .plain es (rows.map fun r => r.map (fixNil k))) ∨ (j ≠ i ∧ st.h[j]? = some b) := fun j b hk => by
    rw [List.getElem?_set] at hk
    split at hk
    · rename_i e
      simp only [hlt, if_true, Option.some.injEq] at hk
      exact .inl ⟨e.symm, hk.symm⟩
    · rename_i e
      exact .inr ⟨fun h => e h.symm, hk⟩
  refine ⟨S, m, ⟨by simpa using hr.heap.len, fun j l b hm hb => ?_, fun k j bi bj b o o' hne hk hj li lj mi mj => ?_, fun k bi b o hk li mi => ?_, hr.heap.low, hr.heap.lowm⟩, hr.tmps, hr.defs, hr.fr⟩
  · rcases get j b hb with ⟨rfl, rfl⟩ | ⟨_, hb'⟩
    · have hb := hr.heap.blk j l _ hm hi
      obtain ⟨h1, h2⟩ := hb
      refine ⟨fun r row hrow => ?_, ?_⟩
      · rw [List.getElem?_map] at hrow
        cases hx : rows[r]? with
        | none => rw [hx] at hrow; simp at hrow
        | some row0 => rw [hx] at hrow; simp at hrow; subst hrow; rw [List.length_map]; exact h1 r row0 hx
      · cases l with
        | none => simp only at h2; subst h2; rfl
        | some bo =>
          obtain ⟨b, o⟩ := bo
          obtain ⟨arr, T, ha, hc⟩ := h2
          refine ⟨arr, T, ha, fun r j row x hrow hx => ?_⟩
          rw [List.getElem?_map] at hrow
          cases hx0 : rows[r]? with
          | none => rw [hx0] at hrow; simp at hrow
          | some row0 =>
            rw [hx0] at hrow; simp at hrow; subst hrow
            rw [List.getElem?_map] at hx
            cases hx1 : row0[j]? with
            | none => rw [hx1] at hx; simp at hx
            | some x0 =>
              rw [hx1] at hx; simp at hx; subst hx
              obtain ⟨u, hu, hv⟩ := hc r j row0 x0 hx0 hx1
              exact ⟨u, hu, fixNil_rel k hv⟩
    · exact hr.heap.blk j l b hm hb'
  · rcases get k bi hk with ⟨rfl, rfl⟩ | ⟨_, hk'⟩ <;> rcases get j bj hj with ⟨rfl, rfl⟩ | ⟨_, hj'⟩
    · exact hne rfl
    · exact hr.heap.inj k j _ bj b o o' hne hi hj' rfl lj mi mj
    · exact hr.heap.inj k j bi _ b o o' hne hk' hi li rfl mi mj
    · exact hr.heap.inj k j bi bj b o o' hne hk' hj' li lj mi mj
  · rcases get k bi hk with ⟨rfl, rfl⟩ | ⟨_, hk'⟩
    · exact hr.heap.out k _ b o hi rfl mi
    · exact hr.heap.out k bi b o hk' li mi
theorem le_nilbox {n0 : Nat} {st : St} (i k j : Nat) (cs : List AV) (hi : st.h[i]? = some (.box cs)) (hj : cs[j]? = some (.fv .nils)) : Le n0 st { st with h := st.h.set i (.box (cs.set j (.fv (.lst k [])))) } := by
  intro w0 S0 m0 w S m a hn hr
  have hlt : i < st.h.length := (List.getElem?_eq_some_iff.1 hi).1
  have get : ∀ (l : Nat) (b : Blk), (st.h.set i (.box (cs.set j (.fv (.lst k [])))))[l]? = some b → (l = i ∧ b = .box (cs.set j (.fv (.lst k [])))) ∨ (l ≠ i ∧ st.h[l]? = some b) := fun l b hk => by
    rw [List.getElem?_set] at hk
    split at hk
    · rename_i e
      simp only [hlt, if_true, Option.some.injEq] at hk
      exact .inl ⟨e.symm, hk.symm⟩
    · rename_i e
      exact .inr ⟨fun h => e h.symm, hk⟩
  refine ⟨S, m, ⟨by simpa using hr.heap.len, fun l loc b hm hb => ?_, fun k j bi bj b o o' hne hk hj li lj mi mj => ?_, fun k bi b o hk li mi => ?_, hr.heap.low, hr.heap.lowm⟩, hr.tmps, hr.defs, hr.fr⟩
  · rcases get l b hb with ⟨rfl, rfl⟩ | ⟨_, hb'⟩
    · obtain ⟨b, o, arr, T, rfl, ha, hc⟩ := hr.heap.blk l loc _ hm hi
      refine ⟨b, o, arr, T, rfl, ha, fun j' x hx => ?_⟩
      rw [List.getElem?_set] at hx
      split at hx
      · rename_i e
        subst e
        split at hx
        · cases hx
          obtain ⟨u, hu, hv⟩ := hc j _ hj
          exact ⟨u, hu, nils_lst k hv⟩
        · cases hx
      · exact hc j' x hx
    · exact hr.heap.blk l loc b hm hb'
  · rcases get k bi hk with ⟨rfl, rfl⟩ | ⟨_, hk'⟩ <;> rcases get j bj hj with ⟨rfl, rfl⟩ | ⟨_, hj'⟩
    · exact hne rfl
    · exact hr.heap.inj k j _ bj b o o' hne hi hj' rfl lj mi mj
    · exact hr.heap.inj k j bi _ b o o' hne hk' hi li rfl mi mj
    · exact hr.heap.inj k j bi bj b o o' hne hk' hj' li lj mi mj
  · rcases get k bi hk with ⟨rfl, rfl⟩ | ⟨_, hk'⟩
    · exact hr.heap.out k _ b o hi rfl mi
    · exact hr.heap.out k bi b o hk' li mi
end Go.Abs
/- A call of what asks for a frozen list, with a list that lies in a block of ours: the block is ours no more. -/
namespace Go.Abs
set_option linter.unusedVariables false
set_option linter.unusedSimpArgs false
theorem fv_any {w : World} {S : Nat → Prop} {m m' : List Loc} {v : Value} {x : FV} (h : VRel w S m v (.fv x)) : VRel w S m' v (.fv x) := by
  cases h with
  | fv _ _ h => exact .fv _ _ h
theorem fr_refl (w : World) (S : Nat → Prop) (m : List Loc) (hlow : ∀ (i b o : Nat), m[i]? = some (some (b, o)) → b < w.heap.size) : Fr w S m w S m :=
  ⟨Nat.le_refl _, rfl, rfl, rfl, fun _ _ _ => rfl, fun _ _ _ => rfl, fun b _ => SameShape.of_eq rfl, fun _ h => h, fun _ h => .inl h, fun i b o h => .inl ⟨i, o, h⟩, fun _ _ => rfl⟩
theorem ok_frz {P : Program} {f : FuncId} {es off n k : Nat} {rows out : List (List FV)} (hl : off + n ≤ rows.length)
    (hok : Ok P f [.fv (.lst es ((rows.drop off).take n))] [] (.ret (.ref 0 es 0 k)) [.plain es out]) : Ok P f [.ref 0 es off n] [.plain es rows] (.ret (.ref 1 es 0 k)) [.dead, .plain es out] := by
  refine ⟨hok.1, fun w S m cargs hG hh hlr => ?_⟩
  obtain ⟨v, rfl⟩ : ∃ v, cargs = [v] := by
    have := hlr.1
    match cargs, this with
    | [v], _ => exact ⟨v, rfl⟩
  have hm1 : m.length = 1 := hh.len
  have hr : RelSM w S m w S m ⟨#[v], []⟩ ⟨[.ref 0 es off n], [.plain es rows], []⟩ := ⟨hh, hlr, ⟨rfl, fun i df x h => by simp at h⟩, fr_refl w S m hh.lowm⟩
  obtain ⟨S', hS, hσ, hr'⟩ := freeze_rel (frz := [0]) (fun i hi => by simp at hi; subst hi; exact ⟨_, _, rfl⟩) hr
  have hv : VRel w S' m v (.fv (.lst es ((rows.drop off).take n))) := by
    have h0 := hr'.tmps.2 0 v (subAny (frzSub [0] [.plain es rows]) (.ref 0 es off n)) rfl rfl
    have e : subAny (frzSub [0] [.plain es rows]) (.ref 0 es off n) = .fv (.lst es ((rows.drop off).take n)) := by
      simp [subAny, subA, frzSub, hl]
    rwa [e] at h0
  have hfr := hr'.fr
  have hG' : GOk P w S' := fun g row hg => (hG g row hg).stab hS (fun _ _ _ => rfl) (fun i b o hi => by simp at hi) (fun i b o hi => by simp at hi)
  have hlow' := hr'.heap.low
  refine Calls.mono (hok.2 w S' [] [v] hG' ⟨rfl, fun i l b hi => by simp at hi, fun i j bi bj b o o' _ hi => by simp at hi, fun i bi b o hi => by simp at hi, hlow', fun i b o hi => by simp at hi⟩ ⟨rfl, fun i u x hu hx => by
    cases i with
    | zero => simp at hu hx; subst hu; subst hx; exact fv_any hv
    | succ i => simp at hu⟩) fun e w' hq => ?_
  obtain ⟨S2, m2, h1, h2, h3⟩ := hq
  have hm2 : m2.length = 1 := h1.len
  have get0 : ∀ (i : Nat), i < m.length → (m ++ m2)[i]? = m[i]? := fun i hi => List.getElem?_append_left hi
  have get1 : (m ++ m2)[1]? = m2[0]? := by rw [List.getElem?_append_right (by omega), hm1]
  refine ⟨S2, m ++ m2, ⟨by simp [hm1, hm2], fun i l b hi hb => ?_, fun i j bi bj b o o' hij hi hj li lj mi mj => ?_, fun i bi b o hi li mi => ?_, h1.low, fun i b o hi => ?_⟩, ?_, ?_⟩
  · match i, hb with
    | 0, hb => simp at hb; subst hb; trivial
    | 1, hb =>
      simp at hb; subst hb
      rw [get1] at hi
      exact h1.blk 0 l _ hi rfl
    | i + 2, hb => simp at hb
  · match i, j, hi, hj with
    | 0, _, hi, _ => simp at hi; subst hi; cases li
    | 1, 0, _, hj => simp at hj; subst hj; cases lj
    | 1, 1, _, _ => exact hij rfl
    | 1, j + 2, _, hj => simp at hj
    | i + 2, _, hi, _ => simp at hi
  · match i, hi with
    | 0, hi => simp at hi; subst hi; cases li
    | 1, hi =>
      simp at hi; subst hi
      rw [get1] at mi
      exact h1.out 0 _ b o rfl rfl mi
    | i + 2, hi => simp at hi
  · match i with
    | 0 =>
      rw [get0 0 (by omega)] at hi
      exact Nat.lt_of_lt_of_le (hh.lowm 0 b o hi) h3.size
    | 1 =>
      rw [get1] at hi
      exact h1.lowm 0 b o hi
    | i + 2 =>
      rw [List.getElem?_eq_none (by simp [hm1, hm2])] at hi
      cases hi
  · cases e with
    | returned u =>
      have h2 : VRel w' S2 m2 u (.ref 0 es 0 k) := h2
      show VRel w' S2 (m ++ m2) u (.ref 1 es 0 k)
      cases h2 with
      | ref _ _ _ _ b o c hm hle hc => exact .ref 1 es 0 k b o c (by rw [get1]; exact hm) hle hc
      | refz _ _ _ a => exact .refz _ _ _ _
    | _ => exact h2.elim
  · refine ⟨h3.size, h3.os, h3.tape, h3.output, fun b hb _ => h3.same b hb (fun ⟨i, o, hi⟩ => by simp at hi), fun b hs hb => h3.frozen b (hS b hs) hb, h3.shape, fun b hs => h3.up b (hS b hs), fun b hb => ?_, fun i b o hi => ?_, fun i hi => get0 i hi⟩
    · rcases h3.down b hb with h | ⟨i, o, hi⟩ | h
      · exact hfr.down b h
      · simp at hi
      · exact .inr (.inr h)
    · match i with
      | 0 =>
        rw [get0 0 (by omega)] at hi
        exact .inl ⟨0, o, hi⟩
      | 1 =>
        rw [get1] at hi
        rcases h3.locs 0 b o hi with ⟨i, o, hi⟩ | h
        · simp at hi
        · exact .inr h
      | i + 2 =>
        rw [List.getElem?_eq_none (by simp [hm1, hm2])] at hi
        cases hi
end Go.Abs
