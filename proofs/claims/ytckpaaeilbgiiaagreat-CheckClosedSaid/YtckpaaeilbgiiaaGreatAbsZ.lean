/- Saying less of a state: cells that are all frozen values stand as rows again; a block is frozen where it lies in cells. -/
import Derived.Test.YtckpaaeilbgiiaaGreatAbsO
namespace Go.Abs
set_option linter.unusedVariables false
set_option linter.unusedSimpArgs false

theorem flatten_get {α : Type} {es : Nat} : ∀ {rows : List (List α)}, (∀ row ∈ rows, row.length = es) → ∀ {r j : Nat} {row : List α} {x : α}, rows[r]? = some row → row[j]? = some x → rows.flatten[r * es + j]? = some x
  | [], _, r, j, row, x, h, _ => by simp at h
  | r0 :: rows, hl, r, j, row, x, h, hx => by
    have h0 : r0.length = es := hl r0 (by simp)
    rw [List.flatten_cons]
    cases r with
    | zero =>
      simp only [List.getElem?_cons_zero, Option.some.injEq] at h
      subst h
      rw [Nat.zero_mul, Nat.zero_add, List.getElem?_append_left (List.getElem?_eq_some_iff.1 hx).1]
      exact hx
    | succ r =>
      have e : (r + 1) * es + j = r0.length + (r * es + j) := by rw [h0, Nat.succ_mul]; omega
      rw [e, List.getElem?_append_right (by omega), Nat.add_sub_cancel_left]
      exact flatten_get (fun row hr => hl row (List.mem_cons_of_mem _ hr)) (by simpa using h) hx
theorem le_plain {n0 : Nat} {st : St} (i es : Nat) (rows : List (List FV)) (hi : st.h[i]? = some (.box (thaw rows))) (hl : ∀ row ∈ rows, row.length = es) : Le n0 st { st with h := st.h.set i (.plain es rows) } := by
  intro w0 S0 m0 w S m a hn hr
  have hlt : i < st.h.length := (List.getElem?_eq_some_iff.1 hi).1
  have get : ∀ (k : Nat) (b : Blk), (st.h.set i (.plain es rows))[k]? = some b → (k = i ∧ b = .plain es rows) ∨ (k ≠ i ∧ st.h[k]? = some b) := fun k b hk => by
    rw [List.getElem?_set] at hk
    split at hk
    · rename_i e
      simp only [hlt, if_true, Option.some.injEq] at hk
      exact .inl ⟨e.symm, hk.symm⟩
    · rename_i e
      exact .inr ⟨fun h => e h.symm, hk⟩
  refine ⟨S, m, ⟨by simpa using hr.heap.len, fun k l b hm hb => ?_, fun k j bi bj b o o' hne hk hj li lj mi mj => ?_, fun k bi b o hk li mi => ?_, hr.heap.low, hr.heap.lowm⟩, hr.tmps, hr.defs, hr.fr⟩
  · rcases get k b hb with ⟨rfl, rfl⟩ | ⟨_, hb'⟩
    · obtain ⟨b, o, arr, T, rfl, ha, hc⟩ := hr.heap.blk k l _ hm hi
      refine ⟨fun r row hrow => hl row (List.mem_of_getElem? hrow), arr, T, ha, fun r j row x hrow hx => ?_⟩
      have h1 : (thaw rows)[r * es + j]? = some (.fv x) := by
        simp only [thaw, List.getElem?_map, flatten_get hl hrow hx, Option.map_some]
      obtain ⟨u, hu, hv⟩ := hc (r * es + j) (.fv x) h1
      refine ⟨u, by rw [Nat.add_assoc]; exact hu, ?_⟩
      cases hv with
      | fv _ _ h => exact h
    · exact hr.heap.blk k l b hm hb'
  · rcases get k bi hk with ⟨rfl, rfl⟩ | ⟨_, hk'⟩ <;> rcases get j bj hj with ⟨rfl, rfl⟩ | ⟨_, hj'⟩
    · exact hne rfl
    · exact hr.heap.inj k j _ bj b o o' hne hi hj' rfl lj mi mj
    · exact hr.heap.inj k j bi _ b o o' hne hk' hi li rfl mi mj
    · exact hr.heap.inj k j bi bj b o o' hne hk' hj' li lj mi mj
  · rcases get k bi hk with ⟨rfl, rfl⟩ | ⟨_, hk'⟩
    · exact hr.heap.out k _ b o hi rfl mi
    · exact hr.heap.out k bi b o hk' li mi
end Go.Abs
