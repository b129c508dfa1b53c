/- Operations that read blocks. -/
import Derived.Test.YtckpaaeilbgiiaaAbsG
namespace Go.Abs
set_option linter.unusedVariables false
set_option linter.unusedSimpArgs false

section
variable {P : Program}
theorem run_loadCellsFrom (w : World) (a : Addr) (c : Nat → Value) : ∀ (n i : Nat) (acc : Array Value), (∀ j, j < n → w.cell? (a.add (i + j)) = some (c j)) →
    (loadCellsFrom a i n acc).run P w = .ok (acc ++ ((List.range n).map c).toArray) w
  | 0, i, acc, _ => by simp [loadCellsFrom]
  | n + 1, i, acc, h => by
    have h0 := h 0 (by omega)
    simp only [Nat.add_zero] at h0
    have ih := run_loadCellsFrom w a (fun j => c (j + 1)) n (i + 1) (acc.push (c 0)) (fun j hj => by
      have := h (j + 1) (by omega)
      rwa [show i + (j + 1) = i + 1 + j from by omega] at this)
    simp only [loadCellsFrom, Sem.run_bind, run_load, h0, Result.andThen_ok, ih]
    congr 1
    apply Array.ext'
    simp [List.range_succ_eq_map]
theorem run_loadCells (w : World) (a : Addr) (c : Nat → Value) (n : Nat) (h : ∀ j, j < n → w.cell? (a.add j) = some (c j)) :
    (loadCells a n).run P w = .ok ((List.range n).map c).toArray w := by
  have := run_loadCellsFrom (P := P) w a c n 0 #[] (fun j hj => by simpa using h j hj)
  simpa [loadCells] using this

theorem run_loadVar (w : World) {T : TypeId} {i : TI} (hi : tiOf P T = some i) (a : Addr) (c : Nat → Value) (n : Nat) (h : ∀ j, j < n → w.cell? (a.add j) = some (c j))
    (hn : i.isAgg = true → i.size ≤ n) (h1 : i.isAgg = false → 0 < n) :
    (loadVar T a).run P w = .ok (if i.isAgg then .agg ((List.range i.size).map c).toArray else c 0) w := by
  unfold loadVar
  simp only [Sem.run_bind, ti_isAgg hi w, Result.andThen_ok]
  cases ha : i.isAgg with
  | true =>
    simp only [if_true, Sem.run_bind, ti_size hi w, Result.andThen_ok]
    rw [run_loadCells w a c i.size (fun j hj => h j (by have := hn ha; omega))]
    rfl
  | false =>
    have := h 0 (h1 ha)
    have e : a.add 0 = a := rfl
    rw [e] at this
    simp [this]

/-- The value of a variable whose cells are related. -/
theorem part_of_cells {w : World} {S : Nat → Prop} {m : List Loc} {i : TI} {cs : List AV} {off : Nat} {r : AV} (h : partA i cs off = some r) (c : Nat → Value)
    (hc : ∀ (j : Nat) (x : AV), cs[off + j]? = some x → VRel w S m (c j) x) :
    VRel w S m (if i.isAgg then .agg ((List.range i.size).map c).toArray else c 0) r ∧ (i.isAgg = true → i.size ≤ cs.length - off) ∧ (i.isAgg = false → 0 < cs.length - off) := by
  unfold partA at h
  cases ha : i.isAgg with
  | true =>
    simp only [ha, if_true] at h
    split at h <;> simp at h
    subst h
    rename_i hle
    refine ⟨?_, fun _ => by omega, fun h => by cases h⟩
    simp only [if_true]
    refine LRel.toAgg ⟨by simp; omega, fun j v x hv hx => ?_⟩
    rw [List.getElem?_take] at hx
    split at hx
    case isFalse => cases hx
    rename_i hj
    rw [List.getElem?_drop] at hx
    simp [hj] at hv
    subst hv
    exact hc j x hx
  | false =>
    simp only [ha, Bool.false_eq_true, if_false] at h
    have hlt := (List.getElem?_eq_some_iff.1 h).1
    refine ⟨?_, (fun h => by cases h), fun _ => by omega⟩
    simp only [Bool.false_eq_true, if_false]
    exact hc 0 r (by simpa using h)

theorem ld_cells {w : World} {S : Nat → Prop} {m : List Loc} {T : TypeId} {i : TI} (hi : tiOf P T = some i) {cs : List AV} {off : Nat} {r : AV} (h : partA i cs off = some r) (ad : Addr)
    (hc : ∀ (j : Nat) (x : AV), cs[off + j]? = some x → ∃ u, w.cell? (ad.add j) = some u ∧ VRel w S m u x) :
    ∃ u, VRel w S m u r ∧ ∀ w', w'.heap[ad.block]? = w.heap[ad.block]? → (loadVar T ad).run P w' = .ok u w' := by
  have hcell : ∀ j, j < cs.length - off → ∃ u, w.cell? (ad.add j) = some u := fun j hj => by
    obtain ⟨u, hu, _⟩ := hc j cs[off + j] (by simp)
    exact ⟨u, hu⟩
  obtain ⟨h1, h2, h3⟩ := part_of_cells (w := w) (S := S) (m := m) h (fun j => (w.cell? (ad.add j)).getD undef) (fun j x hx => by
    obtain ⟨u, hu, hv⟩ := hc j x hx
    simpa [hu] using hv)
  refine ⟨_, h1, fun w' hw' => ?_⟩
  refine run_loadVar w' hi ad (fun j => (w.cell? (ad.add j)).getD undef) (cs.length - off) (fun j hj => ?_) h2 h3
  obtain ⟨u, hu⟩ := hcell j hj
  rw [cell?_of_same (w := w) (w' := w') (by rw [add_block]; exact hw'), hu]
  rfl

/-- A load: it comes to the same in any world in which that one block is as it was. -/
theorem ld_sound {w : World} {S : Nat → Prop} {m : List Loc} {h : List Blk} (hG : GOk P w S) (hh : HRel w S m h) {T : TypeId} {i : TI} (hi : tiOf P T = some i) {p r : AV} {v : Value} (hp : VRel w S m v p)
    (hl : ldA P i h p = some r) : ∃ ad u, v = .pointer (some ad) ∧ VRel w S m u r ∧ (∀ w', w'.heap[ad.block]? = w.heap[ad.block]? → (loadVar T ad).run P w' = .ok u w') ∧
      (match idOf p with
        | some id => ∃ o k, m[id]? = some (some (ad.block, o)) ∧ h[id]? = some k ∧ k.live = true
        | none => S ad.block) := by
  unfold ldA at hl
  split at hl
  · rename_i id es r' off
    generalize hpp : AV.ptr id es r' off = pp at hp
    cases hp <;> simp at hpp
    rename_i b o hm
    obtain ⟨rfl, rfl, rfl, rfl⟩ := hpp
    generalize hid : h[id]? = k at hl
    split at hl
    · rename_i es' rows
      split at hl
      case isFalse => cases hl
      rename_i he; subst he
      simp only [Option.bind_eq_some_iff] at hl
      obtain ⟨row, hrow, hl⟩ := hl
      obtain ⟨hes, arr, T', ha, hcell⟩ := hh.blk id _ _ hm hid
      obtain ⟨u, h1, h2⟩ := ld_cells (w := w) (S := S) (m := m) hi hl ⟨b, o + r' * es' + off, none⟩ (fun j x hx => by
        simp only [List.getElem?_map, Option.map_eq_some_iff] at hx
        obtain ⟨y, hy, rfl⟩ := hx
        obtain ⟨u, hu, hf⟩ := hcell r' (off + j) row y hrow hy
        refine ⟨u, ?_, .fv _ _ hf⟩
        rw [add_at]
        rw [← Nat.add_assoc] at hu
        simp [World.cell?, ha, hu])
      exact ⟨_, u, rfl, h1, h2, o, _, hm, hid, rfl⟩
    · rename_i cs
      obtain ⟨b', o', arr, T', hloc, ha, hcell⟩ := hh.blk id _ _ hm hid
      simp at hloc
      obtain ⟨rfl, rfl⟩ := hloc
      obtain ⟨u, h1, h2⟩ := ld_cells (w := w) (S := S) (m := m) hi hl ⟨b, o + r' * es + off, none⟩ (fun j x hx => by
        obtain ⟨u, hu, hf⟩ := hcell (r' * es + off + j) x hx
        refine ⟨u, ?_, hf⟩
        rw [add_at]
        rw [← Nat.add_assoc, ← Nat.add_assoc] at hu
        simp [World.cell?, ha, hu])
      exact ⟨_, u, rfl, h1, h2, o, _, hm, hid, rfl⟩
    · cases hl
  · rename_i row
    cases hp with
    | fptr ad _ u hs hc hr =>
      obtain ⟨u', h1, h2⟩ := ld_cells (w := w) (S := S) (m := m) hi hl ad (fun j x hx => by
        simp only [Nat.zero_add, List.getElem?_map, Option.map_eq_some_iff] at hx
        obtain ⟨y, hy, rfl⟩ := hx
        exact ⟨u j, hc j (List.getElem?_eq_some_iff.1 hy).1, .fv _ _ (hr j y hy)⟩)
      exact ⟨ad, u', rfl, h1, h2, hs⟩
  · rename_i g off
    simp only [Option.bind_eq_some_iff] at hl
    obtain ⟨row, hrow, hl⟩ := hl
    cases hp with
    | gptr =>
      have hx := hG g row hrow
      generalize hv : Value.pointer (some ⟨g, 0, none⟩) = v at hx
      cases hx with
      | fptr ad _ u hs hc hr =>
        simp only [Value.pointer.injEq, Option.some.injEq] at hv
        subst hv
        obtain ⟨u', h1, h2⟩ := ld_cells (w := w) (S := S) (m := m) hi hl ⟨g, off, none⟩ (fun j x hx => by
          simp only [List.getElem?_map, Option.map_eq_some_iff] at hx
          obtain ⟨y, hy, rfl⟩ := hx
          refine ⟨u (off + j), ?_, .fv _ _ (hr (off + j) y hy)⟩
          have := hc (off + j) (List.getElem?_eq_some_iff.1 hy).1
          rw [add_at] at this ⊢
          rwa [Nat.zero_add] at this)
        exact ⟨_, u', rfl, h1, h2, hs⟩
  · cases hl

theorem read_sound {w : World} {S : Nat → Prop} {m : List Loc} {h : List Blk} (hG : GOk P w S) (hh : HRel w S m h) {a : Act} {t : List AV} (ht : LRel w S m a.tmps.toList t) {o : Oper} {x : AV} {id : Option Nat}
    (hr : readA P t h o = some (x, id)) : ∃ v b, VRel w S m v x ∧ (∀ w', w'.heap[b]? = w.heap[b]? → (execOp a.eval o).run P w' = .ok (.value v) w') ∧
      (match id with
        | some id => ∃ o k, m[id]? = some (some (b, o)) ∧ h[id]? = some k ∧ k.live = true
        | none => S b) := by
  unfold readA at hr
  split at hr
  · rename_i T y ho
    simp only [Option.bind_eq_some_iff, Option.map_eq_some_iff, Prod.mk.injEq] at hr
    obtain ⟨i, hi, p, hp, v, hv, rfl, rfl⟩ := hr
    obtain ⟨ad, u, h1, h2, h3, h4⟩ := ld_sound hG hh hi (ev_rel ht hp) hv
    refine ⟨u, ad.block, h2, fun w' hw' => ?_, h4⟩
    simp [execOp, ho, Instr.loadAt, h1, Instr.sureAddr, h3 w' hw']
  · cases hr
end
end Go.Abs
