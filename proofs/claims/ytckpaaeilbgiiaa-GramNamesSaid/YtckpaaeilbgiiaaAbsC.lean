/- The pure operations of the abstract machine are the model's. -/
import Derived.Test.YtckpaaeilbgiiaaAbsB
import Derived.WalkKit
namespace Go.Abs
set_option linter.unusedVariables false
set_option linter.unusedSimpArgs false

theorem tiOf_spec {P : Program} {T : TypeId} {i : TI} (h : tiOf P T = some i) :
    P.underlying T = some i.desc ∧ ∃ info, P.info? T = some info ∧ info.size = i.size ∧ info.bytes = i.bytes ∧
      ∀ z, i.zero = some z → ∃ v, info.zero = some v ∧ ofCells v.cells.toList = some z := by
  unfold tiOf at h
  cases h1 : P.info? T with
  | none => simp [h1] at h
  | some info =>
    cases h2 : P.underlying T with
    | none => simp [h1, h2] at h
    | some d =>
      simp [h1, h2] at h
      subst h
      refine ⟨rfl, info, rfl, rfl, rfl, fun z hz => ?_⟩
      simp only [Option.bind_eq_some_iff] at hz
      exact hz

section
variable {P : Program}
theorem ti_under {T : TypeId} {i : TI} (h : tiOf P T = some i) (w : World) : (underlying T).run P w = .ok i.desc w :=
  run_underlying (tiOf_spec h).1 w
theorem ti_info {T : TypeId} {i : TI} (h : tiOf P T = some i) (w : World) : ∃ info, (typeInfo T).run P w = .ok info w ∧ info.size = i.size ∧ info.bytes = i.bytes ∧
      ∀ z, i.zero = some z → ∃ v, info.zero = some v ∧ ofCells v.cells.toList = some z := by
  obtain ⟨_, info, h1, h2⟩ := tiOf_spec h
  exact ⟨info, by simp [typeInfo, h1], h2⟩
theorem ti_size {T : TypeId} {i : TI} (h : tiOf P T = some i) (w : World) : (Go.sizeOf T).run P w = .ok i.size w := by
  obtain ⟨info, h1, h2, _⟩ := ti_info h w
  simp [Go.sizeOf, h1, h2]
theorem ti_isAgg {T : TypeId} {i : TI} (h : tiOf P T = some i) (w : World) : (isAgg T).run P w = .ok i.isAgg w := by
  unfold isAgg
  simp only [Sem.run_bind, ti_under h w, Result.andThen_ok]
  unfold TI.isAgg
  cases i.desc <;> rfl
theorem ti_zero {T : TypeId} {i : TI} (h : tiOf P T = some i) {z : List FV} (hz : i.zero = some z) (w : World) :
    ∃ v, (zeroValue T).run P w = .ok v w ∧ ofCells v.cells.toList = some z := by
  obtain ⟨info, h1, h2, h3, h4⟩ := ti_info h w
  obtain ⟨v, hv, hc⟩ := h4 z hz
  exact ⟨v, by simp [zeroValue, h1, hv], hc⟩
end

/-! ### Constants -/
theorem ofCell_rel {v : Value} {x : FV} (h : ofCell v = some x) (w : World) (S : Nat → Prop) : FRel w S v x := by
  unfold ofCell at h
  split at h <;> simp at h <;> subst h
  · exact .bool _
  · exact .int _ _
  · rename_i s; exact FRel.str (w := w) (S := S) s.data.toList
  · exact .nils
  · exact .nil _ rfl
  · exact .nil _ rfl
  · exact .nil _ rfl
  · exact .nil _ rfl
theorem ofCells_rel : ∀ {vs : List Value} {xs : List FV}, ofCells vs = some xs → vs.length = xs.length ∧
    ∀ (w : World) (S : Nat → Prop) (i : Nat) (v : Value) (x : FV), vs[i]? = some v → xs[i]? = some x → FRel w S v x
  | [], xs, h => by
    simp [ofCells] at h; subst h
    exact ⟨rfl, fun w S i v x hv => by simp at hv⟩
  | v :: l, xs, h => by
    simp only [ofCells] at h
    split at h <;> simp at h
    rename_i x xs' h1 h2
    subst h
    obtain ⟨hl, hr⟩ := ofCells_rel h2
    refine ⟨by simp [hl], fun w S i u y hu hy => ?_⟩
    cases i with
    | zero => simp at hu hy; subst hu; subst hy; exact ofCell_rel h1 w S
    | succ i => simp at hu hy; exact hr w S i u y hu hy
theorem ofValue_rel {v : Value} {x : AV} (h : ofValue v = some x) (w : World) (S : Nat → Prop) (m : List Loc) : VRel w S m v x := by
  unfold ofValue at h
  split at h
  · rename_i cs
    simp only [Option.map_eq_some_iff] at h
    obtain ⟨l, hl, rfl⟩ := h
    obtain ⟨hn, hr⟩ := ofCells_rel hl
    refine .agg cs _ (by simpa using hn) (fun i u y hu hy => ?_)
    simp only [List.getElem?_map, Option.map_eq_some_iff] at hy
    obtain ⟨z, hz, rfl⟩ := hy
    exact .fv _ _ (hr w S i u z (by simpa using hu) hz)
  · rename_i cs
    split at h <;> simp at h
    subst h
    rename_i he
    have : cs = #[] := by simpa using he
    subst this
    exact .undef
  · simp only [Option.map_eq_some_iff] at h
    obtain ⟨y, hy, rfl⟩ := h
    exact .fv _ _ (ofCell_rel hy w S)

/-! ### Frames -/
theorem LRel.get {w : World} {S : Nat → Prop} {m : List Loc} {vs : Array Value} {xs : List AV} (h : LRel w S m vs.toList xs) (i : Nat) :
    VRel w S m (vs.getD i undef) (xs.getD i .any) := by
  cases hx : xs[i]? with
  | none => simp [List.getD_eq_getElem?_getD, hx]; exact .any _
  | some x =>
    have hi : i < xs.length := (List.getElem?_eq_some_iff.1 hx).1
    have hi' : i < vs.size := by have := h.1; simp at this; omega
    have := h.2 i vs[i] x (by simp [hi']) hx
    simp [List.getD_eq_getElem?_getD, hx, hi']; exact this
theorem ev_rel {w : World} {S : Nat → Prop} {m : List Loc} {a : Act} {t : List AV} (h : LRel w S m a.tmps.toList t) {x : Operand} {y : AV} (he : ev t x = some y) :
    VRel w S m (a.eval x) y := by
  cases x with
  | tmp i => simp [ev] at he; subst he; exact h.get i
  | const v => exact ofValue_rel he w S m
  | func f => simp [ev] at he; subst he; exact .func f #[] [] rfl (fun i v x hv => by simp at hv)
  | global g => simp [ev] at he; subst he; exact .gptr g 0
theorem evs_rel {w : World} {S : Nat → Prop} {m : List Loc} {a : Act} {t : List AV} (h : LRel w S m a.tmps.toList t) :
    ∀ {xs : List Operand} {ys : List AV}, evs t xs = some ys → LRel w S m (xs.map a.eval) ys
  | [], ys, he => by simp [evs] at he; subst he; exact ⟨rfl, fun i v x hv => by simp at hv⟩
  | x :: l, ys, he => by
    simp only [evs] at he
    split at he <;> simp at he
    rename_i y ys' h1 h2
    subst he
    have ih := evs_rel h h2
    refine ⟨by simpa using ih.1, fun i v z hv hz => ?_⟩
    cases i with
    | zero => simp at hv hz; subst hv; subst hz; exact ev_rel h h1
    | succ i => simp at hv hz; exact ih.2 i v z (by simpa using hv) hz

theorem VRel.cells {w : World} {S : Nat → Prop} {m : List Loc} {v : Value} {x : AV} (h : VRel w S m v x) {cs : List AV} (hc : cellsA x = some cs) :
    LRel w S m v.cells.toList cs := by
  have one : ∀ (v : Value) (x : AV), VRel w S m v x → v.cells = #[v] → LRel w S m v.cells.toList [x] := fun v x hv e => by
    rw [e]
    refine ⟨rfl, fun i u y hu hy => ?_⟩
    cases i with
    | zero => simp at hu hy; subst hu; subst hy; exact hv
    | succ i => simp at hu
  have fone : ∀ (v : Value) (x : FV), FRel w S v x → v.cells = #[v] := fun v x hf => by
    cases hf <;> first | rfl | (rename_i hn; cases v <;> simp [isNil] at hn <;> rfl)
  cases h with
  | fv v x hf => simp [cellsA] at hc; subst hc; exact one _ _ (.fv _ _ hf) (fone _ _ hf)
  | undef => simp [cellsA] at hc
  | any => simp [cellsA] at hc
  | anyb b => simp [cellsA] at hc; subst hc; exact one _ _ (.anyb b) rfl
  | agg vs cs' hn hr => simp [cellsA] at hc; subst hc; exact ⟨by simpa [Value.cells] using hn, fun i v x hv hx => hr i v x (by simpa [Value.cells] using hv) hx⟩
  | tuple => simp [cellsA] at hc
  | ref id es off len b o c hm hl hcap => simp [cellsA] at hc; subst hc; exact one _ _ (.ref id es off len b o c hm hl hcap) rfl
  | refz id es off a => simp [cellsA] at hc; subst hc; exact one _ _ (.refz id es off a) rfl
  | ptr id es r off b o hm => simp [cellsA] at hc; subst hc; exact one _ _ (.ptr id es r off b o hm) rfl
  | fptr ad row u hs hcc hr => simp [cellsA] at hc; subst hc; exact one _ _ (.fptr ad row u hs hcc hr) rfl
  | gptr g off => simp [cellsA] at hc; subst hc; exact one _ _ (.gptr g off) rfl
  | func f vs cs' hn hr => simp [cellsA] at hc; subst hc; exact one _ _ (.func f vs cs' hn hr) rfl
  | iface t v x hv => simp [cellsA] at hc; subst hc; exact one _ _ (.iface t v x hv) rfl
  | mp id b hm => simp [cellsA] at hc; subst hc; exact one _ _ (.mp id b hm) rfl

theorem toFs_rel {w : World} {S : Nat → Prop} {m : List Loc} : ∀ {vs : List Value} {cs : List AV} {fs : List FV}, LRel w S m vs cs → toFs cs = some fs →
    vs.length = fs.length ∧ ∀ (i : Nat) (v : Value) (x : FV), vs[i]? = some v → fs[i]? = some x → FRel w S v x
  | vs, [], fs, h, hf => by
    simp [toFs] at hf; subst hf
    exact ⟨by simpa using h.1, fun i v x _ hx => by simp at hx⟩
  | vs, c :: cs, fs, h, hf => by
    cases vs with
    | nil => have := h.1; simp at this
    | cons v vs =>
      cases c <;> simp [toFs] at hf
      rename_i x
      obtain ⟨fs', hf', rfl⟩ := hf
      have ht : LRel w S m vs cs := ⟨by simpa using h.1, fun i u y hu hy => h.2 (i + 1) u y (by simpa using hu) (by simpa using hy)⟩
      obtain ⟨hl, hr⟩ := toFs_rel ht hf'
      refine ⟨by simp [hl], fun i u y hu hy => ?_⟩
      cases i with
      | zero =>
        simp at hu hy; subst hu; subst hy
        have h0 := h.2 0 v (.fv x) rfl rfl
        cases h0; assumption
      | succ i => simp at hu hy; exact hr i u y hu hy
theorem toFs_map (r : List FV) : toFs (r.map .fv) = some r := by
  induction r with
  | nil => rfl
  | cons x r ih => simp [toFs, ih]

theorem rowOf_rel {w : World} {S : Nat → Prop} {m : List Loc} {v : Value} {x : AV} (h : VRel w S m v x) {fs : List FV} (hf : rowOf x = some fs) : RowRel w S v fs := by
  unfold rowOf at hf
  simp only [Option.bind_eq_some_iff] at hf
  obtain ⟨cs, hc, hf⟩ := hf
  obtain ⟨hl, hr⟩ := toFs_rel (h.cells hc) hf
  exact ⟨by simpa using hl, fun j u x hu hx => hr j u x (by simpa using hu) hx⟩

/-- A cell's value is no struct. -/
theorem FRel.one {w : World} {S : Nat → Prop} {v : Value} {x : FV} (h : FRel w S v x) : v.cells = #[v] ∧ v.oneCell' = true := by
  cases h <;> first | exact ⟨rfl, rfl⟩ | (rename_i hn; cases v <;> simp [isNil] at hn <;> exact ⟨rfl, rfl⟩)
end Go.Abs
