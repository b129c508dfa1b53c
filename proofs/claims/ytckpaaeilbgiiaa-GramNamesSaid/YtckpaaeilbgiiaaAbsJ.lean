/- Operations that make or write blocks. -/
import Derived.Test.YtckpaaeilbgiiaaAbsI
import Derived.Deep.AppendSrc
import Derived.Laws.MakeOwn
namespace Go.Abs
set_option linter.unusedVariables false
set_option linter.unusedSimpArgs false

section
variable {P : Program} {w0 : World} {S0 : Nat → Prop} {m0 : List Loc} {w : World} {S : Nat → Prop} {m : List Loc} {a : Act} {st : St}

/-- What an operation leaves. -/
def EffOk (P : Program) (w0 : World) (S0 : Nat → Prop) (m0 : List Loc) (w : World) (S : Nat → Prop) (m : List Loc) (a : Act) (st : St) (o : Oper) (v : AV) (h' : List Blk) (W : List Nat) : Prop :=
  ∃ ve w' m', (∀ next Q, next (a.put o.dst ve) w' → o.wp P a w next Q) ∧ RelSM w0 S0 m0 w' S m' a { st with h := h' } ∧ VRel w' S m' ve v ∧
    (∀ (i b o' : Nat) (k : Blk), i ∉ W → m[i]? = some (some (b, o')) → st.h[i]? = some k → k.live = true → w'.heap[b]? = w.heap[b]?) ∧
    ∀ i, i ∉ W → i < st.h.length → h'[i]? = st.h[i]?

theorem wp_value {o : Oper} {ve : Value} {w' : World} (h : (execOp a.eval o).run P w = .ok (.value ve) w') (next : Act → World → Prop) (Q : Exit → Act → World → Prop)
    (hn : next (a.put o.dst ve) w') : o.wp P a w next Q := by
  simp only [Oper.wp, h, Oper.upon]; exact hn
theorem wp_skipped {o : Oper} {w' : World} (h : (execOp a.eval o).run P w = .ok .skip w') (next : Act → World → Prop) (Q : Exit → Act → World → Prop)
    (hn : next (a.put o.dst undef) w') : o.wp P a w next Q := by
  simp only [Oper.wp, h, Oper.upon]; exact hn

/-- A new block, and its address. -/
theorem eff_new (hr : RelSM w0 S0 m0 w S m a st) {o : Oper} {arr : Array Value} {T : TypeId} {x : Blk} (W : List Nat)
    (hrun : (execOp a.eval o).run P w = .ok (.value (.pointer (some ⟨w.heap.size, 0, none⟩))) (wpush w (.cells arr T)))
    (hx : BRel (wpush w (.cells arr T)) S (m ++ [some (w.heap.size, 0)]) (some (w.heap.size, 0)) x) :
    EffOk P w0 S0 m0 w S m a st o (.ptr st.h.length 0 0 0) (st.h ++ [x]) W := by
  refine ⟨_, _, _, wp_value hrun, hr.push _ x hx, ?_, fun i b o' k _ hi _ _ => wpush_old w _ (hr.heap.lowm i b o' hi), fun i _ hi => by rw [List.getElem?_append_left hi]⟩
  have := VRel.ptr (w := wpush w (.cells arr T)) (S := S) (m := m ++ [some (w.heap.size, 0)]) st.h.length 0 0 0 w.heap.size 0 (by rw [← hr.heap.len]; simp)
  simpa using this
theorem eff_new_slice (hr : RelSM w0 S0 m0 w S m a st) {o : Oper} {arr : Array Value} {T : TypeId} {es n c : Nat} {rows : List (List FV)} (W : List Nat)
    (hrun : (execOp a.eval o).run P w = .ok (.value (.slice (some ⟨w.heap.size, 0, none⟩) n c)) (wpush w (.cells arr T))) (hnc : n ≤ c) (hc : c * es ≤ arr.size)
    (hx : BRel (wpush w (.cells arr T)) S (m ++ [some (w.heap.size, 0)]) (some (w.heap.size, 0)) (.plain es rows)) :
    EffOk P w0 S0 m0 w S m a st o (.ref st.h.length es 0 n) (st.h ++ [.plain es rows]) W := by
  refine ⟨_, _, _, wp_value hrun, hr.push _ _ hx, ?_, fun i b o' k _ hi _ _ => wpush_old w _ (hr.heap.lowm i b o' hi), fun i _ hi => by rw [List.getElem?_append_left hi]⟩
  have := VRel.ref (w := wpush w (.cells arr T)) (S := S) (m := m ++ [some (w.heap.size, 0)]) st.h.length es 0 n w.heap.size 0 c (by rw [← hr.heap.len]; simp) hnc (fun arr' T' fr ha => by
    rw [wpush_new] at ha
    simp at ha
    obtain ⟨rfl, _, _⟩ := ha
    simpa using hc)
  simpa using this

theorem eff_alloc (hr : RelSM w0 S0 m0 w S m a st) {o : Oper} {T : TypeId} (ho : o.op = .alloc T) {i : TI} (hi : tiOf P T = some i) {z : List FV} (hz : i.zero = some z) :
    EffOk P w0 S0 m0 w S m a st o (.ptr st.h.length 0 0 0) (st.h ++ [.box (z.map .fv)]) [] := by
  obtain ⟨v, hv, hc⟩ := ti_zero hi hz w
  refine eff_new hr (arr := v.cells) (T := T) [] ?_ ⟨w.heap.size, 0, v.cells, T, rfl, wpush_new _ _, fun j x hx => ?_⟩
  · simp [execOp, ho, Instr.alloc, hv, newVar, newRow, wpush]
  · simp only [List.getElem?_map, Option.map_eq_some_iff] at hx
    obtain ⟨y, hy, rfl⟩ := hx
    obtain ⟨hl, hrel⟩ := ofCells_rel hc
    have hlt : j < v.cells.size := by
      have := (List.getElem?_eq_some_iff.1 hy).1
      simp at hl; omega
    exact ⟨v.cells[j], by simp [hlt], .fv _ _ (hrel _ _ j _ y (by simp [hlt]) hy)⟩

theorem eff_box (hr : RelSM w0 S0 m0 w S m a st) {o : Oper} {T : TypeId} {x : Operand} (ho : o.op = .box T x) {v : AV} {cs : List AV} (hv : ev st.t x = some v) (hc : cellsA v = some cs) :
    EffOk P w0 S0 m0 w S m a st o (.ptr st.h.length 0 0 0) (st.h ++ [.box cs]) [] := by
  have hrel := (ev_rel hr.tmps hv).cells hc
  refine eff_new hr (arr := (a.eval x).cells) (T := T) [] ?_ ⟨w.heap.size, 0, (a.eval x).cells, T, rfl, wpush_new _ _, fun j y hy => ?_⟩
  · simp [execOp, ho, Instr.box, newVar, newRow, wpush]
  · have hlt : j < (a.eval x).cells.size := by
      have := (List.getElem?_eq_some_iff.1 hy).1
      have := hrel.1; simp at this; omega
    have hm := Move.push (S := S) (m := m) (w := w) (.cells (a.eval x).cells T) (some (w.heap.size, 0)) (fun b o' e => by simp at e; omega)
    exact ⟨(a.eval x).cells[j], by simp [hlt], (hrel.2 j _ y (by simp [hlt]) hy).move hm hr.heap.lowm⟩

/-! ### Filling -/
theorem splice_get {α : Type} {l l' xs : List α} {off : Nat} (h : splice l off xs = some l') :
    l'.length = l.length ∧ off + xs.length ≤ l.length ∧ ∀ i : Nat, l'[i]? = if off ≤ i ∧ i < off + xs.length then xs[i - off]? else l[i]? := by
  unfold splice at h
  split at h <;> simp at h
  rename_i hle
  subst h
  have htl : (l.take off).length = off := by simp; omega
  refine ⟨by simp; omega, hle, fun i => ?_⟩
  by_cases h1 : i < off
  · have : ¬ (off ≤ i ∧ i < off + xs.length) := by omega
    simp only [this, if_false]
    rw [List.getElem?_append_left (by omega)]
    simp [h1]
  · rw [List.getElem?_append_right (by omega), htl]
    by_cases h2 : i < off + xs.length
    · have : off ≤ i ∧ i < off + xs.length := by omega
      simp only [this, and_self, if_true]
      rw [List.getElem?_append_left (by omega)]
    · have : ¬ (off ≤ i ∧ i < off + xs.length) := by omega
      simp only [this, if_false]
      rw [List.getElem?_append_right (by omega)]
      simp only [List.getElem?_drop]
      congr 1
      omega
theorem foldl_put (off : Nat) : ∀ (vs : List Value) (k : Nat) (cells : Array Value),
    (vs.zipIdx k).foldl (fun cs x => match x with | (c, j) => cs.setIfInBounds (off + j) c) cells = putCells cells (off + k) vs
  | [], k, cells => rfl
  | v :: vs, k, cells => by simp only [List.zipIdx_cons, List.foldl_cons, putCells]; rw [foldl_put off vs (k + 1)]; rfl
theorem put_rel {arr : Array Value} {cs cs' vs : List AV} {us : List Value} {off : Nat} (h : LRel w S m arr.toList cs) (hv : LRel w S m us vs) (hs : splice cs off vs = some cs') :
    LRel w S m (putCells arr off us).toList cs' := by
  obtain ⟨h1, h2, h3⟩ := splice_get hs
  have e1 := h.1
  simp at e1
  refine ⟨by simp [putCells_size, h1, e1], fun i v x hvi hx => ?_⟩
  rw [h3] at hx
  simp only [Array.getElem?_toList] at hvi
  rw [putCells_get us arr off i (by rw [hv.1]; omega)] at hvi
  rw [hv.1] at hvi
  split at hx
  · rename_i hc
    simp only [hc, and_self, if_true] at hvi
    exact hv.2 _ v x hvi hx
  · rename_i hc
    simp only [hc, if_false] at hvi
    exact h.2 i v x (by simpa using hvi) hx
theorem fill_rel (place : Nat → Option (Nat × Nat)) : ∀ (ps : List (Nat × Value)) (qs : List (Nat × AV)) (arr : Array Value) (cs cs' : List AV), ps.length = qs.length →
    (∀ (j i : Nat) (v : Value) (k : Nat) (x : AV), ps[j]? = some (i, v) → qs[j]? = some (k, x) → i = k ∧ VRel w S m v x) → LRel w S m arr.toList cs → fillA place cs qs = some cs' →
    ∃ arr', Instr.fill place arr ps = some arr' ∧ LRel w S m arr'.toList cs'
  | [], [], arr, cs, cs', _, _, h, hf => by simp [fillA] at hf; subst hf; exact ⟨arr, by simp [Instr.fill], h⟩
  | (i, v) :: ps, (k, x) :: qs, arr, cs, cs', hl, hp, h, hf => by
    obtain ⟨rfl, hvx⟩ := hp 0 i v k x rfl rfl
    simp only [fillA] at hf
    split at hf
    case h_2 => cases hf
    rename_i off size vs hpl hvs
    split at hf
    case isFalse => cases hf
    rename_i hsz
    simp only [Option.bind_eq_some_iff] at hf
    obtain ⟨cs1, hs1, hf⟩ := hf
    have hc := hvx.cells hvs
    obtain ⟨h1, h2, h3⟩ := splice_get hs1
    have e1 := h.1
    have e2 := hc.1
    simp at e1 e2
    obtain ⟨arr', ha, hr'⟩ := fill_rel place ps qs (putCells arr off v.cells.toList) cs1 cs' (by simpa using hl) (fun j i v k x hj hk => hp (j + 1) i v k x (by simpa using hj) (by simpa using hk)) (put_rel h hc hs1) hf
    refine ⟨arr', ?_, hr'⟩
    have hcond : ¬ ((decide (v.cells.size ≠ size) || decide (off + v.cells.size > arr.size)) = true) := by
      simp; omega
    simp only [Instr.fill, hpl, hcond, if_false]
    rw [← ha]
    refine congrArg (fun z => Instr.fill place z ps) ?_
    rw [← Array.foldl_toList, Array.toList_zipIdx]
    simpa using (foldl_put off v.cells.toList 0 arr)
  | [], _ :: _, _, _, _, hl, _, _, _ => by simp at hl
  | _ :: _, [], _, _, _, hl, _, _, _ => by simp at hl
theorem evParts_rel (ht : LRel w S m a.tmps.toList st.t) : ∀ {ps : List (Nat × Operand)} {qs : List (Nat × AV)}, evParts st.t ps = some qs → (ps.map fun (i, x) => (i, a.eval x)).length = qs.length ∧
    ∀ (j i : Nat) (v : Value) (k : Nat) (x : AV), (ps.map fun (i, x) => (i, a.eval x))[j]? = some (i, v) → qs[j]? = some (k, x) → i = k ∧ VRel w S m v x
  | [], qs, h => by simp [evParts] at h; subst h; exact ⟨rfl, fun j i v k x hj => by simp at hj⟩
  | (i, x) :: ps, qs, h => by
    simp only [evParts] at h
    split at h <;> simp at h
    rename_i y ys h1 h2
    subst h
    obtain ⟨e, ih⟩ := evParts_rel ht h2
    refine ⟨by simpa using e, fun j i' v k z hj hk => ?_⟩
    cases j with
    | zero =>
      simp at hj hk
      obtain ⟨rfl, rfl⟩ := hj
      obtain ⟨rfl, rfl⟩ := hk
      exact ⟨rfl, ev_rel ht h1⟩
    | succ j => exact ih j i' v k z (by simpa using hj) (by simpa using hk)

theorem lrel_fv {vs : List Value} {z : List FV} (h : ofCells vs = some z) : LRel w S m vs (z.map .fv) := by
  obtain ⟨h1, h2⟩ := ofCells_rel h
  refine ⟨by simpa using h1, fun i v x hv hx => ?_⟩
  simp only [List.getElem?_map, Option.map_eq_some_iff] at hx
  obtain ⟨y, hy, rfl⟩ := hx
  exact .fv _ _ (h2 w S i v y hv hy)

theorem eff_build (hr : RelSM w0 S0 m0 w S m a st) {o : Oper} {T : TypeId} {ps : Array (Nat × Operand)} (ho : o.op = .build T ps) {parts : List (Nat × AV)} {v : AV}
    (hp : evParts st.t ps.toList = some parts) (hb : buildA P T parts = some v) : EffOk P w0 S0 m0 w S m a st o v st.h [] := by
  obtain ⟨hl, hrel⟩ := evParts_rel hr.tmps hp
  have key : ∃ u, (Instr.build T (ps.map fun (i, x) => (i, a.eval x))).run P w = .ok u w ∧ VRel w S m u v := by
    unfold buildA at hb
    split at hb
    · rename_i fs _ _ z hT
      simp only [Option.bind_eq_some_iff, Option.map_eq_some_iff] at hb
      obtain ⟨pl, hpl, cs, hf, rfl⟩ := hb
      obtain ⟨zv, hz, hzc⟩ := ti_zero hT rfl w
      obtain ⟨arr', hfill, hrel'⟩ := fill_rel (w := w) (S := S) (m := m) (fun i => pl[i]?) _ parts zv.cells (z.map .fv) cs hl hrel (lrel_fv hzc) hf
      refine ⟨.agg arr', ?_, hrel'.toAgg⟩
      have hplaces : ∀ (fs : List Field) (pl : List (Nat × Nat)), placesOf P fs = some pl → ∀ w, (fs.mapM fun (f : Field) => (do let s ← Go.sizeOf f.type; pure (f.offset, s) : Sem (Nat × Nat))).run P w = .ok pl w := by
        intro fs
        induction fs with
        | nil => intro pl h w; simp [placesOf] at h; subst h; rfl
        | cons f fs ih =>
          intro pl h w
          simp only [placesOf] at h
          split at h <;> simp at h
          rename_i i ps' h1 h2
          subst h
          simp only [List.mapM_cons, Sem.run_bind, ti_size h1, Result.andThen_ok, Sem.run_pure, ih ps' h2]
      have hp1 := hplaces fs.toList pl hpl w
      have hp2 : (fs.mapM fun (f : Field) => (do let s ← Go.sizeOf f.type; pure (f.offset, s) : Sem (Nat × Nat))).run P w = .ok pl.toArray w := by
        rw [Array.mapM_eq_mapM_toList]
        simp only [Sem.run_map, hp1, Result.andThen_ok]
      simp only [Instr.build, Sem.run_bind, hz, Result.andThen_ok, ti_under hT, hp2]
      have : Instr.fill (fun x => pl.toArray[x]?) zv.cells (ps.map fun (i, x) => (i, a.eval x)).toList = some arr' := by
        rw [← hfill]; simp
      simp only [this]
      rfl
    · rename_i n e _ _ z hT
      simp only [Option.bind_eq_some_iff, Option.map_eq_some_iff] at hb
      obtain ⟨ie, hie, cs, hf, rfl⟩ := hb
      obtain ⟨zv, hz, hzc⟩ := ti_zero hT rfl w
      obtain ⟨arr', hfill, hrel'⟩ := fill_rel (w := w) (S := S) (m := m) (fun i => some (i * ie.size, ie.size)) _ parts zv.cells (z.map .fv) cs hl hrel (lrel_fv hzc) hf
      refine ⟨.agg arr', ?_, hrel'.toAgg⟩
      simp only [Instr.build, Sem.run_bind, hz, Result.andThen_ok, ti_under hT, ti_size hie]
      have : Instr.fill (fun i => some (i * ie.size, ie.size)) zv.cells (ps.map fun (i, x) => (i, a.eval x)).toList = some arr' := by
        rw [← hfill]; simp
      simp only [this]
      rfl
    · cases hb
  obtain ⟨u, hu, hrel'⟩ := key
  refine ⟨u, w, m, wp_value (by simp [execOp, ho, hu]), hr, hrel', fun _ _ _ _ _ _ _ _ => rfl, fun _ _ _ => rfl⟩
end
end Go.Abs
