/- Stores, and new slices. -/
import Derived.Test.YtckpaaeilbgiiaaAbsJ
namespace Go.Abs
set_option linter.unusedVariables false
set_option linter.unusedSimpArgs false

section
variable {P : Program} {w0 : World} {S0 : Nat → Prop} {m0 : List Loc} {w : World} {S : Nat → Prop} {m : List Loc} {a : Act} {st : St}

theorem okCell_one {v : Value} {x : AV} (h : VRel w S m v x) (hx : okCell x = true) : v.oneCell' = true := by
  cases h <;> simp [okCell] at hx <;> first | rfl | (rename_i hf; exact hf.one.2)

theorem row_before {es r r' j k : Nat} (hr : r' < r) (hj : j < es) : r' * es + j < r * es + k := by
  have : (r' + 1) * es ≤ r * es := Nat.mul_le_mul_right es hr
  rw [Nat.succ_mul] at this
  omega

theorem run_storeAt {T : TypeId} {i : TI} (hi : tiOf P T = some i) {b p : Nat} {v : Value} {arr : Array Value} {U : TypeId} (hb : w.heap[b]? = some (.cells arr U (0, 0))) (hs : v.cells.size = i.size)
    (hl : p + v.cells.size ≤ arr.size) (h1 : ∀ u ∈ v.cells.toList, u.oneCell' = true) :
    (Instr.storeAt T (.pointer (some ⟨b, p, none⟩)) v).run P w = .ok () (wcells w b (putCells arr p v.cells.toList) U (0, 0)) := by
  have := run_storeCells (P := P) v.cells.toList w b p 0 arr U hb (by simpa using hl) h1
  simp only [Instr.storeAt, Instr.sureAddr, Sem.run_bind, Sem.run_pure, Result.andThen_ok, storeVar, ti_size hi, hs, ne_eq, not_true_eq_false, if_false]
  exact this

/-- Rows as cells, over memory. -/
theorem thaw_cells {arr : Array Value} {es : Nat} : ∀ {rows : List (List FV)} {o : Nat}, (∀ (r : Nat) (row : List FV), rows[r]? = some row → row.length = es) →
    (∀ (r j : Nat) (row : List FV) (x : FV), rows[r]? = some row → row[j]? = some x → ∃ u, arr[o + r * es + j]? = some u ∧ FRel w S u x) →
    ∀ (k : Nat) (x : AV), (thaw rows)[k]? = some x → ∃ u, arr[o + k]? = some u ∧ VRel w S m u x
  | [], o, _, _, k, x, h => by simp [thaw] at h
  | row :: rows, o, h1, h2, k, x, h => by
    have hl := h1 0 row rfl
    have e : thaw (row :: rows) = row.map .fv ++ thaw rows := by simp [thaw]
    rw [e, List.getElem?_append] at h
    split at h
    · simp only [List.getElem?_map, Option.map_eq_some_iff] at h
      obtain ⟨y, hy, rfl⟩ := h
      obtain ⟨u, hu, hf⟩ := h2 0 k row y rfl hy
      exact ⟨u, by simpa using hu, .fv _ _ hf⟩
    · rename_i hge
      rw [List.length_map, hl] at h hge
      obtain ⟨u, hu, hv⟩ := thaw_cells (o := o + es) (fun r row' hr => h1 (r + 1) row' hr) (fun r j row' y hr hy => by
        obtain ⟨u, hu, hf⟩ := h2 (r + 1) j row' y hr hy
        refine ⟨u, ?_, hf⟩
        rw [← hu]
        congr 1
        rw [Nat.succ_mul]; omega) (k - es) x h
      exact ⟨u, by rw [← hu]; congr 1; omega, hv⟩
theorem eff_storeB (hr : RelSM w0 S0 m0 w S m a st) {o : Oper} {T : TypeId} {x y : Operand} (ho : o.op = .store T x y) {i : TI} (hi : tiOf P T = some i) {v : AV}
    {id' es r off b ob : Nat} (hm : m[id']? = some (some (b, ob))) (hae : a.eval x = .pointer (some ⟨b, ob + r * es + off, none⟩)) {k : Blk} (hid : st.h[id']? = some k) (hlive : k.live = true) {cs : List AV}
    {arr : Array Value} {U : TypeId} (hb : w.heap[b]? = some (.cells arr U (0, 0))) (hcell : ∀ (j : Nat) (x : AV), cs[j]? = some x → ∃ u, arr[ob + j]? = some u ∧ VRel w S m u x)
    (hvv : VRel w S m (a.eval y) v) {h' : List Blk} {id : Nat} (hs : stBx i st.h id' es r off cs v = some (h', id)) : EffOk P w0 S0 m0 w S m a st o .undef h' [id] := by
  unfold stBx at hs
  simp only [Option.bind_eq_some_iff] at hs
  obtain ⟨vs, hvs, hs⟩ := hs
  split at hs
  case isFalse => cases hs
  rename_i hsz
  obtain ⟨hsz, hpos, hok⟩ := hsz
  simp only [Option.map_eq_some_iff, Prod.mk.injEq] at hs
  obtain ⟨cs', hsp, rfl, rfl⟩ := hs
  have hl := hvv.cells hvs
  have hl1 := hl.1
  simp at hl1
  obtain ⟨g1, g2, g3⟩ := splice_get hsp
  have hroom : ob + r * es + off + (a.eval y).cells.size ≤ arr.size := by
    obtain ⟨u, hu, _⟩ := hcell (r * es + off + vs.length - 1) (cs[r * es + off + vs.length - 1]'(by omega)) (by simp)
    have := (Array.getElem?_eq_some_iff.1 hu).1
    omega
  have hrun := run_storeAt (P := P) (w := w) hi hb (by rw [hl1, hsz]) hroom (fun u hu => by
    obtain ⟨j, hj, rfl⟩ := List.getElem_of_mem hu
    have hj' : j < vs.length := by simpa [hl1] using hj
    exact okCell_one (hl.2 j _ vs[j] (by simp at hj; simp [hj]) (by simp [hj'])) (List.all_eq_true.1 hok _ (List.getElem_mem hj')))
  have hw := wcells_wrote (fr' := (0, 0)) hb (putCells_size (a.eval y).cells.toList arr (ob + r * es + off))
  have hmv := hw.move hr.heap hm hid hlive
  refine ⟨undef, _, m, wp_skipped (by simp only [execOp, ho, hae, Sem.run_bind, hrun, Result.andThen_ok, Sem.run_pure]), hr.wrote hw hm hid hlive ?_, .undef, fun j b' o' k hj hmj hk hlv => ?_, fun j hj _ => by rw [List.getElem?_set_ne (Ne.symm (by simpa using hj))]⟩
  · refine ⟨b, ob, putCells arr (ob + r * es + off) (a.eval y).cells.toList, U, rfl, wcells_at (Array.getElem?_eq_some_iff.1 hb).1, fun j x1 hx1 => ?_⟩
    rw [putCells_get _ _ _ _ (by simpa using hroom)]
    simp only [Array.length_toList]
    rw [g3] at hx1
    split at hx1
    · rename_i hc
      have hc' : ob + r * es + off ≤ ob + j ∧ ob + j < ob + r * es + off + (a.eval y).cells.size := by omega
      simp only [hc', and_self, if_true]
      have hj : j - (r * es + off) < (a.eval y).cells.size := by omega
      refine ⟨(a.eval y).cells[j - (r * es + off)], ?_, (hl.2 (j - (r * es + off)) _ x1 (by simp [hj]) hx1).move hmv hr.heap.lowm⟩
      rw [show ob + j - (ob + r * es + off) = j - (r * es + off) from by omega]
      simp [hj]
    · rename_i hc
      have hc' : ¬ (ob + r * es + off ≤ ob + j ∧ ob + j < ob + r * es + off + (a.eval y).cells.size) := by omega
      simp only [hc', if_false]
      obtain ⟨u, hu, hf⟩ := hcell j x1 hx1
      exact ⟨u, hu, hf.move hmv hr.heap.lowm⟩
  · refine hw.other b' (fun e => ?_)
    subst e
    exact hr.heap.inj j id' k _ b' o' ob (by simpa using hj) hk hid hlv hlive hmj hm
theorem eff_store (hr : RelSM w0 S0 m0 w S m a st) {o : Oper} {T : TypeId} {x y : Operand} (ho : o.op = .store T x y) {i : TI} (hi : tiOf P T = some i) {p v : AV} (hp : ev st.t x = some p) (hv : ev st.t y = some v)
    {h' : List Blk} {id : Nat} (hs : stA i st.h p v = some (h', id)) : EffOk P w0 S0 m0 w S m a st o .undef h' [id] := by
  have hpv := ev_rel hr.tmps hp
  have hvv := ev_rel hr.tmps hv
  unfold stA at hs
  split at hs
  case h_2 => cases hs
  rename_i id' es r off
  generalize hpp : AV.ptr id' es r off = pp at hpv
  generalize hae : a.eval x = ax at hpv
  cases hpv <;> simp at hpp
  rename_i b ob hm
  obtain ⟨rfl, rfl, rfl, rfl⟩ := hpp
  generalize hid : st.h[id']? = k at hs
  split at hs
  · rename_i es' rows
    split at hs
    case isFalse => cases hs
    rename_i he; subst he
    split at hs
    case h_2 =>
      obtain ⟨hes, arr, U, hb, hcell⟩ := hr.heap.blk id' _ _ hm hid
      exact eff_storeB hr ho hi hm hae hid rfl hb (thaw_cells hes hcell) hvv hs
    rename_i fs hfs
    split at hs
    case isFalse => cases hs
    rename_i hsz
    obtain ⟨hsz, hpos⟩ := hsz
    simp only [Option.bind_eq_some_iff, Option.map_eq_some_iff, Prod.mk.injEq] at hs
    obtain ⟨row, hrow, row', hsp, rfl, rfl⟩ := hs
    obtain ⟨hes, arr, U, hb, hcell⟩ := hr.heap.blk id' _ _ hm hid
    obtain ⟨hl1, hl2⟩ := rowOf_rel hvv hfs
    obtain ⟨g1, g2, g3⟩ := splice_get hsp
    have hrl := hes r row hrow
    have hroom : ob + r * es' + off + (a.eval y).cells.size ≤ arr.size := by
      obtain ⟨u, hu, _⟩ := hcell r (off + fs.length - 1) row (row[off + fs.length - 1]'(by omega)) hrow (by simp)
      have := (Array.getElem?_eq_some_iff.1 hu).1
      omega
    have hrun := run_storeAt (P := P) (w := w) hi hb (by rw [hl1, hsz]) hroom (fun u hu => by
      obtain ⟨j, hj, rfl⟩ := List.getElem_of_mem hu
      have hj' : j < fs.length := by simpa [hl1] using hj
      exact (hl2 j _ fs[j] (by simp at hj; simp [hj]) (by simp [hj'])).one.2)
    have hw := wcells_wrote (fr' := (0, 0)) hb (putCells_size (a.eval y).cells.toList arr (ob + r * es' + off))
    have hmv := hw.move hr.heap hm hid rfl
    refine ⟨undef, _, m, wp_skipped (by simp only [execOp, ho, hae, Sem.run_bind, hrun, Result.andThen_ok, Sem.run_pure]), hr.wrote hw hm hid rfl ?_, .undef, fun j b' o' k hj hmj hk hlv => ?_, fun j hj _ => by rw [List.getElem?_set_ne (Ne.symm (by simpa using hj))]⟩
    · refine ⟨fun r1 row1 h1 => ?_, putCells arr (ob + r * es' + off) (a.eval y).cells.toList, U, wcells_at (Array.getElem?_eq_some_iff.1 hb).1, fun r1 j row1 x1 h1 hx1 => ?_⟩
      · rw [List.getElem?_set] at h1
        split at h1
        · split at h1 <;> simp at h1
          subst h1; omega
        · exact hes r1 row1 h1
      · rw [List.getElem?_set] at h1
        rw [putCells_get _ _ _ _ (by simpa using hroom)]
        simp only [Array.length_toList]
        split at h1
        · rename_i e
          subst e
          split at h1 <;> simp at h1
          subst h1
          rw [g3] at hx1
          split at hx1
          · rename_i hc
            have hc' : ob + r * es' + off ≤ ob + r * es' + j ∧ ob + r * es' + j < ob + r * es' + off + (a.eval y).cells.size := by omega
            simp only [hc', and_self, if_true]
            have hj : j - off < (a.eval y).cells.size := by omega
            refine ⟨(a.eval y).cells[j - off], ?_, (hl2 (j - off) _ x1 (by simp [hj]) hx1).stab hmv.up hmv.frozen⟩
            rw [show ob + r * es' + j - (ob + r * es' + off) = j - off from by omega]
            simp [hj]
          · rename_i hc
            have hc' : ¬ (ob + r * es' + off ≤ ob + r * es' + j ∧ ob + r * es' + j < ob + r * es' + off + (a.eval y).cells.size) := by omega
            simp only [hc', if_false]
            obtain ⟨u, hu, hf⟩ := hcell r j row x1 hrow hx1
            exact ⟨u, hu, hf.stab hmv.up hmv.frozen⟩
        · rename_i hne
          have hj : j < es' := by rw [← hes r1 row1 h1]; exact (List.getElem?_eq_some_iff.1 hx1).1
          have hc' : ¬ (ob + r * es' + off ≤ ob + r1 * es' + j ∧ ob + r1 * es' + j < ob + r * es' + off + (a.eval y).cells.size) := by
            rcases Nat.lt_or_gt_of_ne (Ne.symm hne) with hlt | hgt
            · have := row_before (k := off) hlt hj; omega
            · have := row_before (es := es') (r := r1) (r' := r) (j := off + fs.length - 1) (k := j) hgt (by omega); omega
          simp only [hc', if_false]
          obtain ⟨u, hu, hf⟩ := hcell r1 j row1 x1 h1 hx1
          exact ⟨u, hu, hf.stab hmv.up hmv.frozen⟩
    · refine hw.other b' (fun e => ?_)
      subst e
      exact hr.heap.inj j id' k _ b' o' ob (by simpa using hj) hk hid hlv rfl hmj hm
  · rename_i cs
    obtain ⟨b', o', arr, U, hloc, hb, hcell⟩ := hr.heap.blk id' _ _ hm hid
    simp at hloc
    obtain ⟨rfl, rfl⟩ := hloc
    exact eff_storeB hr ho hi hm hae hid rfl hb hcell hvv hs
  · cases hs

/-! ### Slices that are made -/
theorem modCells_get {z : Array Value} {n i : Nat} (hz : 0 < z.size) (hi : i < n) : ((Array.range n).map (fun x => z[x % z.size]!))[i]? = z[i % z.size]? := by
  have : i % z.size < z.size := Nat.mod_lt _ hz
  simp [hi, this]
theorem mul_add_mod' (r es j : Nat) (hj : j < es) : (r * es + j) % es = j := by
  rw [Nat.add_comm, Nat.mul_comm, Nat.add_mul_mod_self_left, Nat.mod_eq_of_lt hj]

theorem eff_makeSlice (hr : RelSM w0 S0 m0 w S m a st) {o : Oper} {T e : TypeId} {l c : Operand} (ho : o.op = .makeSlice T l c) {i ie : TI} (hi : tiOf P T = some i) (hd : i.desc = .slice e) (hie : tiOf P e = some ie)
    {z : List FV} (hz : ie.zero = some z) {x y : AV} (hx : ev st.t l = some x) (hy : ev st.t c = some y) {n k : Int} (hn : asI x = some n) (hk : asI y = some k)
    (hpos : 0 < ie.size) (hzl : z.length = ie.size) (h0 : 0 ≤ n) (hnk : n = k) (hb : ie.bytes * n ≤ 140737488355328) (hmax : n ≤ 9223372036854775807) :
    EffOk P w0 S0 m0 w S m a st o (.ref st.h.length ie.size 0 n.toNat) (st.h ++ [.plain ie.size (List.replicate n.toNat z)]) [] := by
  subst hnk
  obtain ⟨_, info, hinfo, hsz, hby, hzz⟩ := tiOf_spec hie
  obtain ⟨zv, hzv, hzc⟩ := hzz z hz
  obtain ⟨k1, e1⟩ := asI_inv hn (ev_rel hr.tmps hx)
  obtain ⟨k2, e2⟩ := asI_inv hk (ev_rel hr.tmps hy)
  have hu : P.underlying T = some (.slice e) := by rw [← hd]; exact (tiOf_spec hi).1
  have hrun := run_make (P := P) w T e info zv hu hinfo hzv k1 k2 n n h0 (Int.le_refl _) (by rw [hby]; omega) hmax
  obtain ⟨hzl1, hzr⟩ := ofCells_rel hzc
  have hzs : zv.cells.size = ie.size := by rw [← hzl, ← hzl1]; simp
  have hmade : madeCells zv.cells (n.toNat * info.size) = (Array.range (n.toNat * ie.size)).map (fun x => zv.cells[x % zv.cells.size]!) := by
    rw [hsz]; rfl
  refine eff_new_slice hr (arr := madeCells zv.cells (n.toNat * info.size)) (T := e) (c := n.toNat) [] ?_ (Nat.le_refl _) ?_ ⟨fun r row hrow => ?_, _, _, wpush_new _ _, fun r j row v hrow hv => ?_⟩
  · simp only [execOp, ho, e1, e2, Sem.run_bind, hrun, Result.andThen_ok, Sem.run_pure]
    rfl
  · rw [hmade]; simp
  · rw [List.getElem?_replicate] at hrow
    split at hrow <;> simp at hrow
    rw [← hrow, hzl]
  · rw [List.getElem?_replicate] at hrow
    split at hrow <;> simp at hrow
    rename_i hlt
    subst hrow
    have hj : j < ie.size := by rw [← hzl]; exact (List.getElem?_eq_some_iff.1 hv).1
    have hidx : r * ie.size + j < n.toNat * ie.size := by
      have := row_before (es := ie.size) (r := n.toNat) (r' := r) (j := j) (k := 0) hlt hj
      omega
    rw [hmade, Nat.zero_add, modCells_get (by omega) hidx, hzs, mul_add_mod' r ie.size j hj]
    exact ⟨zv.cells[j]'(by omega), by simp, hzr _ _ j _ v (by simp) hv⟩

theorem chunk_get {α : Type} (es : Nat) : ∀ (n : Nat) (l : List α) (r : Nat), (chunk es n l)[r]? = if r < n then some ((l.drop (r * es)).take es) else none
  | 0, l, r => by simp [chunk]
  | n + 1, l, r => by
    cases r with
    | zero => simp [chunk]
    | succ r =>
      simp only [chunk, List.getElem?_cons_succ, chunk_get es n, Nat.add_lt_add_iff_right, List.drop_drop]
      rw [Nat.succ_mul, Nat.add_comm es]
theorem flatN_get {α : Type} : ∀ (n : Nat) (l : List α) (r j : Nat), r < n → j < l.length → (flatN n l)[r * l.length + j]? = l[j]?
  | 0, l, r, j, h, _ => by omega
  | n + 1, l, 0, j, _, hj => by simp only [flatN, Nat.zero_mul, Nat.zero_add]; rw [List.getElem?_append_left hj]
  | n + 1, l, r + 1, j, h, hj => by
    simp only [flatN]
    rw [List.getElem?_append_right (by rw [Nat.succ_mul]; omega), ← flatN_get n l r j (by omega) hj]
    congr 1
    rw [Nat.succ_mul]; omega
theorem flatN_length {α : Type} : ∀ (n : Nat) (l : List α), (flatN n l).length = n * l.length
  | 0, l => by simp [flatN]
  | n + 1, l => by simp only [flatN, List.length_append, flatN_length n l, Nat.succ_mul]; omega

theorem bs_core (hr : RelSM w0 S0 m0 w S m a st) {o : Oper} {T e : TypeId} {n : Nat} {ps : Array (Nat × Operand)} (ho : o.op = .buildSlice T n ps) {i ie : TI} (hi : tiOf P T = some i) (hd : i.desc = .slice e)
    (hie : tiOf P e = some ie) {z : List FV} (hz : ie.zero = some z) (hpos : 0 < ie.size) (hzl : z.length = ie.size) (hmax : n * ie.size ≤ 16777216) {parts : List (Nat × AV)} (hp : evParts st.t ps.toList = some parts)
    {cs : List AV} (hf : fillA (fun i => some (i * ie.size, ie.size)) (flatN n (z.map .fv)) parts = some cs) :
    ∃ arr' : Array Value, LRel w S m arr'.toList cs ∧ cs.length = n * ie.size ∧ (execOp a.eval o).run P w = .ok (.value (.slice (some ⟨w.heap.size, 0, none⟩) n n)) (wpush w (.cells arr' e)) := by
  obtain ⟨hl, hrel⟩ := evParts_rel hr.tmps hp
  obtain ⟨zv, hzv, hzc⟩ := ti_zero hie hz w
  obtain ⟨hzl1, hzr⟩ := ofCells_rel hzc
  have hzs : zv.cells.size = ie.size := by rw [← hzl, ← hzl1]; simp
  have hcells : LRel w S m ((Array.range (n * ie.size)).map (fun x => zv.cells[x % zv.cells.size]!)).toList (flatN n (z.map .fv)) := by
    refine ⟨by simp [flatN_length, hzl], fun k v x hv hx => ?_⟩
    have hk : k < n * ie.size := by have := (List.getElem?_eq_some_iff.1 hv).1; simpa using this
    simp only [Array.getElem?_toList] at hv
    rw [modCells_get (by omega) hk, hzs] at hv
    have hmod : k % ie.size < ie.size := Nat.mod_lt _ hpos
    have hdiv : k / ie.size < n := Nat.div_lt_of_lt_mul (by rw [Nat.mul_comm]; exact hk)
    have := flatN_get n (z.map AV.fv) (k / ie.size) (k % ie.size) hdiv (by simp; omega)
    rw [show k / ie.size * (z.map AV.fv).length + k % ie.size = k from by simp [hzl]; rw [Nat.mul_comm]; exact Nat.div_add_mod k ie.size] at this
    rw [this] at hx
    simp only [List.getElem?_map, Option.map_eq_some_iff] at hx
    obtain ⟨y, hy, rfl⟩ := hx
    exact .fv _ _ (hzr w S _ v y (by simpa using hv) hy)
  obtain ⟨arr', hfill, hrel'⟩ := fill_rel (w := w) (S := S) (m := m) (fun i => some (i * ie.size, ie.size)) _ parts _ _ cs hl hrel hcells hf
  have hcl : cs.length = n * ie.size := by
    have : ∀ (qs : List (Nat × AV)) (c c' : List AV), fillA (fun i => some (i * ie.size, ie.size)) c qs = some c' → c'.length = c.length := by
      intro qs
      induction qs with
      | nil => intro c c' h; simp [fillA] at h; rw [h]
      | cons q qs ih =>
        intro c c' h
        obtain ⟨i, v⟩ := q
        simp only [fillA] at h
        split at h
        case h_2 => cases h
        split at h
        case isFalse => cases h
        simp only [Option.bind_eq_some_iff] at h
        obtain ⟨c1, hc1, h⟩ := h
        rw [ih _ _ h, (splice_get hc1).1]
    rw [this _ _ _ hf, flatN_length, List.length_map, hzl]
  refine ⟨arr', hrel', hcl, ?_⟩
  have hcond : ¬ (n * ie.size > 2 ^ 24) := by omega
  have e0 : ∀ f : Nat → Value, Array.map f (Array.range 0) = #[] := fun f => by simp
  have hlist : (ps.map fun (i, x) => (i, a.eval x)).toList = (ps.toList.map fun (i, x) => (i, a.eval x)) := by simp
  simp only [execOp, ho, Instr.buildSlice, Sem.run_bind, ti_under hi, hd, Result.andThen_ok, ti_size hie, hcond, if_false]
  by_cases h0 : n * ie.size = 0
  · rw [h0, e0] at hfill
    simp only [h0, if_true, Sem.run_bind, Sem.run_pure, Result.andThen_ok, e0, hlist, hfill]
    rfl
  · simp only [h0, if_false, Sem.run_bind, Sem.run_pure, Result.andThen_ok, hzv, hlist, hfill]
    rfl
theorem eff_buildSlice (hr : RelSM w0 S0 m0 w S m a st) {o : Oper} {T e : TypeId} {n : Nat} {ps : Array (Nat × Operand)} (ho : o.op = .buildSlice T n ps) {i ie : TI} (hi : tiOf P T = some i) (hd : i.desc = .slice e)
    (hie : tiOf P e = some ie) {z : List FV} (hz : ie.zero = some z) (hpos : 0 < ie.size) (hzl : z.length = ie.size) (hmax : n * ie.size ≤ 16777216) {parts : List (Nat × AV)} (hp : evParts st.t ps.toList = some parts)
    {cs : List AV} (hf : fillA (fun i => some (i * ie.size, ie.size)) (flatN n (z.map .fv)) parts = some cs) {fs : List FV} (hfs : toFs cs = some fs) :
    EffOk P w0 S0 m0 w S m a st o (.ref st.h.length ie.size 0 n) (st.h ++ [.plain ie.size (chunk ie.size n fs)]) [] := by
  obtain ⟨arr', hrel', hcl, hrun⟩ := bs_core hr ho hi hd hie hz hpos hzl hmax hp hf
  obtain ⟨hfl, hfr⟩ := toFs_rel hrel' hfs
  have hlen : fs.length = n * ie.size := by rw [← hfl, hrel'.1, hcl]
  have hasz : arr'.size = n * ie.size := by have := hrel'.1; simp at this; omega
  refine eff_new_slice hr (arr := arr') (T := e) (c := n) [] hrun (Nat.le_refl _) (by omega) ⟨fun r row hrow => ?_, _, _, wpush_new _ _, fun r j row v hrow hv => ?_⟩
  · rw [chunk_get] at hrow
    split at hrow <;> simp at hrow
    rename_i hlt
    subst hrow
    have : (r + 1) * ie.size ≤ n * ie.size := Nat.mul_le_mul_right _ hlt
    rw [Nat.succ_mul] at this
    simp; omega
  · rw [chunk_get] at hrow
    split at hrow <;> simp at hrow
    rename_i hlt
    subst hrow
    rw [List.getElem?_take] at hv
    split at hv
    case isFalse => cases hv
    rename_i hj
    rw [List.getElem?_drop] at hv
    have hk := (List.getElem?_eq_some_iff.1 hv).1
    have hk' : r * ie.size + j < arr'.size := by omega
    rw [Nat.zero_add]
    exact ⟨arr'[r * ie.size + j], by simp [hk'], (hfr _ _ v (by simp [hk']) hv).stab (fun _ h => h) (fun b _ hb => wpush_old w _ hb)⟩
/-- A new slice whose cells may be of any kind. -/
theorem eff_new_sliceB (hr : RelSM w0 S0 m0 w S m a st) {o : Oper} {arr : Array Value} {T : TypeId} {es n c : Nat} {cs : List AV} (W : List Nat)
    (hrun : (execOp a.eval o).run P w = .ok (.value (.slice (some ⟨w.heap.size, 0, none⟩) n c)) (wpush w (.cells arr T))) (hnc : n ≤ c) (hc : c * es ≤ arr.size)
    (hrel : LRel w S m arr.toList cs) :
    EffOk P w0 S0 m0 w S m a st o (.ref st.h.length es 0 n) (st.h ++ [.box cs]) W := by
  have hx : BRel (wpush w (.cells arr T)) S (m ++ [some (w.heap.size, 0)]) (some (w.heap.size, 0)) (.box cs) := by
    refine ⟨w.heap.size, 0, arr, T, rfl, wpush_new _ _, fun j x hx => ?_⟩
    have hj : j < arr.size := by have := (List.getElem?_eq_some_iff.1 hx).1; have h1 := hrel.1; simp at h1; omega
    refine ⟨arr[j], by simp [hj], ?_⟩
    exact (hrel.2 j arr[j] x (by simp [hj]) hx).move (Move.push _ _ (fun b o' e => by simp at e; omega)) hr.heap.lowm
  refine ⟨_, _, _, wp_value hrun, hr.push _ _ hx, ?_, fun i b o' k _ hi _ _ => wpush_old w _ (hr.heap.lowm i b o' hi), fun i _ hi => by rw [List.getElem?_append_left hi]⟩
  have := VRel.ref (w := wpush w (.cells arr T)) (S := S) (m := m ++ [some (w.heap.size, 0)]) st.h.length es 0 n w.heap.size 0 c (by rw [← hr.heap.len]; simp) hnc (fun arr' T' fr ha => by
    rw [wpush_new] at ha
    simp at ha
    obtain ⟨rfl, _, _⟩ := ha
    simpa using hc)
  simpa using this
theorem eff_buildSliceB (hr : RelSM w0 S0 m0 w S m a st) {o : Oper} {T e : TypeId} {n : Nat} {ps : Array (Nat × Operand)} (ho : o.op = .buildSlice T n ps) {i ie : TI} (hi : tiOf P T = some i) (hd : i.desc = .slice e)
    (hie : tiOf P e = some ie) {z : List FV} (hz : ie.zero = some z) (hpos : 0 < ie.size) (hzl : z.length = ie.size) (hmax : n * ie.size ≤ 16777216) {parts : List (Nat × AV)} (hp : evParts st.t ps.toList = some parts)
    {cs : List AV} (hf : fillA (fun i => some (i * ie.size, ie.size)) (flatN n (z.map .fv)) parts = some cs) :
    EffOk P w0 S0 m0 w S m a st o (.ref st.h.length ie.size 0 n) (st.h ++ [.box cs]) [] := by
  obtain ⟨arr', hrel', hcl, hrun⟩ := bs_core hr ho hi hd hie hz hpos hzl hmax hp hf
  refine eff_new_sliceB hr (arr := arr') (T := e) (c := n) [] hrun (Nat.le_refl _) ?_ hrel'
  have := hrel'.1; simp at this; omega
end
end Go.Abs
