/- append. -/
import Derived.Test.YtckpaaeilbgiiaaAbsK
import Derived.Deep.Upon
namespace Go.Abs
set_option linter.unusedVariables false
set_option linter.unusedSimpArgs false

section
variable {P : Program} {w0 : World} {S0 : Nat → Prop} {m0 : List Loc} {w : World} {S : Nat → Prop} {m : List Loc} {a : Act} {st : St}

/-- A block dies. -/
theorem HRel.kill {h : List Blk} (hh : HRel w S m h) (id : Nat) : HRel w S m (h.set id .dead) where
  len := by simp [hh.len]
  blk := fun i l z hi hz => by
    rw [List.getElem?_set] at hz
    split at hz
    · split at hz <;> simp at hz
      subst hz
      trivial
    · exact hh.blk i l z hi hz
  inj := fun i j bi bj b o1 o2 hij hi hj li lj mi mj => by
    have conv : ∀ (i : Nat) (bi : Blk), (h.set id .dead)[i]? = some bi → bi.live = true → h[i]? = some bi := fun i bi hi li => by
      rw [List.getElem?_set] at hi
      split at hi
      · split at hi <;> simp at hi
        subst hi; simp [Blk.live] at li
      · exact hi
    exact hh.inj i j bi bj b o1 o2 hij (conv i bi hi li) (conv j bj hj lj) li lj mi mj
  out := fun i bi b o1 hi li mi => by
    rw [List.getElem?_set] at hi
    split at hi
    · split at hi <;> simp at hi
      subst hi; simp [Blk.live] at li
    · exact hh.out i bi b o1 hi li mi
  low := hh.low
  lowm := hh.lowm

/-- A block goes by another number from now on, and begins elsewhere. -/
theorem HRel.relocate {h : List Blk} (hh : HRel w S m h) {id b o o' : Nat} {x y : Blk} (hm : m[id]? = some (some (b, o))) (hx : h[id]? = some x) (hl : x.live = true)
    (hy : BRel w S (m ++ [some (b, o')]) (some (b, o')) y) : HRel w S (m ++ [some (b, o')]) (h.set id .dead ++ [y]) where
  len := by simp [hh.len]
  blk := fun i l z hi hz => by
    rw [List.getElem?_append] at hi hz
    rw [List.length_set, ← hh.len] at hz
    split at hi
    · rename_i hlt
      simp only [hlt, if_true] at hz
      exact ((hh.kill id).blk i l z hi hz).stab (fun _ h => h) (fun _ _ _ => rfl) (Sub.append _ _) (fun _ b _ _ => SameShape.refl w b) (fun _ _ _ => rfl)
    · rename_i hge
      simp only [hge, if_false] at hz
      cases hk : i - m.length with
      | zero => rw [hk] at hi hz; simp at hi hz; subst hi; subst hz; exact hy
      | succ n => rw [hk] at hi; simp at hi
  inj := fun i j bi bj b' o1 o2 hij hi hj li lj mi mj => by
    have old : ∀ (i : Nat) (bi : Blk) (o1 : Nat), i < m.length → (h.set id .dead ++ [y])[i]? = some bi → bi.live = true → i ≠ id ∧ h[i]? = some bi := fun i bi o1 hlt hi li => by
      rw [List.getElem?_append_left (by simp [← hh.len]; exact hlt), List.getElem?_set] at hi
      split at hi
      · split at hi <;> simp at hi
        subst hi; simp [Blk.live] at li
      · rename_i hne; exact ⟨Ne.symm hne, hi⟩
    rw [List.getElem?_append] at mi mj
    split at mi <;> split at mj
    · rename_i l1 l2
      obtain ⟨_, h1⟩ := old i bi o1 l1 hi li
      obtain ⟨_, h2⟩ := old j bj o2 l2 hj lj
      exact hh.inj i j bi bj b' o1 o2 hij h1 h2 li lj mi mj
    · rename_i l1 l2
      obtain ⟨n1, h1⟩ := old i bi o1 l1 hi li
      cases hk : j - m.length with
      | zero => rw [hk] at mj; simp at mj; obtain ⟨rfl, rfl⟩ := mj; exact hh.inj i id bi x b o1 o n1 h1 hx li hl mi hm
      | succ n => rw [hk] at mj; simp at mj
    · rename_i l1 l2
      obtain ⟨n1, h1⟩ := old j bj o2 l2 hj lj
      cases hk : i - m.length with
      | zero => rw [hk] at mi; simp at mi; obtain ⟨rfl, rfl⟩ := mi; exact hh.inj j id bj x b o2 o n1 h1 hx lj hl mj hm
      | succ n => rw [hk] at mi; simp at mi
    · have e1 : i - m.length = 0 := by
        cases hk : i - m.length with
        | zero => rfl
        | succ n => rw [hk] at mi; simp at mi
      have e2 : j - m.length = 0 := by
        cases hk : j - m.length with
        | zero => rfl
        | succ n => rw [hk] at mj; simp at mj
      omega
  out := fun i bi b' o1 hi li mi => by
    rw [List.getElem?_append] at mi
    split at mi
    · rename_i hlt
      rw [List.getElem?_append_left (by simp [← hh.len]; exact hlt)] at hi
      exact (hh.kill id).out i bi b' o1 hi li mi
    · cases hk : i - m.length with
      | zero => rw [hk] at mi; simp at mi; obtain ⟨rfl, rfl⟩ := mi; exact hh.out id x b o hx hl hm
      | succ n => rw [hk] at mi; simp at mi
  low := hh.low
  lowm := fun i b' o1 mi => by
    rw [List.getElem?_append] at mi
    split at mi
    · exact hh.lowm i b' o1 mi
    · cases hk : i - m.length with
      | zero => rw [hk] at mi; simp at mi; obtain ⟨rfl, rfl⟩ := mi; exact hh.lowm id b o hm
      | succ n => rw [hk] at mi; simp at mi

theorem setCells_eq : ∀ (vs : List Value) (w : World) (b p : Nat) (arr : Array Value) (T : TypeId), w.heap[b]? = some (.cells arr T (0, 0)) → w.setCells b p vs = wcells w b (putCells arr p vs) T (0, 0)
  | [], w, b, p, arr, T, h => by simp [World.setCells, putCells, wcells_self h]
  | v :: vs, w, b, p, arr, T, h => by
    have hb : b < w.heap.size := (Array.getElem?_eq_some_iff.1 h).1
    simp only [World.setCells, setCell_eq h, putCells]
    rw [setCells_eq vs _ b (p + 1) _ T (wcells_at hb), wcells_twice]

/-- Cells that stand for rows. -/
def NewsRel (w : World) (S : Nat → Prop) (es : Nat) (ys : List (List FV)) (news : List Value) : Prop :=
  news.length = ys.length * es ∧ (∀ (r : Nat) (row : List FV), ys[r]? = some row → row.length = es) ∧
  ∀ (r j : Nat) (row : List FV) (c : FV), ys[r]? = some row → row[j]? = some c → ∃ u, news[r * es + j]? = some u ∧ FRel w S u c

theorem NewsRel.one {es : Nat} {ys : List (List FV)} {news : List Value} (h : NewsRel w S es ys news) (hpos : 0 < es) : ∀ u ∈ news, u.oneCell' = true := by
  intro u hu
  obtain ⟨k, hk, rfl⟩ := List.getElem_of_mem hu
  obtain ⟨h1, h2, h3⟩ := h
  have hdiv : k / es < ys.length := Nat.div_lt_of_lt_mul (by rw [Nat.mul_comm, ← h1]; exact hk)
  have hmod : k % es < es := Nat.mod_lt _ hpos
  have hrl := h2 (k / es) ys[k / es] (by simp [hdiv])
  obtain ⟨v, hv, hf⟩ := h3 (k / es) (k % es) ys[k / es] (ys[k / es][k % es]'(by omega)) (by simp [hdiv]) (by simp)
  rw [show k / es * es + k % es = k from by rw [Nat.mul_comm]; exact Nat.div_add_mod k es] at hv
  simp [hk] at hv
  subst hv
  exact hf.one.2

theorem src_sound (hh : HRel w S m st.h) {tx : TypeId} {iu : TI} (hu : tiOf P tx = some iu) {es : Nat} (hpos : 0 < es) {x : AV} {v : Value} (hx : VRel w S m v x) {ys : List (List FV)} (hs : srcRows iu es st.h x = some ys) :
    ∃ news, Src P es tx v ys.length news w ∧ NewsRel w S es ys news := by
  have hk := (tiOf_spec hu).1
  unfold srcRows at hs
  split at hs
  · rename_i e es' ys' hd
    split at hs <;> simp at hs
    rename_i he
    subst he; subst hs
    rw [hd] at hk
    cases hx with
    | fv _ _ hf =>
      cases hf with
      | lst A n c _ _ u ad hn hcp hes ha hS hc hr =>
        rcases Nat.eq_zero_or_pos n with h0 | h0
        · have hnil : ys' = [] := List.eq_nil_of_length_eq_zero (by omega)
          subst hnil
          subst h0
          refine ⟨[], ?_, by simp, by simp, fun r j row c h => by simp at h⟩
          cases A with
          | none => exact Src.ofNil w hk c
          | some ad' => exact Src.ofSlice w hk ad' 0 c [] (by simp) (by simp) (by simp)
        · have := ha h0
          subst this
          have hnr : NewsRel w S es' ys' ((List.range (n * es')).map fun k => u (k / es') (k % es')) := by
            refine ⟨by simp [hn], hes, fun r j row c h1 h2 => ⟨u r j, ?_, hr r j row c h1 h2⟩⟩
            have hr' : r < n := by rw [← hn]; exact (List.getElem?_eq_some_iff.1 h1).1
            have hj : j < es' := by rw [← hes r row h1]; exact (List.getElem?_eq_some_iff.1 h2).1
            have hlt : r * es' + j < n * es' := by have := row_before (k := 0) hr' hj; omega
            simp only [List.getElem?_map, List.getElem?_range hlt, Option.map_some, Option.some.injEq]
            rw [mul_add_mod' r es' j hj]
            congr 1
            rw [Nat.add_comm, Nat.mul_comm, Nat.add_mul_div_left _ _ hpos, Nat.div_eq_of_lt hj, Nat.zero_add]
          refine ⟨_, ?_, hnr⟩
          rw [hn]
          refine Src.ofSlice w hk ad n c _ (by simp) (fun k y hy => ?_) (hnr.one hpos)
          have hlt : k < n * es' := by have := (List.getElem?_eq_some_iff.1 hy).1; simpa using this
          simp only [List.getElem?_map, List.getElem?_range hlt, Option.map_some, Option.some.injEq] at hy
          subst hy
          have := hc (k / es') (k % es') (Nat.div_lt_of_lt_mul (by rw [Nat.mul_comm]; exact hlt)) (Nat.mod_lt _ hpos)
          rwa [show k / es' * es' + k % es' = k from by rw [Nat.mul_comm]; exact Nat.div_add_mod k es'] at this
  · rename_i e hd
    simp at hs; subst hs
    rw [hd] at hk
    obtain rfl := hx.nils_inv
    exact ⟨[], Src.ofNil w hk 0, by simp, by simp, fun r j row c h => by simp at h⟩
  · rename_i e id es' off len hd
    rw [hd] at hk
    generalize hid : st.h[id]? = k at hs
    split at hs
    case h_2 => cases hs
    rename_i es'' rows
    split at hs
    case isFalse => cases hs
    rename_i hc
    simp only [Option.some.injEq] at hs
    obtain ⟨rfl, rfl, hle⟩ := hc
    have hyl : ((rows.drop off).take len).length = len := by simp; omega
    rw [← hs, hyl]
    cases hx with
    | ref _ _ _ _ b o c hm hl hcap =>
      obtain ⟨hes, arr, U, hb, hcell⟩ := hh.blk id _ _ hm hid
      have hex : ∀ k, k < len * es'' → ∃ u, arr[o + off * es'' + k]? = some u := fun k hk => by
        have hdiv : k / es'' < len := Nat.div_lt_of_lt_mul (by rw [Nat.mul_comm]; exact hk)
        have hmod : k % es'' < es'' := Nat.mod_lt _ hpos
        have hrl := hes (off + k / es'') (rows[off + k / es'']'(by omega)) (by simp)
        obtain ⟨u, hu, _⟩ := hcell (off + k / es'') (k % es'') (rows[off + k / es'']'(by omega)) ((rows[off + k / es'']'(by omega))[k % es'']'(by omega)) (by simp) (by simp)
        refine ⟨u, ?_⟩
        rw [← hu]
        congr 1
        rw [Nat.add_mul]
        have := Nat.div_add_mod k es''
        rw [Nat.mul_comm] at this
        omega
      have hnr : NewsRel w S es'' ((rows.drop off).take len) ((List.range (len * es'')).map fun k => arr.getD (o + off * es'' + k) undef) := by
        refine ⟨by rw [hyl]; simp, fun r row hrow => ?_, fun r j row x1 hrow hx1 => ?_⟩
        · rw [List.getElem?_take] at hrow
          split at hrow
          case isFalse => cases hrow
          rw [List.getElem?_drop] at hrow
          exact hes _ _ hrow
        · rw [List.getElem?_take] at hrow
          split at hrow
          case isFalse => cases hrow
          rename_i hr'
          rw [List.getElem?_drop] at hrow
          have hj : j < es'' := by rw [← hes _ row hrow]; exact (List.getElem?_eq_some_iff.1 hx1).1
          have hlt : r * es'' + j < len * es'' := by have := row_before (k := 0) hr' hj; omega
          obtain ⟨u, hu, hf⟩ := hcell (off + r) j row x1 hrow hx1
          refine ⟨u, ?_, hf⟩
          simp only [List.getElem?_map, List.getElem?_range hlt, Option.map_some, Option.some.injEq]
          rw [show o + off * es'' + (r * es'' + j) = o + (off + r) * es'' + j from by rw [Nat.add_mul]; omega]
          simp [Array.getD_eq_getD_getElem?, hu]
      refine ⟨_, Src.ofSlice w hk _ len c _ (by simp) (fun k y hy => ?_) (hnr.one hpos), hnr⟩
      have hlt : k < len * es'' := by have := (List.getElem?_eq_some_iff.1 hy).1; simpa using this
      simp only [List.getElem?_map, List.getElem?_range hlt, Option.map_some, Option.some.injEq] at hy
      subst hy
      obtain ⟨u, hu⟩ := hex k hlt
      rw [add_at]
      simp [World.cell?, hb, Array.getD_eq_getD_getElem?, hu]
    | refz _ _ _ A =>
      refine ⟨[], ?_, by simp, fun r row h => by simp at h, fun r j row c h => by simp at h⟩
      cases A with
      | none => exact Src.ofNil w hk 0
      | some ad' => exact Src.ofSlice w hk ad' 0 0 [] (by simp) (by simp) (by simp)
  · rename_i s hd
    split at hs <;> simp at hs
    rename_i he
    subst he; subst hs
    rw [hd] at hk
    obtain rfl := hx.str_inv
    have hsz : (⟨s.toArray⟩ : ByteArray).size = s.length := by simp [ByteArray.size]
    have := Src.ofString (P := P) w hk ⟨s.toArray⟩
    rw [hsz] at this
    refine ⟨_, by simpa using this, by simp [byteCells], fun r row h => ?_, fun r j row c h1 h2 => ?_⟩
    · simp only [List.getElem?_map, Option.map_eq_some_iff] at h
      obtain ⟨b, _, rfl⟩ := h; rfl
    · simp only [List.getElem?_map, Option.map_eq_some_iff] at h1
      obtain ⟨b, hb, rfl⟩ := h1
      cases j with
      | zero =>
        simp at h2; subst h2
        exact ⟨.int .u8 b.toNat, by simp [byteCells, hb], .int _ _⟩
      | succ j => simp at h2
  · cases hs

theorem VRel.wider {m' : List Loc} (h : Sub m m') {v : Value} {x : AV} (hv : VRel w S m v x) : VRel w S m' v x :=
  hv.stab (fun _ h => h) (fun _ _ _ => rfl) h (fun _ b _ _ => SameShape.refl w b)

/-- A row made anew. -/
theorem eff_grown (hr : RelSM w0 S0 m0 w S m a st) {o : Oper} {es n c : Nat} {ie : TypeId} {rows : List (List FV)} {all : List Value} {rest : Array Value} {W : List Nat} {h1 : List Blk}
    (hh : HRel w S m h1) (hlen : h1.length = st.h.length) (hsame : ∀ i, i ∉ W → h1[i]? = st.h[i]?)
    (hrun : (execOp a.eval o).run P w = .ok (.value (.slice (some ⟨w.heap.size, 0, none⟩) n c)) (w.drew.alloc (.cells (all.toArray ++ rest) ie)))
    (hnc : n ≤ c) (hsz : c * es ≤ all.length + rest.size) (hn : rows.length = n) (hall : NewsRel w S es rows all) :
    EffOk P w0 S0 m0 w S m a st o (.ref st.h.length es 0 n) (h1 ++ [.plain es rows]) W := by
  let w1 := wpush w (.cells (all.toArray ++ rest) ie)
  have hm1 : Move w S m w1 S (m ++ [some (w.heap.size, 0)]) := Move.push _ _ (fun b o' e => by simp at e; omega)
  have hb : BRel w1 S (m ++ [some (w.heap.size, 0)]) (some (w.heap.size, 0)) (.plain es rows) := by
    obtain ⟨e1, e2, e3⟩ := hall
    refine ⟨e2, _, _, wpush_new _ _, fun r j row x hrow hx => ?_⟩
    obtain ⟨u, hu, hf⟩ := e3 r j row x hrow hx
    refine ⟨u, ?_, hf.stab (fun _ h => h) (fun b _ hb => wpush_old w _ hb)⟩
    rw [Nat.zero_add, Array.getElem?_append_left (by have := (List.getElem?_eq_some_iff.1 hu).1; simpa using this)]
    simpa using hu
  have hh1 := hh.push (.cells (all.toArray ++ rest) ie) _ _ (.inl rfl) hb
  have hr1 : RelSM w0 S0 m0 w1 S (m ++ [some (w.heap.size, 0)]) a { st with h := h1 ++ [.plain es rows] } := hr.move hm1 hh1
  have hr2 : RelSM w0 S0 m0 (w.drew.alloc (.cells (all.toArray ++ rest) ie)) S (m ++ [some (w.heap.size, 0)]) a { st with h := h1 ++ [.plain es rows] } := hr1.same_heap rfl rfl rfl rfl (Nat.le_succ _)
  refine ⟨_, _, _, wp_value hrun, hr2, ?_, fun i b o' k _ hi _ _ => wpush_old w _ (hr.heap.lowm i b o' hi), fun i hi hlt => by rw [List.getElem?_append_left (by omega)]; exact hsame i hi⟩
  have := VRel.ref (w := w.drew.alloc (.cells (all.toArray ++ rest) ie)) (S := S) (m := m ++ [some (w.heap.size, 0)]) st.h.length es 0 n w.heap.size 0 c (by rw [← hr.heap.len]; simp) hnc (fun arr' T' fr ha => by
    have ha' : (wpush w (.cells (all.toArray ++ rest) ie)).heap[w.heap.size]? = some (.cells arr' T' fr) := ha
    rw [wpush_new] at ha'
    simp at ha'
    obtain ⟨rfl, _, _⟩ := ha'
    simpa using hsz)
  simpa using this

theorem Move.virt (hlow : ∀ (i b o : Nat), m[i]? = some (some (b, o)) → b < w.heap.size) : Move w S m w S (m ++ [none]) where
  size := Nat.le_refl _
  os := rfl
  tape := rfl
  output := rfl
  same := fun _ _ _ => rfl
  frozen := fun _ _ _ => rfl
  shape := fun b _ => SameShape.refl w b
  up := fun _ h => h
  down := fun _ h => .inl h
  locs := fun i b o' hi => by
    rw [List.getElem?_append] at hi
    split at hi
    · exact .inl ⟨i, o', hi⟩
    · cases hk : i - m.length with
      | zero => rw [hk] at hi; simp at hi
      | succ n => rw [hk] at hi; simp at hi
  pre := fun i hi => by rw [List.getElem?_append_left hi]
theorem HRel.virt {h : List Blk} (hh : HRel w S m h) (x : Blk) (hx : BRel w S (m ++ [none]) none x) : HRel w S (m ++ [none]) (h ++ [x]) := by
  have old : ∀ (i b o : Nat), (m ++ [none])[i]? = some (some (b, o)) → m[i]? = some (some (b, o)) ∧ i < m.length := fun i b o hi => by
    rw [List.getElem?_append] at hi
    split at hi
    · exact ⟨hi, by assumption⟩
    · cases hk : i - m.length with
      | zero => rw [hk] at hi; simp at hi
      | succ n => rw [hk] at hi; simp at hi
  have oldh : ∀ (i : Nat) (bi : Blk), i < m.length → (h ++ [x])[i]? = some bi → h[i]? = some bi := fun i bi hi hb => by
    rw [List.getElem?_append_left (by rw [← hh.len]; exact hi)] at hb; exact hb
  refine ⟨by simp [hh.len], fun i l z hi hz => ?_, fun i j bi bj b o1 o2 hij hi hj li lj mi mj => ?_, fun i bi b o1 hi li mi => ?_, hh.low, fun i b o1 mi => hh.lowm i b o1 (old _ _ _ mi).1⟩
  · rw [List.getElem?_append] at hi hz
    rw [← hh.len] at hz
    split at hi
    · rename_i hlt
      simp only [hlt, if_true] at hz
      exact (hh.blk i l z hi hz).stab (fun _ h => h) (fun _ _ _ => rfl) (Sub.append _ _) (fun _ b _ _ => SameShape.refl w b) (fun _ _ _ => rfl)
    · rename_i hge
      simp only [hge, if_false] at hz
      cases hk : i - m.length with
      | zero => rw [hk] at hi hz; simp at hi hz; subst hi; subst hz; exact hx
      | succ n => rw [hk] at hi; simp at hi
  · obtain ⟨m1, l1⟩ := old _ _ _ mi
    obtain ⟨m2, l2⟩ := old _ _ _ mj
    exact hh.inj i j bi bj b o1 o2 hij (oldh i bi l1 hi) (oldh j bj l2 hj) li lj m1 m2
  · obtain ⟨m1, l1⟩ := old _ _ _ mi
    exact hh.out i bi b o1 (oldh i bi l1 hi) li m1

theorem grownCap_le (w : World) (need old : Nat) (e : TypeId) : need ≤ grownCap w need old e := by
  show need ≤ need + _
  omega
theorem NewsRel.append {es : Nat} {xs ys : List (List FV)} {l k : List Value} (h1 : NewsRel w S es xs l) (h2 : NewsRel w S es ys k) : NewsRel w S es (xs ++ ys) (l ++ k) := by
  obtain ⟨a1, a2, a3⟩ := h1
  obtain ⟨b1, b2, b3⟩ := h2
  refine ⟨by simp [a1, b1, Nat.add_mul], fun r row h => ?_, fun r j row c h hc => ?_⟩
  · rw [List.getElem?_append] at h
    split at h
    · exact a2 r row h
    · exact b2 _ row h
  · rw [List.getElem?_append] at h
    split at h
    · rename_i hlt
      obtain ⟨u, hu, hf⟩ := a3 r j row c h hc
      exact ⟨u, by rw [List.getElem?_append_left (List.getElem?_eq_some_iff.1 hu).1]; exact hu, hf⟩
    · rename_i hge
      obtain ⟨u, hu, hf⟩ := b3 _ j row c h hc
      refine ⟨u, ?_, hf⟩
      have : xs.length * es ≤ r * es := Nat.mul_le_mul_right _ (by omega)
      rw [List.getElem?_append_right (by omega), ← hu]
      congr 1
      rw [a1, Nat.sub_mul]
      omega
theorem Move.ext {w' : World} (k : Move w S m w' S m) {b o : Nat} (hb : Owned m b) : Move w S m w' S (m ++ [some (b, o)]) where
  size := k.size
  os := k.os
  tape := k.tape
  output := k.output
  same := k.same
  frozen := k.frozen
  shape := k.shape
  up := k.up
  down := k.down
  locs := fun i b' o' hi => by
    rw [List.getElem?_append] at hi
    split at hi
    · exact k.locs i b' o' hi
    · cases hk : i - m.length with
      | zero => rw [hk] at hi; simp at hi; obtain ⟨rfl, rfl⟩ := hi; exact .inl hb
      | succ n => rw [hk] at hi; simp at hi
  pre := fun i hi => by rw [List.getElem?_append_left hi]

theorem zeroCells_size (z : Array Value) (n : Nat) : (Builtin.zeroCells z n).size = n * z.size := by simp [Builtin.zeroCells]

theorem eff_append (hr : RelSM w0 S0 m0 w S m a st) {o : Oper} {as : Array Operand} {ts : Array TypeId} (ho : o.op = .call { callee := .builtin .append, args := as, argTypes := ts }) {s x : AV} {T U e : TypeId}
    (hv : evs st.t as.toList = some [s, x]) (hts : ts.toList = [T, U]) {i iu ie : TI} (hT : tiOf P T = some i) (hd : i.desc = .slice e) (hU : tiOf P U = some iu) (hie : tiOf P e = some ie)
    (hpos : 0 < ie.size) (hbp : 0 < ie.bytes) (hz : ie.zero.map List.length = some ie.size) {ys : List (List FV)} (hs : srcRows iu ie.size st.h x = some ys) {v : AV} {h' : List Blk} {W : List Nat} (ha : appendA ie st.h s ys = some (v, h', W)) :
    EffOk P w0 S0 m0 w S m a st o v h' W := by
  obtain ⟨y, z, hyz⟩ : ∃ y z, as = #[y, z] := by
    have := (evs_rel hr.tmps hv).1
    simp at this
    match as, this with
    | ⟨[y, z]⟩, _ => exact ⟨y, z, rfl⟩
  subst hyz
  have hrel := evs_rel hr.tmps hv
  have hsv : VRel w S m (a.eval y) s := hrel.2 0 _ s (by simp) rfl
  have hxv : VRel w S m (a.eval z) x := hrel.2 1 _ x (by simp) rfl
  have htsa : ts = #[T, U] := by apply Array.ext'; simpa using hts
  subst htsa
  obtain ⟨news, hsrc, hnews⟩ := src_sound hr.heap hU hpos hxv hs
  obtain ⟨_, info, hinfo, hsz, hby, hzz⟩ := tiOf_spec hie
  simp only [Option.map_eq_some_iff] at hz
  obtain ⟨zr, hzr, hzl⟩ := hz
  obtain ⟨zv, hzv, hzc⟩ := hzz zr hzr
  have hzsz : zv.cells.size = ie.size := by have := (ofCells_rel hzc).1; simp at this; omega
  have hu : P.underlying T = some (.slice e) := by rw [← hd]; exact (tiOf_spec hT).1
  rw [← hsz] at hsrc
  have hex : ∀ (val : Value) (w' : World), (Builtin.append_ #[T, U] o.type #[a.eval y, a.eval z]).run P w = .ok val w' → (execOp a.eval o).run P w = .ok (.value val) w' := fun val w' h => by
    simp [execOp, ho, resolve, invoke, builtin, h]
  generalize hay : a.eval y = sv at hsv hex
  have hmax : ∀ k : Nat, k * ie.bytes ≤ 140737488355328 → (k : Int) ≤ 9223372036854775807 := fun k hk => by
    have : k ≤ k * ie.bytes := Nat.le_mul_of_pos_right k hbp
    omega
  unfold appendA at ha
  split at ha
  · split at ha
    case isFalse => cases ha
    rename_i hroom
    simp only [Option.some.injEq, Prod.mk.injEq] at ha
    obtain ⟨rfl, rfl, rfl⟩ := ha
    obtain rfl := hsv.nils_inv
    rcases Nat.eq_zero_or_pos ys.length with h0 | h0
    · have hnil : ys = [] := List.eq_nil_of_length_eq_zero h0
      subst hnil
      have hnn : news = [] := List.eq_nil_of_length_eq_zero (by simpa using hnews.1)
      subst hnn
      have hrun := run_append_nothing (P := P) w T U o.type e info hu hinfo none 0 0 (Nat.le_refl _) (a.eval z) hsrc
      refine ⟨_, w, m ++ [none], wp_value (hex _ _ hrun), hr.move (Move.virt hr.heap.lowm) (hr.heap.virt _ ⟨by simp, rfl⟩), .refz _ _ _ _, fun _ _ _ _ _ _ _ _ => rfl, fun i _ hi => by rw [List.getElem?_append_left hi]⟩
    · have hrun := run_append_grow_src (P := P) w T U o.type e info zv hu hinfo hzv none 0 0 [] (run_firstCells_none w.drew info.size 0 0 0) (a.eval z) ys.length news hsrc (by omega) (by have := hmax _ hroom; omega)
        (growslice_fits (by omega) (by rw [hby]; simpa using hroom))
      simp only [Nat.zero_add, List.nil_append] at hrun
      have hcap := grownCap_le w ys.length 0 e
      refine eff_grown hr hr.heap rfl (fun _ _ => rfl) (hex _ _ hrun) hcap ?_ rfl hnews
      rw [zeroCells_size, hnews.1, hzsz, ← Nat.add_mul]
      exact Nat.mul_le_mul_right _ (by omega)
  · rename_i id es off len
    generalize hid : st.h[id]? = k at ha
    split at ha
    case h_2 => cases ha
    rename_i es' rows
    split at ha
    case isFalse => cases ha
    rename_i hc
    obtain ⟨he1, rfl, hle, hroom⟩ := hc
    subst he1
    simp only [Option.some.injEq, Prod.mk.injEq] at ha
    obtain ⟨rfl, rfl, rfl⟩ := ha
    have hself : srcRows i ie.size st.h (.ref id ie.size off len) = some ((rows.drop off).take len) := by
      simp [srcRows, hd, hid, hle]
    obtain ⟨olds, hosrc, holds⟩ := src_sound hr.heap hT hpos hsv hself
    have hlen : ((rows.drop off).take len).length = len := by simp; omega
    rw [hlen] at hosrc
    have hgrow : ∀ (base : Option Addr) (c : Nat), sv = .slice base len c → c < len + ys.length →
        EffOk P w0 S0 m0 w S m a st o (.ref st.h.length ie.size 0 (len + ys.length)) (st.h.set id .dead ++ [.plain ie.size ((rows.drop off).take len ++ ys)]) [id] := by
      intro base c hsvc hc
      subst hsvc
      have hrun := run_append_grow_src (P := P) w T U o.type e info zv hu hinfo hzv base len c olds (by rw [hsz]; exact hosrc.cellsD) (a.eval z) ys.length news hsrc hc (hmax _ hroom)
        (growslice_fits hc (by rw [hby]; exact hroom))
      have hcap := grownCap_le w (len + ys.length) c e
      refine eff_grown hr (hr.heap.kill id) (by simp) (fun j hj => by rw [List.getElem?_set_ne (Ne.symm (by simpa using hj))]) (hex _ _ hrun) hcap ?_ (by simp [hlen]) (holds.append hnews)
      rw [zeroCells_size, List.length_append, holds.1, hnews.1, hzsz, hlen, ← Nat.add_mul, ← Nat.add_mul]
      exact Nat.mul_le_mul_right _ (by omega)
    cases hsv with
    | ref _ _ _ _ b ob c hm hl hcapm =>
      by_cases hfit : len + ys.length ≤ c
      case neg => exact hgrow _ c rfl (by omega)
      obtain ⟨hes, arr, U', hb, hcell⟩ := hr.heap.blk id _ _ hm hid
      have hcap := hcapm arr U' _ hb
      have hnl : news.length = ys.length * ie.size := hnews.1
      have hin : ob + off * ie.size + len * ie.size + news.length ≤ arr.size := by
        have : (off + (len + ys.length)) * ie.size ≤ (off + c) * ie.size := Nat.mul_le_mul_right _ (by omega)
        rw [Nat.add_mul, Nat.add_mul] at this
        omega
      have hrun := run_append_room_src (P := P) w T U o.type e info hu hinfo b (ob + off * ie.size) len c (a.eval z) ys.length news hsrc hfit
        (fun j hj => by
          have : ob + off * ie.size + len * ie.size + j < arr.size := by omega
          simp [World.cell?, hb, hsz, this])
        (fun j hj => by simp [World.frozen?, hb])
      rw [hsz, setCells_eq news w b _ arr U' hb] at hrun
      have hw := wcells_wrote (fr' := (0, 0)) hb (putCells_size news arr (ob + off * ie.size + len * ie.size))
      have hmv := hw.move hr.heap hm hid rfl
      have hbox := hw.heap hr.heap hm hid rfl (y := .box []) ⟨b, ob, _, U', rfl, wcells_at (Array.getElem?_eq_some_iff.1 hb).1, fun j x hx => by simp at hx⟩
      have hidl : id < st.h.length := (List.getElem?_eq_some_iff.1 hid).1
      have hrel := hbox.relocate (id := id) (o' := ob + off * ie.size) (x := .box []) (y := .plain ie.size ((rows.drop off).take len ++ ys)) hm (by simp [hidl]) rfl ⟨fun r row hrow => ?_, _, U', wcells_at (Array.getElem?_eq_some_iff.1 hb).1, fun r j row x hrow hx => ?_⟩
      · rw [List.set_set] at hrel
        refine ⟨_, _, _, wp_value (hex _ _ hrun), hr.move (hmv.ext (o := ob + off * ie.size) ⟨id, ob, hm⟩) hrel, ?_, fun j b' o' k hj hmj hk hlv => ?_, fun j hj hlt => by rw [List.getElem?_append_left (by simpa using hlt), List.getElem?_set_ne (Ne.symm (by simpa using hj))]⟩
        · have := VRel.ref (w := wcells w b (putCells arr (ob + off * ie.size + len * ie.size) news) U' (0, 0)) (S := S) (m := m ++ [some (b, ob + off * ie.size)]) st.h.length ie.size 0 (len + ys.length) b (ob + off * ie.size) c
            (by rw [← hr.heap.len]; simp) hfit (fun arr' T' fr hb' => by
              rw [wcells_at (Array.getElem?_eq_some_iff.1 hb).1] at hb'
              simp at hb'
              obtain ⟨rfl, _, _⟩ := hb'
              rw [putCells_size, Nat.zero_add]
              rw [Nat.add_mul] at hcap
              omega)
          simpa using this
        · refine hw.other b' (fun e => ?_)
          subst e
          exact hr.heap.inj j id k _ b' o' ob (by simpa using hj) hk hid hlv rfl hmj hm
      · rw [List.getElem?_append] at hrow
        split at hrow
        · exact holds.2.1 r row hrow
        · exact hnews.2.1 _ row hrow
      · rw [putCells_get _ _ _ _ hin]
        have hj : j < ie.size := by
          have : row.length = ie.size := by
            rw [List.getElem?_append] at hrow
            split at hrow
            · exact holds.2.1 r row hrow
            · exact hnews.2.1 _ row hrow
          rw [← this]; exact (List.getElem?_eq_some_iff.1 hx).1
        rw [List.getElem?_append, hlen] at hrow
        split at hrow
        · rename_i hlt
          have h1 := row_before (es := ie.size) (k := 0) hlt hj
          have hc' : ¬ (ob + off * ie.size + len * ie.size ≤ ob + off * ie.size + r * ie.size + j ∧ ob + off * ie.size + r * ie.size + j < ob + off * ie.size + len * ie.size + news.length) := by omega
          simp only [hc', if_false]
          rw [List.getElem?_take] at hrow
          simp only [hlt, if_true, List.getElem?_drop] at hrow
          obtain ⟨u, hu, hf⟩ := hcell (off + r) j row x hrow hx
          refine ⟨u, ?_, hf.stab hmv.up hmv.frozen⟩
          rw [← hu]
          congr 1
          rw [Nat.add_mul]; omega
        · rename_i hge
          obtain ⟨u, hu, hf⟩ := hnews.2.2 (r - len) j row x hrow hx
          have hk := (List.getElem?_eq_some_iff.1 hu).1
          have h2 : r * ie.size = len * ie.size + (r - len) * ie.size := by rw [← Nat.add_mul]; congr 1; omega
          have hc' : ob + off * ie.size + len * ie.size ≤ ob + off * ie.size + r * ie.size + j ∧ ob + off * ie.size + r * ie.size + j < ob + off * ie.size + len * ie.size + news.length := by omega
          simp only [hc', and_self, if_true]
          refine ⟨u, ?_, hf.stab hmv.up hmv.frozen⟩
          rw [← hu]
          congr 1
          omega
    | refz _ _ _ A =>
      rcases Nat.eq_zero_or_pos ys.length with h0 | h0
      · have hnil : ys = [] := List.eq_nil_of_length_eq_zero h0
        subst hnil
        have hnn : news = [] := List.eq_nil_of_length_eq_zero (by simpa using hnews.1)
        subst hnn
        have hrun := run_append_nothing (P := P) w T U o.type e info hu hinfo A 0 0 (Nat.le_refl _) (a.eval z) hsrc
        have hvirt := (hr.heap.kill id).virt (.plain ie.size ((rows.drop off).take 0 ++ [])) ⟨by simp, by simp⟩
        exact ⟨_, w, m ++ [none], wp_value (hex _ _ hrun), hr.move (Move.virt hr.heap.lowm) hvirt, .refz _ _ _ _, fun _ _ _ _ _ _ _ _ => rfl, fun j hj hlt => by rw [List.getElem?_append_left (by simpa using hlt), List.getElem?_set_ne (Ne.symm (by simpa using hj))]⟩
      · exact hgrow A 0 rfl (by omega)
  · cases ha
end
end Go.Abs
