/- append of cells of any kind; maps; x.(T). -/
import Derived.Test.YtckpaaeilbgiiaaAbsLb
namespace Go.Abs
set_option linter.unusedVariables false
set_option linter.unusedSimpArgs false

section
variable {P : Program} {w0 : World} {S0 : Nat → Prop} {m0 : List Loc} {w : World} {S : Nat → Prop} {m : List Loc} {a : Act} {st : St}

theorem thaw_length {es : Nat} : ∀ {rows : List (List FV)}, (∀ (r : Nat) (row : List FV), rows[r]? = some row → row.length = es) → (thaw rows).length = rows.length * es
  | [], _ => by simp [thaw]
  | row :: rows, h => by
    have e : thaw (row :: rows) = row.map .fv ++ thaw rows := by simp [thaw]
    rw [e, List.length_append, List.length_map, h 0 row rfl, thaw_length fun r row' hr => h (r + 1) row' hr, List.length_cons, Nat.succ_mul]
    omega
theorem refCells_sound (hh : HRel w S m st.h) {id es off len b o : Nat} (hm : m[id]? = some (some (b, o))) {ys : List AV} (h : refCells st.h id es off len = some ys) :
    ∃ arr U k, w.heap[b]? = some (.cells arr U (0, 0)) ∧ st.h[id]? = some k ∧ k.live = true ∧ ys.length = len * es ∧ ∀ (k : Nat) (x : AV), ys[k]? = some x → ∃ u, arr[o + off * es + k]? = some u ∧ VRel w S m u x := by
  unfold refCells at h
  generalize hid : st.h[id]? = k at h
  split at h
  · rename_i es' rows
    split at h
    case isFalse => cases h
    rename_i hc
    obtain ⟨rfl, hle⟩ := hc
    simp only [Option.some.injEq] at h
    subst h
    obtain ⟨hes, arr, U, hb, hcell⟩ := hh.blk id _ _ hm hid
    have hrow : ∀ (r : Nat) (row : List FV), ((rows.drop off).take len)[r]? = some row → r < len ∧ rows[off + r]? = some row := fun r row hr => by
      rw [List.getElem?_take] at hr
      split at hr
      case isFalse => cases hr
      rename_i hlt
      rw [List.getElem?_drop] at hr
      exact ⟨hlt, hr⟩
    refine ⟨arr, U, _, hb, rfl, rfl, ?_, fun k x hx => ?_⟩
    · rw [thaw_length fun r row hr => hes _ row (hrow r row hr).2, List.length_take, List.length_drop, Nat.min_eq_left (by omega)]
    · refine thaw_cells (es := es') (o := o + off * es') (fun r row hr => hes _ row (hrow r row hr).2) (fun r j row y hr hy => ?_) k x hx
      obtain ⟨u, hu, hf⟩ := hcell (off + r) j row y (hrow r row hr).2 hy
      refine ⟨u, ?_, hf⟩
      rw [← hu]
      congr 1
      rw [Nat.add_mul]; omega
  · rename_i cs
    split at h
    case isFalse => cases h
    rename_i hle
    simp only [Option.some.injEq] at h
    subst h
    obtain ⟨b', o', arr, U, hloc, hb, hcell⟩ := hh.blk id _ _ hm hid
    simp at hloc
    obtain ⟨rfl, rfl⟩ := hloc
    refine ⟨arr, U, _, hb, rfl, rfl, ?_, fun k x hx => ?_⟩
    · rw [List.length_take, List.length_drop]
      rw [Nat.add_mul] at hle
      omega
    · rw [List.getElem?_take] at hx
      split at hx
      case isFalse => cases hx
      rw [List.getElem?_drop] at hx
      obtain ⟨u, hu, hv⟩ := hcell _ x hx
      exact ⟨u, by rw [← hu]; congr 1; omega, hv⟩
  · cases h
theorem news_lrel {es : Nat} {ys : List (List FV)} {news : List Value} (h : NewsRel w S es ys news) : LRel w S m news (thaw ys) := by
  refine ⟨by rw [h.1, thaw_length h.2.1], fun k v x hv hx => ?_⟩
  obtain ⟨u, hu, hr⟩ := thaw_cells (w := w) (S := S) (m := m) (arr := news.toArray) (o := 0) h.2.1 (fun r j row y hr hy => by
    obtain ⟨u, hu, hf⟩ := h.2.2 r j row y hr hy
    exact ⟨u, by simpa using hu, hf⟩) k x hx
  rw [Nat.zero_add] at hu
  simp only [List.getElem?_toArray] at hu
  rw [hv] at hu
  simp at hu
  subst hu
  exact hr
theorem cells_range {arr : Array Value} {o n : Nat} {ys : List AV} (hl : ys.length = n) (h : ∀ (k : Nat) (x : AV), ys[k]? = some x → ∃ u, arr[o + k]? = some u ∧ VRel w S m u x) :
    LRel w S m ((List.range n).map fun k => arr.getD (o + k) undef) ys ∧ ∀ k, k < n → arr[o + k]? = some (arr.getD (o + k) undef) := by
  have ex : ∀ k, k < n → ∃ u, arr[o + k]? = some u := fun k hk => by
    obtain ⟨u, hu, _⟩ := h k (ys[k]'(by omega)) (by simp)
    exact ⟨u, hu⟩
  refine ⟨⟨by simp [hl], fun k v x hv hx => ?_⟩, fun k hk => ?_⟩
  · obtain ⟨u, hu, hr⟩ := h k x hx
    have hk : k < n := by rw [← hl]; exact (List.getElem?_eq_some_iff.1 hx).1
    simp only [List.getElem?_map, List.getElem?_range hk, Option.map_some, Option.some.injEq] at hv
    subst hv
    simpa [Array.getD_eq_getD_getElem?, hu] using hr
  · obtain ⟨u, hu⟩ := ex k hk
    simp [Array.getD_eq_getD_getElem?, hu]
theorem all_ok {vs : List Value} {ys : List AV} (h : LRel w S m vs ys) (ho : ys.all okCell = true) : ∀ u ∈ vs, u.oneCell' = true := fun u hu => by
  obtain ⟨j, hj, rfl⟩ := List.getElem_of_mem hu
  have hl := h.1
  exact okCell_one (h.2 j _ ys[j] (by simp) (by simp)) (List.all_eq_true.1 ho _ (List.getElem_mem (by omega)))
theorem thaw_ok (rows : List (List FV)) : (thaw rows).all okCell = true := by
  rw [List.all_eq_true]
  intro x hx
  simp only [thaw, List.mem_map] at hx
  obtain ⟨y, _, rfl⟩ := hx
  rfl
/-- What is put behind a slice, as cells. -/
theorem srcCells_sound (hh : HRel w S m st.h) {tx : TypeId} {iu : TI} (hu : tiOf P tx = some iu) {es : Nat} (hpos : 0 < es) {x : AV} {v : Value} (hx : VRel w S m v x) {ys : List AV} (hs : srcCells iu es st.h x = some ys) :
    ∃ news k, Src P es tx v k news w ∧ LRel w S m news ys ∧ ys.length = k * es := by
  unfold srcCells at hs
  split at hs
  · rename_i e id es' off len hd
    have hk := (tiOf_spec hu).1
    rw [hd] at hk
    split at hs
    case isFalse => cases hs
    rename_i he; subst he
    split at hs
    · rename_i h0; subst h0
      simp only [Option.some.injEq] at hs
      subst hs
      refine ⟨[], 0, ?_, ⟨rfl, fun i v x hv => by simp at hv⟩, by simp⟩
      cases hx with
      | ref _ _ _ _ b o c hm hl hcap => exact Src.ofSlice w hk _ 0 c [] (by simp) (by simp) (by simp)
      | refz _ _ _ A =>
        cases A with
        | none => exact Src.ofNil w hk 0
        | some ad' => exact Src.ofSlice w hk ad' 0 0 [] (by simp) (by simp) (by simp)
    · rename_i h0
      simp only [Option.bind_eq_some_iff] at hs
      obtain ⟨cs, hcs, hs⟩ := hs
      split at hs <;> simp at hs
      rename_i hok
      subst hs
      cases hx with
      | ref _ _ _ _ b o c hm hl hcap =>
        obtain ⟨arr, U, _, hb, _, _, hlen, hcell⟩ := refCells_sound hh hm hcs
        obtain ⟨hr, hg⟩ := cells_range hlen hcell
        refine ⟨_, len, Src.ofSlice w hk _ len c _ (by simp) (fun k y hy => ?_) (all_ok hr hok), hr, hlen⟩
        have hlt : k < len * es' := by have := (List.getElem?_eq_some_iff.1 hy).1; simpa using this
        simp only [List.getElem?_map, List.getElem?_range hlt, Option.map_some, Option.some.injEq] at hy
        subst hy
        rw [add_at]
        simp only [World.cell?, hb]
        exact hg k hlt
      | refz _ _ _ A => exact absurd rfl h0
  · simp only [Option.map_eq_some_iff] at hs
    obtain ⟨rows, hrows, rfl⟩ := hs
    obtain ⟨news, h1, h2⟩ := src_sound hh hu hpos hx hrows
    exact ⟨news, _, h1, news_lrel h2, by rw [thaw_length h2.2.1]⟩

/-- Cells made anew. -/
theorem eff_grownB (hr : RelSM w0 S0 m0 w S m a st) {o : Oper} {es n c : Nat} {ie : TypeId} {cs : List AV} {all : List Value} {rest : Array Value} {W : List Nat} {h1 : List Blk}
    (hh : HRel w S m h1) (hlen : h1.length = st.h.length) (hsame : ∀ i, i ∉ W → h1[i]? = st.h[i]?)
    (hrun : (execOp a.eval o).run P w = .ok (.value (.slice (some ⟨w.heap.size, 0, none⟩) n c)) (w.drew.alloc (.cells (all.toArray ++ rest) ie)))
    (hnc : n ≤ c) (hsz : c * es ≤ all.length + rest.size) (hall : LRel w S m all cs) :
    EffOk P w0 S0 m0 w S m a st o (.ref st.h.length es 0 n) (h1 ++ [.box cs]) W := by
  let w1 := wpush w (.cells (all.toArray ++ rest) ie)
  have hm1 : Move w S m w1 S (m ++ [some (w.heap.size, 0)]) := Move.push _ _ (fun b o' e => by simp at e; omega)
  have hb : BRel w1 S (m ++ [some (w.heap.size, 0)]) (some (w.heap.size, 0)) (.box cs) := by
    refine ⟨_, _, _, _, rfl, wpush_new _ _, fun j x hx => ?_⟩
    have hj : j < all.length := by rw [hall.1]; exact (List.getElem?_eq_some_iff.1 hx).1
    refine ⟨all[j], ?_, (hall.2 j all[j] x (by simp) hx).move hm1 hr.heap.lowm⟩
    rw [Nat.zero_add, Array.getElem?_append_left (by simpa using hj)]
    simp [hj]
  have hh1 := hh.push (.cells (all.toArray ++ rest) ie) _ _ (.inl rfl) hb
  have hr1 : RelSM w0 S0 m0 w1 S (m ++ [some (w.heap.size, 0)]) a { st with h := h1 ++ [.box cs] } := hr.move hm1 hh1
  have hr2 : RelSM w0 S0 m0 (w.drew.alloc (.cells (all.toArray ++ rest) ie)) S (m ++ [some (w.heap.size, 0)]) a { st with h := h1 ++ [.box cs] } := hr1.same_heap rfl rfl rfl rfl (Nat.le_succ _)
  refine ⟨_, _, _, wp_value hrun, hr2, ?_, fun i b o' k _ hi _ _ => wpush_old w _ (hr.heap.lowm i b o' hi), fun i hi hlt => by rw [List.getElem?_append_left (by omega)]; exact hsame i hi⟩
  have := VRel.ref (w := w.drew.alloc (.cells (all.toArray ++ rest) ie)) (S := S) (m := m ++ [some (w.heap.size, 0)]) st.h.length es 0 n w.heap.size 0 c (by rw [← hr.heap.len]; simp) hnc (fun arr' T' fr ha => by
    have ha' : (wpush w (.cells (all.toArray ++ rest) ie)).heap[w.heap.size]? = some (.cells arr' T' fr) := ha
    rw [wpush_new] at ha'
    simp at ha'
    obtain ⟨rfl, _, _⟩ := ha'
    simpa using hsz)
  simpa using this

theorem LRel.append {us vs : List Value} {xs ys : List AV} (h1 : LRel w S m us xs) (h2 : LRel w S m vs ys) : LRel w S m (us ++ vs) (xs ++ ys) := by
  refine ⟨by simp [h1.1, h2.1], fun i v x hv hx => ?_⟩
  rw [List.getElem?_append] at hv hx
  rw [h1.1] at hv
  split at hv
  · rename_i hlt; simp only [hlt, if_true] at hx; exact h1.2 i v x hv hx
  · rename_i hlt; simp only [hlt, if_false] at hx; exact h2.2 _ v x hv hx

theorem eff_appendB (hr : RelSM w0 S0 m0 w S m a st) {o : Oper} {as : Array Operand} {ts : Array TypeId} (ho : o.op = .call { callee := .builtin .append, args := as, argTypes := ts }) {s x : AV} {T U e : TypeId}
    (hv : evs st.t as.toList = some [s, x]) (hts : ts.toList = [T, U]) {i iu ie : TI} (hT : tiOf P T = some i) (hd : i.desc = .slice e) (hU : tiOf P U = some iu) (hie : tiOf P e = some ie)
    (hpos : 0 < ie.size) (hbp : 0 < ie.bytes) (hz : ie.zero.map List.length = some ie.size) {ys : List AV} (hs : srcCells iu ie.size st.h x = some ys) {v : AV} {h' : List Blk} {W : List Nat} (ha : appendB ie st.h s ys = some (v, h', W)) :
    EffOk P w0 S0 m0 w S m a st o v h' W := by
  obtain ⟨y, z, hyz⟩ : ∃ y z, as = #[y, z] := by
    have := (evs_rel hr.tmps hv).1
    simp at this
    match as, this with
    | ⟨[y, z]⟩, _ => exact ⟨y, z, rfl⟩
  subst hyz
  have hrel := evs_rel hr.tmps hv
  have hsv : VRel w S m (a.eval y) s := hrel.2 0 _ s (by simp) rfl
  have hxv : VRel w S m (a.eval z) x := hrel.2 1 _ x (by simp) rfl
  have htsa : ts = #[T, U] := by apply Array.ext'; simpa using hts
  subst htsa
  obtain ⟨news, k, hsrc, hnews, hyk⟩ := srcCells_sound hr.heap hU hpos hxv hs
  obtain ⟨_, info, hinfo, hsz, hby, hzz⟩ := tiOf_spec hie
  simp only [Option.map_eq_some_iff] at hz
  obtain ⟨zr, hzr, hzl⟩ := hz
  obtain ⟨zv, hzv, hzc⟩ := hzz zr hzr
  have hzsz : zv.cells.size = ie.size := by have := (ofCells_rel hzc).1; simp at this; omega
  have hu : P.underlying T = some (.slice e) := by rw [← hd]; exact (tiOf_spec hT).1
  rw [← hsz] at hsrc
  have hex : ∀ (val : Value) (w' : World), (Builtin.append_ #[T, U] o.type #[a.eval y, a.eval z]).run P w = .ok val w' → (execOp a.eval o).run P w = .ok (.value val) w' := fun val w' h => by
    simp [execOp, ho, resolve, invoke, builtin, h]
  have hay : VRel w S m (a.eval y) s := hsv
  generalize haz : a.eval y = sv at hsv hex
  have hmax : ∀ k : Nat, k * ie.bytes ≤ 140737488355328 → (k : Int) ≤ 9223372036854775807 := fun k hk => by
    have : k ≤ k * ie.bytes := Nat.le_mul_of_pos_right k hbp
    omega
  have hdiv : ys.length / ie.size = k := by rw [hyk, Nat.mul_div_cancel _ hpos]
  have hnl : news.length = k * ie.size := by rw [hnews.1, hyk]
  unfold appendB at ha
  simp only [hdiv] at ha
  split at ha
  · rename_i h0
    have hk0 : k = 0 := by
      rw [hyk] at h0
      rcases Nat.mul_eq_zero.1 h0 with h | h
      · exact h
      · omega
    subst hk0
    have hnn : news = [] := List.eq_nil_of_length_eq_zero (by simpa using hnl)
    subst hnn
    have fin : ∀ (base : Option Addr) (n c : Nat), sv = .slice base n c → n ≤ c → EffOk P w0 S0 m0 w S m a st o s st.h [] := fun base n c e hle => by
      subst e
      have hrun := run_append_nothing (P := P) w T U o.type e info hu hinfo base n c hle (a.eval z) hsrc
      rw [haz] at hay
      exact ⟨_, w, m, wp_value (hex _ _ hrun), hr, hay, fun _ _ _ _ _ _ _ _ => rfl, fun _ _ _ => rfl⟩
    split at ha
    · simp only [Option.some.injEq, Prod.mk.injEq] at ha
      obtain ⟨rfl, rfl, rfl⟩ := ha
      exact fin _ _ _ hsv.nils_inv (Nat.le_refl _)
    · simp only [Option.some.injEq, Prod.mk.injEq] at ha
      obtain ⟨rfl, rfl, rfl⟩ := ha
      cases hsv with
      | ref _ _ _ _ b ob c hm hl hcapm => exact fin _ _ c rfl hl
      | refz _ _ _ A => exact fin A 0 0 rfl (Nat.le_refl _)
    · cases ha
  · rename_i h0
    have hk1 : 0 < k := by
      rcases Nat.eq_zero_or_pos k with h | h
      · subst h; simp at hyk; rw [hyk] at h0; simp at h0
      · exact h
    split at ha
    case isFalse => cases ha
    split at ha
    · split at ha
      case isFalse => cases ha
      rename_i hroom
      simp only [Option.some.injEq, Prod.mk.injEq] at ha
      obtain ⟨rfl, rfl, rfl⟩ := ha
      obtain rfl := hsv.nils_inv
      have hrun := run_append_grow_src (P := P) w T U o.type e info zv hu hinfo hzv none 0 0 [] (run_firstCells_none w.drew info.size 0 0 0) (a.eval z) k news hsrc (by omega) (by have := hmax _ hroom; omega)
        (growslice_fits (by omega) (by rw [hby]; simpa using hroom))
      simp only [Nat.zero_add, List.nil_append] at hrun
      have hcap := grownCap_le w k 0 e
      refine eff_grownB hr hr.heap rfl (fun _ _ => rfl) (hex _ _ hrun) hcap ?_ hnews
      rw [zeroCells_size, hnl, hzsz, ← Nat.add_mul]
      exact Nat.mul_le_mul_right _ (by omega)
    · rename_i id es off len
      split at ha
      case isFalse => cases ha
      rename_i hc
      obtain ⟨he1, hroom⟩ := hc
      subst he1
      simp only [Option.bind_eq_some_iff] at ha
      obtain ⟨xs, hxs, ha⟩ := ha
      split at ha
      case isFalse => cases ha
      rename_i hxok
      simp only [Option.some.injEq, Prod.mk.injEq] at ha
      obtain ⟨rfl, rfl, rfl⟩ := ha
      have hgrow : ∀ (base : Option Addr) (c : Nat) (olds : List Value), sv = .slice base len c → c < len + k → LRel w S m olds xs → olds.length = len * ie.size →
          (Builtin.firstCells info.size len (.slice base len c)).run P w.drew = .ok olds.toArray w.drew →
          EffOk P w0 S0 m0 w S m a st o (.ref st.h.length ie.size 0 (len + k)) (st.h.set id .dead ++ [.box (xs ++ ys)]) [id] := by
        intro base c olds hsvc hc hol hoc hfc
        subst hsvc
        have hrun := run_append_grow_src (P := P) w T U o.type e info zv hu hinfo hzv base len c olds hfc (a.eval z) k news hsrc hc (hmax _ hroom)
          (growslice_fits hc (by rw [hby]; exact hroom))
        have hcap := grownCap_le w (len + k) c e
        refine eff_grownB hr (hr.heap.kill id) (by simp) (fun j hj => by rw [List.getElem?_set_ne (Ne.symm (by simpa using hj))]) (hex _ _ hrun) hcap ?_ (hol.append hnews)
        rw [zeroCells_size, List.length_append, hoc, hnl, hzsz, ← Nat.add_mul, ← Nat.add_mul]
        exact Nat.mul_le_mul_right _ (by omega)
      cases hsv with
      | ref _ _ _ _ b ob c hm hl hcapm =>
        obtain ⟨arr, U', kb, hb, hid, hlive, hxl, hcell⟩ := refCells_sound hr.heap hm hxs
        have hcap := hcapm arr U' _ hb
        by_cases hfit : len + k ≤ c
        case neg =>
          obtain ⟨hol, hg⟩ := cells_range hxl hcell
          refine hgrow _ c _ rfl (by omega) hol (by simp) ?_
          rw [hsz]
          refine run_firstCells_some w.drew ie.size len _ len c _ (by simp) (fun j u hj => ?_)
          have hlt : j < len * ie.size := by have := (List.getElem?_eq_some_iff.1 hj).1; simpa using this
          simp only [List.getElem?_map, List.getElem?_range hlt, Option.map_some, Option.some.injEq] at hj
          subst hj
          rw [add_at]
          have : w.drew.heap = w.heap := rfl
          simp only [World.cell?, this, hb]
          exact hg j hlt
        have hin : ob + off * ie.size + len * ie.size + news.length ≤ arr.size := by
          have : (off + (len + k)) * ie.size ≤ (off + c) * ie.size := Nat.mul_le_mul_right _ (by omega)
          rw [Nat.add_mul, Nat.add_mul] at this
          omega
        have hrun := run_append_room_src (P := P) w T U o.type e info hu hinfo b (ob + off * ie.size) len c (a.eval z) k news hsrc hfit
          (fun j hj => by
            have : ob + off * ie.size + len * ie.size + j < arr.size := by omega
            simp [World.cell?, hb, hsz, this])
          (fun j hj => by simp [World.frozen?, hb])
        rw [hsz, setCells_eq news w b _ arr U' hb] at hrun
        have hw := wcells_wrote (fr' := (0, 0)) hb (putCells_size news arr (ob + off * ie.size + len * ie.size))
        have hmv := hw.move hr.heap hm hid hlive
        have hbox := hw.heap hr.heap hm hid hlive (y := .box []) ⟨b, ob, _, U', rfl, wcells_at (Array.getElem?_eq_some_iff.1 hb).1, fun j x hx => by simp at hx⟩
        have hidl : id < st.h.length := (List.getElem?_eq_some_iff.1 hid).1
        have hrel := hbox.relocate (id := id) (o' := ob + off * ie.size) (x := .box []) (y := .box (xs ++ ys)) hm (by simp [hidl]) rfl ⟨b, _, _, U', rfl, wcells_at (Array.getElem?_eq_some_iff.1 hb).1, fun j x hx => ?_⟩
        · rw [List.set_set] at hrel
          refine ⟨_, _, _, wp_value (hex _ _ hrun), hr.move (hmv.ext (o := ob + off * ie.size) ⟨id, ob, hm⟩) hrel, ?_, fun j b' o' k hj hmj hk hlv => ?_, fun j hj hlt => by rw [List.getElem?_append_left (by simpa using hlt), List.getElem?_set_ne (Ne.symm (by simpa using hj))]⟩
          · have := VRel.ref (w := wcells w b (putCells arr (ob + off * ie.size + len * ie.size) news) U' (0, 0)) (S := S) (m := m ++ [some (b, ob + off * ie.size)]) st.h.length ie.size 0 (len + k) b (ob + off * ie.size) c
              (by rw [← hr.heap.len]; simp) hfit (fun arr' T' fr hb' => by
                rw [wcells_at (Array.getElem?_eq_some_iff.1 hb).1] at hb'
                simp at hb'
                obtain ⟨rfl, _, _⟩ := hb'
                rw [putCells_size, Nat.zero_add]
                rw [Nat.add_mul] at hcap
                omega)
            simpa using this
          · refine hw.other b' (fun e => ?_)
            subst e
            exact hr.heap.inj j id k _ b' o' ob (by simpa using hj) hk hid hlv hlive hmj hm
        · rw [putCells_get _ _ _ _ hin]
          rw [List.getElem?_append, hxl] at hx
          split at hx
          · rename_i hlt
            have hc' : ¬ (ob + off * ie.size + len * ie.size ≤ ob + off * ie.size + j ∧ ob + off * ie.size + j < ob + off * ie.size + len * ie.size + news.length) := by omega
            simp only [hc', if_false]
            obtain ⟨u, hu, hv⟩ := hcell j x hx
            exact ⟨u, hu, (hv.move hmv hr.heap.lowm).wider (Sub.append _ _)⟩
          · rename_i hge
            have hj2 : j - len * ie.size < ys.length := (List.getElem?_eq_some_iff.1 hx).1
            have hjn : j - len * ie.size < news.length := by rw [hnews.1]; exact hj2
            have hc' : ob + off * ie.size + len * ie.size ≤ ob + off * ie.size + j ∧ ob + off * ie.size + j < ob + off * ie.size + len * ie.size + news.length := by omega
            simp only [hc', and_self, if_true]
            refine ⟨news[j - len * ie.size], ?_, ((hnews.2 _ _ x (by simp) hx).move hmv hr.heap.lowm).wider (Sub.append _ _)⟩
            rw [show ob + off * ie.size + j - (ob + off * ie.size + len * ie.size) = j - len * ie.size from by omega]
            simp [hjn]
      | refz _ _ _ A =>
        have hx0 : xs = [] := by
          unfold refCells at hxs
          split at hxs
          · split at hxs <;> simp at hxs
            subst hxs
            simp [thaw]
          · split at hxs <;> simp at hxs
            subst hxs
            rfl
          · cases hxs
        subst hx0
        refine hgrow A 0 [] rfl (by omega) ⟨rfl, fun i v x hv => by simp at hv⟩ (by simp) ?_
        cases A with
        | none => exact run_firstCells_none w.drew info.size 0 0 0
        | some ad => exact run_firstCells_some w.drew info.size 0 ad 0 0 [] (by simp) (fun j u hj => by simp at hj)
    · cases ha
end
end Go.Abs
