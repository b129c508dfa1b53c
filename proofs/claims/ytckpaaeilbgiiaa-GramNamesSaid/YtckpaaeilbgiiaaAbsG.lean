/- A pure operation comes to what the abstract machine says. -/
import Derived.Test.YtckpaaeilbgiiaaAbsF
namespace Go.Abs
set_option linter.unusedVariables false
set_option linter.unusedSimpArgs false

section
variable {P : Program} {w : World} {S : Nat → Prop} {m : List Loc}

theorem bnd_sound {a : Act} {t : List AV} (ht : LRel w S m a.tmps.toList t) {d n : Nat} {x : Option Operand} (h : bnd t d x = some n) :
    (x = none ∧ n = d) ∨ ∃ y k i, x = some y ∧ a.eval y = .int k i ∧ 0 ≤ i ∧ i.toNat = n := by
  cases x with
  | none => simp [bnd] at h; exact .inl ⟨rfl, h.symm⟩
  | some y =>
    simp only [bnd, Option.bind_eq_some_iff] at h
    obtain ⟨v, hv, h⟩ := h
    obtain ⟨k, i, e, h0, hn⟩ := asN_inv h (ev_rel ht hv)
    exact .inr ⟨y, k, i, rfl, e, h0, hn⟩

theorem run_sliceBounds {a : Act} {t : List AV} (ht : LRel w S m a.tmps.toList t) {lo hi : Option Operand} {isSlice : Bool} {len cap l h : Nat}
    (hl : bnd t 0 lo = some l) (hh : bnd t len hi = some h) (h1 : l ≤ h) (h2 : h ≤ cap) (w' : World) :
    (Instr.sliceBounds isSlice len cap (lo.map a.eval) (hi.map a.eval) none).run P w' = .ok (l, h, cap) w' := by
  unfold Instr.sliceBounds
  rcases bnd_sound ht hl with ⟨rfl, rfl⟩ | ⟨y, k, i, rfl, e, h0, hn⟩ <;> rcases bnd_sound ht hh with ⟨rfl, rfl⟩ | ⟨y', k', i', rfl, e', h0', hn'⟩
  · simp
  · simp [e', run_sliceBound_ok h0' hn' h2]
  · simp [e, run_sliceBound_ok h0 hn h1]
  · simp [e, e', run_sliceBound_ok h0' hn' h2, run_sliceBound_ok h0 hn h1]

theorem extract_mk (s : List UInt8) (l h : Nat) : (⟨s.toArray⟩ : ByteArray).extract l h = ⟨((s.take h).drop l).toArray⟩ := by
  apply ByteArray.ext
  rw [ByteArray.data_extract]
  apply Array.ext'
  simp [List.drop_take]

theorem slice_sound {T : TypeId} {i : TI} (hi' : tiOf P T = some i) (hna : ∀ n e, i.desc ≠ .array n e) (hnp : ∀ e, i.desc ≠ .pointer e) {a : Act} {t : List AV} (ht : LRel w S m a.tmps.toList t)
    {x : AV} {v : Value} {lo hi : Option Operand} {n l h : Nat} {r : AV} (hx : VRel w S m v x) (hn : lenA x = some n) (hl : bnd t 0 lo = some l) (hh : bnd t n hi = some h) (hs : sliceA x l h = some r)
    (hd : (∃ e ie, i.desc = .slice e ∧ tiOf P e = some ie ∧ ((∃ id off len, x = .ref id ie.size off len) ∨ (∃ xs, x = .fv (.lst ie.size xs)) ∨ x = .fv .nils)) ∨ i.desc = .string ∧ ∃ s, x = .fv (.str s)) :
    ∃ u, (∀ w', (Instr.sliceAt T v (lo.map a.eval) (hi.map a.eval) none).run P w' = .ok u w') ∧ VRel w S m u r := by
  have hat : ∀ w', (Instr.sliceAt T v (lo.map a.eval) (hi.map a.eval) none).run P w' = (Instr.slice T v (lo.map a.eval) (hi.map a.eval) none).run P w' := fun w' => by
    simp only [Instr.sliceAt, Sem.run_bind, ti_under hi', Result.andThen_ok]
  simp only [hat]
  rcases hd with ⟨e, ie, hd, hie, hx'⟩ | ⟨hd, s, rfl⟩
  · have run : ∀ (A : Option Addr) (len cap : Nat), v = .slice A len cap → n = len → l ≤ h → h ≤ cap → ∀ w',
        (Instr.slice T v (lo.map a.eval) (hi.map a.eval) none).run P w' = .ok (.slice (if cap = l then A else A.map (·.add (l * ie.size))) (h - l) (cap - l)) w' := by
      intro A len cap hv hlen h1 h2 w'
      subst hv
      subst hlen
      simp only [Instr.slice, Sem.run_bind, ti_under hi', hd, Result.andThen_ok, run_sliceBounds (P := P) ht hl hh h1 h2, ti_size hie, Sem.run_pure]
    rcases hx' with ⟨id, off, len, rfl⟩ | ⟨xs, rfl⟩ | rfl
    · simp only [sliceA] at hs
      split at hs
      case isFalse => cases hs
      rename_i hb
      simp only [Option.some.injEq] at hs; subst hs
      simp only [lenA, Option.some.injEq] at hn; subst hn
      cases hx with
      | ref id es off len b o c hm hlc hcap =>
        refine ⟨_, fun w' => run _ _ _ rfl rfl hb.1 (by omega) w', ?_⟩
        split
        · rename_i hcl
          have e1 : h - l = 0 := by omega
          have e2 : c - l = 0 := by omega
          rw [e1, e2]
          exact .refz _ _ _ _
        · simp only [Option.map_some, add_at]
          have := VRel.ref (w := w) (S := S) id ie.size (off + l) (h - l) b o (c - l) hm (by omega) (fun arr T fr ha => by
            have := hcap arr T fr ha
            have e : off + l + (c - l) = off + c := by omega
            rw [e]; exact this)
          rw [Nat.add_mul, ← Nat.add_assoc] at this
          exact this
      | refz id es off A =>
        refine ⟨_, fun w' => run _ _ _ rfl rfl hb.1 (by omega) w', ?_⟩
        have e0 : l = 0 := by omega
        have e1 : h = 0 := by omega
        subst e0; subst e1
        exact .refz _ _ _ _
    · simp only [sliceA] at hs
      split at hs
      case isFalse => cases hs
      rename_i hb
      simp only [Option.some.injEq] at hs; subst hs
      simp only [lenA, Option.some.injEq] at hn
      cases hx with
      | fv _ _ hf =>
        cases hf with
        | lst A n' c es xs u ad hn' hcp hes ha hS hc hr =>
          have hcap : h ≤ c := by omega
          refine ⟨_, fun w' => run A n' c rfl (by omega) hb.1 hcap w', .fv _ _ ?_⟩
          refine .lst _ _ _ _ _ (fun i j => u (l + i) j) (ad.add (l * ie.size)) (by simp; omega) (by omega) (fun i row hrow => ?_) (fun hpos => ?_) (fun hpos => by rw [add_block]; exact hS (by omega)) (fun i j hi hj => ?_) (fun i j row x hrow hx => ?_)
          · simp only [List.getElem?_drop, List.getElem?_take] at hrow
            split at hrow
            · exact hes _ _ hrow
            · cases hrow
          · have := ha (by omega)
            subst this
            have : ¬ c = l := by omega
            simp [this]
          · rw [add_add]
            have := hc (l + i) j (by omega) hj
            rw [Nat.add_mul, Nat.add_assoc] at this
            exact this
          · simp only [List.getElem?_drop, List.getElem?_take] at hrow
            split at hrow
            · exact hr _ _ _ _ hrow hx
            · cases hrow
    · simp only [sliceA] at hs
      split at hs
      case isFalse => cases hs
      rename_i hb
      simp only [Option.some.injEq] at hs; subst hs
      simp only [lenA, Option.some.injEq] at hn
      obtain rfl := hx.nils_inv
      refine ⟨_, fun w' => run none 0 0 rfl hn.symm (by omega) (by omega) w', ?_⟩
      obtain ⟨rfl, rfl⟩ := hb
      exact .fv _ _ .nils
  · simp only [sliceA] at hs
    split at hs
    case isFalse => cases hs
    rename_i hb
    simp only [Option.some.injEq] at hs; subst hs
    simp only [lenA, Option.some.injEq] at hn; subst hn
    obtain rfl := hx.str_inv
    refine ⟨_, fun w' => ?_, VRel.str_mk _⟩
    have hsz : (⟨s.toArray⟩ : ByteArray).size = s.length := by simp [ByteArray.size]
    simp [Instr.slice, ti_under hi', hd, hsz, run_sliceBounds (P := P) ht hl hh hb.1 hb.2, extract_mk]

theorem pure_sound {a : Act} {t : List AV} (ht : LRel w S m a.tmps.toList t) {o : Oper} {x : AV} (h : pureA P t o = some x) :
    ∃ v, (∀ w', (execOp a.eval o).run P w' = .ok (.value v) w') ∧ VRel w S m v x := by
  unfold pureA at h
  split at h
  · rename_i y ho
    exact ⟨_, fun w' => by simp [execOp, ho], ev_rel ht h⟩
  · rename_i y ho
    exact ⟨_, fun w' => by simp [execOp, ho], ev_rel ht h⟩
  · rename_i y ho
    simp only [Option.bind_eq_some_iff] at h
    obtain ⟨v, hv, h⟩ := h
    split at h <;> simp at h
    subst h
    rename_i hs
    exact ⟨_, solid_nilCheck hs (ev_rel ht hv) ho rfl, ev_rel ht hv⟩
  · rename_i op T y z yT ho
    simp only [Option.bind_eq_some_iff] at h
    obtain ⟨v, hv, u, hu, h⟩ := h
    obtain ⟨r, h1, h2⟩ := binA_sound h (ev_rel ht hv) (ev_rel ht hu)
    exact ⟨r, fun w' => by simp only [execOp, ho, Sem.run_bind]; have := h1 w'; simp only [Sem.run_bind] at this; rw [this]; rfl, h2⟩
  · rename_i op T y ho
    simp only [Option.bind_eq_some_iff] at h
    obtain ⟨v, hv, h⟩ := h
    obtain ⟨r, h1, h2⟩ := unA_sound (P := P) h (ev_rel ht hv)
    exact ⟨r, fun w' => by simp [execOp, ho, h1], h2⟩
  · rename_i s d y ho
    simp only [Option.bind_eq_some_iff] at h
    obtain ⟨v, hv, h⟩ := h
    obtain ⟨r, h1, h2⟩ := convA_sound h (ev_rel ht hv)
    exact ⟨r, fun w' => by simp [execOp, ho, h1], h2⟩
  · rename_i T y ho
    split at h
    · cases h
    · rename_i i hna hi
      simp only [Option.map_eq_some_iff] at h
      obtain ⟨v, hv, rfl⟩ := h
      refine ⟨.iface T (a.eval y), fun w' => ?_, .iface _ _ _ (ev_rel ht hv)⟩
      simp only [execOp, ho, Instr.makeInterface, Sem.run_bind, ti_under hi, Result.andThen_ok]
      obtain ⟨desc, size, bytes, zero⟩ := i
      cases desc <;> first | rfl | exact absurd rfl (hna _ _ _ _)
    · cases h
  · rename_i f first caps ho
    split at h
    case isFalse => cases h
    rename_i hf
    simp only [Option.map_eq_some_iff] at h
    obtain ⟨vs, hv, rfl⟩ := h
    have he := evs_rel ht hv
    obtain rfl : first = #[] := Array.eq_empty_of_size_eq_zero hf
    refine ⟨.func (.func f) #[] (caps.map a.eval), fun w' => by simp [execOp, ho, Instr.makeFunc], ?_⟩
    exact .func f _ vs (by simpa using he.1) (fun i v x hv hx => he.2 i v x (by simpa using hv) hx)
  · rename_i T y lo hi ho
    have hex : ∀ w', (execOp a.eval o).run P w' = ((Instr.sliceAt T (a.eval y) (lo.map a.eval) (hi.map a.eval) none).run P w').andThen fun v w'' => .ok (.value v) w'' := fun w' => by
      simp [execOp, ho]
    split at h
    · rename_i e sz by_ z hT
      split at h
      case h_2 => cases h
      rename_i ie hie
      simp only [Option.bind_eq_some_iff] at h
      obtain ⟨v, hv, h⟩ := h
      split at h
      case isFalse => cases h
      rename_i hes
      simp only [Option.bind_eq_some_iff] at h
      obtain ⟨n, hn, l, hl, hh, hhh, hs⟩ := h
      have hx := ev_rel ht hv
      have hd : (∃ id off len, v = .ref id ie.size off len) ∨ (∃ xs, v = .fv (.lst ie.size xs)) ∨ v = .fv .nils := by
        unfold esOk at hes
        split at hes
        · simp at hes; subst hes; exact .inl ⟨_, _, _, rfl⟩
        · simp at hes; subst hes; exact .inr (.inl ⟨_, rfl⟩)
        · exact .inr (.inr rfl)
        · cases hes
      obtain ⟨u, h1, h2⟩ := slice_sound hT (by simp) (by simp) ht hx hn hl hhh hs (.inl ⟨e, ie, rfl, hie, hd⟩)
      exact ⟨u, fun w' => by rw [hex, h1]; rfl, h2⟩
    · rename_i sz by_ z hT
      simp only [Option.bind_eq_some_iff] at h
      obtain ⟨v, hv, h⟩ := h
      split at h
      case h_2 => cases h
      rename_i s
      simp only [Option.bind_eq_some_iff] at h
      obtain ⟨l, hl, hh, hhh, hs⟩ := h
      have hx := ev_rel ht hv
      obtain ⟨u, h1, h2⟩ := slice_sound hT (by simp) (by simp) ht hx (n := s.length) rfl hl hhh hs (.inr ⟨rfl, s, rfl⟩)
      exact ⟨u, fun w' => by rw [hex, h1]; rfl, h2⟩
    · cases h
  · rename_i T y f ho
    simp only [Option.bind_eq_some_iff] at h
    obtain ⟨⟨fd, i⟩, hf, h⟩ := h
    split at h
    case isTrue => cases h
    rename_i hsz
    simp only [Option.bind_eq_some_iff] at h
    obtain ⟨v, hv, h⟩ := h
    obtain ⟨ad, he, hr⟩ := addrA_sound h (ev_rel ht hv)
    unfold fieldOf at hf
    split at hf
    case h_2 => cases hf
    rename_i fs _ _ _ hT
    split at hf
    case h_2 => cases hf
    rename_i fd' hfd
    simp only [Option.map_eq_some_iff] at hf
    obtain ⟨i', hi, hf⟩ := hf
    simp only [Prod.mk.injEq] at hf
    obtain ⟨rfl, rfl⟩ := hf
    refine ⟨_, fun w' => ?_, hr⟩
    simp [execOp, ho, Instr.fieldAt, ti_under hT, hfd, he, Instr.sureAddr, fieldPlace, ti_size hi, hsz]
  · rename_i T y f ho
    simp only [Option.bind_eq_some_iff] at h
    obtain ⟨⟨fd, i⟩, hf, v, hv, h⟩ := h
    split at h
    case h_2 => cases h
    rename_i cs
    obtain ⟨vs, he, hvs⟩ := (ev_rel ht hv).agg_inv
    unfold fieldOf at hf
    split at hf
    case h_2 => cases hf
    rename_i fs _ _ _ hT
    split at hf
    case h_2 => cases hf
    rename_i fd' hfd
    simp only [Option.map_eq_some_iff] at hf
    obtain ⟨i', hi, hf⟩ := hf
    simp only [Prod.mk.injEq] at hf
    obtain ⟨rfl, rfl⟩ := hf
    obtain ⟨u, h1, h2⟩ := partA_sound hi hvs h
    refine ⟨u, fun w' => ?_, h2⟩
    simp [execOp, ho, Instr.field, ti_under hT, hfd, he, asAgg, h1]
  · rename_i T y j ho
    simp only [Option.bind_eq_some_iff] at h
    obtain ⟨v, hv, vj, hj, n, hn, h⟩ := h
    obtain ⟨k, hk⟩ := asI_inv hn (ev_rel ht hj)
    obtain ⟨u, h1, h2⟩ := idxAddrA_sound (k := k) (vi := a.eval j) h (ev_rel ht hv)
    exact ⟨u, fun w' => by simp [execOp, ho, hk, h1], h2⟩
  · rename_i T y j ho
    simp only [Option.bind_eq_some_iff] at h
    obtain ⟨v, hv, vj, hj, n, hn, h⟩ := h
    obtain ⟨k, hk⟩ := asI_inv hn (ev_rel ht hj)
    obtain ⟨u, h1, h2⟩ := idxA_sound (k := k) h (ev_rel ht hv)
    exact ⟨u, fun w' => by simp [execOp, ho, hk, h1], h2⟩
  · rename_i y j ho
    simp only [Option.bind_eq_some_iff] at h
    obtain ⟨v, hv, h⟩ := h
    split at h
    case h_2 => cases h
    rename_i vs
    have hx := ev_rel ht hv
    generalize hev : a.eval y = ve at hx
    cases hx with
    | tuple us _ hn hr =>
      have hlt : j < us.size := by rw [hn]; exact (List.getElem?_eq_some_iff.1 h).1
      refine ⟨us[j], fun w' => by simp [execOp, ho, hev, Instr.extract, hlt], hr j _ x (by simp [hlt]) h⟩
  · rename_i as ts ho
    split at h
    case h_2 => cases h
    rename_i v T hv hT
    have he := evs_rel ht hv
    obtain ⟨z, hz⟩ : ∃ z, as = #[z] := by
      have := he.1
      simp at this
      match as, this with
      | ⟨[z]⟩, _ => exact ⟨z, rfl⟩
    subst hz
    have hx : VRel w S m (a.eval z) v := he.2 0 _ v (by simp) rfl
    have hts : ts = #[T] := by
      apply Array.ext'
      simpa using hT
    have hex : ∀ w', (execOp a.eval o).run P w' = ((Builtin.len_ ts o.type #[a.eval z]).run P w').andThen fun v w'' => .ok (.value v) w'' := fun w' => by
      simp [execOp, ho, resolve, invoke, builtin]
    generalize hev : a.eval z = va at hx hex
    split at h
    · rename_i hi
      split at h
      · cases h
      rename_i hns
      simp only [Option.map_eq_some_iff] at h
      obtain ⟨n, hn, rfl⟩ := h
      refine ⟨.int .i64 n, fun w' => ?_, VRel.int_mk ..⟩
      rw [hex, hts]
      have : ∃ A c, va = .slice A n c := by
        unfold lenA at hn
        split at hn <;> simp at hn
        · exact absurd rfl (hns _)
        · subst hn
          cases hx with
          | fv _ _ hf => cases hf with | lst A n c es xs u ad hn => subst hn; exact ⟨A, c, rfl⟩
        · subst hn; obtain rfl := hx.nils_inv; exact ⟨none, 0, rfl⟩
        · subst hn
          cases hx with
          | ref => exact ⟨_, _, rfl⟩
          | refz => exact ⟨_, _, rfl⟩
      obtain ⟨A, c, rfl⟩ := this
      simp [Builtin.len_, ti_under hi, goInt]
    · rename_i hi
      split at h
      case h_2 => cases h
      rename_i s
      simp only [Option.some.injEq] at h; subst h
      obtain rfl := hx.str_inv
      refine ⟨.int .i64 s.length, fun w' => ?_, VRel.int_mk ..⟩
      rw [hex, hts]
      have hsz : (⟨s.toArray⟩ : ByteArray).size = s.length := by simp [ByteArray.size]
      simp only [Builtin.len_, List.getElem?_toArray, List.getElem?_cons_zero, Sem.run_bind, ti_under hi, Result.andThen_ok, Sem.run_pure, goInt, hsz]
    · cases h
  · rename_i as ts ho
    split at h
    case h_2 => cases h
    rename_i T hv hts
    split at h
    case h_2 => cases h
    rename_i hi
    simp only [Option.some.injEq] at h; subst h
    have he := evs_rel ht hv
    obtain ⟨z, hz⟩ : ∃ z, as = #[z] := by
      have := he.1
      simp at this
      match as, this with
      | ⟨[z]⟩, _ => exact ⟨z, rfl⟩
    subst hz
    have htsa : ts = #[T] := by apply Array.ext'; simpa using hts
    subst htsa
    have e1 := (he.2 0 (a.eval z) _ (by simp) rfl).nils_inv
    refine ⟨.int .i64 0, fun w' => ?_, VRel.int_mk ..⟩
    simp [execOp, ho, resolve, invoke, builtin, e1, Builtin.cap_, ti_under hi, goInt]
  · rename_i as _ ho
    split at h
    case h_2 => cases h
    rename_i k n k' n' hv
    split at h
    case isFalse => cases h
    rename_i hk; subst hk
    simp only [Option.some.injEq] at h; subst h
    have he := evs_rel ht hv
    obtain ⟨y, z, hz⟩ : ∃ y z, as = #[y, z] := by
      have := he.1
      simp at this
      match as, this with
      | ⟨[y, z]⟩, _ => exact ⟨y, z, rfl⟩
    subst hz
    have e1 := (he.2 0 (a.eval y) _ (by simp) rfl).int_inv
    have e2 := (he.2 1 (a.eval z) _ (by simp) rfl).int_inv
    refine ⟨_, fun w' => ?_, VRel.int_mk ..⟩
    simp [execOp, ho, resolve, invoke, builtin, e1, e2, Builtin.min_, Builtin.min2]
  · rename_i as _ ho
    split at h
    case h_2 => cases h
    rename_i k n k' n' hv
    split at h
    case isFalse => cases h
    rename_i hk; subst hk
    simp only [Option.some.injEq] at h; subst h
    have he := evs_rel ht hv
    obtain ⟨y, z, hz⟩ : ∃ y z, as = #[y, z] := by
      have := he.1
      simp at this
      match as, this with
      | ⟨[y, z]⟩, _ => exact ⟨y, z, rfl⟩
    subst hz
    have e1 := (he.2 0 (a.eval y) _ (by simp) rfl).int_inv
    have e2 := (he.2 1 (a.eval z) _ (by simp) rfl).int_inv
    refine ⟨_, fun w' => ?_, VRel.int_mk ..⟩
    simp [execOp, ho, resolve, invoke, builtin, e1, e2, Builtin.max_, Builtin.max2]
  · cases h
end
end Go.Abs
