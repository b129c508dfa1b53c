/- The weakest precondition of the abstract machine gives the model's. -/
import Derived.Test.YtckpaaeilbgiiaaAbsLd
import Derived.Deep.LoopGhost
namespace Go.Abs
set_option linter.unusedVariables false
set_option linter.unusedSimpArgs false

section
variable {P : Program} {w0 : World} {S0 : Nat → Prop} {m0 : List Loc} {w : World} {S : Nat → Prop} {m : List Loc} {a : Act} {st : St}

theorem eff_sound (hr : RelSM w0 S0 m0 w S m a st) {o : Oper} {v : AV} {h' : List Blk} {W : List Nat} (h : effA P st.t st.h o = some (v, h', W)) : EffOk P w0 S0 m0 w S m a st o v h' W := by
  unfold effA at h
  split at h
  · rename_i T ho
    split at h
    · rename_i sz d by_ z hT
      simp only [Option.some.injEq, Prod.mk.injEq] at h
      obtain ⟨rfl, rfl, rfl⟩ := h
      exact eff_alloc hr ho hT rfl
    · cases h
  · rename_i T x ho
    simp only [Option.bind_eq_some_iff, Option.map_eq_some_iff, Prod.mk.injEq] at h
    obtain ⟨u, hu, cs, hc, rfl, rfl, rfl⟩ := h
    exact eff_box hr ho hu hc
  · rename_i T ps ho
    simp only [Option.bind_eq_some_iff, Option.map_eq_some_iff, Prod.mk.injEq] at h
    obtain ⟨parts, hp, u, hb, rfl, rfl, rfl⟩ := h
    exact eff_build hr ho hp hb
  · rename_i T n ps ho
    split at h
    case h_2 => cases h
    rename_i e _ _ _ hT
    split at h
    case h_2 => cases h
    rename_i ie hie
    split at h
    case h_2 => cases h
    rename_i z hz
    split at h
    case isFalse => cases h
    rename_i hc
    simp only [Option.bind_eq_some_iff] at h
    obtain ⟨parts, hp, cs, hf, h⟩ := h
    split at h
    · rename_i fs hfs
      simp only [Option.some.injEq, Prod.mk.injEq] at h
      obtain ⟨rfl, rfl, rfl⟩ := h
      exact eff_buildSlice hr ho hT rfl hie hz hc.1 hc.2.1 hc.2.2 hp hf hfs
    · split at h <;> simp at h
      obtain ⟨rfl, rfl, rfl⟩ := h
      exact eff_buildSliceB hr ho hT rfl hie hz hc.1 hc.2.1 hc.2.2 hp hf
  · rename_i T x y ho
    simp only [Option.bind_eq_some_iff, Option.map_eq_some_iff, Prod.mk.injEq, Prod.exists] at h
    obtain ⟨i, hi, p, hp, u, hu, h1, id, hs, rfl, rfl, rfl⟩ := h
    exact eff_store hr ho hi hp hu hs
  · rename_i T l c ho
    split at h
    case h_2 => cases h
    rename_i e _ _ _ hT
    split at h
    case h_2 => cases h
    rename_i ie hie
    split at h
    case h_2 => cases h
    rename_i z hz
    simp only [Option.bind_eq_some_iff] at h
    obtain ⟨x, hx, n, hn, y, hy, k, hk, h⟩ := h
    split at h
    case isFalse => cases h
    rename_i hc
    simp only [Option.some.injEq, Prod.mk.injEq] at h
    obtain ⟨rfl, rfl, rfl⟩ := h
    exact eff_makeSlice hr ho hT rfl hie hz hx hy hn hk hc.1 hc.2.1 hc.2.2.1 hc.2.2.2.1 hc.2.2.2.2.1 hc.2.2.2.2.2
  · rename_i as ts ho
    split at h
    case h_2 => cases h
    rename_i s x T U hv hts
    split at h
    case h_2 => cases h
    rename_i e _ _ _ iu hT hU
    split at h
    case h_2 => cases h
    rename_i ie hie
    split at h
    case isFalse => cases h
    rename_i hc
    split at h
    · rename_i n hz
      simp only [Option.bind_eq_some_iff] at h
      obtain ⟨z, hzz, ha⟩ := h
      have hzl : z.length = ie.size := by have := hc.2.2; rw [hzz] at this; simpa using this
      exact eff_zeros hr ho hv hts hT rfl hU hie hc.1 hc.2.1 hzz hzl hz ha
    · split at h
      · simp only [Option.bind_eq_some_iff] at h
        obtain ⟨ys, hs, ha⟩ := h
        exact eff_appendB hr ho hv hts hT rfl hU hie hc.1 hc.2.1 hc.2.2 hs ha
      · simp only [Option.bind_eq_some_iff] at h
        obtain ⟨ys, hs, ha⟩ := h
        exact eff_append hr ho hv hts hT rfl hU hie hc.1 hc.2.1 hc.2.2 hs ha
  · rename_i as ts ho
    split at h
    case h_2 => cases h
    rename_i s T hv hts
    split at h
    case h_2 => cases h
    rename_i e _ _ _ hT
    split at h
    case h_2 => cases h
    rename_i ie hie
    split at h
    case h_2 => cases h
    rename_i z hz
    split at h
    case isFalse => cases h
    rename_i hc
    exact eff_clear hr ho hv hts hT rfl hie hc.1 hz hc.2 h
  · rename_i s u x ho
    split at h
    case h_2 => cases h
    rename_i e _ _ _ _ _ _ hs hu
    split at h
    case h_2 => cases h
    rename_i ie hie
    split at h
    case isTrue => cases h
    rename_i hne
    simp only [Option.bind_eq_some_iff, Option.map_eq_some_iff, Prod.mk.injEq] at h
    obtain ⟨u, hu', c, hc, rfl, rfl, rfl⟩ := h
    exact eff_unsafe hr ho hs rfl hu rfl hie hne hu' hc
  · rename_i x X A ok ho
    split at h
    case h_2 => cases h
    rename_i i hi
    split at h
    case h_1 => cases h
    rename_i hni
    simp only [Option.bind_eq_some_iff, Option.map_eq_some_iff, Prod.mk.injEq] at h
    obtain ⟨u, hu, r, ha, rfl, rfl, rfl⟩ := h
    exact eff_assert hr ho hi (fun ms e => hni ms e) hu ha
  · rename_i T ho
    simp only [Option.some.injEq, Prod.mk.injEq] at h
    obtain ⟨rfl, rfl, rfl⟩ := h
    exact eff_makeMap hr ho
  · rename_i X x k ok ho
    split at h
    case h_2 => cases h
    rename_i K E _ _ _ hX
    split at h
    case h_2 => cases h
    rename_i ik _ hK _
    simp only [Option.bind_eq_some_iff] at h
    obtain ⟨mv, hmv, kv, hkv, h⟩ := h
    split at h
    case h_2 => cases h
    rename_i kf
    split at h
    case isFalse => cases h
    rename_i hkd
    simp only [Option.bind_eq_some_iff, Option.map_eq_some_iff, Prod.mk.injEq] at h
    obtain ⟨es, hes, r, hf, u, hl, rfl, rfl, rfl⟩ := h
    exact eff_lookup hr ho hX rfl hK hmv hkv hkd hes hf hl
  · rename_i X x k y ho
    split at h
    case h_2 => cases h
    rename_i K E _ _ _ hX
    split at h
    case h_2 => cases h
    rename_i ik hK
    simp only [Option.bind_eq_some_iff] at h
    obtain ⟨mv, hmv, kv, hkv, u, hy, h⟩ := h
    split at h
    case h_2 => cases h
    rename_i id kf
    split at h
    case h_2 => cases h
    rename_i es hid
    split at h
    case isFalse => cases h
    rename_i hkd
    simp only [Option.map_eq_some_iff, Prod.mk.injEq] at h
    obtain ⟨r, hf, rfl, rfl, rfl⟩ := h
    exact eff_mapUpdate hr ho hX rfl hK hmv hkv hy hkd hid hf
  · cases h

theorem LRel.set {vs : Array Value} {xs : List AV} (h : LRel w S m vs.toList xs) {v : Value} {x : AV} (hv : VRel w S m v x) (d : Nat) : LRel w S m (vs.setIfInBounds d v).toList (xs.set d x) := by
  refine ⟨by simpa using h.1, fun i u y hu hy => ?_⟩
  simp only [Array.getElem?_toList, Array.getElem?_setIfInBounds] at hu
  rw [List.getElem?_set] at hy
  split at hu
  · rename_i e
    subst e
    simp only [if_true] at hy
    split at hy <;> simp at hy
    subst hy
    split at hu <;> simp at hu
    subst hu
    exact hv
  · rename_i hne
    simp only [hne, if_false] at hy
    exact h.2 i u y (by simpa using hu) hy
theorem RelSM.put (h : RelSM w0 S0 m0 w S m a st) {v : Value} {x : AV} (hv : VRel w S m v x) (dst : Option Tmp) : RelSM w0 S0 m0 w S m (a.put dst v) (st.put dst x) := by
  cases dst with
  | none => exact h
  | some d => exact ⟨h.heap, h.tmps.set hv d, h.defs, h.fr⟩

/-- A state in which nothing is known of some slots. -/
theorem forget_get (ops : List Oper) : ∀ (t : List AV) (i : Nat) (x : AV), (ops.foldl (fun t o => match o.dst with | some d => t.set d .any | none => t) t)[i]? = some x → x = .any ∨ t[i]? = some x := by
  induction ops with
  | nil => intro t i x h; exact .inr h
  | cons o ops ih =>
    intro t i x h
    simp only [List.foldl_cons] at h
    rcases ih _ i x h with h1 | h1
    · exact .inl h1
    · cases hd : o.dst with
      | none => simp [hd] at h1; exact .inr h1
      | some d =>
        simp only [hd] at h1
        rw [List.getElem?_set] at h1
        split at h1
        · split at h1 <;> simp at h1; exact .inl h1.symm
        · exact .inr h1
theorem forget_length (ops : List Oper) : ∀ (t : List AV), (ops.foldl (fun t o => match o.dst with | some d => t.set d .any | none => t) t).length = t.length := by
  induction ops with
  | nil => intro t; rfl
  | cons o ops ih =>
    intro t
    simp only [List.foldl_cons]
    rw [ih]
    cases o.dst <;> simp
theorem forget_dst (ops : List Oper) : ∀ (t : List AV) (d : Nat) (x : AV), (∃ o ∈ ops, o.dst = some d) → (ops.foldl (fun t o => match o.dst with | some d => t.set d .any | none => t) t)[d]? = some x → x = .any := by
  induction ops with
  | nil => intro t d x h; obtain ⟨o, ho, _⟩ := h; cases ho
  | cons o ops ih =>
    intro t d x h hx
    simp only [List.foldl_cons] at hx
    by_cases h1 : ∃ o ∈ ops, o.dst = some d
    · exact ih _ d x h1 hx
    · have : o.dst = some d := by
        obtain ⟨o', ho', hd⟩ := h
        rcases List.mem_cons.1 ho' with e | e
        · exact e ▸ hd
        · exact absurd ⟨o', e, hd⟩ h1
      simp only [this] at hx
      rcases forget_get ops _ d x hx with h2 | h2
      · exact h2
      · rw [List.getElem?_set] at h2
        simp only [if_true] at h2
        split at h2 <;> simp at h2
        exact h2.symm
theorem RelSM.forget (h : RelSM w0 S0 m0 w S m a st) (ops : Array Oper) : RelSM w0 S0 m0 w S m a (forget ops st) :=
  ⟨h.heap, ⟨h.tmps.1.trans (forget_length ops.toList st.t).symm, fun i v x hv hx => by
    rcases forget_get _ _ i x hx with rfl | h1
    · exact .any _
    · exact h.tmps.2 i v x hv h1⟩, h.defs, h.fr⟩
theorem RelSM.unput {ops : Array Oper} {o : Oper} (ho : o ∈ ops) {v : Value} (h : RelSM w0 S0 m0 w S m (a.put o.dst v) (Abs.forget ops st)) : RelSM w0 S0 m0 w S m a (Abs.forget ops st) := by
  cases hd : o.dst with
  | none => rw [hd] at h; exact h
  | some d =>
    rw [hd] at h
    refine ⟨h.heap, ⟨by have := h.tmps.1; simpa [Act.put] using this, fun i u x hu hx => ?_⟩, h.defs, h.fr⟩
    by_cases e : i = d
    · subst e
      have := forget_dst ops.toList st.t i x ⟨o, by simpa using ho, hd⟩ hx
      subst this
      exact .any _
    · refine h.tmps.2 i u x ?_ hx
      simp only [Act.put, Array.getElem?_toList, Array.getElem?_setIfInBounds]
      simp only [Array.getElem?_toList] at hu
      simp [Ne.symm e, hu]

/-- Guards. -/
theorem gd_sound (hr : RelSM w0 S0 m0 w S m a st) {ops : Array Oper} {o : Oper} {y n : Prop} (h : gd ops o st.t y n) :
    (Region.wanted o (yielded ops a.tmps) = true ∧ y) ∨ (Region.wanted o (yielded ops a.tmps) = false ∧ n) := by
  unfold gd at h
  unfold Region.wanted
  cases hg : o.guard with
  | none => simp only [hg] at h; exact .inl ⟨rfl, h⟩
  | some jw =>
    obtain ⟨j, want⟩ := jw
    simp only [hg] at h
    cases hgv : gval ops st.t j with
    | none => simp [hgv, bO] at h
    | some g =>
      simp only [hgv, bO] at h
      have hy : yielded ops a.tmps j = g := by
        unfold gval at hgv
        unfold yielded
        cases ho : ops[j]? with
        | none => simp [ho] at hgv; subst hgv; simp
        | some o' =>
          simp only [ho] at hgv
          cases hd : o'.dst with
          | none => simp [hd] at hgv; subst hgv; simp [hd]
          | some d =>
            simp only [hd] at hgv
            have hrel := hr.tmps.get d
            split at hgv <;> simp at hgv
            · rename_i b hb
              subst hgv
              rw [hb] at hrel
              have := hrel.bool_inv
              have hsome : a.tmps[d]? = some (.bool b) := by
                cases hx : a.tmps[d]? with
                | none => simp [Array.getD_eq_getD_getElem?, hx, undef] at this
                | some u => simp [Array.getD_eq_getD_getElem?, hx] at this; rw [this]
              simp [hd, hsome]
            · rename_i hb
              subst hgv
              rw [hb] at hrel
              have : a.tmps.getD d undef = undef := by
                generalize a.tmps.getD d undef = z at hrel
                cases hrel; rfl
              cases hx : a.tmps[d]? with
              | none => simp [hd, hx]
              | some u =>
                simp [Array.getD_eq_getD_getElem?, hx] at this
                subst this
                simp [hd, hx, undef]
      simp only [hy]
      split at h
      · rename_i e; subst e; exact .inl ⟨by simp, h⟩
      · rename_i e; exact .inr ⟨by simpa using e, h⟩

/-- What an operation's end says of what is held. -/
def Kept (w : World) (m : List Loc) (h : List Blk) (hs : Held) (i : Nat) (w' : World) (h' : List Blk) : Prop :=
  ∀ (id : Nat) (deps : List Nat), (id, deps) ∈ hs → deps.contains i = false →
    (∀ (b o : Nat) (k : Blk), m[id]? = some (some (b, o)) → h[id]? = some k → k.live = true → w'.heap[b]? = w.heap[b]?) ∧ (id < h.length → h'[id]? = h[id]?)

theorem Held.kept {hs : Held} {i : Nat} {W : List Nat} (h : hs.ok i W = true) {w' : World} {hp hp' : List Blk}
    (hk : ∀ (j b o : Nat) (k : Blk), j ∉ W → m[j]? = some (some (b, o)) → hp[j]? = some k → k.live = true → w'.heap[b]? = w.heap[b]?)
    (hh : ∀ i, i ∉ W → i < hp.length → hp'[i]? = hp[i]?) : Kept w m hp hs i w' hp' := by
  intro id deps hm hd
  unfold Held.ok at h
  have := List.all_eq_true.1 h _ hm
  simp only [hd, Bool.false_or, Bool.not_eq_true'] at this
  exact ⟨fun b o k h1 h2 h3 => hk id b o k (by simpa using this) h1 h2 h3, hh id (by simpa using this)⟩
theorem Kept.refl (w : World) (m : List Loc) (h : List Blk) (hs : Held) (i : Nat) : Kept w m h hs i w h := fun _ _ _ _ => ⟨fun _ _ _ _ _ _ => rfl, fun _ => rfl⟩

theorem Oper.wp_mono2 {o : Oper} {next next' : Act → World → Prop} {Q Q' : Exit → Act → World → Prop} (h : o.wp P a w next Q) (h1 : ∀ a w, next a w → next' a w) (h2 : ∀ c a w, Q (.panic c) a w → Q' (.panic c) a w)
    (h3 : LetsOut Q → LetsOut Q') : o.wp P a w next' Q' := by
  unfold Oper.wp at *
  generalize (execOp a.eval o).run P w = r at *
  cases r with
  | ok n w' =>
    cases n <;> simp only [Oper.upon] at h ⊢ <;>
      first
        | exact h1 _ _ h
        | exact Calls.mono h (fun e w'' he => by cases e <;> first | exact h1 _ _ he | exact h2 _ _ _ he | exact h3 he)
        | exact Rows.mono h (fun _ _ he => h1 _ _ he)
  | halt x w' => cases x <;> simp only [Oper.upon] at h ⊢ <;> exact h2 _ _ _ h

theorem enter_run {f : FuncId} (he : Enter P f) (args : Array Value) (w : World) : (callFunc f args).run P w = .ok (.enter f args) w := by
  obtain ⟨fn, h1, h2, h3⟩ := he
  simp only [callFunc, Sem.run_bind, run_program, Result.andThen_ok, h1, h2, Bool.false_eq_true, if_false, h3, Sem.run_pure]

/-- An operation. -/
theorem op_sound (hG : GOk P w0 S0) (hr : RelSM w0 S0 m0 w S m a st) {hs : Held} {i : Nat} {o : Oper} {K X : AV → St → Prop} (h : awpOp P hs i o st K X) (dst : Option Tmp) (hdst : o.dst = dst) :
    o.wp P a w (fun a' w' => ∃ S' m' v s, K v s ∧ RelSM w0 S0 m0 w' S' m' a' (s.put dst v) ∧ Kept w m st.h hs i w' s.h)
      (fun e a' w' => ∃ S' m' v s u, e = .panic [{ v := u, recovered := false }] ∧ VRel w' S' m' u v ∧ X v s ∧ RelSM w0 S0 m0 w' S' m' a' s) := by
  subst hdst
  have pureCase : ∀ {v : AV}, pureA P st.t o = some v → K v st → o.wp P a w (fun a' w' => ∃ S' m' v s, K v s ∧ RelSM w0 S0 m0 w' S' m' a' (s.put o.dst v) ∧ Kept w m st.h hs i w' s.h)
      (fun e a' w' => ∃ S' m' v s u, e = .panic [{ v := u, recovered := false }] ∧ VRel w' S' m' u v ∧ X v s ∧ RelSM w0 S0 m0 w' S' m' a' s) := by
    intro v hp hk
    obtain ⟨u, h1, h2⟩ := pure_sound hr.tmps hp
    exact wp_value (h1 w) _ _ ⟨S, m, v, st, hk, hr.put h2 _, Kept.refl _ _ _ _ _⟩
  unfold awpOp at h
  split at h
  · rename_i c x y ho
    cases hc : ev st.t c with
    | none => simp [hc, bO] at h
    | some cv =>
      simp only [hc, bO] at h
      obtain ⟨b, hcb, h⟩ := bB_inv h (ev_rel hr.tmps hc)
      cases hx : ev st.t x with
      | none => simp [hx, bO] at h
      | some vx =>
        simp only [hx, bO] at h
        cases hy : ev st.t y with
        | none => simp [hy, bO] at h
        | some vy =>
          simp only [hy, bO] at h
          have hrun : (execOp a.eval o).run P w = .ok (.value (if b then a.eval x else a.eval y)) w := by
            simp [execOp, ho, hcb, asBool]
          cases b with
          | true => exact wp_value hrun _ _ ⟨S, m, vx, st, by simpa using h, hr.put (by simpa using ev_rel hr.tmps hx) _, Kept.refl _ _ _ _ _⟩
          | false => exact wp_value hrun _ _ ⟨S, m, vy, st, by simpa using h, hr.put (by simpa using ev_rel hr.tmps hy) _, Kept.refl _ _ _ _ _⟩
  · rename_i x ho
    cases hx : ev st.t x with
    | none => simp [hx, bO] at h
    | some v =>
      simp only [hx, bO] at h
      split at h
      case h_2 => exact h.elim
      rename_i t y
      have hv := ev_rel hr.tmps hx
      generalize hax : a.eval x = ax at hv
      cases hv with
      | iface _ u _ hu =>
        have hrun : (execOp a.eval o).run P w = .halt (.panic (.iface t u)) w := by simp [execOp, ho, hax, Instr.panic]
        simp only [Oper.wp, hrun, Oper.upon]
        exact ⟨S, m, _, st, _, rfl, .iface t u y hu, h, hr⟩
  · rename_i c ho
    split at h
    case h_2 => exact h.elim
    rename_i f hcal
    split at h
    case h_2 => exact h.elim
    rename_i fid caps as hf has
    have hfv := ev_rel hr.tmps hf
    have hav := evs_rel hr.tmps has
    generalize haf : a.eval f = af at hfv
    cases hfv with
    | func _ vs _ hn hcaps =>
      have hrun : (execOp a.eval o).run P w = .ok (.defer { target := .fn (.func fid) vs, args := #[] ++ c.args.map a.eval }) w := by
        simp [execOp, ho, resolve, hcal, haf, Deferred.ofValue]
      simp only [Oper.wp, hrun, Oper.upon]
      refine ⟨S, m, .undef, _, h, RelSM.put (a := { a with defers := _ :: a.defers }) (st := { st with d := _ :: st.d }) ⟨hr.heap, hr.tmps, ?_, hr.fr⟩ .undef o.dst, Kept.refl _ _ _ _ _⟩
      refine ⟨by simp [hr.defs.1], fun i df x hd hx => ?_⟩
      cases i with
      | zero =>
        simp at hd hx
        subst hd; subst hx
        exact ⟨vs, rfl, by simpa using hav, by simpa using hn, fun i v x hv hx => hcaps i v x (by simpa using hv) hx⟩
      | succ i => exact hr.defs.2 i df x (by simpa using hd) (by simpa using hx)
  · rename_i f as ts ho
    cases hc : callee st.t { callee := .value f, args := as, argTypes := ts } with
    | none => simp [hc, bO] at h
    | some fa =>
      obtain ⟨fid, args⟩ := fa
      simp only [hc, bO] at h
      unfold callee at hc
      simp only at hc
      split at hc <;> simp at hc
      rename_i fid' caps as' hf has
      obtain ⟨rfl, rfl⟩ := hc
      have hfv := ev_rel hr.tmps hf
      have hav := evs_rel hr.tmps has
      obtain ⟨W, out, st', ⟨hhsame, hcall⟩, hok, hout⟩ := h
      generalize haf : a.eval f = af at hfv
      cases hfv with
      | func _ vs _ hn hcaps =>
        have hargs : LRel w S m ((as.toList.map a.eval) ++ vs.toList) (as' ++ caps) := by
          refine ⟨by rw [List.length_append, List.length_append, hav.1]; simp [hn], fun i v x hv hx => ?_⟩
          have hl := hav.1
          rw [List.getElem?_append] at hv hx
          rw [hl] at hv
          split at hv
          · rename_i hlt; simp only [hlt, if_true] at hx; exact hav.2 i v x hv hx
          · rename_i hlt; simp only [hlt, if_false] at hx; exact hcaps _ v x (by simpa using hv) hx
        have e : (as.map a.eval ++ vs) = ((as.toList.map a.eval) ++ vs.toList).toArray := by apply Array.ext'; simp
        have hrun : ∀ r, (callFunc fid' ((as.toList.map a.eval) ++ vs.toList).toArray).run P w = r → (execOp a.eval o).run P w = r := fun r hr => by
          simp only [execOp, ho, resolve, haf, Deferred.ofValue, Sem.run_bind, Sem.run_pure, Result.andThen_ok, invoke, Array.empty_append, e]
          exact hr
        rcases hcall w0 S0 m0 w S m a _ hG hr hargs with ⟨hent, hcall⟩ | ⟨v, w', hcf, S', m', hr', ho', hkeep⟩
        · simp only [Oper.wp, hrun _ (enter_run hent _ w), Oper.upon]
          refine hcall.mono fun e w' he => ?_
          obtain ⟨S', m', hr', ho', hkeep⟩ := he
          cases e with
          | returned v =>
            cases out with
            | ret x => exact ⟨S', m', x, st', hout, hr'.put ho' _, Held.kept hok hkeep hhsame⟩
            | pan x => exact ho'.elim
          | panicked c =>
            cases out with
            | ret x => exact ho'.elim
            | pan x =>
              obtain ⟨v, rfl, hv⟩ := ho'
              exact ⟨S', m', x, st', v, rfl, hv, hout, hr'⟩
          | outgrown => exact ho'.elim
        · simp only [Oper.wp, hrun _ hcf, Oper.upon]
          cases out with
          | ret x => exact ⟨S', m', x, st', hout, hr'.put ho' _, Held.kept hok hkeep hhsame⟩
          | pan x => exact ho'.elim
  · split at h
    · rename_i v hp
      exact pureCase hp h
    · split at h
      · rename_i v id hrd
        obtain ⟨u, b, h1, h2, _⟩ := read_sound (P := P) (hG.fr hr.fr) hr.heap hr.tmps hrd
        exact wp_value (h2 w rfl) _ _ ⟨S, m, v, st, h, hr.put h1 _, Kept.refl _ _ _ _ _⟩
      · cases he : effA P st.t st.h o with
        | none => simp [he, bO] at h
        | some vhw =>
          obtain ⟨v, h', W⟩ := vhw
          simp only [he, bO] at h
          obtain ⟨hok, hk⟩ := h
          obtain ⟨ve, w', m', h1, h2, h3, h4, h5⟩ := eff_sound hr he
          exact h1 _ _ ⟨S, m', v, _, hk, h2.put h3 _, Held.kept hok h4 h5⟩
end
end Go.Abs
