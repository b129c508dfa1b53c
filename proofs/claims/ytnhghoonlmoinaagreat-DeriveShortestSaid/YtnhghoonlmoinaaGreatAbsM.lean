/- The weakest precondition of the abstract machine gives the model's. -/
import Derived.Test.YtnhghoonlmoinaaGreatAbsLb
import Derived.Deep.LoopGhost
namespace Go.Abs
variable [Kn]
set_option linter.unusedSectionVars false
set_option linter.unusedVariables false
set_option linter.unusedSimpArgs false
section
variable {P : Program} {w0 : World} {S0 : Nat → Prop} {m0 : List Loc} {w : World} {S : Nat → Prop} {m : List Loc} {a : Act} {st : St}
theorem eff_sound (hr : RelSM w0 S0 m0 w S m a st) {o : Oper} {v : AV} {h' : List Blk} {W : List Nat} (h : effA P st.t st.h o = some (v,h',W)) : EffOk P w0 S0 m0 w S m a st o v h' W := by
 unfold effA at h
 split at h
 ·rename_i T ho
  split at h
  ·rename_i sz d by_ z hT
   simp only [Option.some.injEq,Prod.mk.injEq] at h
   obtain ⟨rfl,rfl,rfl⟩ := h
   exact eff_alloc hr ho hT rfl
  ·cases h
 ·rename_i T x ho
  simp only [Option.bind_eq_some_iff,Option.map_eq_some_iff,Prod.mk.injEq] at h
  obtain ⟨u,hu,cs,hc,rfl,rfl,rfl⟩ := h
  exact eff_box hr ho hu hc
 ·rename_i T ps ho
  simp only [Option.bind_eq_some_iff,Option.map_eq_some_iff,Prod.mk.injEq] at h
  obtain ⟨parts,hp,u,hb,rfl,rfl,rfl⟩ := h
  exact eff_build hr ho hp hb
 ·rename_i T n ps ho
  split at h
  case h_2 => cases h
  rename_i e _ _ _ hT
  split at h
  case h_2 => cases h
  rename_i ie hie
  split at h
  case h_2 => cases h
  rename_i z hz
  split at h
  case isFalse => cases h
  rename_i hc
  simp only [Option.bind_eq_some_iff] at h
  obtain ⟨parts,hp,cs,hf,h⟩ := h
  split at h
  ·rename_i fs hfs
   simp only [Option.some.injEq,Prod.mk.injEq] at h
   obtain ⟨rfl,rfl,rfl⟩ := h
   exact eff_buildSlice hr ho hT rfl hie hz hc.1 hc.2.1 hc.2.2 hp hf hfs
  ·split at h <;> simp at h
   obtain ⟨rfl,rfl,rfl⟩ := h
   exact eff_buildSliceB hr ho hT rfl hie hz hc.1 hc.2.1 hc.2.2 hp hf
 ·rename_i T x y ho
  simp only [Option.bind_eq_some_iff,Option.map_eq_some_iff,Prod.mk.injEq,Prod.exists] at h
  obtain ⟨i,hi,p,hp,u,hu,h1,id,hs,rfl,rfl,rfl⟩ := h
  exact eff_store hr ho hi hp hu hs
 ·rename_i T l c ho
  split at h
  case h_2 => cases h
  rename_i e _ _ _ hT
  split at h
  case h_2 => cases h
  rename_i ie hie
  split at h
  case h_2 => cases h
  rename_i z hz
  simp only [Option.bind_eq_some_iff] at h
  obtain ⟨x,hx,n,hn,y,hy,k,hk,h⟩ := h
  split at h
  case isFalse => cases h
  rename_i hc
  simp only [Option.some.injEq,Prod.mk.injEq] at h
  obtain ⟨rfl,rfl,rfl⟩ := h
  exact eff_makeSlice hr ho hT rfl hie hz hx hy hn hk hc.1 hc.2.1 hc.2.2.1 hc.2.2.2.1 hc.2.2.2.2.1 hc.2.2.2.2.2
 ·rename_i as ts ho
  split at h
  case h_2 => cases h
  rename_i s x T U hv hts
  split at h
  case h_2 => cases h
  rename_i e _ _ _ iu hT hU
  split at h
  case h_2 => cases h
  rename_i ie hie
  split at h
  case isFalse => cases h
  rename_i hc
  split at h
  ·rename_i n hz
   simp only [Option.bind_eq_some_iff] at h
   obtain ⟨z,hzz,ha⟩ := h
   have hzl : z.length = ie.size := by have := hc.2.2; rw [hzz] at this; simpa using this
   exact eff_zeros hr ho hv hts hT rfl hU hie hc.1 hc.2.1 hzz hzl hz ha
  ·split at h
   ·simp only [Option.bind_eq_some_iff] at h
    obtain ⟨ys,hs,ha⟩ := h
    exact eff_appendB hr ho hv hts hT rfl hU hie hc.1 hc.2.1 hc.2.2 hs ha
   ·simp only [Option.bind_eq_some_iff] at h
    obtain ⟨ys,hs,ha⟩ := h
    exact eff_append hr ho hv hts hT rfl hU hie hc.1 hc.2.1 hc.2.2 hs ha
 ·rename_i as ts ho
  split at h
  case h_2 => cases h
  rename_i s T hv hts
  split at h
  case h_2 => cases h
  rename_i e _ _ _ hT
  split at h
  case h_2 => cases h
  rename_i ie hie
  split at h
  case h_2 => cases h
  rename_i z hz
  split at h
  case isFalse => cases h
  rename_i hc
  exact eff_clear hr ho hv hts hT rfl hie hc.1 hz hc.2 h
 ·rename_i as ts ho
  split at h
  case h_2 => cases h
  rename_i s x T U hv hts
  split at h
  case h_2 => cases h
  rename_i e _ _ _ iu hT hU
  split at h
  case h_2 => cases h
  rename_i ie hie
  split at h
  case isFalse => cases h
  rename_i hc
  exact eff_copy hr ho hv hts hT rfl hU hie hc h
 ·rename_i s u x ho
  split at h
  case h_3 => cases h
  ·rename_i e _ _ _ _ _ _ hs hu
   split at h
   case h_2 => cases h
   rename_i ie hie
   split at h
   case isTrue => cases h
   rename_i hne
   simp only [Option.bind_eq_some_iff,Option.map_eq_some_iff,Prod.mk.injEq] at h
   obtain ⟨u,hu',c,hc,rfl,rfl,rfl⟩ := h
   exact eff_unsafe hr ho hs rfl hu rfl hie hne hu' hc
  ·rename_i e n1 n2 z _ _ _ hs hu
   split at h
   case h_2 => cases h
   rename_i _ _ _ hie
   simp only [Option.bind_eq_some_iff,Option.map_eq_some_iff,Prod.mk.injEq] at h
   obtain ⟨x',hx,ys,hys,bs,hb,rfl,rfl,rfl⟩ := h
   exact eff_bytes hr ho hs rfl hu rfl hie rfl hx hys hb
 ·rename_i x X A ok ho
  split at h
  case h_2 => cases h
  rename_i i hi
  split at h
  case h_1 => cases h
  rename_i hni
  simp only [Option.bind_eq_some_iff,Option.map_eq_some_iff,Prod.mk.injEq] at h
  obtain ⟨u,hu,r,ha,rfl,rfl,rfl⟩ := h
  exact eff_assert hr ho hi (fun ms e => hni ms e) hu ha
 ·rename_i T ho
  simp only [Option.some.injEq,Prod.mk.injEq] at h
  obtain ⟨rfl,rfl,rfl⟩ := h
  exact eff_makeMap hr ho
 ·rename_i X x k ok ho
  split at h
  case h_2 => cases h
  rename_i K E _ _ _ hX
  split at h
  case h_2 => cases h
  rename_i ik _ hK _
  simp only [Option.bind_eq_some_iff] at h
  obtain ⟨mv,hmv,kv,hkv,h⟩ := h
  split at h
  case h_2 => cases h
  rename_i kf
  split at h
  case isFalse => cases h
  rename_i hkd
  simp only [Option.bind_eq_some_iff,Option.map_eq_some_iff,Prod.mk.injEq] at h
  obtain ⟨es,hes,r,hf,u,hl,rfl,rfl,rfl⟩ := h
  exact eff_lookup hr ho hX rfl hK hmv hkv hkd hes hf hl
 ·rename_i X x k y ho
  split at h
  case h_2 => cases h
  rename_i K E _ _ _ hX
  split at h
  case h_2 => cases h
  rename_i ik hK
  simp only [Option.bind_eq_some_iff] at h
  obtain ⟨mv,hmv,kv,hkv,u,hy,h⟩ := h
  split at h
  case h_2 => cases h
  rename_i id kf
  split at h
  case h_2 => cases h
  rename_i es hid
  split at h
  case isFalse => cases h
  rename_i hkd
  simp only [Option.map_eq_some_iff,Prod.mk.injEq] at h
  obtain ⟨r,hf,rfl,rfl,rfl⟩ := h
  exact eff_mapUpdate hr (.inl ho) hX rfl hK hmv hkv hy hkd hid hf
 ·rename_i X x k y ho
  split at h
  case h_2 => cases h
  rename_i K E _ _ _ hX
  split at h
  case h_2 => cases h
  rename_i ik hK
  simp only [Option.bind_eq_some_iff] at h
  obtain ⟨mv,hmv,kv,hkv,u,hy,h⟩ := h
  split at h
  case h_2 => cases h
  rename_i id kf
  split at h
  case h_2 => cases h
  rename_i es hid
  split at h
  case isFalse => cases h
  rename_i hkd
  simp only [Option.map_eq_some_iff,Prod.mk.injEq] at h
  obtain ⟨r,hf,rfl,rfl,rfl⟩ := h
  exact eff_mapUpdate hr (.inr ho) hX rfl hK hmv hkv hy hkd hid hf
 ·cases h
theorem LRel.set {vs : Array Value} {xs : List AV} (h : LRel w S m vs.toList xs) {v : Value} {x : AV} (hv : VRel w S m v x) (d : Nat) : LRel w S m (vs.setIfInBounds d v).toList (xs.set d x) := by
 refine ⟨by simpa using h.1,fun i u y hu hy => ?_⟩
 simp only [Array.getElem?_toList,Array.getElem?_setIfInBounds] at hu
 rw [List.getElem?_set] at hy
 split at hu
 ·rename_i e
  subst e
  simp only [if_true] at hy
  split at hy <;> simp at hy
  subst hy
  split at hu <;> simp at hu
  subst hu
  exact hv
 ·rename_i hne
  simp only [hne,if_false] at hy
  exact h.2 i u y (by simpa using hu) hy
theorem RelSM.put (h : RelSM w0 S0 m0 w S m a st) {v : Value} {x : AV} (hv : VRel w S m v x) (dst : Option Tmp) : RelSM w0 S0 m0 w S m (a.put dst v) (st.put dst x) := by
 cases dst with
 | none => exact h
 | some d => exact ⟨h.heap,h.tmps.set hv d,h.defs,h.fr⟩
/-- A state in which nothing is known of some slots. -/
theorem forget_get (ops : List Oper) : ∀ (t : List AV) (i : Nat) (x : AV),(ops.foldl (fun t o => match o.dst with | some d => t.set d .any | none => t) t)[i]? = some x → x = .any ∨ t[i]? = some x := by
 induction ops with
 | nil => intro t i x h; exact .inr h
 | cons o ops ih =>
  intro t i x h
  simp only [List.foldl_cons] at h
  rcases ih _ i x h with h1 | h1
  ·exact .inl h1
  ·cases hd : o.dst with
   | none => simp [hd] at h1; exact .inr h1
   | some d =>
    simp only [hd] at h1
    rw [List.getElem?_set] at h1
    split at h1
    ·split at h1 <;> simp at h1; exact .inl h1.symm
    ·exact .inr h1
theorem forget_length (ops : List Oper) : ∀ (t : List AV),(ops.foldl (fun t o => match o.dst with | some d => t.set d .any | none => t) t).length = t.length := by
 induction ops with
 | nil => intro t; rfl
 | cons o ops ih =>
  intro t
  simp only [List.foldl_cons]
  rw [ih]
  cases o.dst <;> simp
theorem forget_dst (ops : List Oper) : ∀ (t : List AV) (d : Nat) (x : AV),(∃ o ∈ ops,o.dst = some d) → (ops.foldl (fun t o => match o.dst with | some d => t.set d .any | none => t) t)[d]? = some x → x = .any := by
 induction ops with
 | nil => intro t d x h; obtain ⟨o,ho,_⟩ := h; cases ho
 | cons o ops ih =>
  intro t d x h hx
  simp only [List.foldl_cons] at hx
  by_cases h1 : ∃ o ∈ ops,o.dst = some d
  ·exact ih _ d x h1 hx
  ·have : o.dst = some d := by
    obtain ⟨o',ho',hd⟩ := h
    rcases List.mem_cons.1 ho' with e | e
    ·exact e ▸ hd
    ·exact absurd ⟨o',e,hd⟩ h1
   simp only [this] at hx
   rcases forget_get ops _ d x hx with h2 | h2
   ·exact h2
   ·rw [List.getElem?_set] at h2
    simp only [if_true] at h2
    split at h2 <;> simp at h2
    exact h2.symm
theorem RelSM.forget (h : RelSM w0 S0 m0 w S m a st) (ops : Array Oper) : RelSM w0 S0 m0 w S m a (forget ops st) :=
 ⟨h.heap,⟨h.tmps.1.trans (forget_length ops.toList st.t).symm,fun i v x hv hx => by
  rcases forget_get _ _ i x hx with rfl | h1
  ·exact .any _
  ·exact h.tmps.2 i v x hv h1⟩,h.defs,h.fr⟩
theorem RelSM.unput {ops : Array Oper} {o : Oper} (ho : o ∈ ops) {v : Value} (h : RelSM w0 S0 m0 w S m (a.put o.dst v) (Abs.forget ops st)) : RelSM w0 S0 m0 w S m a (Abs.forget ops st) := by
 cases hd : o.dst with
 | none => rw [hd] at h; exact h
 | some d =>
  rw [hd] at h
  refine ⟨h.heap,⟨by have := h.tmps.1; simpa [Act.put] using this,fun i u x hu hx => ?_⟩,h.defs,h.fr⟩
  by_cases e : i = d
  ·subst e
   have := forget_dst ops.toList st.t i x ⟨o,by simpa using ho,hd⟩ hx
   subst this
   exact .any _
  ·refine h.tmps.2 i u x ?_ hx
   simp only [Act.put,Array.getElem?_toList,Array.getElem?_setIfInBounds]
   simp only [Array.getElem?_toList] at hu
   simp [Ne.symm e,hu]
/-- Guards. -/
theorem gd_sound (hr : RelSM w0 S0 m0 w S m a st) {ops : Array Oper} {o : Oper} {y n : Prop} (h : gd ops o st.t y n) :
  (Region.wanted o (yielded ops a.tmps) = true ∧ y) ∨ (Region.wanted o (yielded ops a.tmps) = false ∧ n) := by
 unfold gd at h
 unfold Region.wanted
 cases hg : o.guard with
 | none => simp only [hg] at h; exact .inl ⟨rfl,h⟩
 | some jw =>
  obtain ⟨j,want⟩ := jw
  simp only [hg] at h
  cases hgv : gval ops st.t j with
  | none => simp [hgv,bO] at h
  | some g =>
   simp only [hgv,bO] at h
   have hy : yielded ops a.tmps j = g := by
    unfold gval at hgv
    unfold yielded
    cases ho : ops[j]? with
    | none => simp [ho] at hgv; subst hgv; simp
    | some o' =>
     simp only [ho] at hgv
     cases hd : o'.dst with
     | none => simp [hd] at hgv; subst hgv; simp [hd]
     | some d =>
      simp only [hd] at hgv
      have hrel := hr.tmps.get d
      split at hgv <;> simp at hgv
      ·rename_i b hb
       subst hgv
       rw [hb] at hrel
       have := hrel.bool_inv
       have hsome : a.tmps[d]? = some (.bool b) := by
        cases hx : a.tmps[d]? with
        | none => simp [Array.getD_eq_getD_getElem?,hx,undef] at this
        | some u => simp [Array.getD_eq_getD_getElem?,hx] at this; rw [this]
       simp [hd,hsome]
      ·rename_i hb
       subst hgv
       rw [hb] at hrel
       have : a.tmps.getD d undef = undef := by
        generalize a.tmps.getD d undef = z at hrel
        cases hrel; rfl
       cases hx : a.tmps[d]? with
       | none => simp [hd,hx]
       | some u =>
        simp [Array.getD_eq_getD_getElem?,hx] at this
        subst this
        simp [hd,hx,undef]
   simp only [hy]
   split at h
   ·rename_i e; subst e; exact .inl ⟨by simp,h⟩
   ·rename_i e; exact .inr ⟨by simpa using e,h⟩
/-- What an operation's end says of what is held. -/
def Kept (w : World) (m : List Loc) (h : List Blk) (hs : Held) (i : Nat) (w' : World) (h' : List Blk) : Prop :=
 ∀ (id : Nat) (deps : List Nat),(id,deps) ∈ hs → deps.contains i = false →
  (∀ (b o : Nat) (k : Blk),m[id]? = some (some (b,o)) → h[id]? = some k → k.live = true → w'.heap[b]? = w.heap[b]?) ∧ (id < h.length → h'[id]? = h[id]?)
theorem Held.kept {hs : Held} {i : Nat} {W : List Nat} (h : hs.ok i W = true) {w' : World} {hp hp' : List Blk}
  (hk : ∀ (j b o : Nat) (k : Blk),j ∉ W → m[j]? = some (some (b,o)) → hp[j]? = some k → k.live = true → w'.heap[b]? = w.heap[b]?)
  (hh : ∀ i,i ∉ W → i < hp.length → hp'[i]? = hp[i]?) : Kept w m hp hs i w' hp' := by
 intro id deps hm hd
 unfold Held.ok at h
 have := List.all_eq_true.1 h _ hm
 simp only [hd,Bool.false_or,Bool.not_eq_true'] at this
 exact ⟨fun b o k h1 h2 h3 => hk id b o k (by simpa using this) h1 h2 h3,hh id (by simpa using this)⟩
theorem Kept.refl (w : World) (m : List Loc) (h : List Blk) (hs : Held) (i : Nat) : Kept w m h hs i w h := fun _ _ _ _ => ⟨fun _ _ _ _ _ _ => rfl,fun _ => rfl⟩
theorem Oper.wp_mono2 {o : Oper} {next next' : Act → World → Prop} {Q Q' : Exit → Act → World → Prop} (h : o.wp P a w next Q) (h1 : ∀ a w,next a w → next' a w) (h2 : ∀ c a w,Q (.panic c) a w → Q' (.panic c) a w)
  (h3 : LetsOut Q → LetsOut Q') : o.wp P a w next' Q' := by
 unfold Oper.wp at *
 generalize (execOp a.eval o).run P w = r at *
 cases r with
 | ok n w' =>
  cases n <;> simp only [Oper.upon] at h ⊢ <;>
   first
    | exact h1 _ _ h
    | exact Calls.mono h (fun e w'' he => by cases e <;> first | exact h1 _ _ he | exact h2 _ _ _ he | exact h3 he)
    | exact Rows.mono h (fun _ _ he => h1 _ _ he)
 | halt x w' => cases x <;> simp only [Oper.upon] at h ⊢ <;> exact h2 _ _ _ h
theorem enter_run {f : FuncId} (he : Enter P f) (args : Array Value) (w : World) : (callFunc f args).run P w = .ok (.enter f args) w := by
 obtain ⟨fn,h1,h2,h3⟩ := he
 simp only [callFunc,Sem.run_bind,run_program,Result.andThen_ok,h1,h2,Bool.false_eq_true,if_false,h3,Sem.run_pure]
/-- An operation. -/
theorem op_sound (hG : GOk P w0 S0) (hr : RelSM w0 S0 m0 w S m a st) {hs : Held} {i : Nat} {o : Oper} {K X : AV → St → Prop} (h : awpOp P hs i o st K X) (dst : Option Tmp) (hdst : o.dst = dst) :
  o.wp P a w (fun a' w' => ∃ S' m' v s,K v s ∧ RelSM w0 S0 m0 w' S' m' a' (s.put dst v) ∧ Kept w m st.h hs i w' s.h)
   (fun e a' w' => ∃ S' m' v s u,e = .panic [{ v := u,recovered := false }] ∧ VRel w' S' m' u v ∧ X v s ∧ RelSM w0 S0 m0 w' S' m' a' s) := by
 subst hdst
 have pureCase : ∀ {v : AV},pureA P st.t o = some v → K v st → o.wp P a w (fun a' w' => ∃ S' m' v s,K v s ∧ RelSM w0 S0 m0 w' S' m' a' (s.put o.dst v) ∧ Kept w m st.h hs i w' s.h)
   (fun e a' w' => ∃ S' m' v s u,e = .panic [{ v := u,recovered := false }] ∧ VRel w' S' m' u v ∧ X v s ∧ RelSM w0 S0 m0 w' S' m' a' s) := by
  intro v hp hk
  obtain ⟨u,h1,h2⟩ := pure_sound hr.tmps hp
  exact wp_value (h1 w) _ _ ⟨S,m,v,st,hk,hr.put h2 _,Kept.refl _ _ _ _ _⟩
 unfold awpOp at h
 split at h
 ·rename_i c x y ho
  cases hc : ev st.t c with
  | none => simp [hc,bO] at h
  | some cv =>
   simp only [hc,bO] at h
   obtain ⟨b,hcb,h⟩ := bB_inv h (ev_rel hr.tmps hc)
   cases hx : ev st.t x with
   | none => simp [hx,bO] at h
   | some vx =>
    simp only [hx,bO] at h
    cases hy : ev st.t y with
    | none => simp [hy,bO] at h
    | some vy =>
     simp only [hy,bO] at h
     have hrun : (execOp a.eval o).run P w = .ok (.value (if b then a.eval x else a.eval y)) w := by
      simp [execOp,ho,hcb,asBool]
     cases b with
     | true => exact wp_value hrun _ _ ⟨S,m,vx,st,by simpa using h,hr.put (by simpa using ev_rel hr.tmps hx) _,Kept.refl _ _ _ _ _⟩
     | false => exact wp_value hrun _ _ ⟨S,m,vy,st,by simpa using h,hr.put (by simpa using ev_rel hr.tmps hy) _,Kept.refl _ _ _ _ _⟩
 ·rename_i x ho
  cases hx : ev st.t x with
  | none => simp [hx,bO] at h
  | some v =>
   simp only [hx,bO] at h
   split at h
   case h_2 => exact h.elim
   rename_i t y
   have hv := ev_rel hr.tmps hx
   generalize hax : a.eval x = ax at hv
   cases hv with
   | iface _ u _ hu =>
    have hrun : (execOp a.eval o).run P w = .halt (.panic (.iface t u)) w := by simp [execOp,ho,hax,Instr.panic]
    simp only [Oper.wp,hrun,Oper.upon]
    exact ⟨S,m,_,st,_,rfl,.iface t u y hu,h,hr⟩
 ·rename_i c ho
  split at h
  case h_2 => exact h.elim
  rename_i f hcal
  split at h
  case h_2 => exact h.elim
  rename_i fid caps as hf has
  have hfv := ev_rel hr.tmps hf
  have hav := evs_rel hr.tmps has
  generalize haf : a.eval f = af at hfv
  cases hfv with
  | func _ vs _ hn hcaps =>
   have hrun : (execOp a.eval o).run P w = .ok (.defer { target := .fn (.func fid) vs,args := #[] ++ c.args.map a.eval }) w := by
    simp [execOp,ho,resolve,hcal,haf,Deferred.ofValue]
   simp only [Oper.wp,hrun,Oper.upon]
   refine ⟨S,m,.undef,_,h,RelSM.put (a := { a with defers := _ :: a.defers }) (st := { st with d := _ :: st.d }) ⟨hr.heap,hr.tmps,?_,hr.fr⟩ .undef o.dst,Kept.refl _ _ _ _ _⟩
   refine ⟨by simp [hr.defs.1],fun i df x hd hx => ?_⟩
   cases i with
   | zero =>
    simp at hd hx
    subst hd; subst hx
    exact ⟨vs,rfl,by simpa using hav,by simpa using hn,fun i v x hv hx => hcaps i v x (by simpa using hv) hx⟩
   | succ i => exact hr.defs.2 i df x (by simpa using hd) (by simpa using hx)
 ·rename_i f as ts ho
  cases hc : callee st.t { callee := .value f,args := as,argTypes := ts } with
  | none => simp [hc,bO] at h
  | some fa =>
   obtain ⟨fid,args⟩ := fa
   simp only [hc,bO] at h
   unfold callee at hc
   simp only at hc
   split at hc <;> simp at hc
   rename_i fid' caps as' hf has
   obtain ⟨rfl,rfl⟩ := hc
   have hfv := ev_rel hr.tmps hf
   have hav := evs_rel hr.tmps has
   obtain ⟨W,out,st',⟨hhsame,hcall⟩,hok,hout⟩ := h
   generalize haf : a.eval f = af at hfv
   cases hfv with
   | func _ vs _ hn hcaps =>
    have hargs : LRel w S m ((as.toList.map a.eval) ++ vs.toList) (as' ++ caps) := by
     refine ⟨by rw [List.length_append,List.length_append,hav.1]; simp [hn],fun i v x hv hx => ?_⟩
     have hl := hav.1
     rw [List.getElem?_append] at hv hx
     rw [hl] at hv
     split at hv
     ·rename_i hlt; simp only [hlt,if_true] at hx; exact hav.2 i v x hv hx
     ·rename_i hlt; simp only [hlt,if_false] at hx; exact hcaps _ v x (by simpa using hv) hx
    have e : (as.map a.eval ++ vs) = ((as.toList.map a.eval) ++ vs.toList).toArray := by apply Array.ext'; simp
    have hrun : ∀ r,(callFunc fid' ((as.toList.map a.eval) ++ vs.toList).toArray).run P w = r → (execOp a.eval o).run P w = r := fun r hr => by
     simp only [execOp,ho,resolve,haf,Deferred.ofValue,Sem.run_bind,Sem.run_pure,Result.andThen_ok,invoke,Array.empty_append,e]
     exact hr
    rcases hcall w0 S0 m0 w S m a _ hG hr hargs with ⟨hent,hcall⟩ | ⟨v,w',hcf,S',m',hr',ho',hkeep⟩
    ·simp only [Oper.wp,hrun _ (enter_run hent _ w),Oper.upon]
     refine hcall.mono fun e w' he => ?_
     obtain ⟨S',m',hr',ho',hkeep⟩ := he
     cases e with
     | returned v =>
      cases out with
      | ret x => exact ⟨S',m',x,st',hout,hr'.put ho' _,Held.kept hok hkeep hhsame⟩
      | pan x => exact ho'.elim
     | panicked c =>
      cases out with
      | ret x => exact ho'.elim
      | pan x =>
       obtain ⟨v,rfl,hv⟩ := ho'
       exact ⟨S',m',x,st',v,rfl,hv,hout,hr'⟩
     | outgrown => exact ho'.elim
    ·simp only [Oper.wp,hrun _ hcf,Oper.upon]
     cases out with
     | ret x => exact ⟨S',m',x,st',hout,hr'.put ho' _,Held.kept hok hkeep hhsame⟩
     | pan x => exact ho'.elim
 ·split at h
  ·rename_i v hp
   exact pureCase hp h
  ·split at h
   ·rename_i v id hrd
    obtain ⟨u,b,h1,h2,_⟩ := read_sound (P := P) (hG.fr hr.fr) hr.heap hr.tmps hrd
    exact wp_value (h2 w rfl) _ _ ⟨S,m,v,st,h,hr.put h1 _,Kept.refl _ _ _ _ _⟩
   ·cases he : effA P st.t st.h o with
    | none => simp [he,bO] at h
    | some vhw =>
     obtain ⟨v,h',W⟩ := vhw
     simp only [he,bO] at h
     obtain ⟨hok,hk⟩ := h
     obtain ⟨ve,w',m',h1,h2,h3,h4,h5⟩ := eff_sound hr he
     exact h1 _ _ ⟨S,m',v,_,hk,h2.put h3 _,Held.kept hok h4 h5⟩
end
end Go.Abs
/- Regions and code. -/
namespace Go.Abs
variable [Kn]
set_option linter.unusedSectionVars false
set_option linter.unusedVariables false
set_option linter.unusedSimpArgs false
section
variable {P : Program} {w0 : World} {S0 : Nat → Prop} {m0 : List Loc} {w : World} {S : Nat → Prop} {m : List Loc} {a : Act} {st : St}
/-- How code is left: in the model, and here. -/
def ExRel (w : World) (S : Nat → Prop) (m : List Loc) : Exit → AEx → Prop
 | .normal,.normal => True
 | .exit i,.exit j => i = j
 | .ret,.ret => True
 | .panic c,.pan x => ∃ u,c = [{ v := u,recovered := false }] ∧ VRel w S m u x
 | _,_ => False
def QC (w0 : World) (S0 : Nat → Prop) (m0 : List Loc) (Q : AEx → St → Prop) : Exit → Act → World → Prop :=
 fun e a w => ∃ S m ae st,ExRel w S m e ae ∧ RelSM w0 S0 m0 w S m a st ∧ Q ae st
theorem QC.mono {Q Q' : AEx → St → Prop} (h : ∀ e s,Q e s → Q' e s) {e : Exit} {a : Act} {w : World} (hq : QC w0 S0 m0 Q e a w) : QC w0 S0 m0 Q' e a w := by
 obtain ⟨S,m,ae,st,h1,h2,h3⟩ := hq
 exact ⟨S,m,ae,st,h1,h2,h _ _ h3⟩
theorem ops_sound (hG : GOk P w0 S0) (ops : Array Oper) (Q : AEx → St → Prop) : ∀ (l : List Nat) (st : St) (w : World) (S : Nat → Prop) (m : List Loc) (a : Act),RelSM w0 S0 m0 w S m a st → awpOps P ops Q l st →
  wpOps P ops (QC w0 S0 m0 Q) l a w
 | [],st,w,S,m,a,hr,h => ⟨S,m,.normal,st,trivial,hr,h⟩
 | i :: rest,st,w,S,m,a,hr,h => by
  simp only [awpOps] at h
  simp only [wpOps]
  cases ho : ops[i]? with
  | none =>
   simp only [ho] at h ⊢
   exact ops_sound hG ops Q rest st w S m a hr h
  | some o =>
   simp only [ho] at h ⊢
   rcases gd_sound hr h with ⟨hw,h1⟩ | ⟨hw,h1⟩
   ·simp only [hw,if_true]
    left
    refine Oper.wp_mono2 (op_sound hG hr h1 o.dst rfl) (fun a' w' hn => ?_) (fun c a' w' hq => ?_) (fun hq => ?_)
    ·obtain ⟨S',m',v,s,hk,hr',_⟩ := hn
     exact ops_sound hG ops Q rest _ w' S' m' a' hr' hk
    ·obtain ⟨S',m',v,s,u,he,hv,hx,hr'⟩ := hq
     injection he with he
     subst he
     exact ⟨S',m',.pan v,_,⟨u,rfl,hv⟩,hr'.forget ops,hx⟩
    ·obtain ⟨a',w',S',m',v,s,u,he,_⟩ := hq
     cases he
   ·simp only [hw,Bool.false_eq_true,if_false]
    exact ops_sound hG ops Q rest _ w S m _ (hr.put .undef o.dst) h1
/-! ### Regions whose order is drawn -/
/-- What is held: a block, what it was, who must come behind the read. -/
abbrev Facts := List (Nat × Option Obj × List Nat)
/-- As long as nobody who must come behind has come, the block is as it was. -/
def Facts.hold (fs : Facts) (listed : Array Bool) (w : World) : Prop :=
 ∀ f ∈ fs,(∀ j ∈ f.2.2,listed.getD j false = false) → w.heap[f.1]? = f.2.1
def wpAnyI (P : Program) (ops : Array Oper) (Q : Exit → Act → World → Prop) (fs : Facts) : Nat → Array Bool → Act → World → Prop
 | 0,listed,a,w => fs.hold listed w ∧ Region.ready .any ops listed = [] ∧ Q .normal a w
 | fuel + 1,listed,a,w => fs.hold listed w ∧ (Region.ready .any ops listed = [] → Q .normal a w) ∧
   ∀ i ∈ Region.ready .any ops listed,wpOp P ops Q i (wpAnyI P ops Q fs fuel (listed.setIfInBounds i true)) a w
theorem wpAnyI.holds {ops : Array Oper} {Q : Exit → Act → World → Prop} {fs : Facts} {n : Nat} {listed : Array Bool} (h : wpAnyI P ops Q fs n listed a w) : fs.hold listed w := by
 cases n with
 | zero => exact h.1
 | succ n => exact h.1
theorem wpAnyI.any {ops : Array Oper} {Q : Exit → Act → World → Prop} {fs : Facts} : ∀ {n : Nat} {listed : Array Bool} {a : Act} {w : World},wpAnyI P ops Q fs n listed a w → wpAny P .any ops Q n listed a w
 | 0,_,_,_,h => h.2
 | _ + 1,_,_,_,h => ⟨h.2.1,fun i hi => wpOp_mono (fun _ _ => wpAnyI.any) (h.2.2 i hi)⟩
/-- All facts, whoever has come. -/
def Facts.all (fs : Facts) (w : World) : Prop := ∀ f ∈ fs,w.heap[f.1]? = f.2.1
/-- What an operation yields in any world in which some blocks are as they were. -/
def YieldsB (P : Program) (ops : Array Oper) (o : Oper) (v : Value) (F : Facts) (a : Act) : Prop :=
 (Region.wanted o (yielded ops a.tmps) = true ∧ ∀ w,F.all w → (execOp a.eval o).run P w = .ok (.value v) w) ∨
 (Region.wanted o (yielded ops a.tmps) = false ∧ v = undef)
theorem YieldsB.wpOp {ops : Array Oper} {Q : Exit → Act → World → Prop} {i : Nat} {o : Oper} {v : Value} {F : Facts} (hi : ops[i]? = some o) (hy : YieldsB P ops o v F a)
  {K : Act → World → Prop} (hx : F.all w) (h : K (a.put o.dst v) w) : wpOp P ops Q i K a w := by
 unfold Go.wpOp
 simp only [hi]
 rcases hy with ⟨hw,hv⟩ | ⟨hw,rfl⟩
 ·simp only [hw,if_true,Oper.wp,hv w hx,Oper.upon]; exact .inl h
 ·simp only [hw,Bool.false_eq_true,if_false]; exact h
theorem YieldsB.of_same {ops : Array Oper} {o : Oper} {v : Value} {F : Facts} {a a' : Act} (hy : YieldsB P ops o v F a) (he : execOp a'.eval o = execOp a.eval o)
  (hw : Region.wanted o (yielded ops a'.tmps) = Region.wanted o (yielded ops a.tmps)) : YieldsB P ops o v F a' := by
 unfold YieldsB at *
 rw [he,hw]
 exact hy
theorem wpOp_putB {ops : Array Oper} {Q : Exit → Act → World → Prop} {j : Nat} {oi oj : Oper} {v : Value} {F : Facts} (hj : ops[j]? = some oj) (hap : oi.apart ops oj = true)
  (hsi : ∀ cs b,oi.op ≠ .select cs b) (hsj : ∀ cs b,oj.op ≠ .select cs b)
  (hQ : ∀ c a w,Q (.panic c) (a.put oi.dst v) w → Q (.panic c) a w) {K : Act → World → Prop} {a : Act} {w : World}
  (hy : YieldsB P ops oi v F a) (h : wpOp P ops Q j K (a.put oi.dst v) w) :
  wpOp P ops Q j (fun a' w' => YieldsB P ops oi v F a' ∧ K (a'.put oi.dst v) w') a w := by
 obtain ⟨h1,h2,h3⟩ := Oper.apart_spec hap
 have keep : ∀ (a : Act),YieldsB P ops oi v F a → ∀ u,YieldsB P ops oi v F (a.put oj.dst u) := fun a hy u =>
  hy.of_same (execOp_put oi hsi a oj.dst u h3) (wanted_put oi a oj.dst u h3)
 have keepD : ∀ d,YieldsB P ops oi v F { a with defers := d :: a.defers } := fun d => hy.of_same rfl rfl
 unfold wpOp at *
 simp only [hj] at *
 rw [wanted_put oj a oi.dst v h1] at h
 split
 ·rename_i hw
  simp only [hw,if_true] at h
  rcases h with h | ⟨hasks,hlets⟩
  case inr => exact .inr ⟨by unfold Oper.asks at *; rw [execOp_put oj hsj a oi.dst v h1] at hasks; exact hasks,hlets⟩
  refine .inl ?_
  unfold Oper.wp at *
  rw [execOp_put oj hsj a oi.dst v h1] at h
  generalize (execOp a.eval oj).run P w = r at *
  cases r with
  | ok n w' =>
   cases n <;> simp only [Oper.upon] at h ⊢
   case value u => exact ⟨keep a hy u,by rw [← Act.put_comm a v u h2]; exact h⟩
   case skip => exact ⟨keep a hy _,by rw [← Act.put_comm a v undef h2]; exact h⟩
   case defer d =>
    refine ⟨keep _ (keepD d) _,?_⟩
    rw [← Act.put_comm _ v undef h2,← Act.put_defers]
    exact h
   case enter f args =>
    refine Calls.mono h fun e w'' he => ?_
    cases e with
    | returned u => exact ⟨keep a hy u,by rw [← Act.put_comm a v u h2]; exact he⟩
    | panicked c => exact hQ _ _ _ he
    | outgrown => exact he
   case row row args => exact Rows.mono h fun u w'' he => ⟨keep a hy u,by rw [← Act.put_comm a v u h2]; exact he⟩
  | halt y w' =>
   cases y <;> simp only [Oper.upon] at h ⊢
   case panic u => exact hQ _ _ _ h
 ·rename_i hw
  simp only [hw] at h
  exact ⟨keep a hy _,by rw [← Act.put_comm a v undef h2]; exact h⟩
theorem Facts.hold_cons {F fs : Facts} {listed : Array Bool} (h : Facts.hold (F ++ fs) listed w) : Facts.hold fs listed w := fun g hg => h g (List.mem_append_right _ hg)
/-- It is enough to carry a quiet operation out first. -/
theorem wpAnyI_first {ops : Array Oper} {Q : Exit → Act → World → Prop} {fs : Facts} {i : Nat} {oi : Oper} {v : Value} {F : Facts} {D : List Nat} (hi : ops[i]? = some oi)
  (hsel : ∀ (j : Nat) (o : Oper) cs b,ops[j]? = some o → o.op ≠ .select cs b)
  (hQ : ∀ c a w,Q (.panic c) (a.put oi.dst v) w → Q (.panic c) a w)
  (hD : ∀ j ∈ D,j ≠ i → ∃ oj,ops[j]? = some oj ∧ ∃ e ∈ oj.after,Region.binds .any e = true ∧ e.on ∈ D) (hD' : ∀ f ∈ F,∀ k ∈ f.2.2,k ∈ D ∧ k ≠ i) (hfi : ∀ f ∈ fs,i ∉ f.2.2) :
  ∀ (fuel : Nat) (listed : Array Bool) (a : Act) (w : World),
   (∀ j oj,ops[j]? = some oj → j ≠ i → listed.getD j true = false → (∀ e ∈ oj.after,Region.binds .any e = true → e.on ≠ i) → oi.apart ops oj = true) →
   (∀ j ∈ D,listed.getD j false = false) → i ∈ Region.ready .any ops listed → YieldsB P ops oi v F a → F.all w →
   wpAnyI P ops Q (F ++ fs) fuel (listed.setIfInBounds i true) (a.put oi.dst v) w → Facts.hold fs listed w → wpAnyI P ops Q fs (fuel + 1) listed a w := by
 intro fuel
 induction fuel with
 | zero =>
  intro listed a w _ _ hr hy hx H hf
  refine ⟨hf,fun h => (by rw [h] at hr; cases hr),fun j hj => ?_⟩
  by_cases hji : j = i
  ·subst hji
   refine hy.wpOp hi hx ⟨?_,H.2⟩
   exact Facts.hold_cons H.1
  ·have := ready_mono hj hji
   rw [H.2.1] at this
   cases this
 | succ fuel ih =>
  intro listed a w hfree hDl hr hy hx H hf
  refine ⟨hf,fun h => (by rw [h] at hr; cases hr),fun j hj => ?_⟩
  by_cases hji : j = i
  ·subst hji
   refine hy.wpOp hi hx ?_
   -- the facts but this one
   have drop : ∀ (n : Nat) (l : Array Bool) (a : Act) (w : World),wpAnyI P ops Q (F ++ fs) n l a w → wpAnyI P ops Q fs n l a w := by
    intro n
    induction n with
    | zero => intro l a w h; exact ⟨Facts.hold_cons h.1,h.2⟩
    | succ n ih2 => intro l a w h; exact ⟨Facts.hold_cons h.1,h.2.1,fun k hk => wpOp_mono (fun a w => ih2 _ a w) (h.2.2 k hk)⟩
   exact drop _ _ _ _ H
  ·have h1 := H.2.2 j (ready_mono hj hji)
   obtain ⟨hjun,oj,hoj,hall⟩ := mem_ready.1 hj
   have hnot : ∀ e ∈ oj.after,Region.binds .any e = true → e.on ≠ i := fun e he hb heq => by
    have h1 := hall e he hb
    have h0 := (mem_ready.1 hr).1
    rw [heq] at h1
    rcases Nat.lt_or_ge i listed.size with h' | h'
    ·simp [h'] at h0 h1; rw [h0] at h1; cases h1
    ·simp [Array.getElem?_eq_none h'] at h1
   have hjD : j ∉ D := fun hjd => by
    obtain ⟨oj',hoj',e,he,hb,hon⟩ := hD j hjd hji
    rw [hoj] at hoj'
    injection hoj' with hoj'
    subst hoj'
    have := hall e he hb
    rw [hDl _ hon] at this
    cases this
   have h2 := wpOp_putB hoj (hfree j oj hoj hji hjun hnot) (fun cs b => hsel i oi cs b hi) (fun cs b => hsel j oj cs b hoj) hQ hy h1
   have hfree' : ∀ k ok,ops[k]? = some ok → k ≠ i → (listed.setIfInBounds j true).getD k true = false →
     (∀ e ∈ ok.after,Region.binds .any e = true → e.on ≠ i) → oi.apart ops ok = true := fun k ok hk hki hun hno => by
    refine hfree k ok hk hki ?_ hno
    by_cases hjk : j = k
    ·subst hjk; exact hjun
    ·rw [getD_set_ne true hjk] at hun; exact hun
   have hDl' : ∀ k ∈ D,(listed.setIfInBounds j true).getD k false = false := fun k hk => by
    rw [getD_set_ne false (fun e => hjD (by rw [e]; exact hk))]; exact hDl k hk
   refine wpOp_mono (fun a' w' h3 => ?_) h2
   obtain ⟨hy',hK⟩ := h3
   have hold' := wpAnyI.holds hK
   have hx' : F.all w' := fun f hf => by
    refine hold' f (List.mem_append_left _ hf) (fun k hk => ?_)
    obtain ⟨hk1,hk2⟩ := hD' f hf k hk
    rw [getD_set_ne false (fun e => hjD (by rw [e]; exact hk1)),getD_set_ne false (Ne.symm hk2)]
    exact hDl k hk1
   refine ih (listed.setIfInBounds j true) a' w' hfree' hDl' (ready_mono hr (Ne.symm hji)) hy' hx' ?_ ?_
   ·rw [Array.setIfInBounds_comm _ _ hji]
    exact hK
   ·intro f hf' hl
    refine hold' f (List.mem_append_right _ hf') (fun k hk => ?_)
    have hki : i ≠ k := fun e => hfi f hf' (by rw [e]; exact hk)
    rw [Array.setIfInBounds_comm _ _ (Ne.symm hji),getD_set_ne false hki]
    exact hl k hk
theorem Move.of_fr {w w' : World} {S S' : Nat → Prop} {m m' : List Loc} (h : Fr w S m w' S' m') : Move w S m w' S' m' :=
 ⟨h.size,h.os,h.tape,h.output,h.drawn,h.same,h.frozen,h.shape,h.up,h.down,h.locs,h.pre⟩
theorem Fr.refl (w : World) (S : Nat → Prop) (m : List Loc) : Fr w S m w S m :=
 ⟨Nat.le_refl _,rfl,rfl,rfl,fun _ _ _ => rfl,fun _ _ _ => rfl,fun b _ => SameShape.refl w b,fun _ h => h,fun _ h => .inl h,fun i b o h => .inl ⟨i,o,h⟩,fun _ _ => rfl,fun _ => Nat.le_refl _⟩
theorem RelSM.rebase (h : RelSM w0 S0 m0 w S m a st) : RelSM w S m w S m a st := ⟨h.heap,h.tmps,h.defs,Fr.refl w S m⟩
theorem RelSM.trans {w' : World} {S' : Nat → Prop} {m' : List Loc} {a' : Act} {st' : St} (h : RelSM w0 S0 m0 w S m a st) (h' : RelSM w S m w' S' m' a' st') : RelSM w0 S0 m0 w' S' m' a' st' :=
 ⟨h'.heap,h'.tmps,h'.defs,h.fr.move (Move.of_fr h'.fr) h.fr.len⟩
/-- What a region leaves. -/
def QD (w0 : World) (S0 : Nat → Prop) (m0 : List Loc) (ops : Array Oper) (Q : AEx → St → Prop) : Exit → Act → World → Prop
 | .panic c,a,w => ∃ S m v s u,c = [{ v := u,recovered := false }] ∧ VRel w S m u v ∧ Q (.pan v) (Abs.forget ops s) ∧ RelSM w0 S0 m0 w S m a (Abs.forget ops s)
 | e,a,w => QC w0 S0 m0 Q e a w
theorem QD.qc {ops : Array Oper} {Q : AEx → St → Prop} {e : Exit} {a : Act} {w : World} (h : QD w0 S0 m0 ops Q e a w) : QC w0 S0 m0 Q e a w := by
 cases e with
 | panic c =>
  obtain ⟨S,m,v,s,u,rfl,h1,h2,h3⟩ := h
  exact ⟨S,m,.pan v,_,⟨u,rfl,h1⟩,h3,h2⟩
 | _ => exact h
theorem QD.put {ops : Array Oper} {Q : AEx → St → Prop} {o : Oper} (ho : o ∈ ops) (v : Value) (c : List PanicEntry) (a : Act) (w : World) (h : QD w0 S0 m0 ops Q (.panic c) (a.put o.dst v) w) :
  QD w0 S0 m0 ops Q (.panic c) a w := by
 obtain ⟨S,m,v',s,u,e,h1,h2,h3⟩ := h
 exact ⟨S,m,v',s,u,e,h1,h2,h3.unput ho⟩
/-- The facts of a region, and what is held. -/
def FactsOk (ops : Array Oper) (fs : Facts) (hs : Held) (listed : Array Bool) (w : World) (S : Nat → Prop) (m : List Loc) (h : List Blk) : Prop :=
 ∀ f ∈ fs,(∀ j ∈ f.2.2,listed.getD j false = false) → w.heap[f.1]? = f.2.1 ∧
  ((S f.1 ∧ f.1 < w.heap.size) ∨ ∃ id deps o k,(id,deps) ∈ hs ∧ (∀ j o',ops[j]? = some o' → quiet o' = false → j ∈ deps → j ∈ f.2.2) ∧ m[id]? = some (some (f.1,o)) ∧ h[id]? = some k ∧ k.live = true)
def behindStep (ops : Array Oper) (i : Nat) (acc : List Nat) (j : Nat) : List Nat := match ops[j]? with
 | some o => if j == i || o.after.any (fun e => Region.binds .any e && acc.contains e.on) then acc ++ [j] else acc
 | none => acc
theorem behind_eq (ops : Array Oper) (i : Nat) : behind ops i = (List.range ops.size).foldl (behindStep ops i) [] := rfl
theorem behind_grow (ops : Array Oper) (i : Nat) : ∀ (l : List Nat) (acc : List Nat),∀ j ∈ acc,j ∈ l.foldl (behindStep ops i) acc := by
 intro l
 induction l with
 | nil => intro acc j h; exact h
 | cons k l ih =>
  intro acc j h
  simp only [List.foldl_cons]
  apply ih
  unfold behindStep
  split
  ·split
   ·exact List.mem_append_left _ h
   ·exact h
  ·exact h
theorem behind_key (ops : Array Oper) (i : Nat) (big : List Nat) : ∀ (l : List Nat) (acc : List Nat),l.Pairwise (· < ·) → (∀ j ∈ acc,∀ k ∈ l,j < k) →
  (∀ j ∈ acc,j ≠ i → ∃ oj,ops[j]? = some oj ∧ ∃ e ∈ oj.after,Region.binds .any e = true ∧ e.on ∈ big ∧ e.on < j) → (∀ j ∈ l.foldl (behindStep ops i) acc,j ∈ big) →
  ∀ j ∈ l.foldl (behindStep ops i) acc,j ≠ i → ∃ oj,ops[j]? = some oj ∧ ∃ e ∈ oj.after,Region.binds .any e = true ∧ e.on ∈ big ∧ e.on < j := by
 intro l
 induction l with
 | nil => intro acc _ _ h1 h2 j hj hne; exact h1 j hj hne
 | cons k l ih =>
  intro acc hp hlt h1 h2 j hj hne
  simp only [List.foldl_cons] at h2 hj
  obtain ⟨hp1,hp2⟩ := List.pairwise_cons.1 hp
  have hacc : ∀ j' ∈ behindStep ops i acc k,j' ∈ acc ∨ j' = k := by
   intro j' hj'
   unfold behindStep at hj'
   split at hj'
   ·split at hj'
    ·rcases List.mem_append.1 hj' with h3 | h3
     ·exact .inl h3
     ·exact .inr (by simpa using h3)
    ·exact .inl hj'
   ·exact .inl hj'
  refine ih _ hp2 (fun j' hj' k' hk' => ?_) ?_ h2 j hj hne
  ·rcases hacc j' hj' with h3 | rfl
   ·exact hlt j' h3 k' (by simp [hk'])
   ·exact hp1 k' hk'
  ·intro j' hj' hne'
   by_cases hin : j' ∈ acc
   ·exact h1 j' hin hne'
   ·have hk : j' = k := (hacc j' hj').resolve_left hin
    subst hk
    have hj2 := hj'
    unfold behindStep at hj2
    split at hj2
    ·rename_i o ho
     split at hj2
     ·rename_i hc
      simp only [Bool.or_eq_true,beq_iff_eq,hne',false_or] at hc
      obtain ⟨e,he,hb⟩ := Array.any_eq_true'.1 hc
      simp only [Bool.and_eq_true] at hb
      have hon : e.on ∈ acc := by simpa using hb.2
      refine ⟨o,ho,e,he,hb.1,h2 _ (behind_grow _ _ _ _ _ ?_),hlt _ hon _ (by simp)⟩
      unfold behindStep
      simp only [ho]
      split
      ·exact List.mem_append_left _ hon
      ·exact hon
     ·exact absurd hj2 hin
    ·exact absurd hj2 hin
theorem behind_spec (ops : Array Oper) (i : Nat) : ∀ j ∈ behind ops i,j ≠ i → ∃ oj,ops[j]? = some oj ∧ ∃ e ∈ oj.after,Region.binds .any e = true ∧ e.on ∈ behind ops i ∧ e.on < j := by
 rw [behind_eq]
 exact behind_key ops i _ _ [] List.pairwise_lt_range (by simp) (by simp) (fun j h => h)
theorem put_h (st : St) (dst : Option Tmp) (x : AV) : (st.put dst x).h = st.h := by cases dst <;> rfl
theorem draw_sound (hG : GOk P w0 S0) (ops : Array Oper) (Q : AEx → St → Prop) (hns : Region.noSelect ops = true) : ∀ (fuel : Nat) (listed : Array Bool) (l : List (Nat × Bool)) (hs : Held) (fs : Facts) (st : St) (w : World) (S : Nat → Prop) (m : List Loc) (a : Act),
  schedGo ops fuel listed = some l → (∀ j k ok,listed.getD j false = true → ops[j]? = some ok → (∃ e ∈ ok.after,Region.binds .any e = true ∧ e.on = k) → listed.getD k false = true) → RelSM w0 S0 m0 w S m a st → awpDraw P ops Q l hs st → FactsOk ops fs hs listed w S m st.h → (∀ f ∈ fs,∀ j ∈ f.2.2,∃ o,ops[j]? = some o ∧ quiet o = false) →
  wpAnyI P ops (QD w0 S0 m0 ops Q) fs fuel listed a w
 | 0,listed,l,hs,fs,st,w,S,m,a,hsc,hdn,hr,h,hf,hq => by
  simp only [schedGo] at hsc
  split at hsc <;> simp at hsc
  subst hsc
  rename_i hrd
  exact ⟨fun f hm hl => (hf f hm hl).1,hrd,S,m,.normal,st,trivial,hr,h⟩
 | n + 1,listed,l,hs,fs,st,w,S,m,a,hsc,hdn,hr,h,hf,hq => by
  simp only [schedGo] at hsc
  split at hsc
  ·rename_i hrd
   simp at hsc
   subst hsc
   exact ⟨fun f hm hl => (hf f hm hl).1,fun _ => ⟨S,m,.normal,st,trivial,hr,h⟩,by rw [hrd]; simp⟩
  ·rename_i hrd
   split at hsc
   case h_2 => cases hsc
   rename_i i q hn
   simp only [Option.map_eq_some_iff] at hsc
   obtain ⟨rest,hrest,rfl⟩ := hsc
   have hold : Facts.hold fs listed w := fun f hm hl => (hf f hm hl).1
   unfold nextOp at hn
   simp only at hn
   split at hn
   ·rename_i i' hfind
    simp at hn
    obtain ⟨rfl,rfl⟩ := hn
    have hir := List.mem_of_find?_eq_some hfind
    have hcond := List.find?_some hfind
    simp only [Bool.and_eq_true] at hcond
    obtain ⟨hqu,hfree⟩ := hcond
    obtain ⟨hun,o,ho,hall⟩ := mem_ready.1 hir
    have hqo : quiet o = true := by simpa [ho] using hqu
    have hun' : listed.getD i' false = false := by
     rcases Nat.lt_or_ge i' listed.size with hlt | hge
     ·simp [hlt] at hun ⊢; exact hun
     ·simp [Array.getElem?_eq_none hge]
    have hDl : ∀ (n : Nat),∀ j ≤ n,j ∈ behind ops i' → listed.getD j false = false := by
     intro n
     induction n with
     | zero =>
      intro j hj hjb
      by_cases e : j = i'
      ·rw [e]; exact hun'
      ·obtain ⟨oj,hoj,e',he',hb,hon,hlt⟩ := behind_spec ops i' j hjb e
       omega
     | succ n ih =>
      intro j hj hjb
      by_cases e : j = i'
      ·rw [e]; exact hun'
      ·obtain ⟨oj,hoj,e',he',hb,hon,hlt⟩ := behind_spec ops i' j hjb e
       have h1 := ih e'.on (by omega) hon
       cases hc : listed.getD j false with
       | false => rfl
       | true => rw [hdn j e'.on oj hc hoj ⟨e',he',hb,rfl⟩] at h1; cases h1
    have hdn' : ∀ j' k ok,(listed.setIfInBounds i' true).getD j' false = true → ops[j']? = some ok → (∃ e ∈ ok.after,Region.binds .any e = true ∧ e.on = k) → (listed.setIfInBounds i' true).getD k false = true := by
     intro j' k ok h1 h2 h3
     by_cases e : i' = j'
     ·subst e
      obtain ⟨e,he,hb,rfl⟩ := h3
      rw [ho] at h2; injection h2 with h2; subst h2
      exact getD_set_true (hall e he hb)
     ·rw [getD_set_ne false e] at h1
      exact getD_set_true (hdn j' k ok h1 h2 h3)
    have hnq : ∀ f ∈ fs,i' ∉ f.2.2 := fun f hm hi => by
     obtain ⟨o',ho',hq'⟩ := hq f hm i' hi
     rw [ho] at ho'; injection ho' with ho'; subst ho'
     rw [hqo] at hq'; cases hq'
    -- the old facts, once i' has come
    have hfs : ∀ hs',(∀ x ∈ hs,x ∈ hs') → FactsOk ops fs hs' (listed.setIfInBounds i' true) w S m st.h := fun hs' hsub f hm hl => by
     have hl' : ∀ k ∈ f.2.2,listed.getD k false = false := fun k hk => by
      have := hl k hk
      rwa [getD_set_ne false (fun e => hnq f hm (by rw [e]; exact hk))] at this
     obtain ⟨h2,h3⟩ := hf f hm hl'
     refine ⟨h2,?_⟩
     rcases h3 with h3 | ⟨id,deps,o',k,h4,h5⟩
     ·exact .inl h3
     ·exact .inr ⟨id,deps,o',k,hsub _ h4,h5⟩
    have first : ∀ {v : Value} {F : Facts},YieldsB P ops o v F a → F.all w → (∀ f ∈ F,∀ k ∈ f.2.2,k ∈ behind ops i' ∧ k ≠ i') → wpAnyI P ops (QD w0 S0 m0 ops Q) (F ++ fs) n (listed.setIfInBounds i' true) (a.put o.dst v) w →
      wpAnyI P ops (QD w0 S0 m0 ops Q) fs (n + 1) listed a w := fun {v F} hy hF hD' H =>
     wpAnyI_first ho (fun j o cs b hj => Region.noSelect_spec hns j o cs b hj) (fun c a w hq => QD.put (Array.mem_of_getElem? ho) v c a w hq)
      (fun j hj hne => by obtain ⟨oj,h1,e,h2,h3,h4,_⟩ := behind_spec ops i' j hj hne; exact ⟨oj,h1,e,h2,h3,h4⟩) hD' hnq n listed a w
      (Region.free_spec ho hfree) (fun j hj => hDl j j (Nat.le_refl _) hj) hir hy hF H hold
    simp only [awpDraw,ho,if_true] at h
    rcases gd_sound hr h with ⟨hw,h1⟩ | ⟨hw,h1⟩
    ·have pureCase : ∀ (v : Value) (x : AV),(∀ w',(execOp a.eval o).run P w' = .ok (.value v) w') → VRel w S m v x → awpDraw P ops Q rest hs (st.put o.dst x) → wpAnyI P ops (QD w0 S0 m0 ops Q) fs (n + 1) listed a w := by
      intro v x hrun hv hk
      exact first (F := []) (.inl ⟨hw,fun w' _ => hrun w'⟩) (fun f hf => by cases hf) (fun f hf => by cases hf)
       (draw_sound hG ops Q hns n _ rest hs fs _ w S m _ hrest hdn' (hr.put hv o.dst) hk (by rw [put_h]; exact hfs hs (fun _ h => h)) hq)
     split at h1
     ·rename_i c x y hop
      cases hc : ev st.t c with
      | none => simp [hc,bO] at h1
      | some cv =>
       simp only [hc,bO] at h1
       obtain ⟨b,hcb,h1⟩ := bB_inv h1 (ev_rel hr.tmps hc)
       cases hx : ev st.t x with
       | none => simp [hx,bO] at h1
       | some vx =>
        simp only [hx,bO] at h1
        cases hy : ev st.t y with
        | none => simp [hy,bO] at h1
        | some vy =>
         simp only [hy,bO] at h1
         have hrun : ∀ w',(execOp a.eval o).run P w' = .ok (.value (if b then a.eval x else a.eval y)) w' := fun w' => by
          simp [execOp,hop,hcb,asBool]
         cases b with
         | true => exact pureCase _ vx hrun (by simpa using ev_rel hr.tmps hx) (by simpa using h1)
         | false => exact pureCase _ vy hrun (by simpa using ev_rel hr.tmps hy) (by simpa using h1)
     ·split at h1
      ·rename_i x hp
       obtain ⟨v,hrun,hv⟩ := pure_sound hr.tmps hp
       exact pureCase v x hrun hv h1
      ·cases hrd2 : readA P st.t st.h o with
       | none => simp [hrd2,bO] at h1
       | some xi =>
        obtain ⟨x,id⟩ := xi
        simp only [hrd2,bO] at h1
        obtain ⟨v,b,hv,hrun,hid⟩ := read_sound (P := P) (hG.fr hr.fr) hr.heap hr.tmps hrd2
        let D' := (behind ops i').filter fun j => ((ops[j]?).map fun o => !quiet o).getD false
        have hD'q : ∀ j ∈ D',∃ o,ops[j]? = some o ∧ quiet o = false := fun j hj => by
         have := (List.mem_filter.1 hj).2
         cases hoj : ops[j]? with
         | none => simp [hoj] at this
         | some oj => simp [hoj] at this; exact ⟨oj,rfl,this⟩
        refine first (F := [(b,w.heap[b]?,D')]) (v := v) (.inl ⟨hw,fun w' hF => hrun w' (hF (b,w.heap[b]?,D') (List.mem_singleton.2 rfl))⟩) (fun f hf => by simp at hf; subst hf; rfl) (fun f hf k hk => ?_) ?_
        ·simp at hf; subst hf
         refine ⟨(List.mem_filter.1 hk).1,fun e => ?_⟩
         obtain ⟨o',ho',hq'⟩ := hD'q k hk
         rw [e,ho] at ho'; injection ho' with ho'; subst ho'
         rw [hqo] at hq'; cases hq'
        ·refine draw_sound hG ops Q hns n _ rest _ _ _ w S m _ hrest hdn' (hr.put hv o.dst) h1 ?_ ?_
         ·rw [put_h]
          intro f hm hl
          rcases List.mem_append.1 hm with h2 | h2
          ·simp at h2; subst h2
           refine ⟨rfl,?_⟩
           cases id with
           | none => exact .inl ⟨hid,hr.heap.low _ hid⟩
           | some k =>
            obtain ⟨o',kb,e1,e2,e3⟩ := hid
            refine .inr ⟨k,behind ops i',o',kb,by simp,fun j o'' hj hqj hjb => ?_,e1,e2,e3⟩
            exact List.mem_filter.2 ⟨hjb,by simp [hj,hqj]⟩
          ·refine hfs _ (fun x hx => ?_) f h2 hl
           cases id with
           | none => exact hx
           | some k => exact List.mem_cons_of_mem _ hx
         ·intro f hm j hj
          rcases List.mem_append.1 hm with h2 | h2
          ·simp at h2; subst h2; exact hD'q j hj
          ·exact hq f h2 j hj
    ·exact first (v := undef) (F := []) (.inr ⟨hw,rfl⟩) (fun f hf => by cases hf) (fun f hf => by cases hf)
      (draw_sound hG ops Q hns n _ rest hs fs _ w S m _ hrest hdn' (hr.put .undef o.dst) h1 (by rw [put_h]; exact hfs hs (fun _ h => h)) hq)
   ·split at hn
    case h_2 => cases hn
    rename_i i' hone
    split at hn
    ·cases hn
    rename_i hnq
    simp at hn
    obtain ⟨rfl,rfl⟩ := hn
    refine ⟨hold,fun he => absurd he hrd,?_⟩
    rw [hone]
    intro j hj
    simp at hj
    subst hj
    simp only [awpDraw] at h
    cases ho : ops[j]? with
    | none => simp [ho] at h
    | some o =>
     simp only [ho,Bool.false_eq_true,if_false] at h
     have hqo : quiet o = false := by simpa [ho] using hnq
     have hjr : j ∈ Region.ready .any ops listed := by rw [hone]; simp
     have hdn' : ∀ j' k ok,(listed.setIfInBounds j true).getD j' false = true → ops[j']? = some ok → (∃ e ∈ ok.after,Region.binds .any e = true ∧ e.on = k) → (listed.setIfInBounds j true).getD k false = true := by
      intro j' k ok h1 h2 h3
      by_cases e : j = j'
      ·subst e
       obtain ⟨e,he,hb,rfl⟩ := h3
       obtain ⟨_,oj,hoj,hall⟩ := mem_ready.1 hjr
       rw [hoj] at h2; injection h2 with h2; subst h2
       exact getD_set_true (hall e he hb)
      ·rw [getD_set_ne false e] at h1
       exact getD_set_true (hdn j' k ok h1 h2 h3)
     unfold wpOp
     simp only [ho]
     rcases gd_sound hr h with ⟨hw,h1⟩ | ⟨hw,h1⟩
     ·simp only [hw,if_true]
      left
      refine Oper.wp_mono2 (op_sound (hG.fr hr.fr) hr.rebase h1 o.dst rfl) (fun a' w' hn => ?_) (fun c a' w' hq => ?_) (fun hq => ?_)
      ·obtain ⟨S',m',v,s,hk,hr',hkept⟩ := hn
       have hr2 := hr.trans hr'
       refine draw_sound hG ops Q hns n _ rest (hs.drop j) fs _ w' S' m' a' hrest hdn' hr2 hk ?_ hq
       intro f hm hl
       have hjn : j ∉ f.2.2 := fun hjm => by
        have := hl j hjm
        rcases Nat.lt_or_ge j listed.size with hlt | hge
        ·simp [hlt] at this
        ·have h0 := (mem_ready.1 hjr).1
         simp [Array.getElem?_eq_none hge] at h0
       have hl' : ∀ k ∈ f.2.2,listed.getD k false = false := fun k hk => by
        have := hl k hk
        rwa [getD_set_ne false (fun e => hjn (by rw [e]; exact hk))] at this
       obtain ⟨h2,h3⟩ := hf f hm hl'
       rcases h3 with ⟨h4,h5⟩ | ⟨id,deps,o',k,h4,h5,h6,h7,h8⟩
       ·exact ⟨by rw [hr'.fr.frozen _ h4 h5]; exact h2,.inl ⟨hr'.fr.up _ h4,Nat.lt_of_lt_of_le h5 hr'.fr.size⟩⟩
       ·have hjd : deps.contains j = false := by
         cases hc : deps.contains j with
         | false => rfl
         | true => exact absurd (h5 j o ho hqo (by simpa using hc)) hjn
        obtain ⟨hk1,hk2⟩ := hkept id deps h4 hjd
        refine ⟨by rw [hk1 f.1 o' k h6 h7 h8]; exact h2,.inr ⟨id,deps,o',k,List.mem_filter.2 ⟨h4,by simpa using hjd⟩,h5,?_,?_,h8⟩⟩
        ·rw [hr'.fr.pre id (List.getElem?_eq_some_iff.1 h6).1]; exact h6
        ·have : (s.put o.dst v).h = s.h := by cases o.dst <;> rfl
         rw [this,hk2 (List.getElem?_eq_some_iff.1 h7).1]; exact h7
      ·obtain ⟨S',m',v,s,u,he,hv,hx,hr'⟩ := hq
       injection he with he
       subst he
       exact ⟨S',m',v,s,u,rfl,hv,hx,(hr.trans hr').forget ops⟩
      ·obtain ⟨a',w',S',m',v,s,u,he,_⟩ := hq
       cases he
     ·simp only [hw,Bool.false_eq_true,if_false]
      refine draw_sound hG ops Q hns n _ rest (hs.drop j) fs _ w S m _ hrest hdn' (hr.put .undef o.dst) h1 ?_ hq
      intro f hm hl
      have hjn : j ∉ f.2.2 := fun hjm => by
       have := hl j hjm
       rcases Nat.lt_or_ge j listed.size with hlt | hge
       ·simp [hlt] at this
       ·have h0 := (mem_ready.1 hjr).1
        simp [Array.getElem?_eq_none hge] at h0
      have hl' : ∀ k ∈ f.2.2,listed.getD k false = false := fun k hk => by
       have := hl k hk
       rwa [getD_set_ne false (fun e => hjn (by rw [e]; exact hk))] at this
      obtain ⟨h2,h3⟩ := hf f hm hl'
      refine ⟨h2,?_⟩
      have hph : (st.put o.dst .undef).h = st.h := by cases o.dst <;> rfl
      rcases h3 with h3 | ⟨id,deps,o',k,h4,h5,h6,h7,h8⟩
      ·exact .inl h3
      ·have hjd : deps.contains j = false := by
        cases hc : deps.contains j with
        | false => rfl
        | true => exact absurd (h5 j o ho hqo (by simpa using hc)) hjn
       exact .inr ⟨id,deps,o',k,List.mem_filter.2 ⟨h4,by simpa using hjd⟩,h5,h6,by rw [hph]; exact h7,h8⟩
theorem tree_sound (hG : GOk P w0 S0) (ops : Array Oper) (Q : AEx → St → Prop) (hns : Region.noSelect ops = true) : ∀ (fuel : Nat) (listed : Array Bool) (hs : Held) (fs : Facts) (st : St) (w : World) (S : Nat → Prop) (m : List Loc) (a : Act),
  (∀ j k ok,listed.getD j false = true → ops[j]? = some ok → (∃ e ∈ ok.after,Region.binds .any e = true ∧ e.on = k) → listed.getD k false = true) → RelSM w0 S0 m0 w S m a st → awpTree P ops Q fuel listed hs st → FactsOk ops fs hs listed w S m st.h → (∀ f ∈ fs,∀ j ∈ f.2.2,∃ o,ops[j]? = some o ∧ quiet o = false) →
  wpAnyI P ops (QD w0 S0 m0 ops Q) fs fuel listed a w
 | 0,listed,hs,fs,st,w,S,m,a,hdn,hr,h,hf,hq => by
  simp only [awpTree] at h
  obtain ⟨hrd,h⟩ := h
  exact ⟨fun f hm hl => (hf f hm hl).1,hrd,S,m,.normal,st,trivial,hr,h⟩
 | n + 1,listed,hs,fs,st,w,S,m,a,hdn,hr,h,hf,hq => by
  simp only [awpTree] at h
  split at h
  ·rename_i hrd
   exact ⟨fun f hm hl => (hf f hm hl).1,fun _ => ⟨S,m,.normal,st,trivial,hr,h⟩,by rw [hrd]; simp⟩
  ·rename_i hrd
   have hold : Facts.hold fs listed w := fun f hm hl => (hf f hm hl).1
   split at h
   ·rename_i i' hn
    have hfind : (Region.ready .any ops listed).find? (fun i => ((ops[i]?).map quiet).getD false && Region.free .any ops listed i) = some i' := by
     unfold nextOp at hn
     simp only at hn
     split at hn
     ·rename_i i2 hfind
      simp at hn
      subst hn
      exact hfind
     ·split at hn
      ·split at hn
       ·cases hn
       ·simp at hn
      ·cases hn
    have hir := List.mem_of_find?_eq_some hfind
    have hcond := List.find?_some hfind
    simp only [Bool.and_eq_true] at hcond
    obtain ⟨hqu,hfree⟩ := hcond
    obtain ⟨hun,o,ho,hall⟩ := mem_ready.1 hir
    have hqo : quiet o = true := by simpa [ho] using hqu
    have hun' : listed.getD i' false = false := by
     rcases Nat.lt_or_ge i' listed.size with hlt | hge
     ·simp [hlt] at hun ⊢; exact hun
     ·simp [Array.getElem?_eq_none hge]
    have hDl : ∀ (n : Nat),∀ j ≤ n,j ∈ behind ops i' → listed.getD j false = false := by
     intro n
     induction n with
     | zero =>
      intro j hj hjb
      by_cases e : j = i'
      ·rw [e]; exact hun'
      ·obtain ⟨oj,hoj,e',he',hb,hon,hlt⟩ := behind_spec ops i' j hjb e
       omega
     | succ n ih =>
      intro j hj hjb
      by_cases e : j = i'
      ·rw [e]; exact hun'
      ·obtain ⟨oj,hoj,e',he',hb,hon,hlt⟩ := behind_spec ops i' j hjb e
       have h1 := ih e'.on (by omega) hon
       cases hc : listed.getD j false with
       | false => rfl
       | true => rw [hdn j e'.on oj hc hoj ⟨e',he',hb,rfl⟩] at h1; cases h1
    have hdn' : ∀ j' k ok,(listed.setIfInBounds i' true).getD j' false = true → ops[j']? = some ok → (∃ e ∈ ok.after,Region.binds .any e = true ∧ e.on = k) → (listed.setIfInBounds i' true).getD k false = true := by
     intro j' k ok h1 h2 h3
     by_cases e : i' = j'
     ·subst e
      obtain ⟨e,he,hb,rfl⟩ := h3
      rw [ho] at h2; injection h2 with h2; subst h2
      exact getD_set_true (hall e he hb)
     ·rw [getD_set_ne false e] at h1
      exact getD_set_true (hdn j' k ok h1 h2 h3)
    have hnq : ∀ f ∈ fs,i' ∉ f.2.2 := fun f hm hi => by
     obtain ⟨o',ho',hq'⟩ := hq f hm i' hi
     rw [ho] at ho'; injection ho' with ho'; subst ho'
     rw [hqo] at hq'; cases hq'
    -- the old facts, once i' has come
    have hfs : ∀ hs',(∀ x ∈ hs,x ∈ hs') → FactsOk ops fs hs' (listed.setIfInBounds i' true) w S m st.h := fun hs' hsub f hm hl => by
     have hl' : ∀ k ∈ f.2.2,listed.getD k false = false := fun k hk => by
      have := hl k hk
      rwa [getD_set_ne false (fun e => hnq f hm (by rw [e]; exact hk))] at this
     obtain ⟨h2,h3⟩ := hf f hm hl'
     refine ⟨h2,?_⟩
     rcases h3 with h3 | ⟨id,deps,o',k,h4,h5⟩
     ·exact .inl h3
     ·exact .inr ⟨id,deps,o',k,hsub _ h4,h5⟩
    have first : ∀ {v : Value} {F : Facts},YieldsB P ops o v F a → F.all w → (∀ f ∈ F,∀ k ∈ f.2.2,k ∈ behind ops i' ∧ k ≠ i') → wpAnyI P ops (QD w0 S0 m0 ops Q) (F ++ fs) n (listed.setIfInBounds i' true) (a.put o.dst v) w →
      wpAnyI P ops (QD w0 S0 m0 ops Q) fs (n + 1) listed a w := fun {v F} hy hF hD' H =>
     wpAnyI_first ho (fun j o cs b hj => Region.noSelect_spec hns j o cs b hj) (fun c a w hq => QD.put (Array.mem_of_getElem? ho) v c a w hq)
      (fun j hj hne => by obtain ⟨oj,h1,e,h2,h3,h4,_⟩ := behind_spec ops i' j hj hne; exact ⟨oj,h1,e,h2,h3,h4⟩) hD' hnq n listed a w
      (Region.free_spec ho hfree) (fun j hj => hDl j j (Nat.le_refl _) hj) hir hy hF H hold
    simp only [ho] at h
    rcases gd_sound hr h with ⟨hw,h1⟩ | ⟨hw,h1⟩
    ·have pureCase : ∀ (v : Value) (x : AV),(∀ w',(execOp a.eval o).run P w' = .ok (.value v) w') → VRel w S m v x → awpTree P ops Q n (listed.setIfInBounds i' true) hs (st.put o.dst x) → wpAnyI P ops (QD w0 S0 m0 ops Q) fs (n + 1) listed a w := by
      intro v x hrun hv hk
      exact first (F := []) (.inl ⟨hw,fun w' _ => hrun w'⟩) (fun f hf => by cases hf) (fun f hf => by cases hf)
       (tree_sound hG ops Q hns n _ hs fs _ w S m _ hdn' (hr.put hv o.dst) hk (by rw [put_h]; exact hfs hs (fun _ h => h)) hq)
     split at h1
     ·rename_i c x y hop
      cases hc : ev st.t c with
      | none => simp [hc,bO] at h1
      | some cv =>
       simp only [hc,bO] at h1
       obtain ⟨b,hcb,h1⟩ := bB_inv h1 (ev_rel hr.tmps hc)
       cases hx : ev st.t x with
       | none => simp [hx,bO] at h1
       | some vx =>
        simp only [hx,bO] at h1
        cases hy : ev st.t y with
        | none => simp [hy,bO] at h1
        | some vy =>
         simp only [hy,bO] at h1
         have hrun : ∀ w',(execOp a.eval o).run P w' = .ok (.value (if b then a.eval x else a.eval y)) w' := fun w' => by
          simp [execOp,hop,hcb,asBool]
         cases b with
         | true => exact pureCase _ vx hrun (by simpa using ev_rel hr.tmps hx) (by simpa using h1)
         | false => exact pureCase _ vy hrun (by simpa using ev_rel hr.tmps hy) (by simpa using h1)
     ·split at h1
      ·rename_i x hp
       obtain ⟨v,hrun,hv⟩ := pure_sound hr.tmps hp
       exact pureCase v x hrun hv h1
      ·cases hrd2 : readA P st.t st.h o with
       | none => simp [hrd2,bO] at h1
       | some xi =>
        obtain ⟨x,id⟩ := xi
        simp only [hrd2,bO] at h1
        obtain ⟨v,b,hv,hrun,hid⟩ := read_sound (P := P) (hG.fr hr.fr) hr.heap hr.tmps hrd2
        let D' := (behind ops i').filter fun j => ((ops[j]?).map fun o => !quiet o).getD false
        have hD'q : ∀ j ∈ D',∃ o,ops[j]? = some o ∧ quiet o = false := fun j hj => by
         have := (List.mem_filter.1 hj).2
         cases hoj : ops[j]? with
         | none => simp [hoj] at this
         | some oj => simp [hoj] at this; exact ⟨oj,rfl,this⟩
        refine first (F := [(b,w.heap[b]?,D')]) (v := v) (.inl ⟨hw,fun w' hF => hrun w' (hF (b,w.heap[b]?,D') (List.mem_singleton.2 rfl))⟩) (fun f hf => by simp at hf; subst hf; rfl) (fun f hf k hk => ?_) ?_
        ·simp at hf; subst hf
         refine ⟨(List.mem_filter.1 hk).1,fun e => ?_⟩
         obtain ⟨o',ho',hq'⟩ := hD'q k hk
         rw [e,ho] at ho'; injection ho' with ho'; subst ho'
         rw [hqo] at hq'; cases hq'
        ·refine tree_sound hG ops Q hns n _ _ _ _ w S m _ hdn' (hr.put hv o.dst) h1 ?_ ?_
         ·rw [put_h]
          intro f hm hl
          rcases List.mem_append.1 hm with h2 | h2
          ·simp at h2; subst h2
           refine ⟨rfl,?_⟩
           cases id with
           | none => exact .inl ⟨hid,hr.heap.low _ hid⟩
           | some k =>
            obtain ⟨o',kb,e1,e2,e3⟩ := hid
            refine .inr ⟨k,behind ops i',o',kb,by simp,fun j o'' hj hqj hjb => ?_,e1,e2,e3⟩
            exact List.mem_filter.2 ⟨hjb,by simp [hj,hqj]⟩
          ·refine hfs _ (fun x hx => ?_) f h2 hl
           cases id with
           | none => exact hx
           | some k => exact List.mem_cons_of_mem _ hx
         ·intro f hm j hj
          rcases List.mem_append.1 hm with h2 | h2
          ·simp at h2; subst h2; exact hD'q j hj
          ·exact hq f h2 j hj
    ·exact first (v := undef) (F := []) (.inr ⟨hw,rfl⟩) (fun f hf => by cases hf) (fun f hf => by cases hf)
      (tree_sound hG ops Q hns n _ hs fs _ w S m _ hdn' (hr.put .undef o.dst) h1 (by rw [put_h]; exact hfs hs (fun _ h => h)) hq)
   ·obtain ⟨hloud,h⟩ := h
    refine ⟨hold,fun he => absurd he hrd,?_⟩
    intro j hjr
    have h := h j hjr
    cases ho : ops[j]? with
    | none => simp [ho] at h
    | some o =>
     simp only [ho] at h
     have hqo : quiet o = false := by
      have := List.all_eq_true.1 hloud j hjr
      simpa [ho] using this
     have hdn' : ∀ j' k ok,(listed.setIfInBounds j true).getD j' false = true → ops[j']? = some ok → (∃ e ∈ ok.after,Region.binds .any e = true ∧ e.on = k) → (listed.setIfInBounds j true).getD k false = true := by
      intro j' k ok h1 h2 h3
      by_cases e : j = j'
      ·subst e
       obtain ⟨e,he,hb,rfl⟩ := h3
       obtain ⟨_,oj,hoj,hall⟩ := mem_ready.1 hjr
       rw [hoj] at h2; injection h2 with h2; subst h2
       exact getD_set_true (hall e he hb)
      ·rw [getD_set_ne false e] at h1
       exact getD_set_true (hdn j' k ok h1 h2 h3)
     unfold wpOp
     simp only [ho]
     rcases gd_sound hr h with ⟨hw,h1⟩ | ⟨hw,h1⟩
     ·simp only [hw,if_true]
      left
      refine Oper.wp_mono2 (op_sound (hG.fr hr.fr) hr.rebase h1 o.dst rfl) (fun a' w' hn => ?_) (fun c a' w' hq => ?_) (fun hq => ?_)
      ·obtain ⟨S',m',v,s,hk,hr',hkept⟩ := hn
       have hr2 := hr.trans hr'
       refine tree_sound hG ops Q hns n _ (hs.drop j) fs _ w' S' m' a' hdn' hr2 hk ?_ hq
       intro f hm hl
       have hjn : j ∉ f.2.2 := fun hjm => by
        have := hl j hjm
        rcases Nat.lt_or_ge j listed.size with hlt | hge
        ·simp [hlt] at this
        ·have h0 := (mem_ready.1 hjr).1
         simp [Array.getElem?_eq_none hge] at h0
       have hl' : ∀ k ∈ f.2.2,listed.getD k false = false := fun k hk => by
        have := hl k hk
        rwa [getD_set_ne false (fun e => hjn (by rw [e]; exact hk))] at this
       obtain ⟨h2,h3⟩ := hf f hm hl'
       rcases h3 with ⟨h4,h5⟩ | ⟨id,deps,o',k,h4,h5,h6,h7,h8⟩
       ·exact ⟨by rw [hr'.fr.frozen _ h4 h5]; exact h2,.inl ⟨hr'.fr.up _ h4,Nat.lt_of_lt_of_le h5 hr'.fr.size⟩⟩
       ·have hjd : deps.contains j = false := by
         cases hc : deps.contains j with
         | false => rfl
         | true => exact absurd (h5 j o ho hqo (by simpa using hc)) hjn
        obtain ⟨hk1,hk2⟩ := hkept id deps h4 hjd
        refine ⟨by rw [hk1 f.1 o' k h6 h7 h8]; exact h2,.inr ⟨id,deps,o',k,List.mem_filter.2 ⟨h4,by simpa using hjd⟩,h5,?_,?_,h8⟩⟩
        ·rw [hr'.fr.pre id (List.getElem?_eq_some_iff.1 h6).1]; exact h6
        ·have : (s.put o.dst v).h = s.h := by cases o.dst <;> rfl
         rw [this,hk2 (List.getElem?_eq_some_iff.1 h7).1]; exact h7
      ·obtain ⟨S',m',v,s,u,he,hv,hx,hr'⟩ := hq
       injection he with he
       subst he
       exact ⟨S',m',v,s,u,rfl,hv,hx,(hr.trans hr').forget ops⟩
      ·obtain ⟨a',w',S',m',v,s,u,he,_⟩ := hq
       cases he
     ·simp only [hw,Bool.false_eq_true,if_false]
      refine tree_sound hG ops Q hns n _ (hs.drop j) fs _ w S m _ hdn' (hr.put .undef o.dst) h1 ?_ hq
      intro f hm hl
      have hjn : j ∉ f.2.2 := fun hjm => by
       have := hl j hjm
       rcases Nat.lt_or_ge j listed.size with hlt | hge
       ·simp [hlt] at this
       ·have h0 := (mem_ready.1 hjr).1
        simp [Array.getElem?_eq_none hge] at h0
      have hl' : ∀ k ∈ f.2.2,listed.getD k false = false := fun k hk => by
       have := hl k hk
       rwa [getD_set_ne false (fun e => hjn (by rw [e]; exact hk))] at this
      obtain ⟨h2,h3⟩ := hf f hm hl'
      refine ⟨h2,?_⟩
      have hph : (st.put o.dst .undef).h = st.h := by cases o.dst <;> rfl
      rcases h3 with h3 | ⟨id,deps,o',k,h4,h5,h6,h7,h8⟩
      ·exact .inl h3
      ·have hjd : deps.contains j = false := by
        cases hc : deps.contains j with
        | false => rfl
        | true => exact absurd (h5 j o ho hqo (by simpa using hc)) hjn
       exact .inr ⟨id,deps,o',k,List.mem_filter.2 ⟨h4,by simpa using hjd⟩,h5,h6,by rw [hph]; exact h7,h8⟩
theorem any_conv {ops : Array Oper} {Q1 Q2 : Exit → Act → World → Prop} (hQ : ∀ e a w,Q1 e a w → Q2 e a w) : ∀ (n : Nat) (listed : Array Bool) (a : Act) (w : World),wpAny P .any ops Q1 n listed a w → wpAny P .any ops Q2 n listed a w := by
 have opc : ∀ (i : Nat) (K K' : Act → World → Prop) (a : Act) (w : World),(∀ a w,K a w → K' a w) → wpOp P ops Q1 i K a w → wpOp P ops Q2 i K' a w := by
  intro i K K' a w hK h
  unfold wpOp at *
  split
  ·rename_i ho; simp only [ho] at h; exact hK _ _ h
  ·rename_i o ho
   simp only [ho] at h
   split
   ·rename_i hw
    simp only [hw,if_true] at h
    refine h.imp (fun h => Oper.wp_mono2 h hK (fun c a w hq => hQ _ _ _ hq) (fun hq => ?_)) (fun h => ⟨h.1,?_⟩)
    ·obtain ⟨a,w,hq⟩ := hq; exact ⟨a,w,hQ _ _ _ hq⟩
    ·obtain ⟨a,w,hq⟩ := h.2; exact ⟨a,w,hQ _ _ _ hq⟩
   ·rename_i hw; simp only [hw] at h; exact hK _ _ h
 intro n
 induction n with
 | zero => intro listed a w h; exact ⟨h.1,hQ _ _ _ h.2⟩
 | succ n ih => intro listed a w h; exact ⟨fun he => hQ _ _ _ (h.1 he),fun i hi => opc i _ _ a w (fun a w => ih _ a w) (h.2 i hi)⟩
/-- Code. -/
theorem awp_sound (hmix : P.follows .mixedOrders = true) : ∀ (c : Code) (Q : AEx → St → Prop) (st : St) (w0 : World) (S0 : Nat → Prop) (m0 : List Loc) (w : World) (S : Nat → Prop) (m : List Loc) (a : Act),GOk P w0 S0 → awp P m0.length c Q st → RelSM w0 S0 m0 w S m a st →
  c.wp P (QC w0 S0 m0 Q) a w
 | .skip,Q,st,w0,S0,m0,w,S,m,a,hG,h,hr => wp_skip ⟨S,m,.normal,st,trivial,hr,h⟩
 | .region id ops draws,Q,st,w0,S0,m0,w,S,m,a,hG,h,hr => by
  simp only [awp] at h
  cases draws with
  | false => exact wp_region (ops_sound hG ops Q _ st w S m a hr (by simpa using h))
  | true =>
   simp only [if_true] at h
   have hl0 : ∀ j k ok,(Array.replicate ops.size false).getD j false = true → ops[j]? = some ok → (∃ e ∈ ok.after,Region.binds .any e = true ∧ e.on = k) → (Array.replicate ops.size false).getD k false = true := fun j k ok hj => by
    rcases Nat.lt_or_ge j ops.size with hlt | hge
    ·simp [hlt] at hj
    ·simp [Nat.not_lt.2 hge] at hj
   have hr1 : RelSM w0 S0 m0 { w with drawn := w.drawn + 1 } S m a st := hr.same_heap rfl rfl rfl rfl (Nat.le_succ _)
   cases hs : sched ops with
   | none =>
    simp only [hs] at h
    obtain ⟨hns,h⟩ := h
    refine wp_region_any hmix ?_
    have := tree_sound hG ops _ hns ops.size _ [] [] st _ S m a hl0 hr1 h (fun f hf => by cases hf) (fun f hf => by cases hf)
    refine any_conv (fun e a w hq => ?_) _ _ _ _ this.any
    obtain ⟨S1,m1,ae,st1,he,hr1,hq1⟩ := QD.qc hq
    cases ae with
    | normal =>
     obtain ⟨s2,hle,hq2⟩ := hq1
     obtain ⟨S2,m2,hr2⟩ := hle _ _ _ _ _ _ _ rfl hr1
     refine ⟨S2,m2,.normal,s2,?_,hr2,hq2⟩
     cases e <;> simp only [ExRel] at he ⊢
    | exit i => exact ⟨S1,m1,_,st1,he,hr1,hq1⟩
    | ret => exact ⟨S1,m1,_,st1,he,hr1,hq1⟩
    | pan v => exact ⟨S1,m1,_,st1,he,hr1,hq1⟩
   | some l =>
    simp only [hs] at h
    unfold sched at hs
    split at hs
    case isFalse => cases hs
    rename_i hns
    refine wp_region_any hmix ?_
    have := draw_sound hG ops Q hns ops.size _ l [] [] st _ S m a hs hl0 hr1 h (fun f hf => by cases hf) (fun f hf => by cases hf)
    exact any_conv (fun e a w hq => QD.qc hq) _ _ _ _ this.any
 | .seq x y,Q,st,w0,S0,m0,w,S,m,a,hG,h,hr => by
  simp only [awp] at h
  refine wp_seq (wp_mono (awp_sound hmix x _ st w0 S0 m0 w S m a hG h hr) fun e a' w' hq => ?_)
  obtain ⟨S',m',ae,st',he,hr',hq'⟩ := hq
  cases e <;> cases ae <;> simp only [ExRel] at he
  case normal.normal => exact awp_sound hmix y Q st' w0 S0 m0 w' S' m' a' hG hq' hr'
  case exit.exit => exact ⟨S',m',.exit _,st',he,hr',hq'⟩
  case ret.ret => exact ⟨S',m',.ret,st',trivial,hr',hq'⟩
  case panic.pan => exact ⟨S',m',.pan _,st',he,hr',hq'⟩
 | .cond c x y,Q,st,w0,S0,m0,w,S,m,a,hG,h,hr => by
  simp only [awp] at h
  cases hc : ev st.t c with
  | none => simp [hc,bO] at h
  | some cv =>
   simp only [hc,bO] at h
   obtain ⟨b,hcb,h⟩ := bB_inv h (ev_rel hr.tmps hc)
   refine wp_cond hcb ?_
   cases b with
   | true => simp only [if_true] at h ⊢; exact awp_sound hmix x Q st w0 S0 m0 w S m a hG h hr
   | false => simp only [Bool.false_eq_true,if_false] at h ⊢; exact awp_sound hmix y Q st w0 S0 m0 w S m a hG h hr
 | .block id c,Q,st,w0,S0,m0,w,S,m,a,hG,h,hr => by
  simp only [awp] at h
  refine wp_block (wp_mono (awp_sound hmix c _ st w0 S0 m0 w S m a hG h hr) fun e a' w' hq => ?_)
  obtain ⟨S',m',ae,st',he,hr',hq'⟩ := hq
  cases e <;> cases ae <;> simp only [ExRel] at he
  case normal.normal => exact ⟨S',m',.normal,st',trivial,hr',hq'⟩
  case exit.exit i j =>
   subst he
   simp only [AEx.inBlock] at hq'
   simp only [Exit.inBlock]
   split
   ·rename_i e; simp only [e,if_true] at hq'; exact ⟨S',m',.normal,st',trivial,hr',hq'⟩
   ·rename_i e; simp only [e,if_false] at hq'; exact ⟨S',m',.exit i,st',rfl,hr',hq'⟩
  case ret.ret => exact ⟨S',m',.ret,st',trivial,hr',hq'⟩
  case panic.pan => exact ⟨S',m',.pan _,st',he,hr',hq'⟩
 | .loop c,Q,st,w0,S0,m0,w,S,m,a,hG,h,hr => by
  simp only [awp] at h
  obtain ⟨I,μ,⟨s,hle,hI⟩,hround⟩ := h
  obtain ⟨S1,m1,hr1⟩ := hle w0 S0 m0 w S m a rfl hr
  refine wp_loop_ghost (fun n a w => ∃ S m s,μ s = n ∧ I s ∧ RelSM w0 S0 m0 w S m a s) (μ s) ⟨S1,m1,s,rfl,hI,hr1⟩ ?_
  rintro n a w ⟨S,m,s,rfl,hI,hr⟩
  refine wp_mono (awp_sound hmix c _ s w0 S0 m0 w S m a hG (hround s hI) hr) fun e a' w' hq => ?_
  obtain ⟨S',m',ae,st',he,hr',hq'⟩ := hq
  cases e <;> cases ae <;> simp only [ExRel] at he
  case normal.normal =>
   obtain ⟨s2,hle2,hI2,hμ⟩ := hq'
   obtain ⟨S2,m2,hr2⟩ := hle2 w0 S0 m0 w' S' m' a' rfl hr'
   exact ⟨μ s2,hμ,S2,m2,s2,rfl,hI2,hr2⟩
  case exit.exit => exact ⟨S',m',.exit _,st',he,hr',hq'⟩
  case ret.ret => exact ⟨S',m',.ret,st',trivial,hr',hq'⟩
  case panic.pan => exact ⟨S',m',.pan _,st',he,hr',hq'⟩
 | .exit id,Q,st,w0,S0,m0,w,S,m,a,hG,h,hr => wp_exit ⟨S,m,.exit id,st,rfl,hr,h⟩
 | .label l,Q,st,w0,S0,m0,w,S,m,a,hG,h,hr => wp_label ⟨S,m,.normal,st,trivial,hr,h⟩
 | .ret,Q,st,w0,S0,m0,w,S,m,a,hG,h,hr => wp_ret ⟨S,m,.ret,st,trivial,hr,h⟩
 | .rangeFunc _ _ _ _,Q,st,w0,S0,m0,w,S,m,a,hG,h,hr => by simp [awp] at h
 | .scope _,Q,st,w0,S0,m0,w,S,m,a,hG,h,hr => by simp [awp] at h
 | .goto _,Q,st,w0,S0,m0,w,S,m,a,hG,h,hr => by simp [awp] at h
 | .refuse _,Q,st,w0,S0,m0,w,S,m,a,hG,h,hr => by simp [awp] at h
end
end Go.Abs
