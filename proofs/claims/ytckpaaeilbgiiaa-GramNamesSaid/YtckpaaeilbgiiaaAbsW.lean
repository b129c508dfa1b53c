/- Deferred calls, and recover. -/
import Derived.Test.YtckpaaeilbgiiaaAbsS
import Derived.Recover
namespace Go.Abs
set_option linter.unusedVariables false
set_option linter.unusedSimpArgs false

/-- How a frame is being left. -/
inductive AMode where
  | ret
  | pan (v : AV) (recovered : Bool)
inductive MRel (w : World) (S : Nat → Prop) (m : List Loc) : FrameMode → AMode → Prop
  | ret : MRel w S m .returning .ret
  | pan (u : Value) (v : AV) (r : Bool) (h : VRel w S m u v) : MRel w S m (.panicking [{ v := u, recovered := r }]) (.pan v r)
def settleA : AMode → AMode
  | .pan _ true => .ret
  | u => u
/-- What recover gives, and how the frame is left then. -/
def recA : AMode → AV × AMode
  | .ret => (.fv (.nil .nilIface), .ret)
  | .pan v false => (v, .pan v true)
  | .pan v true => (.fv (.nil .nilIface), .pan v true)

section
variable {P : Program} {w0 : World} {S0 : Nat → Prop} {m0 : List Loc} {w : World} {S : Nat → Prop} {m : List Loc} {a : Act} {st : St}

theorem MRel.settle {u : FrameMode} {x : AMode} (h : MRel w S m u x) : MRel w S m (settle u) (settleA x) := by
  cases h with
  | ret => exact .ret
  | pan u v r h =>
    cases r with
    | true => exact .ret
    | false => exact .pan u v false h
theorem MRel.fr {w' : World} {S' : Nat → Prop} {m' : List Loc} {u : FrameMode} {x : AMode} (h : MRel w S m u x) (hf : Fr w S m w' S' m') (hlow : ∀ (i b o : Nat), m[i]? = some (some (b, o)) → b < w.heap.size) : MRel w' S' m' u x := by
  cases h with
  | ret => exact .ret
  | pan u v r h => exact .pan u v r (h.move (Move.of_fr hf) hlow)
theorem MRel.run {u : FrameMode} {x : AMode} (h : MRel w S m u x) : u ≠ .run := by
  cases h <;> simp

/-- The contract of a deferred call: it returns. -/
def OkD (P : Program) (f : FuncId) (args : List AV) (u : AMode) (h : List Blk) (u' : AMode) (h' : List Blk) : Prop :=
  Enter P f ∧ ∀ w S m cargs mode, GOk P w S → HRel w S m h → LRel w S m cargs args → MRel w S m mode u →
    CallsD P f cargs.toArray mode w fun e mode' w' => (∃ v, e = .returned v) ∧ ∃ S' m', HRel w' S' m' h' ∧ MRel w' S' m' mode' u' ∧ Fr w S m w' S' m'

theorem okd_plain (hmix : P.follows .mixedOrders = true) {f : FuncId} {fn : Func} {c : Code} (hf : P.funcs[f]? = some fn) (hn : (fn.name == "runtime.NumGoroutine") = false) (hb : fn.body = some c)
    {args : List AV} {h : List Blk} {x : AV} {h' : List Blk} (ht : args.length ≤ fn.ntmps)
    (hw : awp P h.length c (retA P fn h.length (.ret x) h') { t := args ++ List.replicate (fn.ntmps - args.length) .undef, h := h, d := [] }) (u : AMode) : OkD P f args u h u h' :=
  ⟨⟨fn, hf, hn, by rw [hb]; rfl⟩, fun w S m cargs mode hG hh hl hm => (callsD_of_wp hf hb (body_wp hmix ht hw hG hh hl)).mono fun e u' w' ⟨hu, S', m', h1, h2, h3⟩ => by
    subst hu
    refine ⟨?_, S', m', h1, hm.fr h3 hh.lowm, h3⟩
    cases e with
    | returned v => exact ⟨v, rfl⟩
    | panicked c => exact h2.elim
    | outgrown => exact h2.elim⟩

theorem opsS_sound (hG : GOk P w0 S0) (ops : Array Oper) (Q : AEx → St → Prop) (cs : List Frame) (QS : Exit → Act → List Frame → World → Prop) (hQ : ∀ e a w, QC w0 S0 m0 Q e a w → QS e a cs w) :
    ∀ (l : List Nat) (st : St) (w : World) (S : Nat → Prop) (m : List Loc) (a : Act), RelSM w0 S0 m0 w S m a st → awpOps P ops Q l st → wpOpsS P ops QS l a cs w
  | [], st, w, S, m, a, hr, h => hQ _ _ _ ⟨S, m, .normal, st, trivial, hr, h⟩
  | i :: rest, st, w, S, m, a, hr, h => by
    simp only [awpOps] at h
    simp only [wpOpsS]
    cases ho : ops[i]? with
    | none =>
      simp only [ho] at h ⊢
      exact opsS_sound hG ops Q cs QS hQ rest st w S m a hr h
    | some o =>
      simp only [ho] at h ⊢
      rcases gd_sound hr h with ⟨hw, h1⟩ | ⟨hw, h1⟩
      · simp only [hw, if_true]
        have := Oper.wp_mono2 (next' := fun a' w' => wpOpsS P ops QS rest a' cs w') (Q' := fun e a' w' => QS e a' cs w') (op_sound hG hr h1 o.dst rfl) (fun a' w' hn => by
          obtain ⟨S', m', v, s, hk, hr', _⟩ := hn
          exact opsS_sound hG ops Q cs QS hQ rest _ w' S' m' a' hr' hk) (fun c a' w' hq => by
          obtain ⟨S', m', v, s, u, he, hv, hx, hr'⟩ := hq
          injection he with he
          subst he
          exact hQ _ _ _ ⟨S', m', .pan v, _, ⟨u, rfl, hv⟩, hr'.forget ops, hx⟩) (fun hq => by
          obtain ⟨a', w', S', m', v, s, u, he, _⟩ := hq
          cases he)
        unfold Oper.wp at this
        split
        · rename_i w' hrun
          rw [hrun] at this
          exact this.elim
        · exact this
      · simp only [hw, Bool.false_eq_true, if_false]
        exact opsS_sound hG ops Q cs QS hQ rest _ w S m _ (hr.put .undef o.dst) h1

theorem okd_rec (hmix : P.follows .mixedOrders = true) {f : FuncId} {fn : Func} {id : Nat} {ops : Array Oper} {rest : Code} (hf : P.funcs[f]? = some fn) (hn : (fn.name == "runtime.NumGoroutine") = false) (hb : fn.body = some (.seq (.region id ops false) rest))
    {r : Oper} (ho : ops[0]? = some r) (hro : r.op = .call { callee := .builtin .recover, args := #[], argTypes := #[] }) (hg : r.guard = none)
    {args : List AV} {h : List Blk} {x : AV} {h' : List Blk} {u : AMode} (ht : args.length ≤ fn.ntmps)
    (hw : awpOps P ops (AEx.then (awp P h.length rest (retA P fn h.length (.ret x) h')) (retA P fn h.length (.ret x) h')) (List.range ops.size).tail
      (({ t := args ++ List.replicate (fn.ntmps - args.length) .undef, h := h, d := [] } : St).put r.dst (recA u).1)) : OkD P f args u h (recA u).2 h' := by
  refine ⟨⟨fn, hf, hn, by rw [hb]; rfl⟩, fun w S m cargs mode hG hh hl hm => callsD_of_wpS hf hb fun c₀ cs hc₀ => ?_⟩
  have hlen : m.length = h.length := hh.len
  have h0 : 0 < ops.size := (Array.getElem?_eq_some_iff.1 ho).1
  have hrange : List.range ops.size = 0 :: (List.range ops.size).tail := by
    cases hs : ops.size with
    | zero => omega
    | succ n => simp [List.range_succ_eq_map]
  have hrun : ∀ a : Act, (execOp a.eval r).run P w = .ok .recover w := fun a => by
    simp [execOp, hro, resolve, invoke, builtin]
  have hwant : ∀ y, Region.wanted r y = true := fun y => by simp [Region.wanted, hg]
  -- what recover gives
  obtain ⟨rv, mode2, hrv, hm2, hrec⟩ : ∃ rv mode2, VRel w S m rv (recA u).1 ∧ MRel w S m mode2 (recA u).2 ∧
      ((recoverD (c₀ :: cs) = some (rv, { c₀ with mode := mode2 } :: cs)) ∨ (recoverD (c₀ :: cs) = none ∧ rv = .nilIface ∧ mode2 = c₀.mode)) := by
    subst hc₀
    generalize hmo : c₀.mode = mode at hm
    cases hm with
    | ret => exact ⟨.nilIface, .returning, .fv _ _ (.nil _ rfl), .ret, .inr ⟨by simp [recoverD, hmo], rfl, rfl⟩⟩
    | pan uu v rr hv =>
      cases rr with
      | true => exact ⟨.nilIface, _, .fv _ _ (.nil _ rfl), .pan uu v true hv, .inr ⟨by simp [recoverD, hmo], rfl, rfl⟩⟩
      | false => exact ⟨uu, _, hv, .pan uu v true hv, .inl (by simp [recoverD, hmo])⟩
  have hcs : ∃ cs', cs' = { c₀ with mode := mode2 } :: cs ∧ ∀ (ops : Array Oper) (QS : Exit → Act → List Frame → World → Prop) (l : List Nat) (a : Act), wpOpsS P ops QS l (a.put r.dst rv) cs' w →
      (match recoverD (c₀ :: cs) with
        | some (v, cs') => wpOpsS P ops QS l (a.put r.dst v) cs' w
        | none => wpOpsS P ops QS l (a.put r.dst .nilIface) (c₀ :: cs) w) := by
    refine ⟨_, rfl, fun ops QS l a h => ?_⟩
    rcases hrec with h1 | ⟨h1, rfl, rfl⟩
    · rw [h1]; exact h
    · rw [h1]; exact h
  obtain ⟨cs', hcs', hgo⟩ := hcs
  have fin : ∀ (e : Exit) (a' : Act) (w' : World), QC w S m (retA P fn h.length (.ret x) h') e a' w' → bodyPostS P fn c₀ cs (fun e mode' w' => (∃ v, e = .returned v) ∧ ∃ S' m', HRel w' S' m' h' ∧ MRel w' S' m' mode' (recA u).2 ∧ Fr w S m w' S' m') e a' cs' w' := fun e a' w' hq => by
    obtain ⟨S1, m1, ae, st', he, hr', hq'⟩ := hq
    have hdl := hr'.defs.1
    have good : (st'.d = [] ∧ ∃ vs, resAs P st' fn.results.toList = some vs ∧ outOk h.length (.ret x) (pack vs) st'.h h') → a'.defers = [] ∧ ∃ u', cs' = { c₀ with mode := u' } :: cs ∧ ∃ v, (results fn a'.tmps).run P w' = .ok v w' ∧
        (∃ v', Ending.returned v = .returned v') ∧ ∃ S' m', HRel w' S' m' h' ∧ MRel w' S' m' u' (recA u).2 ∧ Fr w S m w' S' m' := by
      rintro ⟨hd, vs, hvs, ho⟩
      rw [hd] at hdl
      obtain ⟨v, hv, S', m', g1, g2, g3⟩ := res_rel hG hr' hlen hvs ho
      exact ⟨List.eq_nil_of_length_eq_zero (by simpa using hdl), mode2, hcs', v, hv, ⟨v, rfl⟩, S', m', g1, hm2.fr g3 hh.lowm, g3⟩
    cases e <;> cases ae <;> simp only [ExRel] at he
    case normal.normal => exact good hq'
    case ret.ret => exact good hq'
    case exit.exit => exact hq'.elim
    case panic.pan v => exact hq'.2.elim
  refine wpS_seq (wpS_region ?_)
  rw [hrange]
  simp only [wpOpsS, ho, hwant, if_true, hrun]
  refine hgo _ _ _ _ ?_
  have hr0 := start_rel (fn := fn) ht hh hl
  refine opsS_sound hG ops _ cs' _ (fun e a' w' hq => ?_) _ _ w S m _ (hr0.put hrv r.dst) hw
  obtain ⟨S1, m1, ae, st', he, hr', hq'⟩ := hq
  cases e <;> cases ae <;> simp only [ExRel] at he
  case normal.normal => exact wpS_of_wp (wp_mono (awp_sound hmix rest _ st' w S m w' S1 m1 a' hG (by rw [hlen]; exact hq') hr') fin)
  case ret.ret => exact fin .ret a' w' ⟨S1, m1, .ret, st', trivial, hr', hq'⟩
  case exit.exit => exact fin (.exit _) a' w' ⟨S1, m1, .exit _, st', he, hr', hq'⟩
  case panic.pan => exact fin (.panic _) a' w' ⟨S1, m1, .pan _, st', he, hr', hq'⟩

/-- What is put off is done, the last first. -/
def LeaveA (P : Program) (rs : List ResultVar) (n0 : Nat) (o : AOut) (h' : List Blk) (t : List AV) : List (FuncId × List AV × List AV) → AMode → List Blk → Prop
  | [], .ret, h => ∃ vs, resAs P ⟨t, h, []⟩ rs = some vs ∧ outOk n0 o (pack vs) h h'
  | [], .pan v false, h => match o with
    | .ret _ => False
    | .pan x => Le n0 ⟨[v], h, []⟩ ⟨[x], h', []⟩
  | [], .pan _ true, _ => False
  | (f, as, cs) :: ds, u, h => ∃ u' h2, OkD P f (as ++ cs) u h u' h2 ∧ LeaveA P rs n0 o h' t ds (settleA u') h2

theorem leaves_sound {fn : Func} {rs : List ResultVar} (hrs : fn.results.toList = rs) {n0 : Nat} {o : AOut} {h' : List Blk} (hG : GOk P w0 S0) (hn0 : m0.length = n0) {t : List AV} :
    ∀ (dsA : List (FuncId × List AV × List AV)) (w : World) (S : Nat → Prop) (m : List Loc) (ds : List Deferred) (u : FrameMode) (x : AMode) (h : List Blk) (tmps : Array Value), RelSM w0 S0 m0 w S m { tmps := tmps, defers := ds } ⟨t, h, dsA⟩ → MRel w S m u x →
      LeaveA P rs n0 o h' t dsA x h → Leaves P fn tmps (fun e w' => ∃ S' m', HRel w' S' m' h' ∧ ORel w' S' m' e o ∧ Fr w0 S0 m0 w' S' m') ds u w
  | [], w, S, m, ds, u, x, h, tmps, hr, hm, hl => by
    subst hrs
    have hd : ds = [] := List.eq_nil_of_length_eq_zero (by simpa using hr.defs.1)
    subst hd
    have hr0 : RelSM w0 S0 m0 w S m { tmps := tmps, defers := [] } ⟨t, h, []⟩ := hr
    cases hm with
    | ret =>
      obtain ⟨vs, hvs, ho⟩ := hl
      exact res_rel hG hr0 hn0 hvs ho
    | pan uu v r hv =>
      cases r with
      | true => exact hl.elim
      | false =>
        cases o with
        | ret x => exact hl.elim
        | pan x =>
          obtain ⟨S', m', h1, h2, h3⟩ := fin_rel hn0 hr0 hv hl
          exact ⟨S', m', h1, ⟨uu, rfl, h2⟩, h3⟩
  | (f, as, cs) :: dsA, w, S, m, ds, u, x, h, tmps, hr, hm, hl => by
    obtain ⟨u', h2, ⟨hent, hok⟩, hrest⟩ := hl
    cases ds with
    | nil => have := hr.defs.1; simp at this
    | cons df ds =>
      obtain ⟨caps, htar, ha, hc⟩ := hr.defs.2 0 df (f, as, cs) rfl rfl
      simp only at ha hc htar
      have hargs : LRel w S m (df.args.toList ++ caps.toList) (as ++ cs) := LRel.append ha hc
      have hinv : (invoke df.target df.args).run P w = .ok (.enter f (df.args.toList ++ caps.toList).toArray) w := by
        have e : (df.args ++ caps) = (df.args.toList ++ caps.toList).toArray := by apply Array.ext'; simp
        rw [htar]
        simp only [invoke, e]
        exact enter_run hent _ w
      refine ⟨hm.run, _, _, f, _, htar, hinv, (hok w S m _ u (hG.fr hr.fr) hr.heap hargs hm).mono fun e mode' w' hq => ?_⟩
      obtain ⟨⟨v, rfl⟩, S', m', hh, hm', hf⟩ := hq
      have hr' : RelSM w0 S0 m0 w' S' m' { tmps := tmps, defers := df :: ds } ⟨t, h2, (f, as, cs) :: dsA⟩ := hr.move (Move.of_fr hf) hh
      refine leaves_sound hrs hG hn0 dsA w' S' m' ds _ _ h2 tmps ⟨hr'.heap, hr'.tmps, ⟨by simpa using hr'.defs.1, fun i d x hd hx => hr'.defs.2 (i + 1) d x (by simpa using hd) (by simpa using hx)⟩, hr'.fr⟩ hm'.settle hrest

def retD (P : Program) (rs : List ResultVar) (n0 : Nat) (o : AOut) (h' : List Blk) : AEx → St → Prop
  | .normal, st | .ret, st => LeaveA P rs n0 o h' st.t st.d .ret st.h
  | .pan v, st => LeaveA P rs n0 o h' st.t st.d (.pan v false) st.h
  | .exit _, _ => False
theorem ok_intro_d (hmix : P.follows .mixedOrders = true) {f : FuncId} {fn : Func} {c : Code} (hf : P.funcs[f]? = some fn) (hn : (fn.name == "runtime.NumGoroutine") = false) (hb : fn.body = some c)
    {args : List AV} {h : List Blk} {o : AOut} {h' : List Blk} (ht : args.length ≤ fn.ntmps)
    (hw : awp P h.length c (retD P fn.results.toList h.length o h') { t := args ++ List.replicate (fn.ntmps - args.length) .undef, h := h, d := [] }) : Ok P f args h o h' := by
  refine ⟨⟨fn, hf, hn, by rw [hb]; rfl⟩, fun w S m cargs hG hh hl => calls_of_wp_defers hf hb ?_⟩
  have hlen : m.length = h.length := hh.len
  refine wp_mono (awp_sound hmix c _ _ w S m w S m _ hG (by rw [hlen]; exact hw) (start_rel ht hh hl)) fun e a' w' hq => ?_
  obtain ⟨S1, m1, ae, st', he, hr', hq'⟩ := hq
  cases e <;> cases ae <;> simp only [ExRel] at he
  case normal.normal => exact leaves_sound rfl hG hlen st'.d w' S1 m1 a'.defers _ _ st'.h a'.tmps hr' .ret hq'
  case ret.ret => exact leaves_sound rfl hG hlen st'.d w' S1 m1 a'.defers _ _ st'.h a'.tmps hr' .ret hq'
  case exit.exit => exact hq'.elim
  case panic.pan v =>
    obtain ⟨u, rfl, hu⟩ := he
    exact leaves_sound rfl hG hlen st'.d w' S1 m1 a'.defers _ _ st'.h a'.tmps hr' (.pan u v false hu) hq'
end
end Go.Abs
