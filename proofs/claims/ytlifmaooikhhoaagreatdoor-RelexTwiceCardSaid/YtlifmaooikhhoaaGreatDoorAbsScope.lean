/- Functions that hold a label. -/
import Derived.Test.YtlifmaooikhhoaaGreatDoorAbsQ
import Derived.Scope
namespace Go.Abs
set_option linter.unusedVariables false
set_option linter.unusedSimpArgs false
section
variable {P : Program} {Q : AEx → St → Prop} {n0 : Nat} {st : St}
theorem sound_scope (hmix : P.follows .mixedOrders = true) {x y : Code} {w0 : World} {S0 : Nat → Prop} {m0 : List Loc} {w : World} {S : Nat → Prop} {m : List Loc} {a : Act} (hG : GOk P w0 S0) (h : awp P m0.length (.seq x y) Q st) (hr : RelSM w0 S0 m0 w S m a st) :
    (Code.seq x (.scope y)).wp P (QC w0 S0 m0 Q) a w := by
  simp only [awp] at h
  refine wp_seq (wp_mono (awp_sound hmix x _ st w0 S0 m0 w S m a hG h hr) fun e a' w' hq => ?_)
  obtain ⟨S', m', ae, st', he, hr', hq'⟩ := hq
  cases e <;> cases ae <;> simp only [ExRel] at he
  case normal.normal =>
    refine wp_scope_straight (wp_mono (awp_sound hmix y Q st' w0 S0 m0 w' S' m' a' hG hq' hr') fun e a w hq => ?_)
    cases e with
    | goto l =>
      obtain ⟨_, _, ae, _, he, _⟩ := hq
      cases ae <;> simp only [ExRel] at he
    | _ => exact hq
  case exit.exit => exact ⟨S', m', .exit _, st', he, hr', hq'⟩
  case ret.ret => exact ⟨S', m', .ret, st', trivial, hr', hq'⟩
  case panic.pan => exact ⟨S', m', .pan _, st', he, hr', hq'⟩
theorem body_wp_scope (hmix : P.follows .mixedOrders = true) {fn : Func} {x y : Code} {args : List AV} {h : List Blk} {o : AOut} {h' : List Blk} (ht : args.length ≤ fn.ntmps)
    (hw : awp P h.length (.seq x y) (retA P fn h.length o h') { t := args ++ List.replicate (fn.ntmps - args.length) .undef, h := h, d := [] })
    {w : World} {S : Nat → Prop} {m : List Loc} {cargs : List Value} (hG : GOk P w S) (hh : HRel w S m h) (hl : LRel w S m cargs args) :
    (Code.seq x (.scope y)).wp P (bodyPost P fn fun e w' => ∃ S' m', HRel w' S' m' h' ∧ ORel w' S' m' e o ∧ Fr w S m w' S' m') { tmps := cargs.toArray ++ Array.replicate (fn.ntmps - cargs.toArray.size) Go.undef, defers := [] } w := by
  have hlen : m.length = h.length := hh.len
  refine wp_mono (sound_scope hmix hG (by rw [hlen]; exact hw) (start_rel ht hh hl)) fun e a' w' hq => ?_
  obtain ⟨S1, m1, ae, st', he, hr', hq'⟩ := hq
  have hdl := hr'.defs.1
  have good : (st'.d = [] ∧ ∃ vs, resAs P st' fn.results.toList = some vs ∧ outOk h.length o (pack vs) st'.h h') → a'.defers = [] ∧ ∃ v, (results fn a'.tmps).run P w' = .ok v w' ∧ ∃ S' m', HRel w' S' m' h' ∧ ORel w' S' m' (.returned v) o ∧ Fr w S m w' S' m' := by
    rintro ⟨hd, vs, hvs, ho⟩
    rw [hd] at hdl
    exact ⟨List.eq_nil_of_length_eq_zero (by simpa using hdl), res_rel hG hr' hlen hvs ho⟩
  cases e <;> cases ae <;> simp only [ExRel] at he
  case normal.normal => exact good hq'
  case ret.ret => exact good hq'
  case exit.exit => exact hq'.elim
  case panic.pan v =>
    obtain ⟨hd, ho⟩ := hq'
    obtain ⟨u, rfl, hu⟩ := he
    rw [hd] at hdl
    cases o with
    | ret x => exact ho.elim
    | pan x =>
      obtain ⟨S', m', h1, h2, h3⟩ := fin_rel hlen hr' hu ho
      exact ⟨List.eq_nil_of_length_eq_zero (by simpa using hdl), S', m', h1, ⟨u, rfl, h2⟩, h3⟩
theorem ok_start_scope (hmix : P.follows .mixedOrders = true) {f : FuncId} {fn : Func} {x y : Code} (hf : P.funcs[f]? = some fn) (hn : (fn.name == "runtime.NumGoroutine") = false) (hb : fn.body = some (.seq x (.scope y))) {nt : Nat} (hnt : fn.ntmps = nt)
    {rs : List ResultVar} (hrs : fn.results.toList = rs) {args : List AV} {h : List Blk} {o : AOut} {h' : List Blk} {n0 k : Nat} (hn0 : h.length = n0) (ht : args.length + k = nt) {t0 : List AV} (htt : args ++ List.replicate k .undef = t0)
    (hw : awp P n0 (.seq x y) (retR P rs n0 o h') ⟨t0, h, []⟩) : Ok P f args h o h' := by
  subst hnt; subst hrs; subst hn0; subst htt
  have hk : fn.ntmps - args.length = k := by omega
  have e : retA P fn h.length o h' = retR P fn.results.toList h.length o h' := by
    funext e st
    cases e <;> rfl
  exact ⟨⟨fn, hf, hn, by rw [hb]; rfl⟩, fun w S m cargs hG hh hl => calls_of_wp hf hb (body_wp_scope hmix (by omega) (by rw [hk, e]; exact hw) hG hh hl)⟩
end
end Go.Abs
/- Code of which one operation lies outside the machine: a slice of an array behind a pointer. -/
namespace Go.Abs
set_option linter.unusedVariables false
set_option linter.unusedSimpArgs false
section
variable {P : Program} {Q : AEx → St → Prop} {n0 : Nat} {st : St}
/-- Code comes to Q from this state. -/
def Hyb (P : Program) (n0 : Nat) (c : Code) (Q : AEx → St → Prop) (st : St) : Prop :=
  ∀ (w0 : World) (S0 : Nat → Prop) (m0 : List Loc) (w : World) (S : Nat → Prop) (m : List Loc) (a : Act), m0.length = n0 → GOk P w0 S0 → RelSM w0 S0 m0 w S m a st → c.wp P (QC w0 S0 m0 Q) a w
def hybC (P : Program) (n0 : Nat) (y : Code) (Q : AEx → St → Prop) : AEx → St → Prop := AEx.then (Hyb P n0 y Q) Q
theorem hybC_normal (y : Code) (s : St) : hybC P n0 y Q .normal s = Hyb P n0 y Q s := rfl
theorem hybC_ret (y : Code) (s : St) : hybC P n0 y Q .ret s = Q .ret s := rfl
theorem hybC_pan (y : Code) (v : AV) (s : St) : hybC P n0 y Q (.pan v) s = Q (.pan v) s := rfl
theorem Hyb.of_awp (hmix : P.follows .mixedOrders = true) {c : Code} (h : awp P n0 c Q st) : Hyb P n0 c Q st := fun w0 S0 m0 w S m a hn hG hr =>
  awp_sound hmix c Q st w0 S0 m0 w S m a hG (by rw [hn]; exact h) hr
theorem Hyb.seqH {x y : Code} (h : Hyb P n0 x (hybC P n0 y Q) st) : Hyb P n0 (.seq x y) Q st := fun w0 S0 m0 w S m a hn hG hr => by
  refine wp_seq (wp_mono (h w0 S0 m0 w S m a hn hG hr) fun e a' w' hq => ?_)
  obtain ⟨S', m', ae, st', he, hr', hq'⟩ := hq
  cases e <;> cases ae <;> simp only [ExRel] at he
  case normal.normal => exact hq' w0 S0 m0 w' S' m' a' hn hG hr'
  case exit.exit => exact ⟨S', m', .exit _, st', he, hr', hq'⟩
  case ret.ret => exact ⟨S', m', .ret, st', trivial, hr', hq'⟩
  case panic.pan => exact ⟨S', m', .pan _, st', he, hr', hq'⟩
theorem Hyb.seqA (hmix : P.follows .mixedOrders = true) {x y : Code} (h : awp P n0 x (hybC P n0 y Q) st) : Hyb P n0 (.seq x y) Q st := .seqH (.of_awp hmix h)
/-- Operations come to Q from this state. -/
def HOps (P : Program) (n0 : Nat) (ops : Array Oper) (Q : AEx → St → Prop) (l : List Nat) (st : St) : Prop :=
  ∀ (w0 : World) (S0 : Nat → Prop) (m0 : List Loc) (w : World) (S : Nat → Prop) (m : List Loc) (a : Act), m0.length = n0 → GOk P w0 S0 → RelSM w0 S0 m0 w S m a st → wpOps P ops (QC w0 S0 m0 Q) l a w
def hopC (P : Program) (n0 : Nat) (ops : Array Oper) (Q : AEx → St → Prop) (l : List Nat) : AEx → St → Prop := AEx.then (HOps P n0 ops Q l) Q
theorem hopC_normal (ops : Array Oper) (l : List Nat) (s : St) : hopC P n0 ops Q l .normal s = HOps P n0 ops Q l s := rfl
theorem hopC_pan (ops : Array Oper) (l : List Nat) (v : AV) (s : St) : hopC P n0 ops Q l (.pan v) s = Q (.pan v) s := rfl
theorem Hyb.region {id : Nat} {ops : Array Oper} (h : HOps P n0 ops Q (List.range ops.size) st) : Hyb P n0 (.region id ops false) Q st := fun w0 S0 m0 w S m a hn hG hr =>
  wp_region (h w0 S0 m0 w S m a hn hG hr)
theorem HOps.of_awp {ops : Array Oper} {l : List Nat} (h : awpOps P ops Q l st) : HOps P n0 ops Q l st := fun w0 S0 m0 w S m a hn hG hr => ops_sound hG ops Q l st w S m a hr h
theorem HOps.app {ops : Array Oper} {l2 : List Nat} : ∀ (l : List Nat) (st : St), awpOps P ops (hopC P n0 ops Q l2) l st → HOps P n0 ops Q (l ++ l2) st
  | [], st, h => h
  | i :: rest, st, h => fun w0 S0 m0 w S m a hn hG hr => by
    simp only [awpOps] at h
    simp only [List.cons_append, wpOps]
    cases ho : ops[i]? with
    | none =>
      simp only [ho] at h ⊢
      exact HOps.app rest st h w0 S0 m0 w S m a hn hG hr
    | some o =>
      simp only [ho] at h ⊢
      rcases gd_sound hr h with ⟨hw, h1⟩ | ⟨hw, h1⟩
      · simp only [hw, if_true]
        left
        refine Oper.wp_mono2 (op_sound hG hr h1 o.dst rfl) (fun a' w' hn' => ?_) (fun c a' w' hq => ?_) (fun hq => ?_)
        · obtain ⟨S', m', v, s, hk, hr', _⟩ := hn'
          exact HOps.app rest _ hk w0 S0 m0 w' S' m' a' hn hG hr'
        · obtain ⟨S', m', v, s, u, he, hv, hx, hr'⟩ := hq
          injection he with he
          subst he
          exact ⟨S', m', .pan v, _, ⟨u, rfl, hv⟩, hr'.forget ops, hx⟩
        · obtain ⟨a', w', S', m', v, s, u, he, _⟩ := hq
          cases he
      · simp only [hw, Bool.false_eq_true, if_false]
        exact HOps.app rest _ h1 w0 S0 m0 w S m _ hn hG (hr.put .undef o.dst)
theorem nxt_ops (ops : Array Oper) (l : List Nat) : nxt P ops Q (.ops l) st = awpOps P ops Q l st := rfl
theorem HOps.appN {ops : Array Oper} {l2 : List Nat} (l : List Nat) (h : nxt P ops (hopC P n0 ops Q l2) (.ops l) st) : HOps P n0 ops Q (l ++ l2) st := HOps.app l st (by rw [← nxt_ops]; exact h)
theorem HOps.of_nxt {ops : Array Oper} {l : List Nat} (h : nxt P ops Q (.ops l) st) : HOps P n0 ops Q l st := HOps.of_awp (by rw [← nxt_ops]; exact h)
/-- A whole array, behind a pointer, as a slice. -/
theorem HOps.arr {ops : Array Oper} {i : Nat} {rest : List Nat} {o : Oper} {T e : TypeId} {x : Operand} {n : Nat} {ti ie : TI} (ho : ops[i]? = some o) (hop : o.op = .slice T x none none none) (hg : o.guard = none) {dst : Option Tmp} (hdst : o.dst = dst)
    (hT : tiOf P T = some ti) (hd : ti.desc = .array n e) (hie : tiOf P e = some ie) {id es r off : Nat} {cs : List AV} (hx : ev st.t x = some (.ptr id es r off)) (hz : r * es + off = 0) (hb : st.h[id]? = some (.box cs))
    (hn : 0 < n * ie.size) (hl : n * ie.size ≤ cs.length) (h : HOps P n0 ops Q rest (st.put dst (.ref id ie.size 0 n))) : HOps P n0 ops Q (i :: rest) st := fun w0 S0 m0 w S m a hm hG hr => by
  subst hdst
  simp only [wpOps, ho]
  have hw : Region.wanted o (yielded ops a.tmps) = true := by
    unfold Region.wanted
    rw [hg]
  simp only [hw, if_true]
  left
  obtain ⟨b, o', arr, U, hloc, hheap, hcell⟩ : ∃ b o' arr U, m[id]? = some (some (b, o')) ∧ w.heap[b]? = some (.cells arr U (0, 0)) ∧ ∀ (j : Nat) (x : AV), cs[j]? = some x → ∃ u, arr[o' + j]? = some u ∧ VRel w S m u x := by
    have hlt : id < m.length := by rw [hr.heap.len]; exact (List.getElem?_eq_some_iff.1 hb).1
    obtain ⟨b, o', arr, U, h1, h2, h3⟩ := hr.heap.blk id _ _ (List.getElem?_eq_getElem hlt) hb
    exact ⟨b, o', arr, U, by rw [List.getElem?_eq_getElem hlt, h1], h2, h3⟩
  have hsz : o' + n * ie.size ≤ arr.size := by
    have hlt : n * ie.size - 1 < cs.length := by omega
    obtain ⟨u, hu, _⟩ := hcell (n * ie.size - 1) cs[n * ie.size - 1] (List.getElem?_eq_getElem hlt)
    have := (Array.getElem?_eq_some_iff.1 hu).1
    omega
  have hv := ev_rel hr.tmps hx
  generalize hu : a.eval x = u at hv
  have hval : u = .pointer (some ⟨b, o', none⟩) := by
    cases hv with
    | ptr _ _ _ _ b2 o2 hm2 =>
      rw [hloc] at hm2
      cases hm2
      have e : o' + r * es + off = o' := by omega
      rw [e]
  have hn0 : n ≠ 0 := by rintro rfl; simp at hn
  have hex : (execOp a.eval o).run P w = .ok (.value (.slice (some ⟨b, o', none⟩) n n)) w := by
    have h1 : (Instr.sliceAt T (a.eval x) none none none).run P w = .ok (.slice (some ⟨b, o', none⟩) n n) w := by
      have hbd := run_sliceBounds (P := P) (isSlice := false) hr.tmps (lo := none) (hi := none) (len := n) (cap := n) (l := 0) (h := n) rfl rfl (Nat.zero_le _) (Nat.le_refl _) w
      simp only [Option.map_none] at hbd
      simp only [Instr.sliceAt, Sem.run_bind, ti_under hT, hd, Result.andThen_ok, hu, hval, Instr.sureAddr, Sem.run_pure, hbd, ti_size hie, Nat.sub_zero, if_neg hn0, Nat.zero_mul]
      rfl
    simp [execOp, hop, h1]
  refine wp_value hex _ _ ?_
  refine h w0 S0 m0 w S m _ hm hG (hr.put ?_ o.dst)
  have hvr := VRel.ref (w := w) (S := S) (m := m) id ie.size 0 n b o' n hloc (Nat.le_refl _) (fun arr' T' fr' ha => by
    rw [hheap] at ha
    cases ha
    rw [Nat.zero_add]
    exact hsz)
  rw [Nat.zero_mul, Nat.add_zero] at hvr
  exact hvr
/-- From code to the contract. -/
theorem body_wp_hyb {fn : Func} {c : Code} {args : List AV} {h : List Blk} {o : AOut} {h' : List Blk} (ht : args.length ≤ fn.ntmps)
    (hw : Hyb P h.length c (retA P fn h.length o h') { t := args ++ List.replicate (fn.ntmps - args.length) .undef, h := h, d := [] })
    {w : World} {S : Nat → Prop} {m : List Loc} {cargs : List Value} (hG : GOk P w S) (hh : HRel w S m h) (hl : LRel w S m cargs args) :
    c.wp P (bodyPost P fn fun e w' => ∃ S' m', HRel w' S' m' h' ∧ ORel w' S' m' e o ∧ Fr w S m w' S' m') { tmps := cargs.toArray ++ Array.replicate (fn.ntmps - cargs.toArray.size) Go.undef, defers := [] } w := by
  have hlen : m.length = h.length := hh.len
  refine wp_mono (hw w S m w S m _ hlen hG (start_rel ht hh hl)) fun e a' w' hq => ?_
  obtain ⟨S1, m1, ae, st', he, hr', hq'⟩ := hq
  have hdl := hr'.defs.1
  have good : (st'.d = [] ∧ ∃ vs, resAs P st' fn.results.toList = some vs ∧ outOk h.length o (pack vs) st'.h h') → a'.defers = [] ∧ ∃ v, (results fn a'.tmps).run P w' = .ok v w' ∧ ∃ S' m', HRel w' S' m' h' ∧ ORel w' S' m' (.returned v) o ∧ Fr w S m w' S' m' := by
    rintro ⟨hd, vs, hvs, ho⟩
    rw [hd] at hdl
    exact ⟨List.eq_nil_of_length_eq_zero (by simpa using hdl), res_rel hG hr' hlen hvs ho⟩
  cases e <;> cases ae <;> simp only [ExRel] at he
  case normal.normal => exact good hq'
  case ret.ret => exact good hq'
  case exit.exit => exact hq'.elim
  case panic.pan v =>
    obtain ⟨hd, ho⟩ := hq'
    obtain ⟨u, rfl, hu⟩ := he
    rw [hd] at hdl
    cases o with
    | ret x => exact ho.elim
    | pan x =>
      obtain ⟨S', m', h1, h2, h3⟩ := fin_rel hlen hr' hu ho
      exact ⟨List.eq_nil_of_length_eq_zero (by simpa using hdl), S', m', h1, ⟨u, rfl, h2⟩, h3⟩
theorem ok_start_hyb {f : FuncId} {fn : Func} {c : Code} (hf : P.funcs[f]? = some fn) (hn : (fn.name == "runtime.NumGoroutine") = false) (hb : fn.body = some c) {nt : Nat} (hnt : fn.ntmps = nt)
    {rs : List ResultVar} (hrs : fn.results.toList = rs) {args : List AV} {h : List Blk} {o : AOut} {h' : List Blk} {n0 k : Nat} (hn0 : h.length = n0) (ht : args.length + k = nt) {t0 : List AV} (htt : args ++ List.replicate k .undef = t0)
    (hw : Hyb P n0 c (retR P rs n0 o h') ⟨t0, h, []⟩) : Ok P f args h o h' := by
  subst hnt; subst hrs; subst hn0; subst htt
  have hk : fn.ntmps - args.length = k := by omega
  have e : retA P fn h.length o h' = retR P fn.results.toList h.length o h' := by
    funext e st
    cases e <;> rfl
  exact ⟨⟨fn, hf, hn, by rw [hb]; rfl⟩, fun w S m cargs hG hh hl => calls_of_wp hf hb (body_wp_hyb (by omega) (by rw [hk, e]; exact hw) hG hh hl)⟩
end
end Go.Abs
