/- Functions that hold a label. -/
import Derived.Test.YtlifmaooikhhoaaGreatDoorAbsQ
import Derived.Scope
namespace Go.Abs
set_option linter.unusedVariables false
set_option linter.unusedSimpArgs false
section
variable {P : Program} {Q : AEx → St → Prop} {n0 : Nat} {st : St}
theorem sound_scope (hmix : P.follows .mixedOrders = true) {x y : Code} {w0 : World} {S0 : Nat → Prop} {m0 : List Loc} {w : World} {S : Nat → Prop} {m : List Loc} {a : Act} (hG : GOk P w0 S0) (h : awp P m0.length (.seq x y) Q st) (hr : RelSM w0 S0 m0 w S m a st) :
    (Code.seq x (.scope y)).wp P (QC w0 S0 m0 Q) a w := by
  simp only [awp] at h
  refine wp_seq (wp_mono (awp_sound hmix x _ st w0 S0 m0 w S m a hG h hr) fun e a' w' hq => ?_)
  obtain ⟨S', m', ae, st', he, hr', hq'⟩ := hq
  cases e <;> cases ae <;> simp only [ExRel] at he
  case normal.normal =>
    refine wp_scope_straight (wp_mono (awp_sound hmix y Q st' w0 S0 m0 w' S' m' a' hG hq' hr') fun e a w hq => ?_)
    cases e with
    | goto l =>
      obtain ⟨_, _, ae, _, he, _⟩ := hq
      cases ae <;> simp only [ExRel] at he
    | _ => exact hq
  case exit.exit => exact ⟨S', m', .exit _, st', he, hr', hq'⟩
  case ret.ret => exact ⟨S', m', .ret, st', trivial, hr', hq'⟩
  case panic.pan => exact ⟨S', m', .pan _, st', he, hr', hq'⟩
theorem body_wp_scope (hmix : P.follows .mixedOrders = true) {fn : Func} {x y : Code} {args : List AV} {h : List Blk} {o : AOut} {h' : List Blk} (ht : args.length ≤ fn.ntmps)
    (hw : awp P h.length (.seq x y) (retA P fn h.length o h') { t := args ++ List.replicate (fn.ntmps - args.length) .undef, h := h, d := [] })
    {w : World} {S : Nat → Prop} {m : List Loc} {cargs : List Value} (hG : GOk P w S) (hh : HRel w S m h) (hl : LRel w S m cargs args) :
    (Code.seq x (.scope y)).wp P (bodyPost P fn fun e w' => ∃ S' m', HRel w' S' m' h' ∧ ORel w' S' m' e o ∧ Fr w S m w' S' m') { tmps := cargs.toArray ++ Array.replicate (fn.ntmps - cargs.toArray.size) Go.undef, defers := [] } w := by
  have hlen : m.length = h.length := hh.len
  refine wp_mono (sound_scope hmix hG (by rw [hlen]; exact hw) (start_rel ht hh hl)) fun e a' w' hq => ?_
  obtain ⟨S1, m1, ae, st', he, hr', hq'⟩ := hq
  have hdl := hr'.defs.1
  have good : (st'.d = [] ∧ ∃ vs, resAs P st' fn.results.toList = some vs ∧ outOk h.length o (pack vs) st'.h h') → a'.defers = [] ∧ ∃ v, (results fn a'.tmps).run P w' = .ok v w' ∧ ∃ S' m', HRel w' S' m' h' ∧ ORel w' S' m' (.returned v) o ∧ Fr w S m w' S' m' := by
    rintro ⟨hd, vs, hvs, ho⟩
    rw [hd] at hdl
    exact ⟨List.eq_nil_of_length_eq_zero (by simpa using hdl), res_rel hG hr' hlen hvs ho⟩
  cases e <;> cases ae <;> simp only [ExRel] at he
  case normal.normal => exact good hq'
  case ret.ret => exact good hq'
  case exit.exit => exact hq'.elim
  case panic.pan v =>
    obtain ⟨hd, ho⟩ := hq'
    obtain ⟨u, rfl, hu⟩ := he
    rw [hd] at hdl
    cases o with
    | ret x => exact ho.elim
    | pan x =>
      obtain ⟨S', m', h1, h2, h3⟩ := fin_rel hlen hr' hu ho
      exact ⟨List.eq_nil_of_length_eq_zero (by simpa using hdl), S', m', h1, ⟨u, rfl, h2⟩, h3⟩
theorem ok_start_scope (hmix : P.follows .mixedOrders = true) {f : FuncId} {fn : Func} {x y : Code} (hf : P.funcs[f]? = some fn) (hn : (fn.name == "runtime.NumGoroutine") = false) (hb : fn.body = some (.seq x (.scope y))) {nt : Nat} (hnt : fn.ntmps = nt)
    {rs : List ResultVar} (hrs : fn.results.toList = rs) {args : List AV} {h : List Blk} {o : AOut} {h' : List Blk} {n0 k : Nat} (hn0 : h.length = n0) (ht : args.length + k = nt) {t0 : List AV} (htt : args ++ List.replicate k .undef = t0)
    (hw : awp P n0 (.seq x y) (retR P rs n0 o h') ⟨t0, h, []⟩) : Ok P f args h o h' := by
  subst hnt; subst hrs; subst hn0; subst htt
  have hk : fn.ntmps - args.length = k := by omega
  have e : retA P fn h.length o h' = retR P fn.results.toList h.length o h' := by
    funext e st
    cases e <;> rfl
  exact ⟨⟨fn, hf, hn, by rw [hb]; rfl⟩, fun w S m cargs hG hh hl => calls_of_wp hf hb (body_wp_scope hmix (by omega) (by rw [hk, e]; exact hw) hG hh hl)⟩
end
end Go.Abs
