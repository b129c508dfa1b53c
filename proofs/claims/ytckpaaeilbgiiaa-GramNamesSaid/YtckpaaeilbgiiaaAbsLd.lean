/- Maps; x.(T). -/
import Derived.Test.YtckpaaeilbgiiaaAbsLc
import Derived.MapKept
import Derived.Laws.LoneSync
namespace Go.Abs
set_option linter.unusedVariables false
set_option linter.unusedSimpArgs false

open Go.MapKept
section
variable {P : Program} {w0 : World} {S0 : Nat → Prop} {m0 : List Loc} {w : World} {S : Nat → Prop} {m : List Loc} {a : Act} {st : St}

theorem zeroV_run {T : TypeId} {z : AV} (h : zeroV P T = some z) (w : World) (S : Nat → Prop) (m : List Loc) : ∃ v, (∀ w', (zeroValue T).run P w' = .ok v w') ∧ VRel w S m v z := by
  simp only [zeroV, Option.bind_eq_some_iff] at h
  obtain ⟨i, hi, v, hv, hz⟩ := h
  exact ⟨v, fun w' => by simp [zeroValue, typeInfo, hi, hv], ofValue_rel hz w S m⟩
theorem eff_assert (hr : RelSM w0 S0 m0 w S m a st) {o : Oper} {x : Operand} {X A : TypeId} {ok : Bool} (ho : o.op = .typeAssert x X A ok) {i : TI} (hi : tiOf P A = some i) (hni : ∀ ms, i.desc ≠ .interface ms)
    {v : AV} (hv : ev st.t x = some v) {r : AV} (ha : assertA P A ok v = some r) : EffOk P w0 S0 m0 w S m a st o r st.h [] := by
  have hvv := ev_rel hr.tmps hv
  have hu := (tiOf_spec hi).1
  have fin : ∀ u, (Instr.typeAssert (a.eval x) X A ok).run P w = .ok u w → VRel w S m u r → EffOk P w0 S0 m0 w S m a st o r st.h [] := fun u h1 h2 =>
    ⟨u, w, m, wp_value (by simp [execOp, ho, h1]), hr, h2, fun _ _ _ _ _ _ _ _ => rfl, fun _ _ _ => rfl⟩
  have two : ∀ (u : Value) (y : AV) (b : Bool), VRel w S m u y → VRel w S m (.tuple #[u, .bool b]) (.tuple [y, .fv (.bool b)]) := fun u y b h => by
    refine .tuple _ _ rfl (fun i v x hv hx => ?_)
    match i with
    | 0 => simp at hv hx; subst hv; subst hx; exact h
    | 1 => simp at hv hx; subst hv; subst hx; exact .bool_mk b
    | i + 2 => simp at hx
  generalize hd : i.desc = d at hu hni
  have hun : ∀ w', (underlying A).run P w' = .ok d w' := fun w' => by rw [← hd]; exact ti_under hi w'
  unfold assertA at ha
  split at ha
  · rename_i T y
    generalize hax : a.eval x = ax at hvv fin
    cases hvv with
    | iface _ u _ hu' =>
      split at ha
      · rename_i he
        subst he
        cases ok with
        | true =>
          simp only [if_true, Option.some.injEq] at ha
          subst ha
          refine fin _ ?_ (two u y true hu')
          unfold Instr.typeAssert
          simp only [Sem.run_bind, hun, Result.andThen_ok]
          cases d <;> first | exact absurd rfl (hni _) | simp
        | false =>
          simp only [Bool.false_eq_true, if_false, Option.some.injEq] at ha
          subst ha
          refine fin _ ?_ hu'
          unfold Instr.typeAssert
          simp only [Sem.run_bind, hun, Result.andThen_ok]
          cases d <;> first | exact absurd rfl (hni _) | simp
      · rename_i hne
        split at ha
        case isFalse => cases ha
        rename_i hok
        subst hok
        simp only [Option.map_eq_some_iff] at ha
        obtain ⟨z, hz, rfl⟩ := ha
        obtain ⟨zv, hzv, hzr⟩ := zeroV_run hz w S m
        refine fin _ ?_ (two zv z false hzr)
        unfold Instr.typeAssert
        simp only [Sem.run_bind, hun, Result.andThen_ok]
        cases d <;> first | exact absurd rfl (hni _) | simp [hne, hzv]
  · split at ha
    case isFalse => cases ha
    rename_i hok
    subst hok
    simp only [Option.map_eq_some_iff] at ha
    obtain ⟨z, hz, rfl⟩ := ha
    obtain ⟨zv, hzv, hzr⟩ := zeroV_run hz w S m
    have hnil := hvv.nil_inv
    rw [hnil] at fin
    refine fin _ ?_ (two zv z false hzr)
    unfold Instr.typeAssert
    simp only [Sem.run_bind, hun, Result.andThen_ok]
    cases d <;> first | exact absurd rfl (hni _) | simp [hzv]
  · cases ha

theorem cellA_sound (hh : HRel w S m st.h) {p v : AV} {pv : Value} (hp : VRel w S m pv p) (h : cellA st.h p = some v) : ∃ ad u, pv = .pointer (some ad) ∧ w.cell? ad = some u ∧ w.frozen? ad = false ∧ VRel w S m u v := by
  unfold cellA at h
  split at h
  case h_2 => cases h
  rename_i id es r off
  generalize hpp : AV.ptr id es r off = pp at hp
  cases hp <;> simp at hpp
  rename_i b ob hm
  obtain ⟨rfl, rfl, rfl, rfl⟩ := hpp
  generalize hid : st.h[id]? = k at h
  split at h
  case h_2 => cases h
  rename_i cs
  obtain ⟨b', o', arr, U, hloc, hb, hcell⟩ := hh.blk id _ _ hm hid
  simp at hloc
  obtain ⟨rfl, rfl⟩ := hloc
  obtain ⟨u, hu, hv⟩ := hcell _ v h
  refine ⟨_, u, rfl, ?_, by simp [World.frozen?, hb], hv⟩
  rw [← Nat.add_assoc] at hu
  simp [World.cell?, hb, hu]
theorem eff_unsafe (hr : RelSM w0 S0 m0 w S m a st) {o : Oper} {s u e : TypeId} {x : Operand} (ho : o.op = .convert s u x) {i i2 ie : TI} (hs : tiOf P s = some i) (hd : i.desc = .pointer e) (hu : tiOf P u = some i2) (hd2 : i2.desc = .unsafePointer)
    (he : tiOf P e = some ie) (hne : ¬ ie.size = 0) {v c : AV} (hv : ev st.t x = some v) (hc : cellA st.h v = some c) : EffOk P w0 S0 m0 w S m a st o v st.h [] := by
  have hvv := ev_rel hr.tmps hv
  obtain ⟨ad, u', hax, h1, _, _⟩ := cellA_sound hr.heap hvv hc
  have hs' := (tiOf_spec hs).1
  have hu' := (tiOf_spec hu).1
  rw [hd] at hs'
  rw [hd2] at hu'
  obtain ⟨_, info, hinfo, hsz, _⟩ := tiOf_spec he
  have hrun := run_convert_to_unsafe (P := P) (w := w) hs' hu' (by rw [hinfo]; simp [hsz, hne]) h1
  refine ⟨a.eval x, w, m, wp_value (by simp [execOp, ho, hax, hrun]), hr, hvv, fun _ _ _ _ _ _ _ _ => rfl, fun _ _ _ => rfl⟩
theorem eff_makeMap (hr : RelSM w0 S0 m0 w S m a st) {o : Oper} {T : TypeId} (ho : o.op = .makeMap T none) : EffOk P w0 S0 m0 w S m a st o (.mp st.h.length) (st.h ++ [.map []]) [] := by
  have hrun : (execOp a.eval o).run P w = .ok (.value (.map (some w.heap.size))) (wpush w (.map #[] 0)) := by
    simp [execOp, ho, Instr.makeMap, wpush]
  refine ⟨_, _, _, wp_value hrun, hr.push (.map #[] 0) (.map []) ⟨w.heap.size, #[], 0, rfl, wpush_new _ _, rfl, by simp, by simp, by simp⟩, ?_, fun i b o' k _ hi _ _ => wpush_old w _ (hr.heap.lowm i b o' hi), fun i _ hi => by rw [List.getElem?_append_left hi]⟩
  exact .mp _ _ (by rw [← hr.heap.len]; simp)

theorem key_conc {d : TypeDesc} {k : FV} (hk : keyD d k = true) {v : Value} (h : FRel w S v k) : IsKey d v ∧ v = conc k := by
  cases d <;> cases k <;> simp [keyD] at hk <;> cases h <;> simp_all [IsKey, conc]
theorem same_key {d : TypeDesc} {k k' : FV} (hk : keyD d k = true) {u v : Value} (hu : FRel w S u k) (hv : FRel w S v k') {b : Bool} (h : sameK k k' = some b) : Instr.sameNow d u v = some b := by
  cases k <;> cases k' <;> simp only [sameK] at h <;> try cases h
  all_goals (cases hu; cases hv)
  · cases d <;> simp_all [keyD, Instr.sameNow]
  · split at h <;> simp at h
    cases d <;> simp_all [keyD, Instr.sameNow]
  · cases d <;> simp [keyD] at hk
    simp only [Instr.sameNow, Option.some.injEq]
    rename_i s s'
    rw [Bool.eq_iff_iff, bytes_beq]
    simp
theorem find_rel {d : TypeDesc} {k : FV} (hk : keyD d k = true) {u : Value} (hu : FRel w S u k) : ∀ (l : List MapEntry) (es : List (FV × AV)) (i : Nat) (r : Option (Nat × AV)), l.length = es.length →
    (∀ (i : Nat) (e : MapEntry) (p : FV × AV), l[i]? = some e → es[i]? = some p → FRel w S e.key p.1 ∧ VRel w S m e.val p.2) → findA k es i = some r →
    match r with
    | none => Instr.findNow d u l i = some none
    | some (j, v) => ∃ e, Instr.findNow d u l i = some (some (j, e.val)) ∧ VRel w S m e.val v ∧ i ≤ j ∧ l[j - i]? = some e ∧ FRel w S e.key k
  | [], [], i, r, _, _, h => by simp [findA] at h; subst h; simp [Instr.findNow]
  | e :: l, p :: es, i, r, hl, hrel, h => by
    obtain ⟨k', v⟩ := p
    obtain ⟨hk1, hv1⟩ := hrel 0 e (k', v) rfl rfl
    simp only [findA] at h
    split at h
    · rename_i hs
      simp only [Option.some.injEq] at h
      subst h
      refine ⟨e, ?_, hv1, Nat.le_refl _, by simp, ?_⟩
      · simp only [Instr.findNow, same_key hk hu hk1 hs]
      · have : k = k' := by
          cases k <;> cases k' <;> simp [sameK] at hs <;> try (subst hs; rfl)
          obtain ⟨rfl, rfl⟩ := hs; rfl
        rw [this]; exact hk1
    · rename_i hs
      have ih := find_rel hk hu l es (i + 1) r (by simpa using hl) (fun i e p he hp => hrel (i + 1) e p (by simpa using he) (by simpa using hp)) h
      cases r with
      | none => simpa only [Instr.findNow, same_key hk hu hk1 hs] using ih
      | some q =>
        obtain ⟨j, v'⟩ := q
        obtain ⟨e', h1, h2, h3, h4, h5⟩ := ih
        refine ⟨e', by simpa only [Instr.findNow, same_key hk hu hk1 hs] using h1, h2, by omega, ?_, h5⟩
        rw [show j - i = (j - (i + 1)) + 1 from by omega]
        simpa using h4
    · cases h
  | [], _ :: _, _, _, hl, _, _ => by simp at hl
  | _ :: _, [], _, _, hl, _, _ => by simp at hl

theorem eff_lookup (hr : RelSM w0 S0 m0 w S m a st) {o : Oper} {X K E : TypeId} {x k : Operand} {ok : Bool} (ho : o.op = .lookup X x k ok) {i ik : TI} (hi : tiOf P X = some i) (hd : i.desc = .map K E) (hik : tiOf P K = some ik)
    {mv : AV} {kf : FV} (hmv : ev st.t x = some mv) (hkv : ev st.t k = some (.fv kf)) (hkd : keyD ik.desc kf = true) {es : List (FV × AV)} (hes : mapOf st.h mv = some es) {r : Option (Nat × AV)} (hf : findA kf es 0 = some r)
    {v : AV} (hl : lookA P E ok r = some v) : EffOk P w0 S0 m0 w S m a st o v st.h [] := by
  have hmr := ev_rel hr.tmps hmv
  have hkr := ev_rel hr.tmps hkv
  have hkf : FRel w S (a.eval k) kf := by
    generalize a.eval k = u at hkr
    cases hkr
    assumption
  obtain ⟨hik', _⟩ := key_conc hkd hkf
  have hK := (tiOf_spec hik).1
  have two : ∀ (u : Value) (y : AV) (b : Bool), VRel w S m u y → VRel w S m (.tuple #[u, .bool b]) (.tuple [y, .fv (.bool b)]) := fun u y b h => by
    refine .tuple _ _ rfl (fun i v x hv hx => ?_)
    match i with
    | 0 => simp at hv hx; subst hv; subst hx; exact h
    | 1 => simp at hv hx; subst hv; subst hx; exact .bool_mk b
    | i + 2 => simp at hx
  have main : ∀ (arr : Array MapEntry), ((a.eval x = .map none ∧ arr = #[]) ∨ ∃ b clk, a.eval x = .map (some b) ∧ w.heap[b]? = some (.map arr clk)) → arr.toList.length = es.length →
      (∀ (i : Nat) (e : MapEntry) (p : FV × AV), arr.toList[i]? = some e → es[i]? = some p → FRel w S e.key p.1 ∧ VRel w S m e.val p.2) → EffOk P w0 S0 m0 w S m a st o v st.h [] := by
    intro arr hget hlen hrel
    have hfr := find_rel (m := m) hkd hkf arr.toList es 0 r hlen hrel hf
    have hrun : ∃ u, (Instr.lookup X (a.eval x) (a.eval k) ok).run P w = .ok u w ∧ VRel w S m u v := by
      unfold Instr.lookup
      have hmu := fun w' => ti_under hi w'
      rw [hd] at hmu
      simp only [Sem.run_bind, hmu, Result.andThen_ok]
      have hck := run_checkKey (P := P) (w := w) hK hik' arr.isEmpty 9999
      cases r with
      | none =>
        simp only [lookA, Option.map_eq_some_iff] at hl
        obtain ⟨z, hz, rfl⟩ := hl
        obtain ⟨zv, hzv, hzr⟩ := zeroV_run hz w S m
        have hfk := run_findKey (P := P) (w := w) hK hfr
        refine ⟨if ok then .tuple #[zv, .bool false] else zv, ?_, ?_⟩
        · rcases hget with ⟨he, rfl⟩ | ⟨b, clk, he, hb⟩
          · simp only [he, Sem.run_bind, Sem.run_pure, Result.andThen_ok, hck, hfk, hzv]
          · simp only [he, Go.MapKept.run_getObj_map hb, Sem.run_bind, Sem.run_pure, Result.andThen_ok, hck, hfk, hzv]
        · cases ok with
          | true => exact two _ _ _ hzr
          | false => exact hzr
      | some q =>
        obtain ⟨j, v'⟩ := q
        simp only [lookA, Option.some.injEq] at hl
        subst hl
        obtain ⟨e, hfn, hvr, _, _, _⟩ := hfr
        have hfk := run_findKey (P := P) (w := w) hK hfn
        refine ⟨if ok then .tuple #[e.val, .bool true] else e.val, ?_, ?_⟩
        · rcases hget with ⟨he, rfl⟩ | ⟨b, clk, he, hb⟩
          · simp only [he, Sem.run_bind, Sem.run_pure, Result.andThen_ok, hck, hfk]
          · simp only [he, Go.MapKept.run_getObj_map hb, Sem.run_bind, Sem.run_pure, Result.andThen_ok, hck, hfk]
        · cases ok with
          | true => exact two _ _ _ hvr
          | false => exact hvr
    obtain ⟨u, h1, h2⟩ := hrun
    exact ⟨u, w, m, wp_value (by simp [execOp, ho, h1]), hr, h2, fun _ _ _ _ _ _ _ _ => rfl, fun _ _ _ => rfl⟩
  unfold mapOf at hes
  split at hes
  · rename_i id
    generalize hid : st.h[id]? = kb at hes
    split at hes <;> simp at hes
    rename_i es'
    subst hes
    generalize hax : a.eval x = ax at hmr main
    cases hmr with
    | mp _ b hm =>
      obtain ⟨b', arr, clk, hloc, hb, hsz, _, _, hrel⟩ := hr.heap.blk id _ _ hm hid
      simp at hloc
      subst hloc
      exact main arr (.inr ⟨b, clk, rfl, hb⟩) (by simpa using hsz) (fun i e p he hp => hrel i e p (by simpa using he) hp)
  · simp only [Option.some.injEq] at hes
    subst hes
    have := hmr.nil_inv
    exact main #[] (.inl ⟨this, rfl⟩) rfl (fun i e p he hp => by simp at hp)
  · cases hes

theorem eff_mapUpdate (hr : RelSM w0 S0 m0 w S m a st) {o : Oper} {X K E : TypeId} {x k y : Operand} (ho : o.op = .mapUpdate X x k y) {i ik : TI} (hi : tiOf P X = some i) (hd : i.desc = .map K E) (hik : tiOf P K = some ik)
    {id : Nat} {kf : FV} {v : AV} (hmv : ev st.t x = some (.mp id)) (hkv : ev st.t k = some (.fv kf)) (hyv : ev st.t y = some v) (hkd : keyD ik.desc kf = true) {es : List (FV × AV)} (hid : st.h[id]? = some (.map es))
    {r : Option (Nat × AV)} (hf : findA kf es 0 = some r) :
    EffOk P w0 S0 m0 w S m a st o .undef (st.h.set id (.map (putE kf v es r))) [id] := by
  have hmr := ev_rel hr.tmps hmv
  have hkr := ev_rel hr.tmps hkv
  have hyr := ev_rel hr.tmps hyv
  have hkf : FRel w S (a.eval k) kf := by
    generalize a.eval k = u at hkr
    cases hkr
    assumption
  obtain ⟨hik', hkc⟩ := key_conc hkd hkf
  have hK := (tiOf_spec hik).1
  generalize hax : a.eval x = ax at hmr
  cases hmr with
  | mp _ b hm =>
    obtain ⟨b', arr, clk, hloc, hb, hsz, hborn, hrise, hrel⟩ := hr.heap.blk id _ _ hm hid
    simp at hloc
    subst hloc
    have hbl : b < w.heap.size := (Array.getElem?_eq_some_iff.1 hb).1
    have hfr := find_rel (m := m) hkd hkf arr.toList es 0 r (by simpa using hsz) (fun i e p he hp => hrel i e p (by simpa using he) hp) hf
    have wr : ∀ (arr' : Array MapEntry) (clk' : Nat), Wrote w { w with heap := w.heap.setIfInBounds b (.map arr' clk') } b := fun arr' clk' => by
      refine ⟨by simp, rfl, rfl, rfl, fun b' hne => by simp [Ne.symm hne], fun a2 T fr h2 => ?_⟩
      simp [hbl] at h2
    have fin : ∀ (arr' : Array MapEntry) (clk' : Nat) (es' : List (FV × AV)), (Instr.mapUpdate X (.map (some b)) (a.eval k) (a.eval y)).run P w = .ok () { w with heap := w.heap.setIfInBounds b (.map arr' clk') } →
        arr'.size = es'.length → (∀ (i : Nat) (e : MapEntry), arr'[i]? = some e → e.born < clk') → (∀ (i j : Nat) (e f : MapEntry), i < j → arr'[i]? = some e → arr'[j]? = some f → e.born < f.born) →
        (∀ (i : Nat) (e : MapEntry) (p : FV × AV), arr'[i]? = some e → es'[i]? = some p → FRel w S e.key p.1 ∧ VRel w S m e.val p.2) →
        EffOk P w0 S0 m0 w S m a st o .undef (st.h.set id (.map es')) [id] := fun arr' clk' es' hrun hs' hb' hr' hrel' => by
      have hw := wr arr' clk'
      have hmv2 := hw.move hr.heap hm hid rfl
      refine ⟨Go.undef, _, m, wp_skipped (by simp only [execOp, ho, hax, Sem.run_bind, hrun, Result.andThen_ok, Sem.run_pure]), hr.wrote hw hm hid rfl ?_, .undef, fun j b' o' k hj hmj hk hlv => ?_, fun j hj _ => by rw [List.getElem?_set_ne (Ne.symm (by simpa using hj))]⟩
      · refine ⟨b, arr', clk', rfl, by simp [hbl], hs', hb', hr', fun i e p he hp => ?_⟩
        obtain ⟨h1, h2⟩ := hrel' i e p he hp
        exact ⟨h1.stab hmv2.up hmv2.frozen, h2.move hmv2 hr.heap.lowm⟩
      · refine hw.other b' (fun e => ?_)
        subst e
        exact hr.heap.inj j id k _ b' o' 0 (by simpa using hj) hk hid hlv rfl hmj hm
    have hck := run_checkKey (P := P) (w := w) hK hik' false 9999
    cases r with
    | none =>
      have hfk := run_findKey (P := P) (w := w) hK hfr
      simp only [putE]
      refine fin (arr.push { key := a.eval k, val := a.eval y, born := clk }) (clk + 1) _ ?_ (by simp [hsz]) (fun i e he => ?_) (fun i j e f hij he hf' => ?_) (fun i e p he hp => ?_)
      · unfold Instr.mapUpdate
        simp only [Sem.run_bind, ti_under hi, hd, Result.andThen_ok, Go.MapKept.run_getObj_map hb, hck, hfk]
        exact Go.MapKept.run_setObj_map _ hb
      · rw [Array.getElem?_push] at he
        split at he
        · simp at he; subst he; simp
        · have := hborn i e he; omega
      · rw [Array.getElem?_push] at he hf'
        have hj : j ≤ arr.size := by
          split at hf'
          · omega
          · have := (Array.getElem?_eq_some_iff.1 hf').1; omega
        rw [if_neg (by omega)] at he
        split at hf'
        · simp at hf'; subst hf'; exact hborn i e he
        · exact hrise i j e f hij he hf'
      · rw [Array.getElem?_push] at he
        rw [List.getElem?_append] at hp
        split at he
        · rename_i e1
          rw [if_neg (by omega), ← hsz, e1] at hp
          simp at he hp
          subst he; subst hp
          exact ⟨hkf, hyr⟩
        · have hlt := (Array.getElem?_eq_some_iff.1 he).1
          rw [if_pos (by omega)] at hp
          exact hrel i e p he hp
    | some q =>
      obtain ⟨j, v'⟩ := q
      obtain ⟨e0, hfn, _, _, hj0, hke⟩ := hfr
      simp only [Nat.sub_zero, Array.getElem?_toList] at hj0
      have hfk := run_findKey (P := P) (w := w) hK hfn
      have hkeq : e0.key = a.eval k := by
        obtain ⟨_, h2⟩ := key_conc hkd hke
        rw [h2, hkc]
      have hjl : j < arr.size := (Array.getElem?_eq_some_iff.1 hj0).1
      have hstay : (Instr.keyThatStays (((arr[j]?).map (·.key)).getD (a.eval k)) (a.eval k)).run P w = .ok (a.eval k) w := by
        have hsb : Instr.sameBits 10000 (a.eval k) (a.eval k) = true := by
          rw [hkc]
          cases kf <;> cases hd2 : ik.desc <;> simp [hd2, keyD] at hkd <;> simp [conc, Instr.sameBits, bytes_beq]
        simp [Instr.keyThatStays, hj0, hkeq, hsb]
      have gm : ∀ (i : Nat) (e : MapEntry), (arr.modify j fun e => { e with key := a.eval k, val := a.eval y })[i]? = some e → ∃ e1, arr[i]? = some e1 ∧ e.born = e1.born ∧ (if i = j then e.key = a.eval k ∧ e.val = a.eval y else e = e1) := fun i e he => by
        rw [Array.getElem?_modify] at he
        split at he
        · rename_i e1
          subst e1
          simp only [Option.map_eq_some_iff] at he
          obtain ⟨e1, h1, rfl⟩ := he
          exact ⟨e1, h1, rfl, by simp⟩
        · rename_i hne
          exact ⟨e, he, rfl, by simp [Ne.symm hne]⟩
      simp only [putE]
      refine fin (arr.modify j fun e => { e with key := a.eval k, val := a.eval y }) clk _ ?_ (by simp [hsz]) (fun i e he => ?_) (fun i j' e f hij he hf' => ?_) (fun i e p he hp => ?_)
      · unfold Instr.mapUpdate
        simp only [Sem.run_bind, ti_under hi, hd, Result.andThen_ok, Go.MapKept.run_getObj_map hb, hck, hfk, hstay]
        exact Go.MapKept.run_setObj_map _ hb
      · obtain ⟨e1, h1, h2, _⟩ := gm i e he
        rw [h2]; exact hborn i e1 h1
      · obtain ⟨e1, h1, h2, _⟩ := gm i e he
        obtain ⟨f1, g1, g2, _⟩ := gm j' f hf'
        rw [h2, g2]; exact hrise i j' e1 f1 hij h1 g1
      · obtain ⟨e1, h1, _, h3⟩ := gm i e he
        rw [List.getElem?_set] at hp
        split at h3
        · rename_i ei
          subst ei
          rw [if_pos rfl, if_pos (by omega)] at hp
          simp at hp
          subst hp
          rw [h3.1, h3.2]
          exact ⟨hkf, hyr⟩
        · rename_i hne
          rw [if_neg (Ne.symm hne)] at hp
          subst h3
          exact hrel i e p h1 hp
end
end Go.Abs
