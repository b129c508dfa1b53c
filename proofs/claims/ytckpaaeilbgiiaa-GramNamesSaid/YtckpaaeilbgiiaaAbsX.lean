/- Calls of the model's own functions: atomics of one goroutine, marks, strings. -/
import Derived.Test.YtckpaaeilbgiiaaAbsW
import Derived.Laws.LoneSync
import Derived.Lib.Bytealg
namespace Go.Abs
set_option linter.unusedVariables false
set_option linter.unusedSimpArgs false

inductive Ext where
  | load (k : IntKind)
  | store
  | cas (k : IntKind)
  | add (k : IntKind)
  | nop0
  | nop1
  | idxByte
def setA (h : List Blk) (v : AV) : AV → Option (List Blk × Nat)
  | .ptr id es r off => match h[id]? with
    | some (.box cs) => if r * es + off < cs.length then some (h.set id (.box (cs.set (r * es + off) v)), id) else none
    | _ => none
  | _ => none
def idxB (c : Nat) : List UInt8 → Nat → Int
  | [], _ => -1
  | b :: l, i => if b.toNat = c then i else idxB c l (i + 1)
def extF (h : List Blk) : Ext → List AV → Option (AV × List Blk × List Nat)
  | .load k, [p] => match cellA h p with
    | some (.fv (.int k' n)) => if k = k' then some (.fv (.int k n), h, []) else none
    | _ => none
  | .store, [p, .fv (.int k y)] => (setA h (.fv (.int k y)) p).map fun (h', id) => (.tuple [], h', [id])
  | .cas k, [p, .fv (.int k1 o), .fv (.int k2 y)] => match cellA h p with
    | some (.fv (.int k' n)) => if k = k' ∧ k1 = k ∧ k2 = k then (if n = o then (setA h (.fv (.int k y)) p).map fun (h', id) => (.fv (.bool true), h', [id]) else some (.fv (.bool false), h, [])) else none
    | _ => none
  | .add k, [p, .fv (.int k1 y)] => match cellA h p with
    | some (.fv (.int k' n)) => if k = k' ∧ k1 = k then (setA h (.fv (.int k (k.wrap (n + y)))) p).map fun (h', id) => (.fv (.int k (k.wrap (n + y))), h', [id]) else none
    | _ => none
  | .nop0, [] => some (.tuple [], h, [])
  | .nop1, [.ptr _ _ _ _] => some (.tuple [], h, [])
  | .idxByte, [.fv (.str s), .fv (.int .u8 c)] => if 0 ≤ c ∧ c < 256 then some (.fv (.int .i64 (idxB c.toNat s 0)), h, []) else none
  | _, _ => none
def Ext.impl : Ext → (Array Value → Sem Value) → Prop
  | .load k, e => e = Extern.Atomic.loadT (.int k)
  | .store, e => e = Extern.Atomic.storeT
  | .cas k, e => e = Extern.Atomic.casT (.int k)
  | .add k, e => e = Extern.Atomic.update (Op.intArith .add) k true
  | .nop0, e => ∃ m : Mark, e = fun _ => do mark m; pure Extern.Race.none_
  | .nop1, e => ∃ m : Addr → Mark, e = Extern.Race.marked m
  | .idxByte, e => e = Extern.BytealgIndexByte.indexByte
def ExtOk (P : Program) (f : FuncId) (x : Ext) : Prop := ∃ fn e, P.funcs[f]? = some fn ∧ (fn.name == "runtime.NumGoroutine") = false ∧ fn.body.isNone = true ∧ Extern.findNext fn = none ∧ Extern.find fn = some e ∧ x.impl e

section
variable {P : Program} {w0 : World} {S0 : Nat → Prop} {m0 : List Loc} {w : World} {S : Nat → Prop} {m : List Loc} {a : Act} {st : St}

theorem setA_sound (hr : RelSM w0 S0 m0 w S m a st) {p v : AV} {pv u : Value} (hp : VRel w S m pv p) (hv : VRel w S m u v) {h' : List Blk} {id : Nat} (h : setA st.h v p = some (h', id)) :
    ∃ ad u0, pv = .pointer (some ad) ∧ w.cell? ad = some u0 ∧ w.frozen? ad = false ∧ RelSM w0 S0 m0 (w.setCell ad u) S m a { st with h := h' } ∧
      (∀ (i b o' : Nat) (k : Blk), i ∉ [id] → m[i]? = some (some (b, o')) → st.h[i]? = some k → k.live = true → (w.setCell ad u).heap[b]? = w.heap[b]?) ∧ ∀ i, i ∉ [id] → i < st.h.length → h'[i]? = st.h[i]? := by
  unfold setA at h
  split at h
  case h_2 => cases h
  rename_i id' es r off
  generalize hpp : AV.ptr id' es r off = pp at hp
  cases hp <;> simp at hpp
  rename_i b ob hm
  obtain ⟨rfl, rfl, rfl, rfl⟩ := hpp
  generalize hid : st.h[id']? = k at h
  split at h
  case h_2 => cases h
  rename_i cs
  split at h <;> simp at h
  rename_i hlt
  obtain ⟨rfl, rfl⟩ := h
  obtain ⟨b', o', arr, U, hloc, hb, hcell⟩ := hr.heap.blk id' _ _ hm hid
  simp at hloc
  obtain ⟨rfl, rfl⟩ := hloc
  obtain ⟨u0, hu0, _⟩ := hcell (r * es + off) cs[r * es + off] (by simp)
  rw [← Nat.add_assoc] at hu0
  have hroom : ob + r * es + off < arr.size := (Array.getElem?_eq_some_iff.1 hu0).1
  have hset : w.setCell ⟨b, ob + r * es + off, none⟩ u = wcells w b (putCells arr (ob + r * es + off) [u]) U (0, 0) := by
    have := setCells_eq [u] w b (ob + r * es + off) arr U hb
    simpa [World.setCells] using this
  have hw := wcells_wrote (fr' := (0, 0)) hb (putCells_size [u] arr (ob + r * es + off))
  have hmv := hw.move hr.heap hm hid rfl
  refine ⟨_, u0, rfl, by simp [World.cell?, hb, hu0], by simp [World.frozen?, hb], ?_⟩
  rw [hset]
  refine ⟨hr.wrote hw hm hid rfl ?_, fun j b' o' k hj hmj hk hlv => ?_, fun j hj _ => by rw [List.getElem?_set_ne (Ne.symm (by simpa using hj))]⟩
  · refine ⟨b, ob, _, U, rfl, wcells_at (Array.getElem?_eq_some_iff.1 hb).1, fun j x1 hx1 => ?_⟩
    rw [putCells_get _ _ _ _ (by simp only [List.length_singleton]; omega)]
    rw [List.getElem?_set] at hx1
    simp only [List.length_singleton]
    split at hx1
    · rename_i e
      subst e
      simp at hx1
      subst hx1
      have hc' : ob + r * es + off ≤ ob + (r * es + off) ∧ ob + (r * es + off) < ob + r * es + off + 1 := by omega
      simp only [hc', and_self, if_true]
      refine ⟨u, ?_, hv.move hmv hr.heap.lowm⟩
      rw [show ob + (r * es + off) - (ob + r * es + off) = 0 from by omega]
      rfl
    · rename_i hne
      have hc' : ¬ (ob + r * es + off ≤ ob + j ∧ ob + j < ob + r * es + off + 1) := by omega
      simp only [hc', if_false]
      obtain ⟨v1, hv1, hf⟩ := hcell j x1 hx1
      exact ⟨v1, hv1, hf.move hmv hr.heap.lowm⟩
  · refine hw.other b' (fun e => ?_)
    subst e
    exact hr.heap.inj j id' k _ b' o' ob (by simpa using hj) hk hid hlv rfl hmj hm
theorem idxB_eq (c : Nat) (hc : c < 256) : ∀ (s : List UInt8) (i : Nat), (Lib.indexByte s c.toUInt8 = -1 ∨ 0 ≤ Lib.indexByte s c.toUInt8) ∧ idxB c s i = if Lib.indexByte s c.toUInt8 = -1 then -1 else i + Lib.indexByte s c.toUInt8
  | [], i => ⟨.inl rfl, rfl⟩
  | b :: l, i => by
    have hb : (b.toNat = c) ↔ (b == c.toUInt8) = true := by
      rw [beq_iff_eq]
      constructor
      · rintro rfl; simp
      · rintro rfl; simp; omega
    obtain ⟨h1, h2⟩ := idxB_eq c hc l (i + 1)
    simp only [idxB, Lib.indexByte]
    by_cases h : b.toNat = c
    · simp [h, hb.1 h]
    · have hn : (b == c.toUInt8) = false := by simpa using fun e => h (hb.2 (by simpa using e))
      simp only [h, if_false, hn, Bool.false_eq_true, h2]
      generalize Lib.indexByte l c.toUInt8 = q at *
      by_cases he : q = -1
      · simp [he]
      · have h0 : 0 ≤ q := h1.resolve_left he
        have hne : ¬ (q + 1 = -1) := by omega
        simp [he, hne]
        omega
theorem callRel_ext {f : FuncId} {args : List AV} {v : AV} {h' : List Blk} {W : List Nat} (hsame : ∀ i, i ∉ W → i < st.h.length → h'[i]? = st.h[i]?)
    (h : ∀ w0 S0 m0 w S m a cargs, RelSM w0 S0 m0 w S m a st → LRel w S m cargs args → ∃ u w', (callFunc f cargs.toArray).run P w = .ok (.value u) w' ∧ RelSM w0 S0 m0 w' S m a { st with h := h' } ∧ VRel w' S m u v ∧
      ∀ (i b o : Nat) (k : Blk), i ∉ W → m[i]? = some (some (b, o)) → st.h[i]? = some k → k.live = true → w'.heap[b]? = w.heap[b]?) : CallRel P f args st W (.ret v) { st with h := h' } :=
  ⟨hsame, fun w0 S0 m0 w S m a cargs _ hr hl => by
    obtain ⟨u, w', h1, h2, h3, h4⟩ := h w0 S0 m0 w S m a cargs hr hl
    exact .inr ⟨u, w', h1, S, m, h2, h3, h4⟩⟩
theorem lrel1 {cargs : List Value} {x : AV} (h : LRel w S m cargs [x]) : ∃ u, cargs = [u] ∧ VRel w S m u x := by
  match cargs, h.1 with
  | [u], _ => exact ⟨u, rfl, h.2 0 u x rfl rfl⟩
theorem lrel2 {cargs : List Value} {x y : AV} (h : LRel w S m cargs [x, y]) : ∃ u v, cargs = [u, v] ∧ VRel w S m u x ∧ VRel w S m v y := by
  match cargs, h.1 with
  | [u, v], _ => exact ⟨u, v, rfl, h.2 0 u x rfl rfl, h.2 1 v y rfl rfl⟩
theorem lrel3 {cargs : List Value} {x y z : AV} (h : LRel w S m cargs [x, y, z]) : ∃ u v t, cargs = [u, v, t] ∧ VRel w S m u x ∧ VRel w S m v y ∧ VRel w S m t z := by
  match cargs, h.1 with
  | [u, v, t], _ => exact ⟨u, v, t, rfl, h.2 0 u x rfl rfl, h.2 1 v y rfl rfl, h.2 2 t z rfl rfl⟩
theorem ext_call {f : FuncId} {x : Ext} (hx : ExtOk P f x) {args : List AV} {v : AV} {h' : List Blk} {W : List Nat} (h : extF st.h x args = some (v, h', W)) : CallRel P f args st W (.ret v) { st with h := h' } := by
  obtain ⟨fn, e, hf, hn, hb, hnx, he, himp⟩ := hx
  unfold extF at h
  split at h
  · rename_i k p
    split at h
    case h_2 => cases h
    rename_i k' n hc
    split at h <;> simp at h
    rename_i hk
    subst hk
    obtain ⟨rfl, rfl, rfl⟩ := h
    simp only [Ext.impl] at himp
    subst himp
    refine callRel_ext (fun _ _ _ => rfl) fun w0 S0 m0 w S m a cargs hr hl => ?_
    obtain ⟨u, rfl, hu⟩ := lrel1 hl
    obtain ⟨ad, u', rfl, h1, h2, h3⟩ := cellA_sound hr.heap hu hc
    obtain rfl := h3.int_inv
    exact ⟨_, w, run_call_load hf hn hb hnx k he h1, hr, .int_mk _ _, fun _ _ _ _ _ _ _ _ => rfl⟩
  · rename_i p k y
    simp only [Option.map_eq_some_iff, Prod.mk.injEq, Prod.exists] at h
    obtain ⟨h1, id, hs, rfl, rfl, rfl⟩ := h
    simp only [Ext.impl] at himp
    subst himp
    have hsame : ∀ i, i ∉ [id] → i < st.h.length → h1[i]? = st.h[i]? := by
      unfold setA at hs
      split at hs
      case h_2 => cases hs
      split at hs
      case h_2 => cases hs
      split at hs <;> simp at hs
      obtain ⟨rfl, rfl⟩ := hs
      exact fun i hi _ => by rw [List.getElem?_set_ne (Ne.symm (by simpa using hi))]
    refine callRel_ext hsame fun w0 S0 m0 w S m a cargs hr hl => ?_
    obtain ⟨u, v, rfl, hu, hv⟩ := lrel2 hl
    obtain rfl := hv.int_inv
    obtain ⟨ad, u0, rfl, g1, g2, g3, g4, _⟩ := setA_sound hr hu (.int_mk k y) hs
    exact ⟨_, _, run_call_store hf hn hb hnx he g1 g2, g3, .tuple _ _ rfl (fun i v x hv => by simp at hv), g4⟩
  · rename_i k p k1 o' k2 y
    split at h
    case h_2 => cases h
    rename_i k' n hc
    split at h
    case isFalse => cases h
    rename_i hk
    obtain ⟨rfl, rfl, rfl⟩ := hk
    simp only [Ext.impl] at himp
    subst himp
    split at h
    · rename_i hno
      subst hno
      simp only [Option.map_eq_some_iff, Prod.mk.injEq, Prod.exists] at h
      obtain ⟨h1, id, hs, rfl, rfl, rfl⟩ := h
      have hsame : ∀ i, i ∉ [id] → i < st.h.length → h1[i]? = st.h[i]? := by
        unfold setA at hs
        split at hs
        case h_2 => cases hs
        split at hs
        case h_2 => cases hs
        split at hs <;> simp at hs
        obtain ⟨rfl, rfl⟩ := hs
        exact fun i hi _ => by rw [List.getElem?_set_ne (Ne.symm (by simpa using hi))]
      refine callRel_ext hsame fun w0 S0 m0 w S m a cargs hr hl => ?_
      obtain ⟨u, v, t, rfl, hu, hv, ht⟩ := lrel3 hl
      obtain rfl := hv.int_inv
      obtain rfl := ht.int_inv
      obtain ⟨ad', u', hu', c1, c2, c3⟩ := cellA_sound hr.heap hu hc
      obtain rfl := c3.int_inv
      obtain ⟨ad, u0, rfl, g1, g2, g3, g4, _⟩ := setA_sound hr hu (.int_mk k2 y) hs
      simp at hu'
      subst hu'
      exact ⟨_, _, run_call_cas_hit hf hn hb hnx k2 he c1 c2, g3, .bool_mk _, g4⟩
    · rename_i hno
      simp only [Option.some.injEq, Prod.mk.injEq] at h
      obtain ⟨rfl, rfl, rfl⟩ := h
      refine callRel_ext (fun _ _ _ => rfl) fun w0 S0 m0 w S m a cargs hr hl => ?_
      obtain ⟨u, v, t, rfl, hu, hv, ht⟩ := lrel3 hl
      obtain rfl := hv.int_inv
      obtain rfl := ht.int_inv
      obtain ⟨ad', u', rfl, c1, c2, c3⟩ := cellA_sound hr.heap hu hc
      obtain rfl := c3.int_inv
      exact ⟨_, w, run_call_cas_miss hf hn hb hnx k2 he c1 c2 hno, hr, .bool_mk _, fun _ _ _ _ _ _ _ _ => rfl⟩
  · rename_i k p k1 y
    split at h
    case h_2 => cases h
    rename_i k' n hc
    split at h
    case isFalse => cases h
    rename_i hk
    obtain ⟨rfl, rfl⟩ := hk
    simp only [Ext.impl] at himp
    subst himp
    simp only [Option.map_eq_some_iff, Prod.mk.injEq, Prod.exists] at h
    obtain ⟨h1, id, hs, rfl, rfl, rfl⟩ := h
    have hsame : ∀ i, i ∉ [id] → i < st.h.length → h1[i]? = st.h[i]? := by
      unfold setA at hs
      split at hs
      case h_2 => cases hs
      split at hs
      case h_2 => cases hs
      split at hs <;> simp at hs
      obtain ⟨rfl, rfl⟩ := hs
      exact fun i hi _ => by rw [List.getElem?_set_ne (Ne.symm (by simpa using hi))]
    refine callRel_ext hsame fun w0 S0 m0 w S m a cargs hr hl => ?_
    obtain ⟨u, v, rfl, hu, hv⟩ := lrel2 hl
    obtain rfl := hv.int_inv
    obtain ⟨ad', u', hu', c1, c2, c3⟩ := cellA_sound hr.heap hu hc
    obtain rfl := c3.int_inv
    obtain ⟨ad, u0, rfl, g1, g2, g3, g4, _⟩ := setA_sound hr hu (.int_mk k1 (k1.wrap (n + y))) hs
    simp at hu'
    subst hu'
    exact ⟨_, _, run_call_add hf hn hb hnx k1 he c1 c2 rfl, g3, .int_mk _ _, g4⟩
  · simp only [Option.some.injEq, Prod.mk.injEq] at h
    obtain ⟨rfl, rfl, rfl⟩ := h
    obtain ⟨mk, rfl⟩ := himp
    refine callRel_ext (fun _ _ _ => rfl) fun w0 S0 m0 w S m a cargs hr hl => ?_
    have : cargs = [] := List.eq_nil_of_length_eq_zero (by simpa using hl.1)
    subst this
    exact ⟨_, w, run_call_mark0 hf hn hb hnx mk he w, hr, .tuple _ _ rfl (fun i v x hv => by simp at hv), fun _ _ _ _ _ _ _ _ => rfl⟩
  · simp only [Option.some.injEq, Prod.mk.injEq] at h
    obtain ⟨rfl, rfl, rfl⟩ := h
    obtain ⟨mk, rfl⟩ := himp
    refine callRel_ext (fun _ _ _ => rfl) fun w0 S0 m0 w S m a cargs hr hl => ?_
    obtain ⟨u, rfl, hu⟩ := lrel1 hl
    cases hu
    exact ⟨_, w, run_call_marked hf hn hb hnx mk he _ w, hr, .tuple _ _ rfl (fun i v x hv => by simp at hv), fun _ _ _ _ _ _ _ _ => rfl⟩
  · rename_i s c
    split at h <;> simp at h
    rename_i hc
    obtain ⟨rfl, rfl, rfl⟩ := h
    simp only [Ext.impl] at himp
    subst himp
    refine callRel_ext (fun _ _ _ => rfl) fun w0 S0 m0 w S m a cargs hr hl => ?_
    obtain ⟨u, v, rfl, hu, hv⟩ := lrel2 hl
    obtain rfl := hu.str_inv
    obtain rfl := hv.int_inv
    refine ⟨_, w, ?_, hr, .int_mk _ _, fun _ _ _ _ _ _ _ _ => rfl⟩
    rw [run_callFunc_extern hf hn hb hnx he, Lib.run_indexByteString]
    obtain ⟨h1, h2⟩ := idxB_eq c.toNat (by omega) s 0
    have : idxB c.toNat s 0 = Lib.indexByte s c.toNat.toUInt8 := by
      rw [h2]
      split
      · rename_i e; exact e.symm
      · simp
    rw [this]
    rfl
  · cases h
end
end Go.Abs
