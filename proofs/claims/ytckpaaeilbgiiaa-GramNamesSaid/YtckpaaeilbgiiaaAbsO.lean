/- Saying less of a state: blocks renamed, dropped, frozen; slots forgotten. -/
import Derived.Test.YtckpaaeilbgiiaaAbsN
namespace Go.Abs
set_option linter.unusedVariables false
set_option linter.unusedSimpArgs false

/-- What becomes of a block's number: another one; or its rows, frozen. -/
inductive Sb where
  | to (id : Nat)
  | froz (es : Nat) (rows : List (List FV))

def subL (f : AV → Option AV) : List AV → Option (List AV)
  | [] => some []
  | x :: l => match f x, subL f l with
    | some y, some ys => some (y :: ys)
    | _, _ => none
def subA : Nat → (Nat → Option Sb) → AV → Option AV
  | 0, _, _ => none
  | n + 1, σ, v => match v with
    | .fv x => some (.fv x)
    | .undef => some .undef
    | .any => some .any
    | .anyb => some .anyb
    | .fptr r => some (.fptr r)
    | .gptr g off => some (.gptr g off)
    | .ref id es off len => match σ id with
      | some (.to j) => some (.ref j es off len)
      | some (.froz es' rows) => if es' = es ∧ off + len ≤ rows.length then some (.fv (.lst es ((rows.drop off).take len))) else none
      | none => none
    | .ptr id es r off => match σ id with
      | some (.to j) => some (.ptr j es r off)
      | some (.froz es' rows) => if es' = es then (rows[r]?).map fun row => .fptr (row.drop off) else none
      | none => none
    | .mp id => match σ id with
      | some (.to j) => some (.mp j)
      | _ => none
    | .agg cs => (subL (subA n σ) cs).map .agg
    | .tuple cs => (subL (subA n σ) cs).map .tuple
    | .func f cs => (subL (subA n σ) cs).map (.func f)
    | .iface t x => (subA n σ x).map (.iface t)
def subAny (σ : Nat → Option Sb) (v : AV) : AV := (subA 8 σ v).getD .any
def subBlk (σ : Nat → Option Sb) : Blk → Blk
  | .box cs => .box (cs.map (subAny σ))
  | .map es => .map (es.map fun p => (p.1, subAny σ p.2))
  | b => b
def idx (i : Nat) : List Nat → Option Nat
  | [] => none
  | k :: l => if k = i then some 0 else (idx i l).map (· + 1)
def mkSub (keep frz : List Nat) (h : List Blk) (id : Nat) : Option Sb :=
  match idx id keep with
  | some j => some (.to j)
  | none => if frz.contains id then (match h[id]? with
    | some (.plain es rows) => some (.froz es rows)
    | _ => none) else none
def subSt (keep frz : List Nat) (st : St) : St :=
  let σ := mkSub keep frz st.h
  { t := st.t.map (subAny σ), h := keep.map fun i => subBlk σ (st.h.getD i .dead), d := st.d.map fun (f, as, cs) => (f, as.map (subAny σ), cs.map (subAny σ)) }

section
variable {P : Program} {w0 : World} {S0 : Nat → Prop} {m0 : List Loc} {w : World} {S S' : Nat → Prop} {m m' : List Loc} {a : Act} {st : St}

/-- What a renaming must keep to. -/
structure SigOk (w : World) (m : List Loc) (S' : Nat → Prop) (m' : List Loc) (σ : Nat → Option Sb) : Prop where
  to : ∀ (id j b o : Nat), σ id = some (.to j) → m[id]? = some (some (b, o)) → m'[j]? = some (some (b, o))
  len : ∀ (id es : Nat) (rows : List (List FV)), σ id = some (.froz es rows) → ∀ (r : Nat) (row : List FV), rows[r]? = some row → row.length = es
  froz : ∀ (id es : Nat) (rows : List (List FV)) (b o : Nat), σ id = some (.froz es rows) → m[id]? = some (some (b, o)) → S' b ∧
    ∀ (r j : Nat) (row : List FV) (x : FV), rows[r]? = some row → row[j]? = some x → ∃ u, w.cell? ⟨b, o + r * es + j, none⟩ = some u ∧ FRel w S' u x

theorem subL_get {f : AV → Option AV} : ∀ {xs ys : List AV}, subL f xs = some ys → xs.length = ys.length ∧ ∀ (i : Nat) (y : AV), ys[i]? = some y → ∃ x, xs[i]? = some x ∧ f x = some y
  | [], ys, h => by simp [subL] at h; subst h; exact ⟨rfl, fun i y hy => by simp at hy⟩
  | x :: l, ys, h => by
    simp only [subL] at h
    split at h <;> simp at h
    rename_i y ys' h1 h2
    subst h
    obtain ⟨e, ih⟩ := subL_get h2
    refine ⟨by simp [e], fun i z hz => ?_⟩
    cases i with
    | zero => simp at hz; subst hz; exact ⟨x, rfl, h1⟩
    | succ i => exact ih i z (by simpa using hz)

theorem sub_rel (hS : ∀ b, S b → S' b) {σ : Nat → Option Sb} (hσ : SigOk w m S' m' σ) : ∀ (n : Nat) (v : Value) (x y : AV), VRel w S m v x → subA n σ x = some y → VRel w S' m' v y
  | 0, v, x, y, hv, h => by simp [subA] at h
  | n + 1, v, x, y, hv, h => by
    have list : ∀ (vs : Array Value) (cs ys : List AV), vs.size = cs.length → (∀ (i : Nat) (v : Value) (x : AV), vs[i]? = some v → cs[i]? = some x → VRel w S m v x) → subL (subA n σ) cs = some ys →
        vs.size = ys.length ∧ ∀ (i : Nat) (v : Value) (x : AV), vs[i]? = some v → ys[i]? = some x → VRel w S' m' v x := by
      intro vs cs ys hn hr hs
      obtain ⟨e, hg⟩ := subL_get hs
      refine ⟨by omega, fun i v z hv hz => ?_⟩
      obtain ⟨x, hx, hf⟩ := hg i z hz
      exact sub_rel hS hσ n v x z (hr i v x hv hx) hf
    cases hv with
    | fv _ _ hf => simp [subA] at h; subst h; exact .fv _ _ (hf.stab hS (fun _ _ _ => rfl))
    | undef => simp [subA] at h; subst h; exact .undef
    | any => simp [subA] at h; subst h; exact .any _
    | anyb b => simp [subA] at h; subst h; exact .anyb b
    | gptr g off => simp [subA] at h; subst h; exact .gptr g off
    | agg vs cs hn hr =>
      simp only [subA, Option.map_eq_some_iff] at h
      obtain ⟨ys, hs, rfl⟩ := h
      obtain ⟨h1, h2⟩ := list vs cs ys hn hr hs
      exact .agg vs ys h1 h2
    | tuple vs cs hn hr =>
      simp only [subA, Option.map_eq_some_iff] at h
      obtain ⟨ys, hs, rfl⟩ := h
      obtain ⟨h1, h2⟩ := list vs cs ys hn hr hs
      exact .tuple vs ys h1 h2
    | func f vs cs hn hr =>
      simp only [subA, Option.map_eq_some_iff] at h
      obtain ⟨ys, hs, rfl⟩ := h
      obtain ⟨h1, h2⟩ := list vs cs ys hn hr hs
      exact .func f vs ys h1 h2
    | iface t u x hu =>
      simp only [subA, Option.map_eq_some_iff] at h
      obtain ⟨z, hs, rfl⟩ := h
      exact .iface t u z (sub_rel hS hσ n u x z hu hs)
    | fptr ad row u hs hc hr =>
      simp [subA] at h; subst h
      exact .fptr ad row u (hS _ hs) hc (fun j x hx => (hr j x hx).stab hS (fun _ _ _ => rfl))
    | mp id b hm =>
      simp only [subA] at h
      split at h <;> simp at h
      rename_i j hj
      subst h
      exact .mp j b (hσ.to _ _ _ _ hj hm)
    | ptr id es r off b o hm =>
      simp only [subA] at h
      split at h
      · rename_i j hj
        simp at h; subst h
        exact .ptr j es r off b o (hσ.to _ _ _ _ hj hm)
      · rename_i es' rows hj
        split at h
        case isFalse => cases h
        rename_i he; subst he
        simp only [Option.map_eq_some_iff] at h
        obtain ⟨row, hrow, rfl⟩ := h
        obtain ⟨h1, h2⟩ := hσ.froz _ _ _ _ _ hj hm
        have hcell : ∀ j, j < (row.drop off).length → ∃ u, w.cell? ((⟨b, o + r * es' + off, none⟩ : Addr).add j) = some u ∧ ∀ x, (row.drop off)[j]? = some x → FRel w S' u x := fun j hj => by
          simp at hj
          obtain ⟨u, hu, hf⟩ := h2 r (off + j) row (row[off + j]'(by omega)) hrow (by simp)
          refine ⟨u, ?_, fun x hx => ?_⟩
          · rw [add_at, show o + r * es' + off + j = o + r * es' + (off + j) from by omega]; exact hu
          · simp only [List.getElem?_drop] at hx
            have hlt : off + j < row.length := by omega
            rw [List.getElem?_eq_getElem hlt] at hx
            simp at hx; subst hx; exact hf
        refine .fptr _ _ (fun j => (w.cell? ((⟨b, o + r * es' + off, none⟩ : Addr).add j)).getD Go.undef) h1 (fun j hj => ?_) (fun j x hx => ?_)
        · obtain ⟨u, hu, _⟩ := hcell j hj
          simp [hu]
        · obtain ⟨u, hu, hf⟩ := hcell j (List.getElem?_eq_some_iff.1 hx).1
          simpa [hu] using hf x hx
      · cases h
    | ref id es off len b o c hm hl hcap =>
      simp only [subA] at h
      split at h
      · rename_i j hj
        simp at h; subst h
        exact .ref j es off len b o c (hσ.to _ _ _ _ hj hm) hl hcap
      · rename_i es' rows hj
        split at h
        case isFalse => cases h
        rename_i he
        obtain ⟨rfl, hle⟩ := he
        simp only [Option.some.injEq] at h; subst h
        obtain ⟨h1, h2⟩ := hσ.froz _ _ _ _ _ hj hm
        have hlen := hσ.len _ _ _ hj
        have hget : ∀ (i : Nat) (row : List FV), ((rows.drop off).take len)[i]? = some row → i < len ∧ rows[off + i]? = some row := fun i row hrow => by
          rw [List.getElem?_take] at hrow
          split at hrow
          · rename_i hi; rw [List.getElem?_drop] at hrow; exact ⟨hi, hrow⟩
          · cases hrow
        have hcell : ∀ i j, i < len → j < es' → ∃ u, w.cell? ((⟨b, o + off * es', none⟩ : Addr).add (i * es' + j)) = some u ∧ ∀ row x, rows[off + i]? = some row → row[j]? = some x → FRel w S' u x := fun i j hi hj => by
          have hrl := hlen (off + i) (rows[off + i]'(by omega)) (by simp)
          obtain ⟨u, hu, hf⟩ := h2 (off + i) j (rows[off + i]'(by omega)) ((rows[off + i]'(by omega))[j]'(by omega)) (by simp) (by simp)
          refine ⟨u, ?_, fun row x hrow hx => ?_⟩
          · rw [add_at, show o + off * es' + (i * es' + j) = o + (off + i) * es' + j from by rw [Nat.add_mul]; omega]; exact hu
          · have hlt : off + i < rows.length := by omega
            rw [List.getElem?_eq_getElem hlt] at hrow
            simp at hrow; subst hrow
            have hlt2 : j < rows[off + i].length := by omega
            rw [List.getElem?_eq_getElem hlt2] at hx
            simp at hx; subst hx; exact hf
        refine .fv _ _ (.lst _ _ _ _ _ (fun i j => (w.cell? ((⟨b, o + off * es', none⟩ : Addr).add (i * es' + j))).getD Go.undef) ⟨b, o + off * es', none⟩ (by simp; omega) hl (fun i row hrow => hlen _ _ (hget i row hrow).2)
          (fun _ => rfl) (fun _ => h1) (fun i j hi hj => ?_) (fun i j row x hrow hx => ?_))
        · obtain ⟨u, hu, _⟩ := hcell i j hi hj
          simp [hu]
        · obtain ⟨hi, hrow'⟩ := hget i row hrow
          have hj : j < es' := by rw [← hlen _ _ hrow']; exact (List.getElem?_eq_some_iff.1 hx).1
          obtain ⟨u, hu, hf⟩ := hcell i j hi hj
          simpa [hu] using hf row x hrow' hx
      · cases h
    | refz id es off A =>
      simp only [subA] at h
      split at h
      · rename_i j hj
        simp at h; subst h
        exact .refz j es off A
      · rename_i es' rows hj
        split at h
        case isFalse => cases h
        rename_i he
        simp only [Option.some.injEq] at h; subst h
        refine .fv _ _ (.lst _ _ _ _ _ (fun _ _ => Go.undef) ⟨0, 0, none⟩ (by simp) (Nat.le_refl _) (fun i row hrow => by simp at hrow) (fun h => by omega) (fun h => by omega) (fun i j hi => by omega) (fun i j row x hrow => by simp at hrow))
      · cases h
theorem subAny_rel (hS : ∀ b, S b → S' b) {σ : Nat → Option Sb} (hσ : SigOk w m S' m' σ) {v : Value} {x : AV} (h : VRel w S m v x) : VRel w S' m' v (subAny σ x) := by
  unfold subAny
  cases hs : subA 8 σ x with
  | none => exact .any v
  | some y => exact sub_rel hS hσ 8 v x y h hs
theorem subAny_lrel (hS : ∀ b, S b → S' b) {σ : Nat → Option Sb} (hσ : SigOk w m S' m' σ) {vs : List Value} {xs : List AV} (h : LRel w S m vs xs) : LRel w S' m' vs (xs.map (subAny σ)) :=
  ⟨by simpa using h.1, fun i v x hv hx => by
    simp only [List.getElem?_map, Option.map_eq_some_iff] at hx
    obtain ⟨y, hy, rfl⟩ := hx
    exact subAny_rel hS hσ (h.2 i v y hv hy)⟩

theorem idx_spec : ∀ {l : List Nat} {i j : Nat}, idx i l = some j → l[j]? = some i
  | [], i, j, h => by simp [idx] at h
  | k :: l, i, j, h => by
    simp only [idx] at h
    split at h
    · rename_i e; simp at h; subst h; subst e; rfl
    · simp only [Option.map_eq_some_iff] at h
      obtain ⟨j', hj, rfl⟩ := h
      simpa using idx_spec hj

theorem nodup_inj : ∀ {l : List Nat} {i k k' : Nat}, l.Nodup → l[k]? = some i → l[k']? = some i → k = k'
  | [], i, k, k', _, h, _ => by simp at h
  | x :: l, i, k, k', hn, h1, h2 => by
    obtain ⟨hx, hl⟩ := List.nodup_cons.1 hn
    cases k with
    | zero =>
      cases k' with
      | zero => rfl
      | succ k' => simp at h1 h2; subst h1; exact absurd (List.mem_of_getElem? h2) hx
    | succ k =>
      cases k' with
      | zero => simp at h1 h2; subst h2; exact absurd (List.mem_of_getElem? h1) hx
      | succ k' => simp at h1 h2; rw [nodup_inj hl h1 h2]

/-- The new state's frame of reference. -/
theorem sub_state {keep frz : List Nat} (hh : HRel w S m st.h) (hnd : keep.Nodup) (hlt : ∀ i ∈ keep, i < st.h.length) (hdis : ∀ i ∈ frz, i ∉ keep) (hfl : ∀ i ∈ frz, ∃ es rows, st.h[i]? = some (.plain es rows)) :
    ∃ S' m', (∀ b, S b → S' b) ∧ (∀ b, S' b → S b ∨ ∃ i o, i ∈ frz ∧ m[i]? = some (some (b, o))) ∧ (m' = keep.map fun i => (m.getD i none)) ∧ SigOk w m S' m' (mkSub keep frz st.h) ∧
      HRel w S' m' (keep.map fun i => subBlk (mkSub keep frz st.h) (st.h.getD i .dead)) := by
  let S' : Nat → Prop := fun b => S b ∨ ∃ i o, i ∈ frz ∧ m[i]? = some (some (b, o))
  let m' : List Loc := keep.map fun i => (m.getD i none)
  have hS : ∀ b, S b → S' b := fun b h => .inl h
  have hget : ∀ (k : Nat) (l : Loc), m'[k]? = some l → ∃ i, keep[k]? = some i ∧ m[i]? = some l := fun k l hk => by
    simp only [m', List.getElem?_map, Option.map_eq_some_iff] at hk
    obtain ⟨i, hi, rfl⟩ := hk
    have : i < m.length := by rw [hh.len]; exact hlt i (List.mem_of_getElem? hi)
    exact ⟨i, hi, by simp [List.getD_eq_getElem?_getD, this]⟩
  have hfroz : ∀ (id es : Nat) (rows : List (List FV)), mkSub keep frz st.h id = some (.froz es rows) → id ∈ frz ∧ st.h[id]? = some (.plain es rows) := fun id es rows h => by
    unfold mkSub at h
    split at h
    · simp at h
    · split at h
      case isFalse => cases h
      rename_i hc
      split at h <;> simp at h
      rename_i es' rows' he
      obtain ⟨rfl, rfl⟩ := h
      exact ⟨by simpa using hc, he⟩
  have hσ : SigOk w m S' m' (mkSub keep frz st.h) := by
    refine ⟨fun id j b o h hm => ?_, fun id es rows h r row hrow => ?_, fun id es rows b o h hm => ?_⟩
    · unfold mkSub at h
      split at h
      · rename_i j' hj
        simp at h; subst h
        have hk := idx_spec hj
        have : id < m.length := (List.getElem?_eq_some_iff.1 hm).1
        simp only [m', List.getElem?_map, hk, Option.map_some, Option.some.injEq]
        simp [List.getD_eq_getElem?_getD, hm]
      · split at h
        · split at h <;> simp at h
        · cases h
    · obtain ⟨_, hp⟩ := hfroz id es rows h
      have hml : id < m.length := by rw [hh.len]; exact (List.getElem?_eq_some_iff.1 hp).1
      exact (hh.blk id m[id] _ (by simp) hp).1 r row hrow
    · obtain ⟨hf, hp⟩ := hfroz id es rows h
      obtain ⟨_, arr, T, ha, hc⟩ := hh.blk id _ _ hm hp
      refine ⟨.inr ⟨id, o, hf, hm⟩, fun r j row x hrow hx => ?_⟩
      obtain ⟨u, hu, hr⟩ := hc r j row x hrow hx
      exact ⟨u, by simp [World.cell?, ha, hu], hr.stab hS (fun _ _ _ => rfl)⟩
  have hlive : ∀ (k : Nat) (b : Blk), (keep.map fun i => subBlk (mkSub keep frz st.h) (st.h.getD i .dead))[k]? = some b → ∃ i, keep[k]? = some i ∧ st.h[i]? = some (st.h.getD i .dead) ∧ b = subBlk (mkSub keep frz st.h) (st.h.getD i .dead) ∧
      b.live = (st.h.getD i .dead).live := fun k b hb => by
    simp only [List.getElem?_map, Option.map_eq_some_iff] at hb
    obtain ⟨i, hi, rfl⟩ := hb
    have hil := hlt i (List.mem_of_getElem? hi)
    refine ⟨i, hi, by simp [List.getD_eq_getElem?_getD, hil], rfl, ?_⟩
    cases st.h.getD i .dead <;> rfl
  refine ⟨S', m', hS, fun b h => h, rfl, hσ, by simp [m'], fun k l b hk hb => ?_, fun k k' b1 b2 b o1 o2 hne h1 h2 l1 l2 m1 m2 => ?_, fun k b1 b o1 h1 l1 m1 => ?_, fun b hb => ?_, fun k b o1 m1 => ?_⟩
  · obtain ⟨i, hi, hmi⟩ := hget k l hk
    obtain ⟨i', hi', hb', rfl, _⟩ := hlive k b hb
    rw [hi] at hi'; simp at hi'; subst hi'
    have h0 := hh.blk i l _ hmi hb'
    cases hx : st.h.getD i .dead with
    | dead => trivial
    | plain es rows =>
      rw [hx] at h0
      obtain ⟨h1, h2⟩ := h0
      refine ⟨h1, ?_⟩
      cases l with
      | none => exact h2
      | some bo =>
        obtain ⟨arr, T, ha, hc⟩ := h2
        refine ⟨arr, T, ha, fun r j row x hrow hx => ?_⟩
        obtain ⟨u, hu, hf⟩ := hc r j row x hrow hx
        exact ⟨u, hu, hf.stab hS (fun _ _ _ => rfl)⟩
    | box cs =>
      rw [hx] at h0
      obtain ⟨b, o, arr, T, rfl, ha, hc⟩ := h0
      refine ⟨b, o, arr, T, rfl, ha, fun j x hx => ?_⟩
      simp only [List.getElem?_map, Option.map_eq_some_iff] at hx
      obtain ⟨y, hy, rfl⟩ := hx
      obtain ⟨u, hu, hv⟩ := hc j y hy
      exact ⟨u, hu, subAny_rel hS hσ hv⟩
    | map es =>
      rw [hx] at h0
      obtain ⟨b, arr, clk, rfl, ha, hz, g1, g2, hr⟩ := h0
      refine ⟨b, arr, clk, rfl, ha, by simpa using hz, g1, g2, fun i e p he hp => ?_⟩
      simp only [List.getElem?_map, Option.map_eq_some_iff] at hp
      obtain ⟨p', hp', rfl⟩ := hp
      exact ⟨(hr i e p' he hp').1.stab hS (fun _ _ _ => rfl), subAny_rel hS hσ (hr i e p' he hp').2⟩
  · obtain ⟨i1, hi1, hm1⟩ := hget k _ m1
    obtain ⟨i2, hi2, hm2⟩ := hget k' _ m2
    obtain ⟨j1, hj1, hb1, rfl, e1⟩ := hlive k b1 h1
    obtain ⟨j2, hj2, hb2, rfl, e2⟩ := hlive k' b2 h2
    rw [hi1] at hj1; simp at hj1; subst hj1
    rw [hi2] at hj2; simp at hj2; subst hj2
    refine hh.inj i1 i2 _ _ b o1 o2 (fun e => hne ?_) hb1 hb2 (by rw [← e1]; exact l1) (by rw [← e2]; exact l2) hm1 hm2
    subst e
    exact nodup_inj hnd hi1 hi2
  · obtain ⟨i1, hi1, hm1⟩ := hget k _ m1
    obtain ⟨j1, hj1, hb1, rfl, e1⟩ := hlive k b1 h1
    rw [hi1] at hj1; simp at hj1; subst hj1
    rintro (hs | ⟨i, o, hif, hmi⟩)
    · exact hh.out i1 _ b o1 hb1 (by rw [← e1]; exact l1) hm1 hs
    · obtain ⟨es, rows, hp⟩ := hfl i hif
      exact hh.inj i i1 _ _ b o o1 (fun e => hdis i hif (by rw [e]; exact List.mem_of_getElem? hi1)) hp hb1 rfl (by rw [← e1]; exact l1) hmi hm1
  · rcases hb with hb | ⟨i, o, _, hmi⟩
    · exact hh.low b hb
    · exact hh.lowm i b o hmi
  · obtain ⟨i1, _, hm1⟩ := hget k _ m1
    exact hh.lowm i1 b o1 hm1

theorem Fr.sub {keep frz : List Nat} (h : Fr w0 S0 m0 w S m) (hS : ∀ b, S b → S' b) (hS2 : ∀ b, S' b → S b ∨ ∃ i o, i ∈ frz ∧ m[i]? = some (some (b, o))) (hm' : m' = keep.map fun i => (m.getD i none))
    (hpre : keep.take m0.length = List.range m0.length) : Fr w0 S0 m0 w S' m' where
  size := h.size
  os := h.os
  tape := h.tape
  output := h.output
  same := h.same
  frozen := h.frozen
  shape := h.shape
  up := fun b hb => hS b (h.up b hb)
  down := fun b hb => by
    rcases hS2 b hb with h1 | ⟨i, o, _, hm⟩
    · exact h.down b h1
    · exact .inr (h.locs i b o hm)
  locs := fun k b o hk => by
    subst hm'
    simp only [List.getElem?_map, Option.map_eq_some_iff] at hk
    obtain ⟨i, _, hi⟩ := hk
    refine h.locs i b o ?_
    rw [List.getD_eq_getElem?_getD] at hi
    cases hm : m[i]? with
    | none => simp [hm] at hi
    | some l => simp [hm] at hi; rw [hi]
  pre := fun i hi => by
    have hk : keep[i]? = some i := by
      have : (keep.take m0.length)[i]? = some i := by rw [hpre]; simp [hi]
      rw [List.getElem?_take] at this
      simpa [hi] using this
    subst hm'
    have hl := h.len
    have := h.pre i hi
    simp only [List.getElem?_map, hk, Option.map_some]
    rw [List.getD_eq_getElem?_getD, this]
    simp [hi]

theorem le_sub {n0 : Nat} {st : St} (keep frz : List Nat) (hpre : keep.take n0 = List.range n0) (hnd : keep.Nodup) (hlt : ∀ i ∈ keep, i < st.h.length) (hdis : ∀ i ∈ frz, i ∉ keep)
    (hfl : ∀ i ∈ frz, ∃ es rows, st.h[i]? = some (.plain es rows)) : Le n0 st (subSt keep frz st) := by
  intro w0 S0 m0 w S m a hn hr
  obtain ⟨S', m', hS, hS2, hm', hσ, hh⟩ := sub_state hr.heap hnd hlt hdis hfl
  refine ⟨S', m', hh, subAny_lrel hS hσ hr.tmps, ⟨by simpa [subSt] using hr.defs.1, fun i df x hd hx => ?_⟩, hr.fr.sub hS hS2 hm' (by rw [hn]; exact hpre)⟩
  simp only [subSt, List.getElem?_map, Option.map_eq_some_iff] at hx
  obtain ⟨y, hy, rfl⟩ := hx
  obtain ⟨caps, e, h1, h2⟩ := hr.defs.2 i df y hd hy
  exact ⟨caps, e, subAny_lrel hS hσ h1, subAny_lrel hS hσ h2⟩

theorem Le.refl (n0 : Nat) (st : St) : Le n0 st st := fun w0 S0 m0 w S m a _ hr => ⟨S, m, hr⟩
theorem Le.trans {n0 : Nat} {s1 s2 s3 : St} (h1 : Le n0 s1 s2) (h2 : Le n0 s2 s3) : Le n0 s1 s3 := fun w0 S0 m0 w S m a hn hr => by
  obtain ⟨S1, m1, hr1⟩ := h1 w0 S0 m0 w S m a hn hr
  exact h2 w0 S0 m0 w S1 m1 a hn hr1

/-- A nil slice becomes a row of the call's own. -/
theorem le_virt {n0 : Nat} {st : St} (i es : Nat) (hi : st.t[i]? = some (.fv .nils)) : Le n0 st { st with t := st.t.set i (.ref st.h.length es 0 0), h := st.h ++ [.plain es []] } := by
  intro w0 S0 m0 w S m a hn hr
  have hmv := Move.virt (S := S) (w := w) hr.heap.lowm
  have hh := hr.heap.virt (.plain es []) ⟨by simp, rfl⟩
  have hr2 := hr.move hmv hh
  refine ⟨S, m ++ [none], hr2.heap, ⟨by simpa using hr2.tmps.1, fun j v x hv hx => ?_⟩, hr2.defs, hr2.fr⟩
  rw [List.getElem?_set] at hx
  split at hx
  · rename_i e; subst e
    split at hx <;> simp at hx
    subst hx
    have := (hr.tmps.2 i v _ hv hi).nils_inv
    subst this
    exact .refz _ _ _ _
  · exact hr2.tmps.2 j v x hv hx
/-- A nil slice is an empty one. -/
theorem le_nils {n0 : Nat} {st : St} (i es : Nat) (hi : st.t[i]? = some (.fv .nils)) : Le n0 st { st with t := st.t.set i (.fv (.lst es [])) } := by
  intro w0 S0 m0 w S m a hn hr
  refine ⟨S, m, hr.heap, ⟨by simpa using hr.tmps.1, fun j v x hv hx => ?_⟩, hr.defs, hr.fr⟩
  rw [List.getElem?_set] at hx
  split at hx
  · rename_i e; subst e
    split at hx <;> simp at hx
    subst hx
    have := (hr.tmps.2 i v _ hv hi).nils_inv
    subst this
    exact .fv _ _ (.lst _ _ _ _ _ (fun _ _ => Go.undef) ⟨0, 0, none⟩ (by simp) (Nat.le_refl _) (fun i row hrow => by simp at hrow) (fun h => by omega) (fun h => by omega) (fun i j hi => by omega) (fun i j row x hrow => by simp at hrow))
  · exact hr.tmps.2 j v x hv hx

/-! ### Calls -/
def resSem (tmps : Array Value) : ResultVar → Sem Value
  | .tmp t => pure (tmps.getD t Go.undef)
  | .cell c T => do
    let ad ← asAddr (tmps.getD c Go.undef)
    loadVar T ad
theorem results_eq (fn : Func) (tmps : Array Value) : results fn tmps = (do let vs ← fn.results.mapM (resSem tmps); pure (if h : vs.size = 1 then vs[0] else .tuple vs)) := by
  unfold results
  congr 1
theorem vals_rel (hG : GOk P w0 S0) (h : RelSM w0 S0 m0 w S m a st) (r : ResultVar) (x : AV) (hx : resA P st r = some x) :
    ∃ v, (resSem a.tmps r).run P w = .ok v w ∧ VRel w S m v x := by
  cases r with
  | tmp t => simp [resA] at hx; subst hx; exact ⟨_, rfl, h.tmps.get t⟩
  | cell c T =>
    simp only [resA, Option.bind_eq_some_iff] at hx
    obtain ⟨i, hi, hl⟩ := hx
    obtain ⟨ad, u, h1, h2, h3, _⟩ := ld_sound (hG.fr h.fr) h.heap hi (h.tmps.get c) hl
    refine ⟨u, ?_, h2⟩
    simp [resSem, h1, asAddr, h3 w rfl]
theorem results_rel (hG : GOk P w0 S0) (h : RelSM w0 S0 m0 w S m a st) : ∀ (rs : List ResultVar) (xs : List AV), resAs P st rs = some xs →
    ∃ vs, (rs.mapM (resSem a.tmps)).run P w = .ok vs w ∧ LRel w S m vs xs
  | [], xs, hx => by simp [resAs] at hx; subst hx; exact ⟨[], rfl, rfl, fun i v x hv => by simp at hv⟩
  | r :: rs, xs, hx => by
    simp only [resAs] at hx
    split at hx <;> simp at hx
    rename_i x xs' h1 h2
    subst hx
    obtain ⟨v, hv, hr⟩ := vals_rel hG h r x h1
    obtain ⟨vs, hvs, hrs⟩ := results_rel hG h rs xs' h2
    refine ⟨v :: vs, ?_, by simpa using hrs.1, fun i u y hu hy => ?_⟩
    · simp only [List.mapM_cons, Sem.run_bind, hv, Result.andThen_ok, hvs, Sem.run_pure]
    · cases i with
      | zero => simp at hu hy; subst hu; subst hy; exact hr
      | succ i => exact hrs.2 i u y (by simpa using hu) (by simpa using hy)
theorem pack_rel {vs : List Value} {xs : List AV} (h : LRel w S m vs xs) : VRel w S m (if h : vs.toArray.size = 1 then vs.toArray[0] else .tuple vs.toArray) (pack xs) := by
  have hl := h.1
  match vs, xs, hl with
  | [], [], _ => exact .tuple _ _ rfl (fun i v x hv => by simp at hv)
  | [v], [x], _ => exact h.2 0 v x rfl rfl
  | v :: v2 :: vs, x :: x2 :: xs, hl =>
    simp only [List.size_toArray, List.length_cons, Nat.add_eq_right, Nat.add_eq_zero_iff, Nat.succ_ne_self, and_false, dite_false, pack]
    exact .tuple _ _ (by simpa using hl) (fun i u y hu hy => h.2 i u y (by simpa using hu) hy)

/-- What a body gives back, and what is said of it. -/
def outOk (n0 : Nat) (o : AOut) (v : AV) (h h' : List Blk) : Prop := match o with
  | .ret x => Le n0 { t := [v], h := h, d := [] } { t := [x], h := h', d := [] }
  | .pan _ => False
/-- What a body must come to: its results, in a state in which nothing is put off. -/
def retA (P : Program) (fn : Func) (n0 : Nat) (o : AOut) (h' : List Blk) : AEx → St → Prop
  | .normal, st | .ret, st => st.d = [] ∧ ∃ vs, resAs P st fn.results.toList = some vs ∧ outOk n0 o (pack vs) st.h h'
  | .pan v, st => st.d = [] ∧ match o with
    | .ret _ => False
    | .pan x => Le n0 { t := [v], h := st.h, d := [] } { t := [x], h := h', d := [] }
  | _, _ => False

theorem start_rel {fn : Func} {args : List AV} {h : List Blk} (ht : args.length ≤ fn.ntmps) {w : World} {S : Nat → Prop} {m : List Loc} {cargs : List Value} (hh : HRel w S m h) (hl : LRel w S m cargs args) :
    RelSM w S m w S m { tmps := cargs.toArray ++ Array.replicate (fn.ntmps - cargs.toArray.size) Go.undef, defers := [] } { t := args ++ List.replicate (fn.ntmps - args.length) .undef, h := h, d := [] } := by
  have hsz : cargs.toArray.size = args.length := by simpa using hl.1
  refine ⟨hh, ⟨by simp [hl.1], fun i v x hv hx => ?_⟩, ⟨rfl, fun i df x hd => by simp at hd⟩, Fr.refl w S m⟩
  rw [hsz] at hv
  simp only [Array.toList_append, Array.toList_replicate] at hv
  rw [List.getElem?_append] at hv hx
  simp only [hl.1] at hv
  split at hv
  · rename_i hlt; simp only [hlt, if_true] at hx; exact hl.2 i v x hv hx
  · rename_i hlt
    simp only [hlt, if_false] at hx
    by_cases hc : i - args.length < fn.ntmps - args.length
    · simp [hc] at hv hx
      subst hv; subst hx
      exact .undef
    · simp [hc] at hv
/-- What is given back, said less of. -/
theorem fin_rel {n0 : Nat} {h' : List Blk} (hlen : m0.length = n0) (hr : RelSM w0 S0 m0 w S m a st) {v : Value} {x y : AV} (hv : VRel w S m v x) (hle : Le n0 { t := [x], h := st.h, d := [] } { t := [y], h := h', d := [] }) :
    ∃ S' m', HRel w S' m' h' ∧ VRel w S' m' v y ∧ Fr w0 S0 m0 w S' m' := by
  obtain ⟨S2, m2, hr2⟩ := hle w0 S0 m0 w S m { tmps := #[v], defers := [] } hlen ⟨hr.heap, ⟨rfl, fun i u z hu hz => by
    cases i with
    | zero => simp at hu hz; subst hu; subst hz; exact hv
    | succ i => simp at hu⟩, ⟨rfl, fun i df x hd => by simp at hd⟩, hr.fr⟩
  exact ⟨S2, m2, hr2.heap, hr2.tmps.2 0 v y (by simp) rfl, hr2.fr⟩
/-- Results. -/
theorem res_rel (hG : GOk P w0 S0) (hr : RelSM w0 S0 m0 w S m a st) {fn : Func} {n0 : Nat} {o : AOut} {h' : List Blk} (hlen : m0.length = n0) {vs : List AV} (hvs : resAs P st fn.results.toList = some vs) (ho : outOk n0 o (pack vs) st.h h') :
    ∃ v, (results fn a.tmps).run P w = .ok v w ∧ ∃ S' m', HRel w S' m' h' ∧ ORel w S' m' (.returned v) o ∧ Fr w0 S0 m0 w S' m' := by
  obtain ⟨us, hus, hrel⟩ := results_rel hG hr _ _ hvs
  cases o with
  | pan x => exact ho.elim
  | ret x =>
    obtain ⟨S', m', h1, h2, h3⟩ := fin_rel hlen hr (pack_rel hrel) ho
    refine ⟨_, ?_, S', m', h1, h2, h3⟩
    rw [results_eq, Sem.run_bind, Array.mapM_eq_mapM_toList, Sem.run_map, hus]
    rfl
theorem body_wp (hmix : P.follows .mixedOrders = true) {fn : Func} {c : Code} {args : List AV} {h : List Blk} {o : AOut} {h' : List Blk} (ht : args.length ≤ fn.ntmps)
    (hw : awp P h.length c (retA P fn h.length o h') { t := args ++ List.replicate (fn.ntmps - args.length) .undef, h := h, d := [] })
    {w : World} {S : Nat → Prop} {m : List Loc} {cargs : List Value} (hG : GOk P w S) (hh : HRel w S m h) (hl : LRel w S m cargs args) :
    c.wp P (bodyPost P fn fun e w' => ∃ S' m', HRel w' S' m' h' ∧ ORel w' S' m' e o ∧ Fr w S m w' S' m') { tmps := cargs.toArray ++ Array.replicate (fn.ntmps - cargs.toArray.size) Go.undef, defers := [] } w := by
  have hlen : m.length = h.length := hh.len
  refine wp_mono (awp_sound hmix c _ _ w S m w S m _ hG (by rw [hlen]; exact hw) (start_rel ht hh hl)) fun e a' w' hq => ?_
  obtain ⟨S1, m1, ae, st', he, hr', hq'⟩ := hq
  have hdl := hr'.defs.1
  have good : (st'.d = [] ∧ ∃ vs, resAs P st' fn.results.toList = some vs ∧ outOk h.length o (pack vs) st'.h h') → a'.defers = [] ∧ ∃ v, (results fn a'.tmps).run P w' = .ok v w' ∧ ∃ S' m', HRel w' S' m' h' ∧ ORel w' S' m' (.returned v) o ∧ Fr w S m w' S' m' := by
    rintro ⟨hd, vs, hvs, ho⟩
    rw [hd] at hdl
    exact ⟨List.eq_nil_of_length_eq_zero (by simpa using hdl), res_rel hG hr' hlen hvs ho⟩
  cases e <;> cases ae <;> simp only [ExRel] at he
  case normal.normal => exact good hq'
  case ret.ret => exact good hq'
  case exit.exit => exact hq'.elim
  case panic.pan v =>
    obtain ⟨hd, ho⟩ := hq'
    obtain ⟨u, rfl, hu⟩ := he
    rw [hd] at hdl
    cases o with
    | ret x => exact ho.elim
    | pan x =>
      obtain ⟨S', m', h1, h2, h3⟩ := fin_rel hlen hr' hu ho
      exact ⟨List.eq_nil_of_length_eq_zero (by simpa using hdl), S', m', h1, ⟨u, rfl, h2⟩, h3⟩
theorem ok_intro (hmix : P.follows .mixedOrders = true) {f : FuncId} {fn : Func} {c : Code} (hf : P.funcs[f]? = some fn) (hn : (fn.name == "runtime.NumGoroutine") = false) (hb : fn.body = some c)
    {args : List AV} {h : List Blk} {o : AOut} {h' : List Blk} (ht : args.length ≤ fn.ntmps)
    (hw : awp P h.length c (retA P fn h.length o h') { t := args ++ List.replicate (fn.ntmps - args.length) .undef, h := h, d := [] }) : Ok P f args h o h' :=
  ⟨⟨fn, hf, hn, by rw [hb]; rfl⟩, fun w S m cargs hG hh hl => calls_of_wp hf hb (body_wp hmix ht hw hG hh hl)⟩
end
end Go.Abs
