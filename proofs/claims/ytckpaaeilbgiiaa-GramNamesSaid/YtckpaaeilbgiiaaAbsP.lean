/- Calls: from a contract to what a call does in a state. -/
import Derived.Test.YtckpaaeilbgiiaaAbsO
namespace Go.Abs
set_option linter.unusedVariables false
set_option linter.unusedSimpArgs false

def AOut.sub (σ : Nat → Option Sb) : AOut → AOut
  | .ret v => .ret (subAny σ v)
  | .pan v => .pan (subAny σ v)
/-- The blocks lent go back to their places; the new ones come last. -/
def putBack : List Nat → List Blk → List Blk → List Blk
  | i :: keep, b :: h', h => putBack keep h' (h.set i b)
  | [], h', h => h ++ h'
  | _, [], h => h
/-- Where a callee's block lies in the caller. -/
def back (keep : List Nat) (n k : Nat) : Nat := if k < keep.length then keep.getD k 0 else n + (k - keep.length)
def backSub (keep : List Nat) (n k : Nat) : Option Sb := some (.to (back keep n k))
/-- The numbers are frozen where they lie. -/
def frzSub (frz : List Nat) (h : List Blk) (id : Nat) : Option Sb :=
  if frz.contains id then (match h[id]? with
    | some (.plain es rows) => some (.froz es rows)
    | _ => none) else some (.to id)
def killAll : List Nat → List Blk → List Blk
  | [], h => h
  | i :: l, h => killAll l (h.set i .dead)
def freezeSt (frz : List Nat) (st : St) : St :=
  let σ := frzSub frz st.h
  { t := st.t.map (subAny σ), h := killAll frz (st.h.map (subBlk σ)), d := st.d.map fun (f, as, cs) => (f, as.map (subAny σ), cs.map (subAny σ)) }

def flatF : FV → Bool
  | .bool _ | .int .. | .str _ | .nils | .nil _ => true
  | _ => false
def flatA : AV → Bool
  | .fv x => flatF x
  | .undef | .any | .anyb => true
  | .iface _ (.fv x) => flatF x
  | .agg cs | .tuple cs => cs.all fun c => match c with
    | .fv x => flatF x
    | .undef | .any => true
    | .iface _ (.fv x) => flatF x
    | _ => false
  | _ => false
def AOut.flat : AOut → Bool
  | .ret v => flatA v
  | .pan v => flatA v

section
variable {P : Program} {w0 : World} {S0 : Nat → Prop} {m0 m1 m2 : List Loc} {w w' : World} {S S' : Nat → Prop} {m m' : List Loc} {a : Act} {st : St}

theorem FRel.flat {v : Value} {x : FV} (hx : flatF x = true) (h : FRel w S v x) : FRel w' S' v x := by
  cases h <;> simp [flatF] at hx
  · exact .bool _
  · exact .int _ _
  · exact .str _
  · exact .nils
  · rename_i h; exact .nil _ h
theorem VRel.flat {v : Value} {x : AV} (hx : flatA x = true) (h : VRel w S m v x) : VRel w' S' m' v x := by
  have one : ∀ (v : Value) (x : AV), (match x with
    | .fv x => flatF x
    | .undef | .any => true
    | .iface _ (.fv x) => flatF x
    | _ => false) = true → VRel w S m v x → VRel w' S' m' v x := by
    intro v x hx h
    cases h <;> try simp at hx
    · rename_i h; exact .fv _ _ (h.flat hx)
    · exact .undef
    · exact .any _
    · rename_i t u y hu
      cases y <;> simp at hx
      cases hu with
      | fv _ _ h => exact .iface _ _ _ (.fv _ _ (h.flat hx))
  cases h with
  | fv _ _ h => exact .fv _ _ (h.flat hx)
  | undef => exact .undef
  | any => exact .any _
  | anyb b => exact .anyb b
  | agg vs cs hn hr =>
    simp only [flatA, List.all_eq_true] at hx
    exact .agg vs cs hn fun i v x hv hxx => one v x (hx x (List.mem_of_getElem? hxx)) (hr i v x hv hxx)
  | tuple vs cs hn hr =>
    simp only [flatA, List.all_eq_true] at hx
    exact .tuple vs cs hn fun i v x hv hxx => one v x (hx x (List.mem_of_getElem? hxx)) (hr i v x hv hxx)
  | iface t u x hu => exact one _ (.iface t x) (by cases x <;> simp [flatA] at hx ⊢; exact hx) (.iface t u x hu)
  | _ => simp [flatA] at hx
theorem ORel.flat {e : Ending} {o : AOut} (hx : o.flat = true) (h : ORel w S m e o) : ORel w' S' m' e o := by
  cases o <;> cases e <;> simp only [ORel] at h ⊢
  · exact h.flat hx
  · obtain ⟨v, rfl, hv⟩ := h
    exact ⟨v, rfl, hv.flat hx⟩

theorem BRel.sub (hS : ∀ b, S b → S' b) {σ : Nat → Option Sb} (hσ : SigOk w m S' m' σ) {l : Loc} {b : Blk} (h : BRel w S m l b) : BRel w S' m' l (subBlk σ b) := by
  cases b with
  | dead => trivial
  | plain es rows =>
    obtain ⟨h1, h2⟩ := h
    refine ⟨h1, ?_⟩
    cases l with
    | none => exact h2
    | some bo =>
      obtain ⟨arr, T, ha, hc⟩ := h2
      refine ⟨arr, T, ha, fun r j row x hrow hx => ?_⟩
      obtain ⟨u, hu, hf⟩ := hc r j row x hrow hx
      exact ⟨u, hu, hf.stab hS (fun _ _ _ => rfl)⟩
  | box cs =>
    obtain ⟨b, o, arr, T, rfl, ha, hc⟩ := h
    refine ⟨b, o, arr, T, rfl, ha, fun j x hx => ?_⟩
    simp only [List.getElem?_map, Option.map_eq_some_iff] at hx
    obtain ⟨y, hy, rfl⟩ := hx
    obtain ⟨u, hu, hv⟩ := hc j y hy
    exact ⟨u, hu, subAny_rel hS hσ hv⟩
  | map es =>
    obtain ⟨b, arr, clk, rfl, ha, hz, g1, g2, hr⟩ := h
    refine ⟨b, arr, clk, rfl, ha, by simpa using hz, g1, g2, fun i e p he hp => ?_⟩
    simp only [List.getElem?_map, Option.map_eq_some_iff] at hp
    obtain ⟨p', hp', rfl⟩ := hp
    exact ⟨(hr i e p' he hp').1.stab hS (fun _ _ _ => rfl), subAny_rel hS hσ (hr i e p' he hp').2⟩
theorem subBlk_live (σ : Nat → Option Sb) (b : Blk) : (subBlk σ b).live = b.live := by cases b <;> rfl
theorem ORel.sub (hS : ∀ b, S b → S' b) {σ : Nat → Option Sb} (hσ : SigOk w m S' m' σ) {e : Ending} {o : AOut} (h : ORel w S m e o) : ORel w S' m' e (o.sub σ) := by
  cases o <;> cases e <;> simp only [ORel, AOut.sub] at h ⊢
  · exact subAny_rel hS hσ h
  · obtain ⟨v, rfl, hv⟩ := h
    exact ⟨v, rfl, subAny_rel hS hσ hv⟩

theorem putBack_get : ∀ (keep : List Nat) (h' h : List Blk), keep.Nodup → (∀ i ∈ keep, i < h.length) → keep.length ≤ h'.length →
    (putBack keep h' h).length = h.length + (h'.length - keep.length) ∧ ∀ (i : Nat) (b : Blk), (putBack keep h' h)[i]? = some b →
      (∃ k, h'[k]? = some b ∧ i = back keep h.length k) ∨ (i ∉ keep ∧ h[i]? = some b)
  | [], h', h, _, _, _ => by
    refine ⟨by simp [putBack], fun i b hb => ?_⟩
    simp only [putBack] at hb
    rw [List.getElem?_append] at hb
    split at hb
    · exact .inr ⟨by simp, hb⟩
    · rename_i hlt
      exact .inl ⟨i - h.length, hb, by simp [back]; omega⟩
  | k :: keep, [], h, _, _, hl => by simp at hl
  | k :: keep, c :: h', h, hnd, hlt, hl => by
    obtain ⟨hk, hnd'⟩ := List.nodup_cons.1 hnd
    obtain ⟨e, ih⟩ := putBack_get keep h' (h.set k c) hnd' (fun i hi => by simpa using hlt i (List.mem_cons_of_mem _ hi)) (by simpa using hl)
    refine ⟨by simp only [putBack, e, List.length_set, List.length_cons]; omega, fun i b hb => ?_⟩
    simp only [putBack] at hb
    rcases ih i b hb with ⟨j, hj, rfl⟩ | ⟨hi, hg⟩
    · refine .inl ⟨j + 1, by simpa using hj, ?_⟩
      simp only [back, List.length_set, List.length_cons, Nat.add_lt_add_iff_right, List.getD_cons_succ]
      split <;> omega
    · rw [List.getElem?_set] at hg
      split at hg
      · rename_i e; subst e
        have := hlt k (by simp)
        simp only [this, if_true, Option.some.injEq] at hg
        subst hg
        exact .inl ⟨0, rfl, by simp [back]⟩
      · rename_i hne
        exact .inr ⟨by simp only [List.mem_cons, not_or]; exact ⟨fun e => hne e.symm, hi⟩, hg⟩
theorem putBack_old : ∀ (keep : List Nat) (h' h : List Blk) (i : Nat), i ∉ keep → i < h.length → (putBack keep h' h)[i]? = h[i]?
  | [], h', h, i, _, hl => by simp only [putBack]; rw [List.getElem?_append_left hl]
  | k :: keep, [], h, i, _, hl => by simp [putBack]
  | k :: keep, c :: h', h, i, hi, hl => by
    simp only [List.mem_cons, not_or] at hi
    simp only [putBack]
    rw [putBack_old keep h' (h.set k c) i hi.2 (by simpa using hl), List.getElem?_set_ne (fun e => hi.1 e.symm)]

/-- A call that is lent some blocks. -/
theorem call_lent {f : FuncId} {args args' : List AV} {hb h' : List Blk} {o : AOut} (keep : List Nat) (hok : Ok P f args' hb o h')
    (ha : args.map (subAny (mkSub keep [] st.h)) = args') (hh : keep.map (fun i => subBlk (mkSub keep [] st.h) (st.h.getD i .dead)) = hb)
    (hnd : keep.Nodup) (hlive : ∀ i ∈ keep, (st.h.getD i .dead).live = true) :
    CallRel P f args st keep (o.sub (backSub keep st.h.length)) { st with h := putBack keep (h'.map (subBlk (backSub keep st.h.length))) st.h } := by
  have hlt : ∀ i ∈ keep, i < st.h.length := fun i hi => by
    have := hlive i hi
    rcases Nat.lt_or_ge i st.h.length with h1 | h1
    · exact h1
    · simp [List.getD_eq_getElem?_getD, List.getElem?_eq_none h1, Blk.live] at this
  subst ha; subst hh
  refine ⟨fun i hi hlen => putBack_old _ _ _ _ hi hlen, fun w0 S0 m0 w S m a cargs hG hr hargs => .inl ⟨hok.1, ?_⟩⟩
  obtain ⟨S1, m1, hS, hS2, hm1, hσ, hh1⟩ := sub_state (frz := []) hr.heap hnd hlt (fun i hi => by simp at hi) (fun i hi => by simp at hi)
  have hSS : ∀ b, S1 b → S b := fun b hb => by
    rcases hS2 b hb with h1 | ⟨i, o, hi, _⟩
    · exact h1
    · simp at hi
  refine Calls.mono (hok.2 w S1 m1 cargs ((hG.fr hr.fr).mono hS) hh1 (subAny_lrel hS hσ hargs)) fun e w' hq => ?_
  obtain ⟨S2, m2, hh2, ho2, hf⟩ := hq
  have hml : m.length = st.h.length := hr.heap.len
  have hm1l : m1.length = keep.length := by rw [hm1]; simp
  have hm2l : m2.length = h'.length := hh2.len
  have hle : keep.length ≤ h'.length := by rw [← hm1l, ← hm2l]; exact hf.len
  have hm1get : ∀ (k i : Nat), keep[k]? = some i → m1[k]? = some (m.getD i none) := fun k i hk => by rw [hm1]; simp [hk]
  have own1 : ∀ b, Owned m1 b → ∃ i ∈ keep, ∃ o, m[i]? = some (some (b, o)) := by
    rintro b ⟨k, o, hk⟩
    rw [hm1] at hk
    simp only [List.getElem?_map, Option.map_eq_some_iff] at hk
    obtain ⟨i, hi, he⟩ := hk
    refine ⟨i, List.mem_of_getElem? hi, o, ?_⟩
    rw [List.getD_eq_getElem?_getD] at he
    cases hm : m[i]? with
    | none => simp [hm] at he
    | some l => simp [hm] at he; rw [he]
  have own : ∀ b, Owned m1 b → Owned m b := fun b hb => by
    obtain ⟨i, _, o, h⟩ := own1 b hb
    exact ⟨i, o, h⟩
  have notown : ∀ (i b o : Nat) (k : Blk), i ∉ keep → m[i]? = some (some (b, o)) → st.h[i]? = some k → k.live = true → ¬ Owned m1 b := by
    intro i b o k hi hm hk hl hown
    obtain ⟨j, hj, o', hmj⟩ := own1 b hown
    have hjl := hlive j hj
    have hjlt := hlt j hj
    exact hr.heap.inj i j k (st.h.getD j .dead) b o o' (fun e => hi (e ▸ hj)) hk (by simp [List.getD_eq_getElem?_getD, hjlt]) hl hjl hm hmj
  let m' : List Loc := m ++ m2.drop keep.length
  have hsub : Sub m m' := Sub.append _ _
  have hpre : ∀ (k : Nat) (l : Loc), m2[k]? = some l → m'[back keep st.h.length k]? = some l := fun k l hk => by
    unfold back
    split
    · rename_i hlt'
      have hkk : keep[k]? = some (keep.getD k 0) := by simp [List.getD_eq_getElem?_getD, hlt']
      have h1 := hm1get k _ hkk
      have h2 := hf.pre k (by rw [hm1l]; exact hlt')
      rw [hk, h1, Option.some.injEq] at h2
      have hlt2 := hlt _ (List.mem_of_getElem? hkk)
      have : keep.getD k 0 < m.length := by omega
      simp only [m']
      rw [List.getElem?_append_left this]
      rw [h2]
      simp only [List.getD_eq_getElem?_getD] at this ⊢
      simp [this]
    · rename_i hge
      simp only [m']
      rw [List.getElem?_append_right (by omega), List.getElem?_drop]
      rw [← hk]; congr 1; omega
  have hmv : Move w S m w' S2 m' := by
    refine ⟨hf.size, hf.os, hf.tape, hf.output, fun b hb ho => hf.same b hb (fun h => ho (own b h)), fun b hs hb => hf.frozen b (hS b hs) hb, hf.shape, fun b hs => hf.up b (hS b hs), fun b hs => ?_, fun i b o hi => ?_, fun i hi => ?_⟩
    · rcases hf.down b hs with h1 | h1 | h1
      · exact .inl (hSS b h1)
      · exact .inr (.inl (own b h1))
      · exact .inr (.inr h1)
    · simp only [m'] at hi
      rw [List.getElem?_append] at hi
      split at hi
      · exact .inl ⟨i, o, hi⟩
      · rw [List.getElem?_drop] at hi
        rcases hf.locs _ b o hi with h1 | h1
        · exact .inl (own b h1)
        · exact .inr h1
    · simp only [m']; rw [List.getElem?_append_left hi]
  have hτ : SigOk w' m2 S2 m' (backSub keep st.h.length) := by
    refine ⟨fun id j b o h hm => ?_, fun id es rows h => by simp [backSub] at h, fun id es rows b o h => by simp [backSub] at h⟩
    simp only [backSub, Option.some.injEq, Sb.to.injEq] at h
    subst h
    exact hpre id _ hm
  have hsame : ∀ (i b o : Nat) (k : Blk), i ∉ keep → m[i]? = some (some (b, o)) → st.h[i]? = some k → k.live = true → w'.heap[b]? = w.heap[b]? :=
    fun i b o k hi hm hk hl => hf.same b (hr.heap.lowm i b o hm) (notown i b o k hi hm hk hl)
  obtain ⟨hlen, hget⟩ := putBack_get keep (h'.map (subBlk (backSub keep st.h.length))) st.h hnd hlt (by simpa using hle)
  have hget : ∀ (i : Nat) (x : Blk) (l : Loc), (putBack keep (h'.map (subBlk (backSub keep st.h.length))) st.h)[i]? = some x → m'[i]? = some l →
      (∃ k y, h'[k]? = some y ∧ m2[k]? = some l ∧ x = subBlk (backSub keep st.h.length) y ∧ i = back keep st.h.length k) ∨ (i ∉ keep ∧ st.h[i]? = some x ∧ m[i]? = some l) := fun i x l hx hl => by
    rcases hget i x hx with ⟨k, hk, rfl⟩ | ⟨hi, hg⟩
    · simp only [List.getElem?_map, Option.map_eq_some_iff] at hk
      obtain ⟨y, hy, rfl⟩ := hk
      have hkl : k < m2.length := by rw [hm2l]; exact (List.getElem?_eq_some_iff.1 hy).1
      have := hpre k m2[k] (by simp)
      rw [this] at hl
      exact .inl ⟨k, y, hy, by rw [← hl]; simp, rfl, rfl⟩
    · have : i < m.length := by rw [hml]; exact (List.getElem?_eq_some_iff.1 hg).1
      rw [hmv.pre i this] at hl
      exact .inr ⟨hi, hg, hl⟩
  have hheap : HRel w' S2 m' (putBack keep (h'.map (subBlk (backSub keep st.h.length))) st.h) := by
    refine ⟨by rw [hlen]; simp [m', hml, hm2l], fun i l x hl hx => ?_, fun i j bi bj b o o' hne hi hj li lj mi mj => ?_, fun i bi b o hi li mi => ?_, hh2.low, fun i b o hi => ?_⟩
    · rcases hget i x l hx hl with ⟨k, y, hy, hk, rfl, rfl⟩ | ⟨hi, hg, hml'⟩
      · exact (hh2.blk k l y hk hy).sub (fun _ h => h) hτ
      · have hb := hr.heap.blk i l x hml' hg
        cases hlv : x.live with
        | false => cases x <;> simp [Blk.live] at hlv; trivial
        | true => exact hb.move hmv hr.heap.lowm (fun b o e => by subst e; exact hsame i b o x hi hml' hg hlv)
    · rcases hget i bi _ hi mi with ⟨k, y, hy, hk, rfl, rfl⟩ | ⟨hin, hg, hm1'⟩ <;> rcases hget j bj _ hj mj with ⟨k', y', hy', hk', rfl, rfl⟩ | ⟨hin', hg', hm2'⟩
      · exact hh2.inj k k' y y' b o o' (fun e => hne (by rw [e])) hy hy' (by rw [← subBlk_live]; exact li) (by rw [← subBlk_live]; exact lj) hk hk'
      · rcases hf.locs k b o hk with h1 | h1
        · exact notown j b o' bj hin' hm2' hg' lj h1
        · have := hr.heap.lowm j b o' hm2'; omega
      · rcases hf.locs k' b o' hk' with h1 | h1
        · exact notown i b o bi hin hm1' hg li h1
        · have := hr.heap.lowm i b o hm1'; omega
      · exact hr.heap.inj i j bi bj b o o' hne hg hg' li lj hm1' hm2'
    · rcases hget i bi _ hi mi with ⟨k, y, hy, hk, rfl, rfl⟩ | ⟨hin, hg, hm1'⟩
      · exact hh2.out k y b o hy (by rw [← subBlk_live]; exact li) hk
      · intro hs
        rcases hf.down b hs with h1 | h1 | h1
        · exact hr.heap.out i bi b o hg li hm1' (hSS b h1)
        · exact notown i b o bi hin hm1' hg li h1
        · have := hr.heap.lowm i b o hm1'; omega
    · rcases hmv.locs i b o hi with ⟨j, o', hj⟩ | h1
      · have := hr.heap.lowm j b o' hj
        have := hf.size
        omega
      · simp only [m'] at hi
        rw [List.getElem?_append] at hi
        split at hi
        · have := hr.heap.lowm _ _ _ hi; omega
        · rw [List.getElem?_drop] at hi
          exact hh2.lowm _ b o hi
  exact ⟨S2, m', hr.move hmv hheap, ho2.sub (fun _ h => h) hτ, fun i b o k hi hm hk hl => hsame i b o k hi hm hk hl⟩

/-- A call that may read some blocks, and gives back no memory. -/
theorem call_look {f : FuncId} {args args' : List AV} {h' : List Blk} {o : AOut} (frz : List Nat) (hok : Ok P f args' [] o h')
    (ha : args.map (subAny (mkSub [] frz st.h)) = args') (hfl : ∀ i ∈ frz, ∃ es rows, st.h[i]? = some (.plain es rows)) (ho : o.flat = true) :
    CallRel P f args st [] o st := by
  subst ha
  refine ⟨fun i _ _ => rfl, fun w0 S0 m0 w S m a cargs hG hr hargs => .inl ⟨hok.1, ?_⟩⟩
  obtain ⟨S1, m1, hS, hS2, hm1, hσ, hh1⟩ := sub_state (keep := []) hr.heap List.nodup_nil (fun i hi => by simp at hi) (fun i hi => by simp) hfl
  simp only [List.map_nil] at hm1 hh1
  subst hm1
  refine Calls.mono (hok.2 w S1 [] cargs ((hG.fr hr.fr).mono hS) hh1 (subAny_lrel hS hσ hargs)) fun e w' hq => ?_
  obtain ⟨S2, m2, hh2, ho2, hf⟩ := hq
  have hsame : ∀ b, b < w.heap.size → w'.heap[b]? = w.heap[b]? := fun b hb => hf.same b hb (fun ⟨i, o, h⟩ => by simp at h)
  have hmv : Move w S m w' S m := ⟨hf.size, hf.os, hf.tape, hf.output, fun b hb _ => hsame b hb, fun b _ hb => hsame b hb, fun b hb => SameShape.of_eq (hsame b hb), fun _ h => h, fun _ h => .inl h, fun i b o h => .inl ⟨i, o, h⟩, fun _ _ => rfl⟩
  have hheap : HRel w' S m st.h := by
    refine ⟨hr.heap.len, fun i l x hl hx => ?_, hr.heap.inj, hr.heap.out, fun b hb => Nat.lt_of_lt_of_le (hr.heap.low b hb) hf.size, fun i b o h => Nat.lt_of_lt_of_le (hr.heap.lowm i b o h) hf.size⟩
    exact (hr.heap.blk i l x hl hx).move hmv hr.heap.lowm (fun b o e => by subst e; exact hsame b (hr.heap.lowm i b o hl))
  exact ⟨S, m, hr.move hmv hheap, ho2.flat ho, fun i b o k _ hm _ _ => hsame b (hr.heap.lowm i b o hm)⟩

/-- A call whose arguments and outcome know of no block. -/
theorem call_pure {f : FuncId} {args : List AV} {o : AOut} (hok : Ok P f args [] o []) (ha : ∀ σ, args.map (subAny σ) = args) (ho : ∀ σ, o.sub σ = o) : CallRel P f args st [] o st := by
  have h := call_lent (st := st) (args := args) (args' := args) [] hok (ha _) rfl List.nodup_nil (fun i hi => by simp at hi)
  rw [ho] at h
  simpa [putBack] using h
/-- What holds of arguments of which more is known holds of these. -/
theorem ok_args {f : FuncId} {args args' : List AV} {h h' : List Blk} {o : AOut} (hok : Ok P f args' h o h') (hl : ∀ w S m vs, LRel w S m vs args → LRel w S m vs args') : Ok P f args h o h' :=
  ⟨hok.1, fun w S m cargs hG hh ha => hok.2 w S m cargs hG hh (hl _ _ _ _ ha)⟩
theorem nils_lst {v : Value} (es : Nat) (h : VRel w S m v (.fv .nils)) : VRel w S m v (.fv (.lst es [])) := by
  obtain rfl := h.nils_inv
  exact .fv _ _ (.lst _ _ _ _ _ (fun _ _ => Go.undef) ⟨0, 0, none⟩ (by simp) (Nat.le_refl _) (fun i row hrow => by simp at hrow) (fun h => by omega) (fun h => by omega) (fun i j hi => by omega) (fun i j row x hrow => by simp at hrow))
theorem killAll_get : ∀ (l : List Nat) (h : List Blk), (killAll l h).length = h.length ∧ ∀ (i : Nat) (b : Blk), (killAll l h)[i]? = some b → b = .dead ∨ (i ∉ l ∧ h[i]? = some b)
  | [], h => ⟨rfl, fun i b hb => .inr ⟨by simp, hb⟩⟩
  | k :: l, h => by
    obtain ⟨e, ih⟩ := killAll_get l (h.set k .dead)
    refine ⟨by simp only [killAll, e, List.length_set], fun i b hb => ?_⟩
    rcases ih i b hb with h1 | ⟨hi, hg⟩
    · exact .inl h1
    · rw [List.getElem?_set] at hg
      split at hg
      · split at hg <;> simp at hg
        exact .inl hg.symm
      · rename_i hne
        exact .inr ⟨by simp only [List.mem_cons, not_or]; exact ⟨fun e => hne e.symm, hi⟩, hg⟩
/-- Blocks are frozen. -/
theorem freeze_rel {frz : List Nat} (hfl : ∀ i ∈ frz, ∃ es rows, st.h[i]? = some (.plain es rows)) (hr : RelSM w0 S0 m0 w S m a st) :
    ∃ S', (∀ b, S b → S' b) ∧ SigOk w m S' m (frzSub frz st.h) ∧ RelSM w0 S0 m0 w S' m a (freezeSt frz st) := by
  let S' : Nat → Prop := fun b => S b ∨ ∃ i o, i ∈ frz ∧ m[i]? = some (some (b, o))
  have hS : ∀ b, S b → S' b := fun b h => .inl h
  have hfroz : ∀ (id es : Nat) (rows : List (List FV)), frzSub frz st.h id = some (.froz es rows) → id ∈ frz ∧ st.h[id]? = some (.plain es rows) := fun id es rows h => by
    unfold frzSub at h
    split at h
    · rename_i hc
      split at h <;> simp at h
      rename_i es' rows' he
      obtain ⟨rfl, rfl⟩ := h
      exact ⟨by simpa using hc, he⟩
    · simp at h
  have hσ : SigOk w m S' m (frzSub frz st.h) := by
    refine ⟨fun id j b o h hm => ?_, fun id es rows h r row hrow => ?_, fun id es rows b o h hm => ?_⟩
    · unfold frzSub at h
      split at h
      · split at h <;> simp at h
      · simp at h; subst h; exact hm
    · obtain ⟨_, hp⟩ := hfroz id es rows h
      have hml : id < m.length := by rw [hr.heap.len]; exact (List.getElem?_eq_some_iff.1 hp).1
      exact (hr.heap.blk id m[id] _ (by simp) hp).1 r row hrow
    · obtain ⟨hf, hp⟩ := hfroz id es rows h
      obtain ⟨_, arr, T, ha, hc⟩ := hr.heap.blk id _ _ hm hp
      refine ⟨.inr ⟨id, o, hf, hm⟩, fun r j row x hrow hx => ?_⟩
      obtain ⟨u, hu, hr⟩ := hc r j row x hrow hx
      exact ⟨u, by simp [World.cell?, ha, hu], hr.stab hS (fun _ _ _ => rfl)⟩
  obtain ⟨hlen, hget⟩ := killAll_get frz (st.h.map (subBlk (frzSub frz st.h)))
  have hget : ∀ (i : Nat) (x : Blk), (killAll frz (st.h.map (subBlk (frzSub frz st.h))))[i]? = some x → x = .dead ∨ (i ∉ frz ∧ ∃ y, st.h[i]? = some y ∧ x = subBlk (frzSub frz st.h) y) := fun i x hx => by
    rcases hget i x hx with h1 | ⟨h1, h2⟩
    · exact .inl h1
    · simp only [List.getElem?_map, Option.map_eq_some_iff] at h2
      obtain ⟨y, hy, rfl⟩ := h2
      exact .inr ⟨h1, y, hy, rfl⟩
  refine ⟨S', hS, hσ, ⟨⟨?_, fun i l x hl hx => ?_, fun i j bi bj b o o' hne hi hj li lj mi mj => ?_, fun i bi b o hi li mi => ?_, fun b hb => ?_, hr.heap.lowm⟩, subAny_lrel hS hσ hr.tmps, ⟨by simpa [freezeSt] using hr.defs.1, fun i df x hd hx => ?_⟩, ?_⟩⟩
  · simp only [freezeSt, hlen, List.length_map]; exact hr.heap.len
  · rcases hget i x hx with rfl | ⟨_, y, hy, rfl⟩
    · trivial
    · exact (hr.heap.blk i l y hl hy).sub hS hσ
  · rcases hget i bi hi with rfl | ⟨_, y, hy, rfl⟩
    · simp [Blk.live] at li
    rcases hget j bj hj with rfl | ⟨_, y', hy', rfl⟩
    · simp [Blk.live] at lj
    exact hr.heap.inj i j y y' b o o' hne hy hy' (by rw [← subBlk_live]; exact li) (by rw [← subBlk_live]; exact lj) mi mj
  · rcases hget i bi hi with rfl | ⟨hn, y, hy, rfl⟩
    · simp [Blk.live] at li
    rw [subBlk_live] at li
    rintro (hs | ⟨j, o', hj, hmj⟩)
    · exact hr.heap.out i y b o hy li mi hs
    · obtain ⟨es, rows, hp⟩ := hfl j hj
      exact hr.heap.inj i j y _ b o o' (fun e => hn (e ▸ hj)) hy hp li rfl mi hmj
  · rcases hb with hb | ⟨i, o, _, hmi⟩
    · exact hr.heap.low b hb
    · exact hr.heap.lowm i b o hmi
  · simp only [freezeSt, List.getElem?_map, Option.map_eq_some_iff] at hx
    obtain ⟨y, hy, rfl⟩ := hx
    obtain ⟨caps, e, h1, h2⟩ := hr.defs.2 i df y hd hy
    exact ⟨caps, e, subAny_lrel hS hσ h1, subAny_lrel hS hσ h2⟩
  · have h := hr.fr
    exact ⟨h.size, h.os, h.tape, h.output, h.same, h.frozen, h.shape, fun b hb => hS b (h.up b hb), fun b hb => by
      rcases hb with h1 | ⟨i, o, _, hm⟩
      · exact h.down b h1
      · exact .inr (h.locs i b o hm), h.locs, h.pre⟩
theorem le_freeze {n0 : Nat} (frz : List Nat) (hfl : ∀ i ∈ frz, ∃ es rows, st.h[i]? = some (.plain es rows)) : Le n0 st (freezeSt frz st) := fun w0 S0 m0 w S m a _ hr => by
  obtain ⟨S', _, _, h⟩ := freeze_rel hfl hr
  exact ⟨S', m, h⟩
/-- A call before which blocks are frozen. -/
theorem call_freeze {f : FuncId} {args args' : List AV} {W : List Nat} {o : AOut} {st1 st' : St} (frz : List Nat) (hfl : ∀ i ∈ frz, ∃ es rows, st.h[i]? = some (.plain es rows))
    (ha : args.map (subAny (frzSub frz st.h)) = args') (hs : freezeSt frz st = st1) (hc : CallRel P f args' st1 W o st') (W' : List Nat) (hsub : ∀ i ∈ W, i ∈ W') (hfr : ∀ i ∈ frz, i ∈ W')
    (hsame : ∀ i, i ∉ W' → i < st.h.length → st1.h[i]? = st.h[i]?) : CallRel P f args st W' o st' := by
  subst ha; subst hs
  obtain ⟨h2, h3⟩ := hc
  have hlen : (freezeSt frz st).h.length = st.h.length := by simp [freezeSt, (killAll_get frz _).1]
  refine ⟨fun i hi hl => by rw [h2 i (fun h => hi (hsub i h)) (by rw [hlen]; exact hl), hsame i hi hl], fun w0 S0 m0 w S m a cargs hG hr hargs => ?_⟩
  obtain ⟨S', hS, hσ, hr'⟩ := freeze_rel hfl hr
  refine Runs.mono (h3 w0 S0 m0 w S' m a cargs hG hr' (subAny_lrel hS hσ hargs)) fun e w' hq => ?_
  obtain ⟨S2, m2, hr2, ho, hk⟩ := hq
  refine ⟨S2, m2, hr2, ho, fun i b o k hi hm hk' hl => ?_⟩
  have hlt : i < st.h.length := (List.getElem?_eq_some_iff.1 hk').1
  exact hk i b o k (fun h => hi (hsub i h)) hm (by rw [hsame i hi hlt]; exact hk') hl
end
end Go.Abs
