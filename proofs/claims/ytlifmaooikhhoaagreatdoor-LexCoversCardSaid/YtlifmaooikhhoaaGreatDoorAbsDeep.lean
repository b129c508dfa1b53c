/- A call that only looks: all that it is handed stands frozen, to the bottom. -/
import Derived.Test.YtlifmaooikhhoaaGreatDoorAbsW
namespace Go.Abs
set_option linter.unusedVariables false
set_option linter.unusedSimpArgs false

def deepL (f : AV → Option FV) : List AV → Option (List FV)
  | [] => some []
  | x :: l => match f x, deepL f l with
    | some y, some ys => some (y :: ys)
    | _, _ => none
def deepF : Nat → List Blk → AV → Option FV
  | 0, _, _ => none
  | n + 1, h, v => match v with
    | .fv x => some x
    | .ref id es off 0 => some (.lst es [])
    | .ref id es off (k + 1) => match refCells h id es off (k + 1) with
      | some ys => match deepL (deepF n h) ys with
        | some xs => some (.lst es (chunk es (k + 1) xs))
        | none => none
      | none => none
    | _ => none
/-- The cells behind a place. -/
def behindA (h : List Blk) (id es r off : Nat) : Option (List AV) := match h[id]? with
  | some (.plain es' rows) => if es' = es then (match rows[r]? with
    | some row => some ((row.map .fv).drop off)
    | none => none) else none
  | some (.box cs) => some (cs.drop (r * es + off))
  | _ => none
def deepA : Nat → List Blk → AV → Option AV
  | 0, _, _ => none
  | n + 1, h, v => match v with
    | .ptr id es r off => match behindA h id es r off with
      | some cs => match deepL (deepF n h) cs with
        | some row => match row with
          | [] => none
          | x :: l => some (.fptr (x :: l))
        | none => none
      | none => none
    | .fptr row => some (.fptr row)
    | .gptr g o => some (.gptr g o)
    | .agg cs => (subL (deepA n h) cs).map .agg
    | .func f cs => (subL (deepA n h) cs).map (.func f)
    | v => match deepF n h v with
      | some x => some (.fv x)
      | none => none
def deepAs (h : List Blk) : List AV → Option (List AV)
  | [] => some []
  | x :: l => match deepA 8 h x, deepAs h l with
    | some y, some ys => some (y :: ys)
    | _, _ => none

section
variable {P : Program} {w0 : World} {S0 : Nat → Prop} {m0 : List Loc} {w : World} {S : Nat → Prop} {m : List Loc} {a : Act} {st : St}

/-- What was frozen, and all live blocks. -/
def Deep (S : Nat → Prop) (m : List Loc) (h : List Blk) (b : Nat) : Prop := S b ∨ ∃ (i o : Nat) (k : Blk), m[i]? = some (some (b, o)) ∧ h[i]? = some k ∧ k.live = true
theorem deepL_get {f : AV → Option FV} : ∀ {xs : List AV} {ys : List FV}, deepL f xs = some ys → xs.length = ys.length ∧ ∀ (i : Nat) (y : FV), ys[i]? = some y → ∃ x, xs[i]? = some x ∧ f x = some y
  | [], ys, h => by simp only [deepL, Option.some.injEq] at h; subst h; exact ⟨rfl, fun i y hy => by simp at hy⟩
  | x :: xs, ys, h => by
    unfold deepL at h
    split at h
    · rename_i y ys' h1 h2
      cases h
      obtain ⟨e, ih⟩ := deepL_get h2
      refine ⟨by simp [e], fun i z hz => ?_⟩
      cases i with
      | zero => simp at hz; subst hz; exact ⟨x, rfl, h1⟩
      | succ i => exact ih i z (by simpa using hz)
    · cases h
theorem deepF_sound (hh : HRel w S m st.h) : ∀ (n : Nat) (v : Value) (y : AV) (x : FV), deepF n st.h y = some x → VRel w S m v y → FRel w (Deep S m st.h) v x
  | 0, _, _, _, h, _ => by simp [deepF] at h
  | n + 1, v, y, x, h, hv => by
    have hS : ∀ b, S b → Deep S m st.h b := fun b h => .inl h
    unfold deepF at h
    split at h
    · rename_i z
      cases h
      cases hv with
      | fv _ _ hf => exact hf.stab hS (fun _ _ _ => rfl)
    · rename_i id es off
      cases h
      have hl : ∀ (a : Option Addr) (c : Nat), FRel w (Deep S m st.h) (.slice a 0 c) (.lst es []) := fun a c =>
        .lst a 0 c es [] (fun _ _ => Go.undef) ⟨0, 0, none⟩ rfl (Nat.zero_le _) (fun i row hr => by simp at hr) (fun h => by omega) (fun h => by omega) (fun i j hi => by omega) (fun i j row x hr => by simp at hr)
      cases hv with
      | ref _ _ _ _ b o c hm hle hc => exact hl _ _
      | refz _ _ _ a => exact hl _ _
    · rename_i id es off k
      split at h
      · rename_i ys hys
        split at h
        · rename_i xs hxs
          cases h
          cases hv with
          | ref _ _ _ _ b o c hm hle hc =>
            obtain ⟨arr, U, blk, hb, hblk, hlive, hlen, hcell⟩ := refCells_sound hh hm hys
            obtain ⟨e1, hget⟩ := deepL_get hxs
            have hrow : ∀ (i : Nat) (row : List FV), (chunk es (k + 1) xs)[i]? = some row → i < k + 1 ∧ row = (xs.drop (i * es)).take es := fun i row hr => by
              rw [chunk_get] at hr
              split at hr
              · rename_i hlt; cases hr; exact ⟨hlt, rfl⟩
              · cases hr
            have hbound : ∀ i, i < k + 1 → i * es + es ≤ (k + 1) * es := fun i hi => by
              have : (i + 1) * es ≤ (k + 1) * es := Nat.mul_le_mul_right _ hi
              rw [Nat.succ_mul] at this
              exact this
            refine .lst _ _ _ _ _ (fun i j => (arr[o + off * es + (i * es + j)]?).getD Go.undef) ⟨b, o + off * es, none⟩ ?_ hle (fun i row hr => ?_) (fun _ => rfl) (fun _ => .inr ⟨id, o, blk, hm, hblk, hlive⟩) (fun i j hi hj => ?_) (fun i j row x hr hx => ?_)
            · have : ∀ n (l : List FV), (chunk es n l).length = n := by
                intro n
                induction n with
                | zero => intro l; rfl
                | succ n ih => intro l; simp [chunk, ih]
              exact this _ _
            · obtain ⟨hi, rfl⟩ := hrow i row hr
              have := hbound i hi
              rw [List.length_take, List.length_drop]
              omega
            · have h1 := hbound i hi
              have hk : i * es + j < ys.length := by rw [hlen]; omega
              obtain ⟨u, hu, _⟩ := hcell (i * es + j) ys[i * es + j] (List.getElem?_eq_getElem hk)
              rw [add_at]
              simp only [World.cell?, hb, hu]
              rfl
            · obtain ⟨hi, rfl⟩ := hrow i row hr
              rw [List.getElem?_take] at hx
              split at hx
              · rename_i hj
                rw [List.getElem?_drop] at hx
                obtain ⟨z, hz, hfz⟩ := hget _ _ hx
                obtain ⟨u, hu, hvu⟩ := hcell _ _ hz
                rw [hu]
                exact deepF_sound hh n u z x hfz hvu
              · cases hx
        · cases h
      · cases h
    · cases h
theorem behindA_sound (hh : HRel w S m st.h) {id es r off b o : Nat} (hm : m[id]? = some (some (b, o))) {cs : List AV} (h : behindA st.h id es r off = some cs) :
    ∃ arr U k, w.heap[b]? = some (.cells arr U (0, 0)) ∧ st.h[id]? = some k ∧ k.live = true ∧ ∀ (j : Nat) (x : AV), cs[j]? = some x → ∃ u, arr[o + r * es + off + j]? = some u ∧ VRel w S m u x := by
  unfold behindA at h
  split at h
  · rename_i es' rows hid
    split at h
    · rename_i he
      subst he
      split at h
      · rename_i row hrow
        cases h
        obtain ⟨hes, arr, U, hb, hcell⟩ := hh.blk id _ _ hm hid
        refine ⟨arr, U, _, hb, hid, rfl, fun j x hx => ?_⟩
        rw [List.getElem?_drop] at hx
        simp only [List.getElem?_map, Option.map_eq_some_iff] at hx
        obtain ⟨y, hy, rfl⟩ := hx
        obtain ⟨u, hu, hf⟩ := hcell r (off + j) row y hrow hy
        exact ⟨u, by rw [← hu]; congr 1; omega, .fv _ _ hf⟩
      · cases h
    · cases h
  · rename_i cs' hid
    cases h
    obtain ⟨b', o', arr, U, hloc, hb, hcell⟩ := hh.blk id _ _ hm hid
    simp at hloc
    obtain ⟨rfl, rfl⟩ := hloc
    refine ⟨arr, U, _, hb, hid, rfl, fun j x hx => ?_⟩
    rw [List.getElem?_drop] at hx
    obtain ⟨u, hu, hv⟩ := hcell _ x hx
    exact ⟨u, by rw [← hu]; congr 1; omega, hv⟩
  · cases h
theorem deepA_sound (hh : HRel w S m st.h) : ∀ (n : Nat) (v : Value) (y x : AV), deepA n st.h y = some x → VRel w S m v y → VRel w (Deep S m st.h) [] v x
  | 0, _, _, _, h, _ => by simp [deepA] at h
  | n + 1, v, y, x, h, hv => by
    have hS : ∀ b, S b → Deep S m st.h b := fun b h => .inl h
    unfold deepA at h
    split at h
    · rename_i id es r off
      split at h
      · rename_i cs hcs
        split at h
        · rename_i row hrow
          split at h
          · cases h
          · rename_i x0 l
            cases h
            cases hv with
            | ptr _ _ _ _ b o hm =>
              obtain ⟨arr, U, blk, hb, hblk, hlive, hcell⟩ := behindA_sound hh hm hcs
              obtain ⟨e1, hget⟩ := deepL_get hrow
              refine .fptr _ _ (fun j => (arr[o + r * es + off + j]?).getD Go.undef) (.inr ⟨id, o, blk, hm, hblk, hlive⟩) (fun j hj => ?_) (fun j x hx => ?_)
              · obtain ⟨z, hz, _⟩ := hget j _ (List.getElem?_eq_getElem hj)
                obtain ⟨u, hu, _⟩ := hcell j z hz
                rw [add_at]
                simp only [World.cell?, hb, hu]
                rfl
              · obtain ⟨z, hz, hfz⟩ := hget j x hx
                obtain ⟨u, hu, hvu⟩ := hcell j z hz
                rw [hu]
                exact deepF_sound hh n u z x hfz hvu
        · cases h
      · cases h
    · cases h
      cases hv with
      | fptr ad row u hs hc hr => exact .fptr ad _ u (hS _ hs) hc (fun j x hx => (hr j x hx).stab hS (fun _ _ _ => rfl))
    · cases h
      cases hv with
      | gptr g1 off1 => exact .gptr _ _
    · rename_i cs
      rw [Option.map_eq_some_iff] at h
      obtain ⟨ys, hys, rfl⟩ := h
      obtain ⟨e1, hget⟩ := subL_get hys
      cases hv with
      | agg vs _ hn hr =>
        refine .agg vs ys (by rw [hn, e1]) (fun i v x hv hx => ?_)
        obtain ⟨z, hz, hfz⟩ := hget i x hx
        exact deepA_sound hh n v z x hfz (hr i v z hv hz)
    · rename_i f cs
      rw [Option.map_eq_some_iff] at h
      obtain ⟨ys, hys, rfl⟩ := h
      obtain ⟨e1, hget⟩ := subL_get hys
      cases hv with
      | func _ vs _ hn hr =>
        refine .func f vs ys (by rw [hn, e1]) (fun i v x hv hx => ?_)
        obtain ⟨z, hz, hfz⟩ := hget i x hx
        exact deepA_sound hh n v z x hfz (hr i v z hv hz)
    · split at h
      · rename_i z hz
        cases h
        exact .fv _ _ (deepF_sound hh n v _ z hz hv)
      · cases h
theorem deepAs_sound (hh : HRel w S m st.h) : ∀ {vs : List Value} {ys xs : List AV}, deepAs st.h ys = some xs → LRel w S m vs ys → LRel w (Deep S m st.h) [] vs xs
  | vs, [], xs, h, hl => by
    simp only [deepAs, Option.some.injEq] at h
    subst h
    exact ⟨hl.1, fun i v x hv hx => by simp at hx⟩
  | vs, y :: ys, xs, h, hl => by
    unfold deepAs at h
    split at h
    · rename_i x xs' h1 h2
      cases h
      cases vs with
      | nil => have := hl.1; simp at this
      | cons v vs =>
        have ih := deepAs_sound (vs := vs) hh h2 ⟨by simpa using hl.1, fun i v x hv hx => hl.2 (i + 1) v x (by simpa using hv) (by simpa using hx)⟩
        refine ⟨by simpa using ih.1, fun i u z hu hz => ?_⟩
        cases i with
        | zero => simp at hu hz; subst hu; subst hz; exact deepA_sound hh 8 v y x h1 (hl.2 0 v y rfl rfl)
        | succ i => exact ih.2 i u z (by simpa using hu) (by simpa using hz)
    · cases h
/-- A call that only looks. -/
theorem call_deep {f : FuncId} {args args' : List AV} {h' : List Blk} {o : AOut} (hok : Ok P f args' [] o h') (ha : deepAs st.h args = some args') (ho : o.flat = true) : CallRel P f args st [] o st := by
  refine ⟨fun i _ _ => rfl, fun w0 S0 m0 w S m a cargs hG hr hargs => .inl ⟨hok.1, ?_⟩⟩
  have hS : ∀ b, S b → Deep S m st.h b := fun b h => .inl h
  have hlow : ∀ b, Deep S m st.h b → b < w.heap.size := fun b hb => by
    rcases hb with h1 | ⟨i, o, k, h1, _, _⟩
    · exact hr.heap.low b h1
    · exact hr.heap.lowm i b o h1
  have hh1 : HRel w (Deep S m st.h) [] [] := ⟨rfl, fun i l b hi => by simp at hi, fun i j bi bj b o o' _ hi => by simp at hi, fun i bi b o hi => by simp at hi, hlow, fun i b o hi => by simp at hi⟩
  refine Calls.mono (hok.2 w _ [] cargs ((hG.fr hr.fr).mono hS) hh1 (deepAs_sound hr.heap ha hargs)) fun e w' hq => ?_
  obtain ⟨S2, m2, hh2, ho2, hf⟩ := hq
  have hsame : ∀ b, b < w.heap.size → w'.heap[b]? = w.heap[b]? := fun b hb => hf.same b hb (fun ⟨i, o, h⟩ => by simp at h)
  have hmv : Move w S m w' S m := ⟨hf.size, hf.os, hf.tape, hf.output, fun b hb _ => hsame b hb, fun b _ hb => hsame b hb, fun b hb => SameShape.of_eq (hsame b hb), fun _ h => h, fun _ h => .inl h, fun i b o h => .inl ⟨i, o, h⟩, fun _ _ => rfl⟩
  have hheap : HRel w' S m st.h := by
    refine ⟨hr.heap.len, fun i l x hl hx => ?_, hr.heap.inj, hr.heap.out, fun b hb => Nat.lt_of_lt_of_le (hr.heap.low b hb) hf.size, fun i b o h => Nat.lt_of_lt_of_le (hr.heap.lowm i b o h) hf.size⟩
    exact (hr.heap.blk i l x hl hx).move hmv hr.heap.lowm (fun b o e => by subst e; exact hsame b (hr.heap.lowm i b o hl))
  exact ⟨S, m, hr.move hmv hheap, ho2.flat ho, fun i b o k _ hm _ _ => hsame b (hr.heap.lowm i b o hm)⟩
end
end Go.Abs
