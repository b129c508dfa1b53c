/- Steps of the world. -/
import Derived.Test.YtnhghoonlmoinaaGreatAbsG
import Derived.Deep.AppendSrc
import Derived.Laws.MakeOwn
namespace Go.Abs
variable [Kn]
set_option linter.unusedSectionVars false
set_option linter.unusedVariables false
set_option linter.unusedSimpArgs false
theorem SameShape.refl (w : World) (b : Nat) : SameShape w w b := fun arr T fr h => ⟨arr,fr,h,rfl⟩
theorem SameShape.of_eq {w w' : World} {b : Nat} (h : w'.heap[b]? = w.heap[b]?) : SameShape w w' b := fun arr T fr ha => ⟨arr,fr,by rw [← h]; exact ha,rfl⟩
theorem SameShape.trans {w w1 w2 : World} {b : Nat} (h1 : SameShape w w1 b) (h2 : SameShape w1 w2 b) : SameShape w w2 b := fun arr T fr h => by
 obtain ⟨arr1,fr1,e1,s1⟩ := h2 arr T fr h
 obtain ⟨arr2,fr2,e2,s2⟩ := h1 arr1 T fr1 e1
 exact ⟨arr2,fr2,e2,by omega⟩
/-- A step of the world that keeps to the rules. -/
structure Move [Kn] (w : World) (S : Nat → Prop) (m : List Loc) (w' : World) (S' : Nat → Prop) (m' : List Loc) : Prop where
 size : w.heap.size ≤ w'.heap.size
 os : w'.os = w.os
 tape : w'.tape = w.tape
 output : w'.output = w.output
 drawn : Kn.d = true → w.drawn ≤ w'.drawn
 same : ∀ b,b < w.heap.size → ¬ Owned m b → w'.heap[b]? = w.heap[b]?
 frozen : ∀ b,S b → b < w.heap.size → w'.heap[b]? = w.heap[b]?
 shape : ∀ b,b < w.heap.size → SameShape w w' b
 up : ∀ b,S b → S' b
 down : ∀ b,S' b → S b ∨ Owned m b ∨ w.heap.size ≤ b
 locs : ∀ (i b o : Nat),m'[i]? = some (some (b,o)) → Owned m b ∨ w.heap.size ≤ b
 pre : ∀ (i : Nat),i < m.length → m'[i]? = m[i]?
theorem Move.sub {w w' : World} {S S' : Nat → Prop} {m m' : List Loc} (h : Move w S m w' S' m') : Sub m m' := fun i b o hi => by
 rw [h.pre i (List.getElem?_eq_some_iff.1 hi).1]; exact hi
theorem Fr.move {w0 w w' : World} {S0 S S' : Nat → Prop} {m0 m m' : List Loc} (h : Fr w0 S0 m0 w S m) (k : Move w S m w' S' m') (hlen : m0.length ≤ m.length) : Fr w0 S0 m0 w' S' m' where
 size := Nat.le_trans h.size k.size
 os := k.os.trans h.os
 tape := k.tape.trans h.tape
 output := k.output.trans h.output
 drawn := fun hk => Nat.le_trans (h.drawn hk) (k.drawn hk)
 same := fun b hb ho => by
  have hsz := h.size
  rw [k.same b (by omega) ?_,h.same b hb ho]
  rintro ⟨i,o,hi⟩
  rcases h.locs i b o hi with h1 | h1
  ·exact ho h1
  ·omega
 frozen := fun b hs hb => by
  have hsz := h.size
  rw [k.frozen b (h.up b hs) (by omega),h.frozen b hs hb]
 shape := fun b hb => by
  have hsz := h.size
  exact (h.shape b hb).trans (k.shape b (by omega))
 up := fun b hs => k.up b (h.up b hs)
 down := fun b hs => by
  rcases k.down b hs with h1 | ⟨i,o,hi⟩ | h1
  ·exact h.down b h1
  ·exact .inr (h.locs i b o hi)
  ·exact .inr (.inr (Nat.le_trans h.size h1))
 locs := fun i b o hi => by
  rcases k.locs i b o hi with ⟨j,o',hj⟩ | h1
  ·exact h.locs j b o' hj
  ·exact .inr (Nat.le_trans h.size h1)
 pre := fun i hi => by rw [k.pre i (by omega),h.pre i hi]
theorem Fr.len {w0 w : World} {S0 S : Nat → Prop} {m0 m : List Loc} (h : Fr w0 S0 m0 w S m) : m0.length ≤ m.length := by
 rcases Nat.lt_or_ge m.length m0.length with h1 | h1
 ·have := h.pre m.length h1
  rw [List.getElem?_eq_none (Nat.le_refl _),List.getElem?_eq_getElem h1] at this
  cases this
 ·exact h1
theorem Move.refl (w : World) (S : Nat → Prop) (m : List Loc) (hlow : ∀ (i b o : Nat),m[i]? = some (some (b,o)) → b < w.heap.size) : Move w S m w S m where
 size := Nat.le_refl _
 os := rfl
 tape := rfl
 output := rfl
 drawn := fun _ => Nat.le_refl _
 same := fun _ _ _ => rfl
 frozen := fun _ _ _ => rfl
 shape := fun b _ => SameShape.refl w b
 up := fun _ h => h
 down := fun _ h => .inl h
 locs := fun i b o h => .inl ⟨i,o,h⟩
 pre := fun _ _ => rfl
theorem LRel.move {w w' : World} {S S' : Nat → Prop} {m m' : List Loc} (k : Move w S m w' S' m') (hlow : ∀ (i b o : Nat),m[i]? = some (some (b,o)) → b < w.heap.size)
  {vs : List Value} {xs : List AV} (h : LRel w S m vs xs) : LRel w' S' m' vs xs :=
 h.stab k.up k.frozen k.sub (fun i b o hi => k.shape b (hlow i b o hi))
theorem VRel.move {w w' : World} {S S' : Nat → Prop} {m m' : List Loc} (k : Move w S m w' S' m') (hlow : ∀ (i b o : Nat),m[i]? = some (some (b,o)) → b < w.heap.size)
  {v : Value} {x : AV} (h : VRel w S m v x) : VRel w' S' m' v x :=
 h.stab k.up k.frozen k.sub (fun i b o hi => k.shape b (hlow i b o hi))
theorem RelSM.move {w0 w w' : World} {S0 S S' : Nat → Prop} {m0 m m' : List Loc} {a : Act} {st : St} {h' : List Blk} (h : RelSM w0 S0 m0 w S m a st) (k : Move w S m w' S' m')
  (hh : HRel w' S' m' h') : RelSM w0 S0 m0 w' S' m' a { st with h := h' } where
 heap := hh
 tmps := h.tmps.move k h.heap.lowm
 defs := ⟨h.defs.1,fun i df x hd hx => by
  obtain ⟨caps,e,h1,h2⟩ := h.defs.2 i df x hd hx
  exact ⟨caps,e,h1.move k h.heap.lowm,h2.move k h.heap.lowm⟩⟩
 fr := h.fr.move k h.fr.len
/-- The same heap, but for draws. -/
theorem Move.same_heap {w w' : World} {S : Nat → Prop} {m : List Loc} (hw : w'.heap = w.heap) (ho : w'.os = w.os) (ht : w'.tape = w.tape) (hu : w'.output = w.output) (hd : w.drawn ≤ w'.drawn) : Move w S m w' S m where
 size := by rw [hw]; exact Nat.le_refl _
 os := ho
 tape := ht
 output := hu
 drawn := fun _ => hd
 same := fun b _ _ => by rw [hw]
 frozen := fun b _ _ => by rw [hw]
 shape := fun b _ => SameShape.of_eq (by rw [hw])
 up := fun _ h => h
 down := fun _ h => .inl h
 locs := fun i b o h => .inl ⟨i,o,h⟩
 pre := fun _ _ => rfl
theorem BRel.move {w w' : World} {S S' : Nat → Prop} {m m' : List Loc} (k : Move w S m w' S' m') (hlow : ∀ (i b o : Nat),m[i]? = some (some (b,o)) → b < w.heap.size)
  {l : Loc} (hl : ∀ b o,l = some (b,o) → w'.heap[b]? = w.heap[b]?) {x : Blk} (h : BRel w S m l x) : BRel w' S' m' l x :=
 h.stab k.up k.frozen k.sub (fun i b o hi => k.shape b (hlow i b o hi)) hl
theorem HRel.same_heap {w w' : World} {S : Nat → Prop} {m : List Loc} {h : List Blk} (hh : HRel w S m h) (hw : w'.heap = w.heap) (ho : w'.os = w.os) (ht : w'.tape = w.tape) (hu : w'.output = w.output) (hd : w.drawn ≤ w'.drawn) :
  HRel w' S m h where
 len := hh.len
 blk := fun i l b hi hb => (hh.blk i l b hi hb).move (Move.same_heap hw ho ht hu hd) hh.lowm (fun b o _ => by rw [hw])
 inj := hh.inj
 out := hh.out
 low := fun b hb => by rw [hw]; exact hh.low b hb
 lowm := fun i b o hi => by rw [hw]; exact hh.lowm i b o hi
theorem RelSM.same_heap {w0 w w' : World} {S0 S : Nat → Prop} {m0 m : List Loc} {a : Act} {st : St} (h : RelSM w0 S0 m0 w S m a st) (hw : w'.heap = w.heap) (ho : w'.os = w.os) (ht : w'.tape = w.tape) (hu : w'.output = w.output) (hd : w.drawn ≤ w'.drawn) :
  RelSM w0 S0 m0 w' S m a st := h.move (Move.same_heap hw ho ht hu hd) (h.heap.same_heap hw ho ht hu hd)
/-! ### A new block -/
def wpush (w : World) (o : Obj) : World := { w with heap := w.heap.push o }
theorem wpush_old (w : World) (o : Obj) {b : Nat} (hb : b < w.heap.size) : (wpush w o).heap[b]? = w.heap[b]? := by
 simp only [wpush,Array.getElem?_push]
 split
 ·omega
 ·rfl
theorem wpush_new (w : World) (o : Obj) : (wpush w o).heap[w.heap.size]? = some o := by
 show (w.heap.push o)[w.heap.size]? = some o
 simp
theorem Move.push {w : World} {S : Nat → Prop} {m : List Loc} (o : Obj) (l : Loc) (hl : ∀ b o',l = some (b,o') → w.heap.size ≤ b) : Move w S m (wpush w o) S (m ++ [l]) where
 size := by simp [wpush]
 os := rfl
 tape := rfl
 output := rfl
 drawn := fun _ => Nat.le_refl _
 same := fun b hb _ => wpush_old w o hb
 frozen := fun b _ hb => wpush_old w o hb
 shape := fun b hb => SameShape.of_eq (wpush_old w o hb)
 up := fun _ h => h
 down := fun _ h => .inl h
 locs := fun i b o' hi => by
  rw [List.getElem?_append] at hi
  split at hi
  ·exact .inl ⟨i,o',hi⟩
  ·cases hk : i - m.length with
   | zero => rw [hk] at hi; simp at hi; exact .inr (hl b o' hi)
   | succ n => rw [hk] at hi; simp at hi
 pre := fun i hi => by rw [List.getElem?_append_left hi]
theorem HRel.push {w : World} {S : Nat → Prop} {m : List Loc} {h : List Blk} (hh : HRel w S m h) (o : Obj) (l : Loc) (x : Blk) (hl : l = some (w.heap.size,0) ∨ l = none)
  (hx : BRel (wpush w o) S (m ++ [l]) l x) : HRel (wpush w o) S (m ++ [l]) (h ++ [x]) where
 len := by simp [hh.len]
 blk := fun i k b hi hb => by
  rw [List.getElem?_append] at hi hb
  rw [← hh.len] at hb
  split at hi
  ·rename_i hlt
   simp [hlt] at hb
   refine (hh.blk i k b hi hb).move (Move.push o l (fun b o' e => by rcases hl with hl | hl <;> rw [hl] at e <;> simp at e; omega)) hh.lowm (fun b' o' hk => ?_)
   subst hk
   exact wpush_old w o (hh.lowm i b' o' hi)
  ·rename_i hge
   simp [hge] at hb
   cases hk : i - m.length with
   | zero => rw [hk] at hi hb; simp at hi hb; subst hi; subst hb; exact hx
   | succ n => rw [hk] at hi; simp at hi
 inj := fun i j bi bj b o1 o2 hij hi hj li lj mi mj => by
  rw [List.getElem?_append] at mi mj
  split at mi <;> split at mj
  ·rw [List.getElem?_append_left (by rw [← hh.len]; assumption)] at hi hj
   exact hh.inj i j bi bj b o1 o2 hij hi hj li lj mi mj
  ·have := hh.lowm i b o1 mi
   cases hk : j - m.length with
   | zero => rw [hk] at mj; simp at mj; rcases hl with hl | hl <;> rw [hl] at mj <;> simp at mj; omega
   | succ n => rw [hk] at mj; simp at mj
  ·have := hh.lowm j b o2 mj
   cases hk : i - m.length with
   | zero => rw [hk] at mi; simp at mi; rcases hl with hl | hl <;> rw [hl] at mi <;> simp at mi; omega
   | succ n => rw [hk] at mi; simp at mi
  ·have e1 : i - m.length = 0 := by
    cases hk : i - m.length with
    | zero => rfl
    | succ n => rw [hk] at mi; simp at mi
   have e2 : j - m.length = 0 := by
    cases hk : j - m.length with
    | zero => rfl
    | succ n => rw [hk] at mj; simp at mj
   omega
 out := fun i bi b o1 hi li mi => by
  rw [List.getElem?_append] at mi
  split at mi
  ·rw [List.getElem?_append_left (by rw [← hh.len]; assumption)] at hi
   exact hh.out i bi b o1 hi li mi
  ·cases hk : i - m.length with
   | zero =>
    rw [hk] at mi; simp at mi
    intro hs
    have := hh.low b hs
    rcases hl with hl | hl <;> rw [hl] at mi <;> simp at mi
    omega
   | succ n => rw [hk] at mi; simp at mi
 low := fun b hb => by have := hh.low b hb; simp [wpush]; omega
 lowm := fun i b o1 mi => by
  rw [List.getElem?_append] at mi
  simp only [wpush,Array.size_push]
  split at mi
  ·have := hh.lowm i b o1 mi; omega
  ·cases hk : i - m.length with
   | zero => rw [hk] at mi; simp at mi; rcases hl with hl | hl <;> rw [hl] at mi <;> simp at mi; omega
   | succ n => rw [hk] at mi; simp at mi
theorem RelSM.push {w0 w : World} {S0 S : Nat → Prop} {m0 m : List Loc} {a : Act} {st : St} (h : RelSM w0 S0 m0 w S m a st) (o : Obj) (x : Blk)
  (hx : BRel (wpush w o) S (m ++ [some (w.heap.size,0)]) (some (w.heap.size,0)) x) : RelSM w0 S0 m0 (wpush w o) S (m ++ [some (w.heap.size,0)]) a { st with h := st.h ++ [x] } :=
 h.move (Move.push o _ (fun b o' e => by simp at e; omega)) (h.heap.push o _ x (.inl rfl) hx)
/-! ### A block that is written -/
/-- Block b alone has been written, and keeps its shape. -/
structure Wrote (w w' : World) (b : Nat) : Prop where
 size : w'.heap.size = w.heap.size
 os : w'.os = w.os
 tape : w'.tape = w.tape
 output : w'.output = w.output
 drawn : w.drawn ≤ w'.drawn
 other : ∀ b',b' ≠ b → w'.heap[b']? = w.heap[b']?
 shape : SameShape w w' b
theorem Wrote.move {w w' : World} {b : Nat} (k : Wrote w w' b) {S : Nat → Prop} {m : List Loc} {h : List Blk} (hh : HRel w S m h) {id o : Nat} {x : Blk} (hm : m[id]? = some (some (b,o))) (hx : h[id]? = some x)
  (hl : x.live = true) : Move w S m w' S m where
 size := by rw [k.size]; exact Nat.le_refl _
 os := k.os
 tape := k.tape
 output := k.output
 drawn := fun _ => k.drawn
 same := fun b' _ ho => k.other b' (fun e => ho (e ▸ ⟨id,o,hm⟩))
 frozen := fun b' hs _ => k.other b' (fun e => hh.out id x b o hx hl hm (e ▸ hs))
 shape := fun b' _ => by
  by_cases e : b' = b
  ·subst e; exact k.shape
  ·exact SameShape.of_eq (k.other b' e)
 up := fun _ h => h
 down := fun _ h => .inl h
 locs := fun i b o h => .inl ⟨i,o,h⟩
 pre := fun _ _ => rfl
theorem Wrote.heap {w w' : World} {b : Nat} (k : Wrote w w' b) {S : Nat → Prop} {m : List Loc} {h : List Blk} (hh : HRel w S m h) {id o : Nat} {x y : Blk} (hm : m[id]? = some (some (b,o))) (hx : h[id]? = some x)
  (hl : x.live = true) (hy : BRel w' S m (some (b,o)) y) : HRel w' S m (h.set id y) where
 len := by simp [hh.len]
 blk := fun i l z hi hz => by
  rw [List.getElem?_set] at hz
  split at hz
  ·rename_i e
   subst e
   split at hz <;> simp at hz
   subst hz
   rw [hm] at hi; simp at hi; subst hi
   exact hy
  ·rename_i hne
   by_cases hzl : z.live = true
   ·refine (hh.blk i l z hi hz).move (k.move hh hm hx hl) hh.lowm (fun b' o' hl' => ?_)
    subst hl'
    refine k.other b' (fun e => ?_)
    subst e
    exact hh.inj i id z x b' o' o (Ne.symm hne) hz hx hzl hl hi hm
   ·cases z <;> simp [Blk.live] at hzl
    trivial
 inj := fun i j bi bj b' o1 o2 hij hi hj li lj mi mj => by
  have conv : ∀ (i : Nat) (bi : Blk),(h.set id y)[i]? = some bi → bi.live = true → ∃ b,h[i]? = some b ∧ b.live = true := fun i bi hi li => by
   rw [List.getElem?_set] at hi
   split at hi
   ·rename_i e; subst e; exact ⟨x,hx,hl⟩
   ·exact ⟨bi,hi,li⟩
  obtain ⟨ci,h1,l1⟩ := conv i bi hi li
  obtain ⟨cj,h2,l2⟩ := conv j bj hj lj
  exact hh.inj i j ci cj b' o1 o2 hij h1 h2 l1 l2 mi mj
 out := fun i bi b' o1 hi li mi => by
  rw [List.getElem?_set] at hi
  split at hi
  ·rename_i e; subst e
   exact hh.out id x b' o1 hx hl mi
  ·exact hh.out i bi b' o1 hi li mi
 low := fun b' hb => by rw [k.size]; exact hh.low b' hb
 lowm := fun i b' o1 mi => by rw [k.size]; exact hh.lowm i b' o1 mi
theorem RelSM.wrote {w0 w w' : World} {S0 S : Nat → Prop} {m0 m : List Loc} {a : Act} {st : St} (h : RelSM w0 S0 m0 w S m a st) {b : Nat} (k : Wrote w w' b) {id o : Nat} {x y : Blk}
  (hm : m[id]? = some (some (b,o))) (hx : st.h[id]? = some x) (hl : x.live = true) (hy : BRel w' S m (some (b,o)) y) : RelSM w0 S0 m0 w' S m a { st with h := st.h.set id y } :=
 h.move (k.move h.heap hm hx hl) (k.heap h.heap hm hx hl hy)
/-! ### Storing cells -/
section
variable {P : Program}
/-- A world with one row turned. -/
def wcells (w : World) (b : Nat) (arr : Array Value) (T : TypeId) (fr : Nat × Nat) : World := { w with heap := w.heap.set! b (.cells arr T fr) }
theorem setCell_eq {w : World} {b : Nat} {arr : Array Value} {T : TypeId} {fr : Nat × Nat} (h : w.heap[b]? = some (.cells arr T fr)) (p : Nat) (v : Value) :
  w.setCell ⟨b,p,none⟩ v = wcells w b (arr.setIfInBounds p v) T fr := by
 have hb : b < w.heap.size := (Array.getElem?_eq_some_iff.1 h).1
 have hg := (Array.getElem?_eq_some_iff.1 h).2
 unfold World.setCell wcells
 congr 1
 apply Array.ext_getElem?
 intro i
 simp only [Array.getElem?_modify,Array.set!_eq_setIfInBounds,Array.getElem?_setIfInBounds]
 by_cases hi : b = i
 ·subst hi
  simp [hb,hg]
 ·simp [hi]
theorem wcells_at {w : World} {b : Nat} {arr : Array Value} {T : TypeId} {fr : Nat × Nat} (hb : b < w.heap.size) : (wcells w b arr T fr).heap[b]? = some (.cells arr T fr) := by
 simp [wcells,hb]
theorem wcells_twice (w : World) (b : Nat) (arr arr' : Array Value) (T : TypeId) (fr : Nat × Nat) : wcells (wcells w b arr T fr) b arr' T fr = wcells w b arr' T fr := by
 simp [wcells]
theorem wcells_self {w : World} {b : Nat} {arr : Array Value} {T : TypeId} {fr : Nat × Nat} (h : w.heap[b]? = some (.cells arr T fr)) : wcells w b arr T fr = w := by
 have hb : b < w.heap.size := (Array.getElem?_eq_some_iff.1 h).1
 have hg := (Array.getElem?_eq_some_iff.1 h).2
 unfold wcells
 have : w.heap.set! b (.cells arr T fr) = w.heap := by
  apply Array.ext_getElem?
  intro i
  simp only [Array.set!_eq_setIfInBounds,Array.getElem?_setIfInBounds]
  by_cases hi : b = i
  ·subst hi; simp [hb,hg]
  ·simp [hi]
 rw [this]
theorem wcells_wrote {w : World} {b : Nat} {arr arr' : Array Value} {T : TypeId} {fr fr' : Nat × Nat} (h : w.heap[b]? = some (.cells arr T fr)) (hsz : arr'.size = arr.size) : Wrote w (wcells w b arr' T fr') b where
 size := by simp [wcells]
 os := rfl
 tape := rfl
 output := rfl
 drawn := Nat.le_refl _
 other := fun b' hb => by simp [wcells,Array.getElem?_setIfInBounds,Ne.symm hb]
 shape := fun a U f ha => by
  rw [wcells_at (Array.getElem?_eq_some_iff.1 h).1] at ha
  simp at ha
  obtain ⟨rfl,rfl,rfl⟩ := ha
  exact ⟨arr,fr,h,hsz.symm⟩
/-- Cells put one behind the other. -/
def putCells (arr : Array Value) (p : Nat) : List Value → Array Value
 | [] => arr
 | v :: vs => putCells (arr.setIfInBounds p v) (p + 1) vs
theorem putCells_size : ∀ (vs : List Value) (arr : Array Value) (p : Nat),(putCells arr p vs).size = arr.size
 | [],arr,p => rfl
 | v :: vs,arr,p => by simp [putCells,putCells_size vs]
theorem putCells_get : ∀ (vs : List Value) (arr : Array Value) (p i : Nat),p + vs.length ≤ arr.size →
  (putCells arr p vs)[i]? = if p ≤ i ∧ i < p + vs.length then vs[i - p]? else arr[i]?
 | [],arr,p,i,h => by
  have : ¬ (p ≤ i ∧ i < p + 0) := by omega
  simp [putCells]; intro h1 h2; omega
 | v :: vs,arr,p,i,h => by
  simp only [List.length_cons] at h
  rw [putCells,putCells_get vs _ _ i (by simp; omega)]
  by_cases h1 : p + 1 ≤ i ∧ i < p + 1 + vs.length
  ·have h2 : p ≤ i ∧ i < p + (vs.length + 1) := by omega
   simp only [h1,and_self,if_true,List.length_cons,h2]
   rw [show i - p = (i - (p + 1)) + 1 from by omega]
   simp
  ·simp only [h1,if_false,List.length_cons,Array.getElem?_setIfInBounds]
   by_cases h3 : p = i
   ·subst h3
    have h4 : p ≤ p ∧ p < p + (vs.length + 1) := by omega
    have h5 : p < arr.size := by omega
    simp [h4,h5]
   ·have h6 : ¬ (p ≤ i ∧ i < p + (vs.length + 1)) := by omega
    simp [h3,h6]
theorem run_storeCells : ∀ (vs : List Value) (w : World) (b p k : Nat) (arr : Array Value) (T : TypeId),w.heap[b]? = some (.cells arr T (0,0)) → p + k + vs.length ≤ arr.size → (∀ v ∈ vs,v.oneCell' = true) →
  (storeCells ⟨b,p,none⟩ vs k).run P w = .ok () (wcells w b (putCells arr (p + k) vs) T (0,0))
 | [],w,b,p,k,arr,T,h,_,_ => by simp [storeCells,putCells,wcells_self h]
 | v :: vs,w,b,p,k,arr,T,h,hl,hv => by
  simp only [List.length_cons] at hl
  have hb : b < w.heap.size := (Array.getElem?_eq_some_iff.1 h).1
  have hc : w.cell? ⟨b,p + k,none⟩ = some (arr[p + k]'(by omega)) := by
   simp [World.cell?,h]
  have hf : w.frozen? ⟨b,p + k,none⟩ = false := by simp [World.frozen?,h]
  simp only [storeCells,Sem.run_bind,add_at,run_store P w _ v .plain (hv v (by simp)),hc,hf,Bool.false_eq_true,if_false,Result.andThen_ok]
  rw [setCell_eq h]
  rw [run_storeCells vs (wcells w b (arr.setIfInBounds (p + k) v) T (0,0)) b p (k + 1) (arr.setIfInBounds (p + k) v) T (wcells_at hb) (by simp; omega) (fun u hu => hv u (by simp [hu]))]
  rw [wcells_twice]
  rfl
end
end Go.Abs
/- Operations that make or write blocks. -/
namespace Go.Abs
variable [Kn]
set_option linter.unusedSectionVars false
set_option linter.unusedVariables false
set_option linter.unusedSimpArgs false
section
variable {P : Program} {w0 : World} {S0 : Nat → Prop} {m0 : List Loc} {w : World} {S : Nat → Prop} {m : List Loc} {a : Act} {st : St}
/-- What an operation leaves. -/
def EffOk (P : Program) (w0 : World) (S0 : Nat → Prop) (m0 : List Loc) (w : World) (S : Nat → Prop) (m : List Loc) (a : Act) (st : St) (o : Oper) (v : AV) (h' : List Blk) (W : List Nat) : Prop :=
 ∃ ve w' m',(∀ next Q,next (a.put o.dst ve) w' → o.wp P a w next Q) ∧ RelSM w0 S0 m0 w' S m' a { st with h := h' } ∧ VRel w' S m' ve v ∧
  (∀ (i b o' : Nat) (k : Blk),i ∉ W → m[i]? = some (some (b,o')) → st.h[i]? = some k → k.live = true → w'.heap[b]? = w.heap[b]?) ∧
  ∀ i,i ∉ W → i < st.h.length → h'[i]? = st.h[i]?
theorem wp_value {o : Oper} {ve : Value} {w' : World} (h : (execOp a.eval o).run P w = .ok (.value ve) w') (next : Act → World → Prop) (Q : Exit → Act → World → Prop)
  (hn : next (a.put o.dst ve) w') : o.wp P a w next Q := by
 simp only [Oper.wp,h,Oper.upon]; exact hn
theorem wp_skipped {o : Oper} {w' : World} (h : (execOp a.eval o).run P w = .ok .skip w') (next : Act → World → Prop) (Q : Exit → Act → World → Prop)
  (hn : next (a.put o.dst undef) w') : o.wp P a w next Q := by
 simp only [Oper.wp,h,Oper.upon]; exact hn
/-- A new block, and its address. -/
theorem eff_new (hr : RelSM w0 S0 m0 w S m a st) {o : Oper} {arr : Array Value} {T : TypeId} {x : Blk} (W : List Nat)
  (hrun : (execOp a.eval o).run P w = .ok (.value (.pointer (some ⟨w.heap.size,0,none⟩))) (wpush w (.cells arr T)))
  (hx : BRel (wpush w (.cells arr T)) S (m ++ [some (w.heap.size,0)]) (some (w.heap.size,0)) x) :
  EffOk P w0 S0 m0 w S m a st o (.ptr st.h.length 0 0 0) (st.h ++ [x]) W := by
 refine ⟨_,_,_,wp_value hrun,hr.push _ x hx,?_,fun i b o' k _ hi _ _ => wpush_old w _ (hr.heap.lowm i b o' hi),fun i _ hi => by rw [List.getElem?_append_left hi]⟩
 have := VRel.ptr (w := wpush w (.cells arr T)) (S := S) (m := m ++ [some (w.heap.size,0)]) st.h.length 0 0 0 w.heap.size 0 (by rw [← hr.heap.len]; simp)
 simpa using this
theorem eff_new_slice (hr : RelSM w0 S0 m0 w S m a st) {o : Oper} {arr : Array Value} {T : TypeId} {es n c : Nat} {rows : List (List FV)} (W : List Nat)
  (hrun : (execOp a.eval o).run P w = .ok (.value (.slice (some ⟨w.heap.size,0,none⟩) n c)) (wpush w (.cells arr T))) (hnc : n ≤ c) (hc : c * es ≤ arr.size)
  (hx : BRel (wpush w (.cells arr T)) S (m ++ [some (w.heap.size,0)]) (some (w.heap.size,0)) (.plain es rows)) :
  EffOk P w0 S0 m0 w S m a st o (.ref st.h.length es 0 n) (st.h ++ [.plain es rows]) W := by
 refine ⟨_,_,_,wp_value hrun,hr.push _ _ hx,?_,fun i b o' k _ hi _ _ => wpush_old w _ (hr.heap.lowm i b o' hi),fun i _ hi => by rw [List.getElem?_append_left hi]⟩
 have := VRel.ref (w := wpush w (.cells arr T)) (S := S) (m := m ++ [some (w.heap.size,0)]) st.h.length es 0 n w.heap.size 0 c (by rw [← hr.heap.len]; simp) hnc (fun arr' T' fr ha => by
  rw [wpush_new] at ha
  simp at ha
  obtain ⟨rfl,_,_⟩ := ha
  simpa using hc)
 simpa using this
theorem eff_alloc (hr : RelSM w0 S0 m0 w S m a st) {o : Oper} {T : TypeId} (ho : o.op = .alloc T) {i : TI} (hi : tiOf P T = some i) {z : List FV} (hz : i.zero = some z) :
  EffOk P w0 S0 m0 w S m a st o (.ptr st.h.length 0 0 0) (st.h ++ [.box (z.map .fv)]) [] := by
 obtain ⟨v,hv,hc⟩ := ti_zero hi hz w
 refine eff_new hr (arr := v.cells) (T := T) [] ?_ ⟨w.heap.size,0,v.cells,T,rfl,wpush_new _ _,fun j x hx => ?_⟩
 ·simp [execOp,ho,Instr.alloc,hv,newVar,newRow,wpush]
 ·simp only [List.getElem?_map,Option.map_eq_some_iff] at hx
  obtain ⟨y,hy,rfl⟩ := hx
  obtain ⟨hl,hrel⟩ := ofCells_rel hc
  have hlt : j < v.cells.size := by
   have := (List.getElem?_eq_some_iff.1 hy).1
   simp at hl; omega
  exact ⟨v.cells[j],by simp [hlt],.fv _ _ (hrel _ _ j _ y (by simp [hlt]) hy)⟩
theorem eff_box (hr : RelSM w0 S0 m0 w S m a st) {o : Oper} {T : TypeId} {x : Operand} (ho : o.op = .box T x) {v : AV} {cs : List AV} (hv : ev st.t x = some v) (hc : cellsA v = some cs) :
  EffOk P w0 S0 m0 w S m a st o (.ptr st.h.length 0 0 0) (st.h ++ [.box cs]) [] := by
 have hrel := (ev_rel hr.tmps hv).cells hc
 refine eff_new hr (arr := (a.eval x).cells) (T := T) [] ?_ ⟨w.heap.size,0,(a.eval x).cells,T,rfl,wpush_new _ _,fun j y hy => ?_⟩
 ·simp [execOp,ho,Instr.box,newVar,newRow,wpush]
 ·have hlt : j < (a.eval x).cells.size := by
   have := (List.getElem?_eq_some_iff.1 hy).1
   have := hrel.1; simp at this; omega
  have hm := Move.push (S := S) (m := m) (w := w) (.cells (a.eval x).cells T) (some (w.heap.size,0)) (fun b o' e => by simp at e; omega)
  exact ⟨(a.eval x).cells[j],by simp [hlt],(hrel.2 j _ y (by simp [hlt]) hy).move hm hr.heap.lowm⟩
/-! ### Filling -/
theorem splice_get {α : Type} {l l' xs : List α} {off : Nat} (h : splice l off xs = some l') :
  l'.length = l.length ∧ off + xs.length ≤ l.length ∧ ∀ i : Nat,l'[i]? = if off ≤ i ∧ i < off + xs.length then xs[i - off]? else l[i]? := by
 unfold splice at h
 split at h <;> simp at h
 rename_i hle
 subst h
 have htl : (l.take off).length = off := by simp; omega
 refine ⟨by simp; omega,hle,fun i => ?_⟩
 by_cases h1 : i < off
 ·have : ¬ (off ≤ i ∧ i < off + xs.length) := by omega
  simp only [this,if_false]
  rw [List.getElem?_append_left (by omega)]
  simp [h1]
 ·rw [List.getElem?_append_right (by omega),htl]
  by_cases h2 : i < off + xs.length
  ·have : off ≤ i ∧ i < off + xs.length := by omega
   simp only [this,and_self,if_true]
   rw [List.getElem?_append_left (by omega)]
  ·have : ¬ (off ≤ i ∧ i < off + xs.length) := by omega
   simp only [this,if_false]
   rw [List.getElem?_append_right (by omega)]
   simp only [List.getElem?_drop]
   congr 1
   omega
theorem foldl_put (off : Nat) : ∀ (vs : List Value) (k : Nat) (cells : Array Value),
  (vs.zipIdx k).foldl (fun cs x => match x with | (c,j) => cs.setIfInBounds (off + j) c) cells = putCells cells (off + k) vs
 | [],k,cells => rfl
 | v :: vs,k,cells => by simp only [List.zipIdx_cons,List.foldl_cons,putCells]; rw [foldl_put off vs (k + 1)]; rfl
theorem put_rel {arr : Array Value} {cs cs' vs : List AV} {us : List Value} {off : Nat} (h : LRel w S m arr.toList cs) (hv : LRel w S m us vs) (hs : splice cs off vs = some cs') :
  LRel w S m (putCells arr off us).toList cs' := by
 obtain ⟨h1,h2,h3⟩ := splice_get hs
 have e1 := h.1
 simp at e1
 refine ⟨by simp [putCells_size,h1,e1],fun i v x hvi hx => ?_⟩
 rw [h3] at hx
 simp only [Array.getElem?_toList] at hvi
 rw [putCells_get us arr off i (by rw [hv.1]; omega)] at hvi
 rw [hv.1] at hvi
 split at hx
 ·rename_i hc
  simp only [hc,and_self,if_true] at hvi
  exact hv.2 _ v x hvi hx
 ·rename_i hc
  simp only [hc,if_false] at hvi
  exact h.2 i v x (by simpa using hvi) hx
theorem fill_rel (place : Nat → Option (Nat × Nat)) : ∀ (ps : List (Nat × Value)) (qs : List (Nat × AV)) (arr : Array Value) (cs cs' : List AV),ps.length = qs.length →
  (∀ (j i : Nat) (v : Value) (k : Nat) (x : AV),ps[j]? = some (i,v) → qs[j]? = some (k,x) → i = k ∧ VRel w S m v x) → LRel w S m arr.toList cs → fillA place cs qs = some cs' →
  ∃ arr',Instr.fill place arr ps = some arr' ∧ LRel w S m arr'.toList cs'
 | [],[],arr,cs,cs',_,_,h,hf => by simp [fillA] at hf; subst hf; exact ⟨arr,by simp [Instr.fill],h⟩
 | (i,v) :: ps,(k,x) :: qs,arr,cs,cs',hl,hp,h,hf => by
  obtain ⟨rfl,hvx⟩ := hp 0 i v k x rfl rfl
  simp only [fillA] at hf
  split at hf
  case h_2 => cases hf
  rename_i off size vs hpl hvs
  split at hf
  case isFalse => cases hf
  rename_i hsz
  simp only [Option.bind_eq_some_iff] at hf
  obtain ⟨cs1,hs1,hf⟩ := hf
  have hc := hvx.cells hvs
  obtain ⟨h1,h2,h3⟩ := splice_get hs1
  have e1 := h.1
  have e2 := hc.1
  simp at e1 e2
  obtain ⟨arr',ha,hr'⟩ := fill_rel place ps qs (putCells arr off v.cells.toList) cs1 cs' (by simpa using hl) (fun j i v k x hj hk => hp (j + 1) i v k x (by simpa using hj) (by simpa using hk)) (put_rel h hc hs1) hf
  refine ⟨arr',?_,hr'⟩
  have hcond : ¬ ((decide (v.cells.size ≠ size) || decide (off + v.cells.size > arr.size)) = true) := by
   simp; omega
  simp only [Instr.fill,hpl,hcond,if_false]
  rw [← ha]
  refine congrArg (fun z => Instr.fill place z ps) ?_
  rw [← Array.foldl_toList,Array.toList_zipIdx]
  simpa using (foldl_put off v.cells.toList 0 arr)
 | [],_ :: _,_,_,_,hl,_,_,_ => by simp at hl
 | _ :: _,[],_,_,_,hl,_,_,_ => by simp at hl
theorem evParts_rel (ht : LRel w S m a.tmps.toList st.t) : ∀ {ps : List (Nat × Operand)} {qs : List (Nat × AV)},evParts st.t ps = some qs → (ps.map fun (i,x) => (i,a.eval x)).length = qs.length ∧
  ∀ (j i : Nat) (v : Value) (k : Nat) (x : AV),(ps.map fun (i,x) => (i,a.eval x))[j]? = some (i,v) → qs[j]? = some (k,x) → i = k ∧ VRel w S m v x
 | [],qs,h => by simp [evParts] at h; subst h; exact ⟨rfl,fun j i v k x hj => by simp at hj⟩
 | (i,x) :: ps,qs,h => by
  simp only [evParts] at h
  split at h <;> simp at h
  rename_i y ys h1 h2
  subst h
  obtain ⟨e,ih⟩ := evParts_rel ht h2
  refine ⟨by simpa using e,fun j i' v k z hj hk => ?_⟩
  cases j with
  | zero =>
   simp at hj hk
   obtain ⟨rfl,rfl⟩ := hj
   obtain ⟨rfl,rfl⟩ := hk
   exact ⟨rfl,ev_rel ht h1⟩
  | succ j => exact ih j i' v k z (by simpa using hj) (by simpa using hk)
theorem lrel_fv {vs : List Value} {z : List FV} (h : ofCells vs = some z) : LRel w S m vs (z.map .fv) := by
 obtain ⟨h1,h2⟩ := ofCells_rel h
 refine ⟨by simpa using h1,fun i v x hv hx => ?_⟩
 simp only [List.getElem?_map,Option.map_eq_some_iff] at hx
 obtain ⟨y,hy,rfl⟩ := hx
 exact .fv _ _ (h2 w S i v y hv hy)
theorem eff_build (hr : RelSM w0 S0 m0 w S m a st) {o : Oper} {T : TypeId} {ps : Array (Nat × Operand)} (ho : o.op = .build T ps) {parts : List (Nat × AV)} {v : AV}
  (hp : evParts st.t ps.toList = some parts) (hb : buildA P T parts = some v) : EffOk P w0 S0 m0 w S m a st o v st.h [] := by
 obtain ⟨hl,hrel⟩ := evParts_rel hr.tmps hp
 have key : ∃ u,(Instr.build T (ps.map fun (i,x) => (i,a.eval x))).run P w = .ok u w ∧ VRel w S m u v := by
  unfold buildA at hb
  split at hb
  ·rename_i fs _ _ z hT
   simp only [Option.bind_eq_some_iff,Option.map_eq_some_iff] at hb
   obtain ⟨pl,hpl,cs,hf,rfl⟩ := hb
   obtain ⟨zv,hz,hzc⟩ := ti_zero hT rfl w
   obtain ⟨arr',hfill,hrel'⟩ := fill_rel (w := w) (S := S) (m := m) (fun i => pl[i]?) _ parts zv.cells (z.map .fv) cs hl hrel (lrel_fv hzc) hf
   refine ⟨.agg arr',?_,hrel'.toAgg⟩
   have hplaces : ∀ (fs : List Field) (pl : List (Nat × Nat)),placesOf P fs = some pl → ∀ w,(fs.mapM fun (f : Field) => (do let s ← Go.sizeOf f.type; pure (f.offset,s) : Sem (Nat × Nat))).run P w = .ok pl w := by
    intro fs
    induction fs with
    | nil => intro pl h w; simp [placesOf] at h; subst h; rfl
    | cons f fs ih =>
     intro pl h w
     simp only [placesOf] at h
     split at h <;> simp at h
     rename_i i ps' h1 h2
     subst h
     simp only [List.mapM_cons,Sem.run_bind,ti_size h1,Result.andThen_ok,Sem.run_pure,ih ps' h2]
   have hp1 := hplaces fs.toList pl hpl w
   have hp2 : (fs.mapM fun (f : Field) => (do let s ← Go.sizeOf f.type; pure (f.offset,s) : Sem (Nat × Nat))).run P w = .ok pl.toArray w := by
    rw [Array.mapM_eq_mapM_toList]
    simp only [Sem.run_map,hp1,Result.andThen_ok]
   simp only [Instr.build,Sem.run_bind,hz,Result.andThen_ok,ti_under hT,hp2]
   have : Instr.fill (fun x => pl.toArray[x]?) zv.cells (ps.map fun (i,x) => (i,a.eval x)).toList = some arr' := by
    rw [← hfill]; simp
   simp only [this]
   rfl
  ·rename_i n e _ _ z hT
   simp only [Option.bind_eq_some_iff,Option.map_eq_some_iff] at hb
   obtain ⟨ie,hie,cs,hf,rfl⟩ := hb
   obtain ⟨zv,hz,hzc⟩ := ti_zero hT rfl w
   obtain ⟨arr',hfill,hrel'⟩ := fill_rel (w := w) (S := S) (m := m) (fun i => some (i * ie.size,ie.size)) _ parts zv.cells (z.map .fv) cs hl hrel (lrel_fv hzc) hf
   refine ⟨.agg arr',?_,hrel'.toAgg⟩
   simp only [Instr.build,Sem.run_bind,hz,Result.andThen_ok,ti_under hT,ti_size hie]
   have : Instr.fill (fun i => some (i * ie.size,ie.size)) zv.cells (ps.map fun (i,x) => (i,a.eval x)).toList = some arr' := by
    rw [← hfill]; simp
   simp only [this]
   rfl
  ·cases hb
 obtain ⟨u,hu,hrel'⟩ := key
 refine ⟨u,w,m,wp_value (by simp [execOp,ho,hu]),hr,hrel',fun _ _ _ _ _ _ _ _ => rfl,fun _ _ _ => rfl⟩
end
end Go.Abs
