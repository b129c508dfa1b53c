/- Values, blocks and worlds of the abstract machine, and what holds between them and the model's. -/
import Derived.Calls
import Derived.Orders
import Derived.KernelRfl
namespace Go.Abs
set_option linter.unusedVariables false
set_option linter.unusedSimpArgs false

/-- One cell of memory that nobody writes any more: slices stand by value. -/
inductive FV where
  | bool (b : Bool)
  | int (k : IntKind) (n : Int)
  | str (s : List UInt8)
  | nils
  | nil (v : Value)
  | lst (es : Nat) (xs : List (List FV))

inductive AV where
  | fv (x : FV)
  | undef
  | any
  | anyb
  | agg (cs : List AV)
  | tuple (vs : List AV)
  | ref (id es off len : Nat)
  | ptr (id es r off : Nat)
  | fptr (row : List FV)
  | gptr (g off : Nat)
  | func (f : FuncId) (cap : List AV)
  | iface (t : TypeId) (v : AV)
  | mp (id : Nat)

inductive Blk where
  | plain (es : Nat) (rows : List (List FV))
  | box (cs : List AV)
  | map (es : List (FV × AV))
  | dead

def Blk.live : Blk → Bool
  | .dead => false
  | _ => true

abbrev Loc := Option (Nat × Nat)

/-- A value without memory that is nil. -/
def isNil : Value → Bool
  | .pointer none | .map none | .chan none | .nilFunc | .nilIface => true
  | _ => false

inductive FRel (w : World) (S : Nat → Prop) : Value → FV → Prop
  | bool (b : Bool) : FRel w S (.bool b) (.bool b)
  | int (k : IntKind) (n : Int) : FRel w S (.int k n) (.int k n)
  | str (s : List UInt8) : FRel w S (.string ⟨s.toArray⟩) (.str s)
  | nils : FRel w S (.slice none 0 0) .nils
  | nil (v : Value) (h : isNil v = true) : FRel w S v (.nil v)
  | lst (a : Option Addr) (n c es : Nat) (xs : List (List FV)) (u : Nat → Nat → Value) (ad : Addr)
      (hn : xs.length = n) (hcp : n ≤ c) (hes : ∀ (i : Nat) (row : List FV), xs[i]? = some row → row.length = es)
      (ha : 0 < n → a = some ad) (hs : 0 < n → S ad.block)
      (hc : ∀ i j, i < n → j < es → w.cell? (ad.add (i * es + j)) = some (u i j))
      (hr : ∀ (i j : Nat) (row : List FV) (x : FV), xs[i]? = some row → row[j]? = some x → FRel w S (u i j) x) :
      FRel w S (.slice a n c) (.lst es xs)

inductive VRel (w : World) (S : Nat → Prop) (m : List Loc) : Value → AV → Prop
  | fv (v : Value) (x : FV) (h : FRel w S v x) : VRel w S m v (.fv x)
  | undef : VRel w S m undef .undef
  | any (v : Value) : VRel w S m v .any
  | anyb (b : Bool) : VRel w S m (.bool b) .anyb
  | agg (vs : Array Value) (cs : List AV) (hn : vs.size = cs.length)
      (h : ∀ (i : Nat) (v : Value) (x : AV), vs[i]? = some v → cs[i]? = some x → VRel w S m v x) : VRel w S m (.agg vs) (.agg cs)
  | tuple (vs : Array Value) (cs : List AV) (hn : vs.size = cs.length)
      (h : ∀ (i : Nat) (v : Value) (x : AV), vs[i]? = some v → cs[i]? = some x → VRel w S m v x) : VRel w S m (.tuple vs) (.tuple cs)
  | ref (id es off len b o c : Nat) (hm : m[id]? = some (some (b, o))) (hl : len ≤ c)
      (hc : ∀ arr T fr, w.heap[b]? = some (.cells arr T fr) → o + (off + c) * es ≤ arr.size) :
      VRel w S m (.slice (some ⟨b, o + off * es, none⟩) len c) (.ref id es off len)
  | refz (id es off : Nat) (a : Option Addr) : VRel w S m (.slice a 0 0) (.ref id es off 0)
  | ptr (id es r off b o : Nat) (hm : m[id]? = some (some (b, o))) : VRel w S m (.pointer (some ⟨b, o + r * es + off, none⟩)) (.ptr id es r off)
  | fptr (ad : Addr) (row : List FV) (u : Nat → Value) (hs : S ad.block)
      (hc : ∀ j, j < row.length → w.cell? (ad.add j) = some (u j)) (hr : ∀ (j : Nat) (x : FV), row[j]? = some x → FRel w S (u j) x) :
      VRel w S m (.pointer (some ad)) (.fptr row)
  | gptr (g off : Nat) : VRel w S m (.pointer (some ⟨g, off, none⟩)) (.gptr g off)
  | func (f : FuncId) (vs : Array Value) (cs : List AV) (hn : vs.size = cs.length)
      (h : ∀ (i : Nat) (v : Value) (x : AV), vs[i]? = some v → cs[i]? = some x → VRel w S m v x) : VRel w S m (.func (.func f) #[] vs) (.func f cs)
  | iface (t : TypeId) (v : Value) (x : AV) (h : VRel w S m v x) : VRel w S m (.iface t v) (.iface t x)
  | mp (id b : Nat) (hm : m[id]? = some (some (b, 0))) : VRel w S m (.map (some b)) (.mp id)

def LRel (w : World) (S : Nat → Prop) (m : List Loc) (vs : List Value) (xs : List AV) : Prop :=
  vs.length = xs.length ∧ ∀ (i : Nat) (v : Value) (x : AV), vs[i]? = some v → xs[i]? = some x → VRel w S m v x

/-- A key's or an element's value as a row of cells. -/
def RowRel (w : World) (S : Nat → Prop) (v : Value) (row : List FV) : Prop :=
  v.cells.size = row.length ∧ ∀ (j : Nat) (u : Value) (x : FV), v.cells[j]? = some u → row[j]? = some x → FRel w S u x

def BRel (w : World) (S : Nat → Prop) (m : List Loc) (loc : Loc) : Blk → Prop
  | .dead => True
  | .plain es rows => (∀ (r : Nat) (row : List FV), rows[r]? = some row → row.length = es) ∧
      match loc with
      | none => rows = []
      | some (b, o) => ∃ arr T, w.heap[b]? = some (.cells arr T (0, 0)) ∧
          ∀ (r j : Nat) (row : List FV) (x : FV), rows[r]? = some row → row[j]? = some x → ∃ u, arr[o + r * es + j]? = some u ∧ FRel w S u x
  | .box cs => ∃ b o arr T, loc = some (b, o) ∧ w.heap[b]? = some (.cells arr T (0, 0)) ∧
      ∀ (j : Nat) (x : AV), cs[j]? = some x → ∃ u, arr[o + j]? = some u ∧ VRel w S m u x
  | .map es => ∃ b arr clk, loc = some (b, 0) ∧ w.heap[b]? = some (.map arr clk) ∧ arr.size = es.length ∧
      (∀ (i : Nat) (e : MapEntry), arr[i]? = some e → e.born < clk) ∧
      (∀ (i j : Nat) (e f : MapEntry), i < j → arr[i]? = some e → arr[j]? = some f → e.born < f.born) ∧
      ∀ (i : Nat) (e : MapEntry) (p : FV × AV), arr[i]? = some e → es[i]? = some p → FRel w S e.key p.1 ∧ VRel w S m e.val p.2

structure HRel (w : World) (S : Nat → Prop) (m : List Loc) (h : List Blk) : Prop where
  len : m.length = h.length
  blk : ∀ (i : Nat) (l : Loc) (b : Blk), m[i]? = some l → h[i]? = some b → BRel w S m l b
  inj : ∀ (i j : Nat) (bi bj : Blk) (b o o' : Nat), i ≠ j → h[i]? = some bi → h[j]? = some bj → bi.live = true → bj.live = true →
    m[i]? = some (some (b, o)) → m[j]? = some (some (b, o')) → False
  out : ∀ (i : Nat) (bi : Blk) (b o : Nat), h[i]? = some bi → bi.live = true → m[i]? = some (some (b, o)) → ¬ S b
  low : ∀ b, S b → b < w.heap.size
  lowm : ∀ (i : Nat) (b o : Nat), m[i]? = some (some (b, o)) → b < w.heap.size

/-- Rows stay rows, of the same type and size. -/
def SameShape (w w' : World) (b : Nat) : Prop :=
  ∀ arr' T fr', w'.heap[b]? = some (.cells arr' T fr') → ∃ arr fr, w.heap[b]? = some (.cells arr T fr) ∧ arr.size = arr'.size

/-- Which concrete blocks are laid. -/
def Owned (m : List Loc) (b : Nat) : Prop := ∃ (i o : Nat), m[i]? = some (some (b, o))

/-- What became of a world since a call began: `w0`, what was frozen then, where its blocks lay. -/
structure Fr (w0 : World) (S0 : Nat → Prop) (m0 : List Loc) (w : World) (S : Nat → Prop) (m : List Loc) : Prop where
  size : w0.heap.size ≤ w.heap.size
  os : w.os = w0.os
  tape : w.tape = w0.tape
  output : w.output = w0.output
  same : ∀ b, b < w0.heap.size → ¬ Owned m0 b → w.heap[b]? = w0.heap[b]?
  frozen : ∀ b, S0 b → b < w0.heap.size → w.heap[b]? = w0.heap[b]?
  shape : ∀ b, b < w0.heap.size → SameShape w0 w b
  up : ∀ b, S0 b → S b
  down : ∀ b, S b → S0 b ∨ Owned m0 b ∨ w0.heap.size ≤ b
  locs : ∀ (i b o : Nat), m[i]? = some (some (b, o)) → Owned m0 b ∨ w0.heap.size ≤ b
  pre : ∀ (i : Nat), i < m0.length → m[i]? = m0[i]?

/-! ### What stays -/
/-- From one world to a later one: all of `K` reads as it did, and rows keep their shapes. -/
structure Stab (K : Nat → Prop) (w w' : World) : Prop where
  size : w.heap.size ≤ w'.heap.size
  same : ∀ b, K b → b < w.heap.size → w'.heap[b]? = w.heap[b]?
  shape : ∀ b, b < w.heap.size → SameShape w w' b

theorem cell?_of_same {w w' : World} {a : Addr} (h : w'.heap[a.block]? = w.heap[a.block]?) : w'.cell? a = w.cell? a := by
  simp only [World.cell?, h]

theorem block_of_cell? {w : World} {a : Addr} {v : Value} (h : w.cell? a = some v) : a.block < w.heap.size := by
  rcases Nat.lt_or_ge a.block w.heap.size with hl | hl
  · exact hl
  · simp only [World.cell?, Array.getElem?_eq_none hl] at h; cases h

theorem add_block (a : Addr) (n : Nat) : (a.add n).block = a.block := by unfold Addr.add; split <;> rfl

theorem FRel.stab {w w' : World} {S S' : Nat → Prop} (hS : ∀ b, S b → S' b) (hw : ∀ b, S b → b < w.heap.size → w'.heap[b]? = w.heap[b]?) {v : Value} {x : FV}
    (h : FRel w S v x) : FRel w' S' v x := by
  induction h with
  | bool b => exact .bool b
  | int k n => exact .int k n
  | str s => exact .str s
  | nils => exact .nils
  | nil v h => exact .nil v h
  | lst a n c es xs u ad hn hcp hes ha hs hc hr ih =>
    refine .lst a n c es xs u ad hn hcp hes ha (fun h => hS _ (hs h)) (fun i j hi hj => ?_) ih
    have h1 := hc i j hi hj
    rw [cell?_of_same (w := w) (w' := w') ?_]
    · exact h1
    · have hb := block_of_cell? h1
      rw [add_block] at hb ⊢
      exact hw _ (hs (by omega)) hb

/-- m' has all that m has. -/
def Sub (m m' : List Loc) : Prop := ∀ (i b o : Nat), m[i]? = some (some (b, o)) → m'[i]? = some (some (b, o))
theorem Sub.refl (m : List Loc) : Sub m m := fun _ _ _ h => h
theorem Sub.append (m k : List Loc) : Sub m (m ++ k) := fun i b o h => by
  rw [List.getElem?_append_left]
  · exact h
  · exact (List.getElem?_eq_some_iff.1 h).1

theorem VRel.stab {w w' : World} {S S' : Nat → Prop} {m m' : List Loc} (hS : ∀ b, S b → S' b) (hw : ∀ b, S b → b < w.heap.size → w'.heap[b]? = w.heap[b]?)
    (hm : Sub m m') (hb : ∀ (i b o : Nat), m[i]? = some (some (b, o)) → SameShape w w' b) {v : Value} {x : AV} (h : VRel w S m v x) : VRel w' S' m' v x := by
  induction h with
  | fv v x h => exact .fv v x (h.stab hS hw)
  | undef => exact .undef
  | any v => exact .any v
  | anyb b => exact .anyb b
  | agg vs cs hn h ih => exact .agg vs cs hn ih
  | tuple vs cs hn h ih => exact .tuple vs cs hn ih
  | ref id es off len b o c hmi hl hc =>
    refine .ref id es off len b o c (hm _ _ _ hmi) hl (fun arr T fr ha => ?_)
    obtain ⟨arr0, fr0, h0, hsz⟩ := hb _ _ _ hmi arr T fr ha
    rw [← hsz]; exact hc _ _ _ h0
  | refz id es off a => exact .refz id es off a
  | ptr id es r off b o hmi => exact .ptr id es r off b o (hm _ _ _ hmi)
  | fptr ad row u hs hc hr =>
    refine .fptr ad row u (hS _ hs) (fun j hj => ?_) (fun j x hx => (hr j x hx).stab hS hw)
    have h1 := hc j hj
    rw [cell?_of_same (w := w) (w' := w') ?_]
    · exact h1
    · have hb := block_of_cell? h1
      rw [add_block] at hb ⊢
      exact hw _ hs hb
  | gptr g off => exact .gptr g off
  | func f vs cs hn h ih => exact .func f vs cs hn ih
  | iface t v x h ih => exact .iface t v x ih
  | mp id b hmi => exact .mp id b (hm _ _ _ hmi)

theorem LRel.stab {w w' : World} {S S' : Nat → Prop} {m m' : List Loc} (hS : ∀ b, S b → S' b) (hw : ∀ b, S b → b < w.heap.size → w'.heap[b]? = w.heap[b]?)
    (hm : Sub m m') (hb : ∀ (i b o : Nat), m[i]? = some (some (b, o)) → SameShape w w' b) {vs : List Value} {xs : List AV} (h : LRel w S m vs xs) : LRel w' S' m' vs xs :=
  ⟨h.1, fun i v x hv hx => (h.2 i v x hv hx).stab hS hw hm hb⟩

theorem RowRel.stab {w w' : World} {S S' : Nat → Prop} (hS : ∀ b, S b → S' b) (hw : ∀ b, S b → b < w.heap.size → w'.heap[b]? = w.heap[b]?) {v : Value} {row : List FV}
    (h : RowRel w S v row) : RowRel w' S' v row := ⟨h.1, fun j u x hu hx => (h.2 j u x hu hx).stab hS hw⟩

theorem BRel.stab {w w' : World} {S S' : Nat → Prop} {m m' : List Loc} (hS : ∀ b, S b → S' b) (hw : ∀ b, S b → b < w.heap.size → w'.heap[b]? = w.heap[b]?)
    (hm : Sub m m') (hb : ∀ (i b o : Nat), m[i]? = some (some (b, o)) → SameShape w w' b) {l : Loc} (hl : ∀ b o, l = some (b, o) → w'.heap[b]? = w.heap[b]?) {k : Blk}
    (h : BRel w S m l k) : BRel w' S' m' l k := by
  cases k with
  | dead => trivial
  | plain es rows =>
    refine ⟨h.1, ?_⟩
    have h2 := h.2
    cases l with
    | none => exact h2
    | some p =>
      obtain ⟨b, o⟩ := p
      obtain ⟨arr, T, ha, hr⟩ := h2
      refine ⟨arr, T, by rw [hl b o rfl]; exact ha, fun r j row x hrow hx => ?_⟩
      obtain ⟨u, hu, hf⟩ := hr r j row x hrow hx
      exact ⟨u, hu, hf.stab hS hw⟩
  | box cs =>
    obtain ⟨b, o, arr, T, rfl, ha, hr⟩ := h
    refine ⟨b, o, arr, T, rfl, by rw [hl b o rfl]; exact ha, fun j x hx => ?_⟩
    obtain ⟨u, hu, hf⟩ := hr j x hx
    exact ⟨u, hu, hf.stab hS hw hm hb⟩
  | map es =>
    obtain ⟨b, arr, clk, rfl, ha, hz, h1, h2, hr⟩ := h
    refine ⟨b, arr, clk, rfl, by rw [hl b 0 rfl]; exact ha, hz, h1, h2, fun i e p he hp => ?_⟩
    exact ⟨(hr i e p he hp).1.stab hS hw, (hr i e p he hp).2.stab hS hw hm hb⟩

/-! ### Package-level variables that nobody writes -/
def gtab : List (String × List FV) := [
  ("math/bits.deBruijn64tab", [0, 1, 56, 2, 57, 49, 28, 3, 61, 58, 42, 50, 38, 29, 17, 4, 62, 47, 59, 36, 45, 43, 51, 22, 53, 39, 33, 30, 24, 18, 12, 5, 63, 55, 48, 27, 60, 41, 37, 16, 46, 35, 44, 21, 52, 32, 23, 11, 54, 26, 40, 15, 34, 20, 31, 10, 25, 14, 19, 9, 13, 8, 7, 6].map fun n => .int .u8 n)]
/-- What a listed variable holds. -/
def gdata (P : Program) (g : Nat) : Option (List FV) := (P.globals[g]?).bind fun v => (gtab.find? fun e => e.1 == v.name).map Prod.snd
/-- The listed variables hold what they are said to, and nobody writes them. -/
def GOk (P : Program) (w : World) (S : Nat → Prop) : Prop := ∀ (g : Nat) (row : List FV), gdata P g = some row → VRel w S [] (.pointer (some ⟨g, 0, none⟩)) (.fptr row)
theorem GOk.fr {P : Program} {w0 w : World} {S0 S : Nat → Prop} {m0 m : List Loc} (h : GOk P w0 S0) (hf : Fr w0 S0 m0 w S m) : GOk P w S := fun g row hg =>
  (h g row hg).stab hf.up hf.frozen (fun i b o hi => by simp at hi) (fun i b o hi => by simp at hi)
theorem GOk.mono {P : Program} {w : World} {S S' : Nat → Prop} (h : GOk P w S) (hS : ∀ b, S b → S' b) : GOk P w S' := fun g row hg =>
  (h g row hg).stab hS (fun _ _ _ => rfl) (fun i b o hi => by simp at hi) (fun i b o hi => by simp at hi)
end Go.Abs
