/- Values, blocks and worlds of the abstract machine, and what holds between them and the model's. -/
import Derived.Calls
import Derived.Orders
import Derived.KernelRfl
namespace Go.Abs
set_option linter.unusedVariables false
set_option linter.unusedSimpArgs false
/-- One cell of memory that nobody writes any more: slices stand by value. -/
inductive FV where
 | bool (b : Bool)
 | int (k : IntKind) (n : Int)
 | str (s : List UInt8)
 | nils
 | nil (v : Value)
 | lst (es : Nat) (xs : List (List FV))
inductive AV where
 | fv (x : FV)
 | undef
 | any
 | anyb
 | agg (cs : List AV)
 | tuple (vs : List AV)
 | ref (id es off len : Nat)
 | ptr (id es r off : Nat)
 | fptr (row : List FV)
 | gptr (g off : Nat)
 | func (f : FuncId) (cap : List AV)
 | iface (t : TypeId) (v : AV)
 | mp (id : Nat)
inductive Blk where
 | plain (es : Nat) (rows : List (List FV))
 | box (cs : List AV)
 | map (es : List (FV × AV))
 | dead
def Blk.live : Blk → Bool
 | .dead => false
 | _ => true
abbrev Loc := Option (Nat × Nat)
/-- A value without memory that is nil. -/
def isNil : Value → Bool
 | .pointer none | .map none | .chan none | .nilFunc | .nilIface => true
 | _ => false
inductive FRel (w : World) (S : Nat → Prop) : Value → FV → Prop
 | bool (b : Bool) : FRel w S (.bool b) (.bool b)
 | int (k : IntKind) (n : Int) : FRel w S (.int k n) (.int k n)
 | str (s : List UInt8) : FRel w S (.string ⟨s.toArray⟩) (.str s)
 | nils : FRel w S (.slice none 0 0) .nils
 | nil (v : Value) (h : isNil v = true) : FRel w S v (.nil v)
 | lst (a : Option Addr) (n c es : Nat) (xs : List (List FV)) (u : Nat → Nat → Value) (ad : Addr)
   (hn : xs.length = n) (hcp : n ≤ c) (hes : ∀ (i : Nat) (row : List FV),xs[i]? = some row → row.length = es)
   (ha : 0 < n → a = some ad) (hs : 0 < n → S ad.block)
   (hc : ∀ i j,i < n → j < es → w.cell? (ad.add (i * es + j)) = some (u i j))
   (hr : ∀ (i j : Nat) (row : List FV) (x : FV),xs[i]? = some row → row[j]? = some x → FRel w S (u i j) x) :
   FRel w S (.slice a n c) (.lst es xs)
inductive VRel (w : World) (S : Nat → Prop) (m : List Loc) : Value → AV → Prop
 | fv (v : Value) (x : FV) (h : FRel w S v x) : VRel w S m v (.fv x)
 | undef : VRel w S m undef .undef
 | any (v : Value) : VRel w S m v .any
 | anyb (b : Bool) : VRel w S m (.bool b) .anyb
 | agg (vs : Array Value) (cs : List AV) (hn : vs.size = cs.length)
   (h : ∀ (i : Nat) (v : Value) (x : AV),vs[i]? = some v → cs[i]? = some x → VRel w S m v x) : VRel w S m (.agg vs) (.agg cs)
 | tuple (vs : Array Value) (cs : List AV) (hn : vs.size = cs.length)
   (h : ∀ (i : Nat) (v : Value) (x : AV),vs[i]? = some v → cs[i]? = some x → VRel w S m v x) : VRel w S m (.tuple vs) (.tuple cs)
 | ref (id es off len b o c : Nat) (hm : m[id]? = some (some (b,o))) (hl : len ≤ c)
   (hc : ∀ arr T fr,w.heap[b]? = some (.cells arr T fr) → o + (off + c) * es ≤ arr.size) :
   VRel w S m (.slice (some ⟨b,o + off * es,none⟩) len c) (.ref id es off len)
 | refz (id es off : Nat) (a : Option Addr) : VRel w S m (.slice a 0 0) (.ref id es off 0)
 | ptr (id es r off b o : Nat) (hm : m[id]? = some (some (b,o))) : VRel w S m (.pointer (some ⟨b,o + r * es + off,none⟩)) (.ptr id es r off)
 | fptr (ad : Addr) (row : List FV) (u : Nat → Value) (hs : S ad.block)
   (hc : ∀ j,j < row.length → w.cell? (ad.add j) = some (u j)) (hr : ∀ (j : Nat) (x : FV),row[j]? = some x → FRel w S (u j) x) :
   VRel w S m (.pointer (some ad)) (.fptr row)
 | gptr (g off : Nat) : VRel w S m (.pointer (some ⟨g,off,none⟩)) (.gptr g off)
 | func (f : FuncId) (vs : Array Value) (cs : List AV) (hn : vs.size = cs.length)
   (h : ∀ (i : Nat) (v : Value) (x : AV),vs[i]? = some v → cs[i]? = some x → VRel w S m v x) : VRel w S m (.func (.func f) #[] vs) (.func f cs)
 | iface (t : TypeId) (v : Value) (x : AV) (h : VRel w S m v x) : VRel w S m (.iface t v) (.iface t x)
 | mp (id b : Nat) (hm : m[id]? = some (some (b,0))) : VRel w S m (.map (some b)) (.mp id)
def LRel (w : World) (S : Nat → Prop) (m : List Loc) (vs : List Value) (xs : List AV) : Prop :=
 vs.length = xs.length ∧ ∀ (i : Nat) (v : Value) (x : AV),vs[i]? = some v → xs[i]? = some x → VRel w S m v x
/-- A key's or an element's value as a row of cells. -/
def RowRel (w : World) (S : Nat → Prop) (v : Value) (row : List FV) : Prop :=
 v.cells.size = row.length ∧ ∀ (j : Nat) (u : Value) (x : FV),v.cells[j]? = some u → row[j]? = some x → FRel w S u x
def BRel (w : World) (S : Nat → Prop) (m : List Loc) (loc : Loc) : Blk → Prop
 | .dead => True
 | .plain es rows => (∀ (r : Nat) (row : List FV),rows[r]? = some row → row.length = es) ∧
   match loc with
   | none => rows = []
   | some (b,o) => ∃ arr T,w.heap[b]? = some (.cells arr T (0,0)) ∧
     ∀ (r j : Nat) (row : List FV) (x : FV),rows[r]? = some row → row[j]? = some x → ∃ u,arr[o + r * es + j]? = some u ∧ FRel w S u x
 | .box cs => ∃ b o arr T,loc = some (b,o) ∧ w.heap[b]? = some (.cells arr T (0,0)) ∧
   ∀ (j : Nat) (x : AV),cs[j]? = some x → ∃ u,arr[o + j]? = some u ∧ VRel w S m u x
 | .map es => ∃ b arr clk,loc = some (b,0) ∧ w.heap[b]? = some (.map arr clk) ∧ arr.size = es.length ∧
   (∀ (i : Nat) (e : MapEntry),arr[i]? = some e → e.born < clk) ∧
   (∀ (i j : Nat) (e f : MapEntry),i < j → arr[i]? = some e → arr[j]? = some f → e.born < f.born) ∧
   ∀ (i : Nat) (e : MapEntry) (p : FV × AV),arr[i]? = some e → es[i]? = some p → FRel w S e.key p.1 ∧ VRel w S m e.val p.2
structure HRel (w : World) (S : Nat → Prop) (m : List Loc) (h : List Blk) : Prop where
 len : m.length = h.length
 blk : ∀ (i : Nat) (l : Loc) (b : Blk),m[i]? = some l → h[i]? = some b → BRel w S m l b
 inj : ∀ (i j : Nat) (bi bj : Blk) (b o o' : Nat),i ≠ j → h[i]? = some bi → h[j]? = some bj → bi.live = true → bj.live = true →
  m[i]? = some (some (b,o)) → m[j]? = some (some (b,o')) → False
 out : ∀ (i : Nat) (bi : Blk) (b o : Nat),h[i]? = some bi → bi.live = true → m[i]? = some (some (b,o)) → ¬ S b
 low : ∀ b,S b → b < w.heap.size
 lowm : ∀ (i : Nat) (b o : Nat),m[i]? = some (some (b,o)) → b < w.heap.size
/-- Rows stay rows, of the same type and size. -/
def SameShape (w w' : World) (b : Nat) : Prop :=
 ∀ arr' T fr',w'.heap[b]? = some (.cells arr' T fr') → ∃ arr fr,w.heap[b]? = some (.cells arr T fr) ∧ arr.size = arr'.size
/-- Which concrete blocks are laid. -/
def Owned (m : List Loc) (b : Nat) : Prop := ∃ (i o : Nat),m[i]? = some (some (b,o))
/-- Does a contract tell of the world's draws, too? -/
class Kn where
 d : Bool
/-- What became of a world since a call began: `w0`, what was frozen then, where its blocks lay. -/
structure Fr [Kn] (w0 : World) (S0 : Nat → Prop) (m0 : List Loc) (w : World) (S : Nat → Prop) (m : List Loc) : Prop where
 size : w0.heap.size ≤ w.heap.size
 os : w.os = w0.os
 tape : w.tape = w0.tape
 output : w.output = w0.output
 same : ∀ b,b < w0.heap.size → ¬ Owned m0 b → w.heap[b]? = w0.heap[b]?
 frozen : ∀ b,S0 b → b < w0.heap.size → w.heap[b]? = w0.heap[b]?
 shape : ∀ b,b < w0.heap.size → SameShape w0 w b
 up : ∀ b,S0 b → S b
 down : ∀ b,S b → S0 b ∨ Owned m0 b ∨ w0.heap.size ≤ b
 locs : ∀ (i b o : Nat),m[i]? = some (some (b,o)) → Owned m0 b ∨ w0.heap.size ≤ b
 pre : ∀ (i : Nat),i < m0.length → m[i]? = m0[i]?
 drawn : Kn.d = true → w0.drawn ≤ w.drawn
/-! ### What stays -/
theorem cell?_of_same {w w' : World} {a : Addr} (h : w'.heap[a.block]? = w.heap[a.block]?) : w'.cell? a = w.cell? a := by
 simp only [World.cell?,h]
theorem block_of_cell? {w : World} {a : Addr} {v : Value} (h : w.cell? a = some v) : a.block < w.heap.size := by
 rcases Nat.lt_or_ge a.block w.heap.size with hl | hl
 ·exact hl
 ·simp only [World.cell?,Array.getElem?_eq_none hl] at h; cases h
theorem add_block (a : Addr) (n : Nat) : (a.add n).block = a.block := by unfold Addr.add; split <;> rfl
theorem FRel.stab {w w' : World} {S S' : Nat → Prop} (hS : ∀ b,S b → S' b) (hw : ∀ b,S b → b < w.heap.size → w'.heap[b]? = w.heap[b]?) {v : Value} {x : FV}
  (h : FRel w S v x) : FRel w' S' v x := by
 induction h with
 | bool b => exact .bool b
 | int k n => exact .int k n
 | str s => exact .str s
 | nils => exact .nils
 | nil v h => exact .nil v h
 | lst a n c es xs u ad hn hcp hes ha hs hc hr ih =>
  refine .lst a n c es xs u ad hn hcp hes ha (fun h => hS _ (hs h)) (fun i j hi hj => ?_) ih
  have h1 := hc i j hi hj
  rw [cell?_of_same (w := w) (w' := w') ?_]
  ·exact h1
  ·have hb := block_of_cell? h1
   rw [add_block] at hb ⊢
   exact hw _ (hs (by omega)) hb
/-- m' has all that m has. -/
def Sub (m m' : List Loc) : Prop := ∀ (i b o : Nat),m[i]? = some (some (b,o)) → m'[i]? = some (some (b,o))
theorem Sub.refl (m : List Loc) : Sub m m := fun _ _ _ h => h
theorem Sub.append (m k : List Loc) : Sub m (m ++ k) := fun i b o h => by
 rw [List.getElem?_append_left]
 ·exact h
 ·exact (List.getElem?_eq_some_iff.1 h).1
theorem VRel.stab {w w' : World} {S S' : Nat → Prop} {m m' : List Loc} (hS : ∀ b,S b → S' b) (hw : ∀ b,S b → b < w.heap.size → w'.heap[b]? = w.heap[b]?)
  (hm : Sub m m') (hb : ∀ (i b o : Nat),m[i]? = some (some (b,o)) → SameShape w w' b) {v : Value} {x : AV} (h : VRel w S m v x) : VRel w' S' m' v x := by
 induction h with
 | fv v x h => exact .fv v x (h.stab hS hw)
 | undef => exact .undef
 | any v => exact .any v
 | anyb b => exact .anyb b
 | agg vs cs hn h ih => exact .agg vs cs hn ih
 | tuple vs cs hn h ih => exact .tuple vs cs hn ih
 | ref id es off len b o c hmi hl hc =>
  refine .ref id es off len b o c (hm _ _ _ hmi) hl (fun arr T fr ha => ?_)
  obtain ⟨arr0,fr0,h0,hsz⟩ := hb _ _ _ hmi arr T fr ha
  rw [← hsz]; exact hc _ _ _ h0
 | refz id es off a => exact .refz id es off a
 | ptr id es r off b o hmi => exact .ptr id es r off b o (hm _ _ _ hmi)
 | fptr ad row u hs hc hr =>
  refine .fptr ad row u (hS _ hs) (fun j hj => ?_) (fun j x hx => (hr j x hx).stab hS hw)
  have h1 := hc j hj
  rw [cell?_of_same (w := w) (w' := w') ?_]
  ·exact h1
  ·have hb := block_of_cell? h1
   rw [add_block] at hb ⊢
   exact hw _ hs hb
 | gptr g off => exact .gptr g off
 | func f vs cs hn h ih => exact .func f vs cs hn ih
 | iface t v x h ih => exact .iface t v x ih
 | mp id b hmi => exact .mp id b (hm _ _ _ hmi)
theorem LRel.stab {w w' : World} {S S' : Nat → Prop} {m m' : List Loc} (hS : ∀ b,S b → S' b) (hw : ∀ b,S b → b < w.heap.size → w'.heap[b]? = w.heap[b]?)
  (hm : Sub m m') (hb : ∀ (i b o : Nat),m[i]? = some (some (b,o)) → SameShape w w' b) {vs : List Value} {xs : List AV} (h : LRel w S m vs xs) : LRel w' S' m' vs xs :=
 ⟨h.1,fun i v x hv hx => (h.2 i v x hv hx).stab hS hw hm hb⟩
theorem RowRel.stab {w w' : World} {S S' : Nat → Prop} (hS : ∀ b,S b → S' b) (hw : ∀ b,S b → b < w.heap.size → w'.heap[b]? = w.heap[b]?) {v : Value} {row : List FV}
  (h : RowRel w S v row) : RowRel w' S' v row := ⟨h.1,fun j u x hu hx => (h.2 j u x hu hx).stab hS hw⟩
theorem BRel.stab {w w' : World} {S S' : Nat → Prop} {m m' : List Loc} (hS : ∀ b,S b → S' b) (hw : ∀ b,S b → b < w.heap.size → w'.heap[b]? = w.heap[b]?)
  (hm : Sub m m') (hb : ∀ (i b o : Nat),m[i]? = some (some (b,o)) → SameShape w w' b) {l : Loc} (hl : ∀ b o,l = some (b,o) → w'.heap[b]? = w.heap[b]?) {k : Blk}
  (h : BRel w S m l k) : BRel w' S' m' l k := by
 cases k with
 | dead => trivial
 | plain es rows =>
  refine ⟨h.1,?_⟩
  have h2 := h.2
  cases l with
  | none => exact h2
  | some p =>
   obtain ⟨b,o⟩ := p
   obtain ⟨arr,T,ha,hr⟩ := h2
   refine ⟨arr,T,by rw [hl b o rfl]; exact ha,fun r j row x hrow hx => ?_⟩
   obtain ⟨u,hu,hf⟩ := hr r j row x hrow hx
   exact ⟨u,hu,hf.stab hS hw⟩
 | box cs =>
  obtain ⟨b,o,arr,T,rfl,ha,hr⟩ := h
  refine ⟨b,o,arr,T,rfl,by rw [hl b o rfl]; exact ha,fun j x hx => ?_⟩
  obtain ⟨u,hu,hf⟩ := hr j x hx
  exact ⟨u,hu,hf.stab hS hw hm hb⟩
 | map es =>
  obtain ⟨b,arr,clk,rfl,ha,hz,h1,h2,hr⟩ := h
  refine ⟨b,arr,clk,rfl,by rw [hl b 0 rfl]; exact ha,hz,h1,h2,fun i e p he hp => ?_⟩
  exact ⟨(hr i e p he hp).1.stab hS hw,(hr i e p he hp).2.stab hS hw hm hb⟩
/-! ### Package-level variables that nobody writes -/
def gtab : List (String × List FV) := [
 ("math/bits.deBruijn64tab", [0, 1, 56, 2, 57, 49, 28, 3, 61, 58, 42, 50, 38, 29, 17, 4, 62, 47, 59, 36, 45, 43, 51, 22, 53, 39, 33, 30, 24, 18, 12, 5, 63, 55, 48, 27, 60, 41, 37, 16, 46, 35, 44, 21, 52, 32, 23, 11, 54, 26, 40, 15, 34, 20, 31, 10, 25, 14, 19, 9, 13, 8, 7, 6].map fun n => .int .u8 n)]
/-- What a listed variable holds. -/
def gdata (P : Program) (g : Nat) : Option (List FV) := (P.globals[g]?).bind fun v => (gtab.find? fun e => e.1 == v.name).map Prod.snd
/-- The listed variables hold what they are said to, and nobody writes them. -/
def GOk (P : Program) (w : World) (S : Nat → Prop) : Prop := ∀ (g : Nat) (row : List FV),gdata P g = some row → VRel w S [] (.pointer (some ⟨g,0,none⟩)) (.fptr row)
theorem GOk.fr [Kn] {P : Program} {w0 w : World} {S0 S : Nat → Prop} {m0 m : List Loc} (h : GOk P w0 S0) (hf : Fr w0 S0 m0 w S m) : GOk P w S := fun g row hg =>
 (h g row hg).stab hf.up hf.frozen (fun i b o hi => by simp at hi) (fun i b o hi => by simp at hi)
theorem GOk.mono {P : Program} {w : World} {S S' : Nat → Prop} (h : GOk P w S) (hS : ∀ b,S b → S' b) : GOk P w S' := fun g row hg =>
 (h g row hg).stab hS (fun _ _ _ => rfl) (fun i b o hi => by simp at hi) (fun i b o hi => by simp at hi)
end Go.Abs
/- The abstract machine: operations on abstract values and blocks; the weakest precondition of code. -/
namespace Go.Abs
set_option linter.unusedVariables false
set_option linter.unusedSimpArgs false
structure St where
 t : List AV
 h : List Blk
 d : List (FuncId × List AV × List AV)
def St.put (st : St) (dst : Option Tmp) (v : AV) : St :=
 match dst with
 | some d => { st with t := st.t.set d v }
 | none => st
/-! ### Constants and types -/
def ofCell : Value → Option FV
 | .bool b => some (.bool b)
 | .int k n => some (.int k n)
 | .string s => some (.str s.data.toList)
 | .slice none 0 0 => some .nils
 | .pointer none => some (.nil (.pointer none))
 | .map none => some (.nil (.map none))
 | .nilFunc => some (.nil .nilFunc)
 | .nilIface => some (.nil .nilIface)
 | _ => none
def ofCells : List Value → Option (List FV)
 | [] => some []
 | v :: l => match ofCell v,ofCells l with
  | some x,some xs => some (x :: xs)
  | _,_ => none
def ofValue : Value → Option AV
 | .agg cs => (ofCells cs.toList).map fun l => .agg (l.map .fv)
 | .tuple cs => match cs.toList with
  | [] => some .undef
  | _ => none
 | v => (ofCell v).map .fv
structure TI where
 desc : TypeDesc
 size : Nat
 bytes : Nat
 zero : Option (List FV)
def tiOf (P : Program) (T : TypeId) : Option TI :=
 match P.info? T,P.underlying T with
 | some i,some d => some { desc := d,size := i.size,bytes := i.bytes,zero := i.zero.bind fun z => ofCells z.cells.toList }
 | _,_ => none
def TI.isAgg (i : TI) : Bool := match i.desc with
 | .struct _ | .array _ _ => true
 | _ => false
def ev (t : List AV) : Operand → Option AV
 | .tmp i => some (t.getD i .any)
 | .const v => ofValue v
 | .func f => some (.func f [])
 | .global g => some (.gptr g 0)
def evs (t : List AV) : List Operand → Option (List AV)
 | [] => some []
 | x :: l => match ev t x,evs t l with
  | some a,some as => some (a :: as)
  | _,_ => none
def cellsA : AV → Option (List AV)
 | .agg cs => some cs
 | .any => none
 | .undef => none
 | .tuple _ => none
 | v => some [v]
def toFs : List AV → Option (List FV)
 | [] => some []
 | .fv x :: l => (toFs l).map (x :: ·)
 | _ => none
/-- The cells of a value, all frozen. -/
def rowOf (v : AV) : Option (List FV) := (cellsA v).bind toFs
/-! ### Pure operations -/
/-- Is a value nil, of a type of that kind? -/
def nilS : AV → Option Bool
 | .fv .nils => some true
 | .fv (.lst _ (_ :: _)) => some false
 | .ref _ _ _ (_ + 1) => some false
 | _ => none
def nilP : AV → Option Bool
 | .fv (.nil (.pointer none)) => some true
 | .ptr .. => some false
 | .fptr _ => some false
 | _ => none
def nilM : AV → Option Bool
 | .fv (.nil (.map none)) => some true
 | .mp _ => some false
 | _ => none
def nilF : AV → Option Bool
 | .fv (.nil .nilFunc) => some true
 | .func .. => some false
 | _ => none
def nilI : AV → Option Bool
 | .fv (.nil .nilIface) => some true
 | .iface .. => some false
 | _ => none
def intBits (op : BinOp) (k : IntKind) (x y : Int) : Option Int :=
 let a := BitVec.ofInt k.bits x
 let b := BitVec.ofInt k.bits y
 match op with
 | .and => some (k.wrap ↑(a &&& b).toNat)
 | .or => some (k.wrap ↑(a ||| b).toNat)
 | .xor => some (k.wrap ↑(a ^^^ b).toNat)
 | .andNot => some (k.wrap ↑(a &&& ~~~b).toNat)
 | _ => none
def intA (op : BinOp) (k : IntKind) (a b : Int) : Option FV :=
 match op with
 | .add => some (.int k (k.wrap (a + b)))
 | .sub => some (.int k (k.wrap (a - b)))
 | .mul => some (.int k (k.wrap (a * b)))
 | .quo => if b = 0 then none else some (.int k (k.wrap (a.tdiv b)))
 | .rem => if b = 0 then none else some (.int k (a.tmod b))
 | .and => (intBits .and k a b).map (.int k)
 | .or => (intBits .or k a b).map (.int k)
 | .xor => (intBits .xor k a b).map (.int k)
 | .andNot => (intBits .andNot k a b).map (.int k)
 | .eql => some (.bool (a == b))
 | .neq => some (.bool (a != b))
 | .lss => some (.bool (decide (a < b)))
 | .leq => some (.bool (decide (a ≤ b)))
 | .gtr => some (.bool (decide (a > b)))
 | .geq => some (.bool (decide (a ≥ b)))
 | _ => none
def shiftA (op : BinOp) (k : IntKind) (a b : Int) : Option FV :=
 if b < 0 then none else match op with
  | .shl => some (.int k (k.wrap (a * 2 ^ (min b.toNat k.bits))))
  | .shr => some (.int k (a.fdiv (2 ^ (min b.toNat k.bits))))
  | _ => none
def strA (op : BinOp) (a b : List UInt8) : Option FV :=
 match op with
 | .add => if (a.length + b.length : Nat) ≤ 9223372036854775807 then some (.str (a ++ b)) else none
 | .eql => some (.bool (a == b))
 | .neq => some (.bool !(a == b))
 | .lss => some (.bool (Op.bytesLess a b))
 | .leq => some (.bool (Op.bytesLess a b || a == b))
 | .gtr => some (.bool !(Op.bytesLess a b || a == b))
 | .geq => some (.bool !(Op.bytesLess a b))
 | _ => none
def isShift : BinOp → Bool
 | .shl | .shr => true
 | _ => false
def negB (op : BinOp) (b : Bool) : Option AV := match op with
 | .eql => some (.fv (.bool b))
 | .neq => some (.fv (.bool !b))
 | _ => none
/-! Types whose values are made of scalars alone -/
inductive CT where
 | bool
 | int (k : IntKind)
 | str
def ctFields (rec : TypeId → Option (List CT)) : Nat → List Field → Option (List CT)
 | _,[] => some []
 | o, f :: l => if f.name = "_" then none else if f.offset = o then match rec f.type with
   | some c => (ctFields rec (o + c.length) l).map (c ++ ·)
   | none => none
  else none
def flatN {α : Type} : Nat → List α → List α
 | 0,_ => []
 | n + 1,l => l ++ flatN n l
/-- A type's cells, if all are scalars. -/
def cts (P : Program) : Nat → TypeId → Option (List CT)
 | 0,_ => none
 | n + 1,T => match tiOf P T with
  | some { desc := .bool,size := 1,.. } => some [.bool]
  | some { desc := .int k,size := 1,.. } => some [.int k]
  | some { desc := .string,size := 1,.. } => some [.str]
  | some { desc := .array len e,size := sz,.. } => match cts P n e with
   | some c => if len * c.length = sz then some (flatN len c) else none
   | none => none
  | some { desc := .struct fs,size := sz,.. } => if P.stoodInHeld T then none else match ctFields (cts P n) 0 fs.toList with
   | some c => if c.length = sz then some c else none
   | none => none
  | _ => none
def confC : CT → FV → Bool
 | .bool,.bool _ => true
 | .int k,.int k' _ => k == k'
 | .str,.str _ => true
 | _,_ => false
def conf : List CT → List FV → Bool
 | [],[] => true
 | c :: cs,x :: xs => confC c x && conf cs xs
 | _,_ => false
/-- `==` at a type made of scalars is asked of the cells alone. -/
def aggTy (P : Program) (T : TypeId) : Option (List CT) :=
 if P.eqGuardType P.depth T then none else cts P 20 T
def eqC : FV → FV → Bool
 | .bool a,.bool b => a == b
 | .int _ a,.int _ b => a == b
 | .str a,.str b => a == b
 | _,_ => false
def eqR : List FV → List FV → Bool
 | x :: xs,y :: ys => eqC x y && eqR xs ys
 | _,_ => true
/-- `==` of two values, neither of which is a number or a text; one: is one of the operands a constant? -/
def eqA (P : Program) (T : TypeId) (one : Bool) (a b : AV) : Option Bool := match tiOf P T with
 | none => none
 | some i => match i.desc,a,b with
  | .bool,.fv (.bool x),.fv (.bool y) => some (x == y)
  | .slice _,x,.fv .nils => nilS x
  | .pointer _,x,.fv (.nil (.pointer none)) => nilP x
  | .map _ _,x,.fv (.nil (.map none)) => nilM x
  | .func _ _ _,x,.fv (.nil .nilFunc) => nilF x
  | .interface _,x,.fv (.nil .nilIface) => if one then nilI x else none
  | _,.agg xs,.agg ys => match aggTy P T,toFs xs,toFs ys with
   | some c,some r,some s => if i.isAgg && conf c r && conf c s then some (eqR r s) else none
   | _,_,_ => none
  | _,_,_ => none
/-- A slice of which nothing says whether it is nil, held against nil. -/
def unk (P : Program) (T : TypeId) (x y : AV) : Bool := match tiOf P T,y with
 | some { desc := .slice _,.. },.fv .nils => match x with
  | .fv (.lst _ []) => true
  | .ref .. => true
  | _ => false
 | _,_ => false
def isEq : BinOp → Bool
 | .eql | .neq => true
 | _ => false
def binA (P : Program) (op : BinOp) (T : TypeId) (one : Bool) (a b : AV) : Option AV := match a,b with
 | .fv (.int k x),.fv (.int k' y) => if isShift op then (shiftA op k x y).map .fv else if k = k' then (intA op k x y).map .fv else none
 | .fv (.str x),.fv (.str y) => (strA op x y).map .fv
 | x,y => match eqA P T one x y with
  | some b => negB op b
  | none => if unk P T x y && isEq op then some .anyb else none
def isC : Operand → Bool
 | .const _ => true
 | _ => false
def unA (op : UnOp) (x : AV) : Option AV := match op,x with
 | .neg,.fv (.int k n) => some (.fv (.int k (k.wrap (0 - n))))
 | .xor,.fv (.int k n) => (intBits .xor k (if k.signed then -1 else k.max) n).map fun r => .fv (.int k r)
 | .not,.fv (.bool b) => some (.fv (.bool !b))
 | _,_ => none
def solid : AV → Bool
 | .ptr .. | .fptr _ | .func .. | .iface .. | .mp _ | .ref .. => true
 | .fv (.lst ..) => true
 | _ => false
def asI : AV → Option Int
 | .fv (.int _ n) => some n
 | _ => none
def asN (v : AV) : Option Nat := (asI v).bind fun n => if 0 ≤ n then some n.toNat else none
/-- A slice expression's bounds. -/
def bnd (t : List AV) (d : Nat) : Option Operand → Option Nat
 | none => some d
 | some x => (ev t x).bind asN
def sliceA (x : AV) (lo hi : Nat) : Option AV := match x with
 | .fv (.str s) => if lo ≤ hi ∧ hi ≤ s.length then some (.fv (.str ((s.take hi).drop lo))) else none
 | .fv (.lst es xs) => if lo ≤ hi ∧ hi ≤ xs.length then some (.fv (.lst es ((xs.take hi).drop lo))) else none
 | .fv .nils => if lo = 0 ∧ hi = 0 then some (.fv .nils) else none
 | .ref id es off len => if lo ≤ hi ∧ hi ≤ len then some (.ref id es (off + lo) (hi - lo)) else none
 | _ => none
def esOk (es : Nat) : AV → Bool
 | .ref _ es' _ _ => es' == es
 | .fv (.lst es' _) => es' == es
 | .fv .nils => true
 | _ => false
def lenA : AV → Option Nat
 | .fv (.str s) => some s.length
 | .fv (.lst _ xs) => some xs.length
 | .fv .nils => some 0
 | .ref _ _ _ len => some len
 | _ => none
def fieldOf (P : Program) (S : TypeId) (f : Nat) : Option (Field × TI) := match tiOf P S with
 | some { desc := .struct fs,.. } => match fs[f]? with
  | some fd => (tiOf P fd.type).map fun i => (fd,i)
  | none => none
 | _ => none
def partA (i : TI) (cs : List AV) (off : Nat) : Option AV :=
 if i.isAgg then (if off + i.size ≤ cs.length then some (.agg ((cs.drop off).take i.size)) else none) else cs[off]?
def addrA (v : AV) (n : Nat) : Option AV := match v with
 | .ptr id es r off => some (.ptr id es r (off + n))
 | .fptr row => some (.fptr (row.drop n))
 | .gptr g off => some (.gptr g (off + n))
 | _ => none
def idxAddrA (P : Program) (T : TypeId) (x : AV) (i : Int) : Option AV := match tiOf P T with
 | some { desc := .slice e,.. } => match tiOf P e with
  | some ie => match x with
   | .fv (.lst es xs) => if ie.size = es ∧ 0 ≤ i then (xs[i.toNat]?).map .fptr else none
   | .ref id es off len => if ie.size = es ∧ 0 ≤ i ∧ i < len then some (.ptr id es (off + i.toNat) 0) else none
   | _ => none
  | none => none
 | some { desc := .array n e,.. } => match tiOf P e with
  | some ie => if 0 ≤ i ∧ i < n then addrA x (i.toNat * ie.size) else none
  | none => none
 | _ => none
def idxA (P : Program) (T : TypeId) (x : AV) (i : Int) : Option AV := match tiOf P T with
 | some { desc := .string,.. } => match x with
  | .fv (.str s) => if 0 ≤ i then (s[i.toNat]?).map fun b => .fv (.int .u8 b.toNat) else none
  | _ => none
 | some { desc := .array n e,.. } => match tiOf P e,x with
  | some ie,.agg cs => if 0 ≤ i ∧ i < n then partA ie cs (i.toNat * ie.size) else none
  | _,_ => none
 | _ => none
def convA (P : Program) (src dst : TypeId) (x : AV) : Option AV := match tiOf P src,tiOf P dst,x with
 | some _,some { desc := .int k,.. },.fv (.int _ n) => some (.fv (.int k (k.wrap n)))
 | some { desc := .string,.. },some { desc := .string,.. },.fv (.str s) => some (.fv (.str s))
 | some { desc := .int _,.. },some { desc := .string,.. },.fv (.int _ n) => some (.fv (.str (Utf8.encode n).data.toList))
 | _,_,_ => none
def pureA (P : Program) (t : List AV) (o : Oper) : Option AV := match o.op with
 | .move x => ev t x
 | .assign x => ev t x
 | .nilCheck x => (ev t x).bind fun v => if solid v then some v else none
 | .binOp op T x y _ => (ev t x).bind fun a => (ev t y).bind fun b => binA P op T (isC x || isC y) a b
 | .unOp op _ x => (ev t x).bind (unA op)
 | .convert s d x => (ev t x).bind (convA P s d)
 | .makeInterface T x => match tiOf P T with
  | some { desc := .interface _,.. } => none
  | some _ => (ev t x).map (.iface T)
  | none => none
 | .makeFunc (.func f) first caps => if first.size = 0 then (evs t caps.toList).map (.func f) else none
 | .slice T x lo hi none => match tiOf P T with
  | some { desc := .slice e,.. } => match tiOf P e with
   | some ie => (ev t x).bind fun v => if esOk ie.size v then (lenA v).bind fun n => (bnd t 0 lo).bind fun l => (bnd t n hi).bind fun h => sliceA v l h else none
   | none => none
  | some { desc := .string,.. } => (ev t x).bind fun v => match v with
   | .fv (.str s) => (bnd t 0 lo).bind fun l => (bnd t s.length hi).bind fun h => sliceA (.fv (.str s)) l h
   | _ => none
  | _ => none
 | .fieldAddr S x f => (fieldOf P S f).bind fun (fd,i) => if i.size = 0 then none else (ev t x).bind fun v => addrA v fd.offset
 | .field S x f => (fieldOf P S f).bind fun (fd,i) => (ev t x).bind fun v => match v with
  | .agg cs => partA i cs fd.offset
  | _ => none
 | .indexAddr T x i => (ev t x).bind fun v => (ev t i).bind fun j => (asI j).bind fun n => idxAddrA P T v n
 | .index T x i => (ev t x).bind fun v => (ev t i).bind fun j => (asI j).bind fun n => idxA P T v n
 | .extract x i => (ev t x).bind fun v => match v with
  | .tuple vs => vs[i]?
  | _ => none
 | .call { callee := .builtin .len,args := as,argTypes := ts } => match evs t as.toList,ts.toList with
  | some [v],[T] => match tiOf P T with
   | some { desc := .slice _,.. } => match v with
    | .fv (.str _) => none
    | v => (lenA v).map fun (n : Nat) => .fv (.int .i64 (n : Int))
   | some { desc := .string,.. } => match v with
    | .fv (.str s) => some (.fv (.int .i64 s.length))
    | _ => none
   | _ => none
  | _,_ => none
 | .call { callee := .builtin .cap,args := as,argTypes := ts } => match evs t as.toList,ts.toList with
  | some [.fv .nils],[T] => match tiOf P T with
   | some { desc := .slice _,.. } => some (.fv (.int .i64 0))
   | _ => none
  | _,_ => none
 | .call { callee := .builtin .min,args := as,.. } => match evs t as.toList with
  | some [.fv (.int k a),.fv (.int k' b)] => if k = k' then some (.fv (.int k (if b < a then b else a))) else none
  | _ => none
 | .call { callee := .builtin .max,args := as,.. } => match evs t as.toList with
  | some [.fv (.int k a),.fv (.int k' b)] => if k = k' then some (.fv (.int k (if a < b then b else a))) else none
  | _ => none
 | _ => none
/-! ### Operations that read blocks -/
def ldA (P : Program) (i : TI) (h : List Blk) (p : AV) : Option AV := match p with
 | .ptr id es r off => match h[id]? with
  | some (.plain es' rows) => if es' = es then (rows[r]?).bind fun row => partA i (row.map .fv) off else none
  | some (.box cs) => partA i cs (r * es + off)
  | _ => none
 | .fptr row => partA i (row.map .fv) 0
 | .gptr g off => (gdata P g).bind fun row => partA i (row.map .fv) off
 | _ => none
/-- Which block a read is of. -/
def idOf : AV → Option Nat
 | .ptr id _ _ _ => some id
 | .mp id => some id
 | _ => none
def readA (P : Program) (t : List AV) (h : List Blk) (o : Oper) : Option (AV × Option Nat) := match o.op with
 | .load T x => (tiOf P T).bind fun i => (ev t x).bind fun p => (ldA P i h p).map fun v => (v,idOf p)
 | _ => none
/-! ### Operations that make or write blocks -/
def splice {α : Type} (l : List α) (off : Nat) (xs : List α) : Option (List α) :=
 if off + xs.length ≤ l.length then some (l.take off ++ xs ++ l.drop (off + xs.length)) else none
/-- A value that one cell holds. -/
def okCell : AV → Bool
 | .any | .undef | .agg _ | .tuple _ => false
 | _ => true
/-- Rows as cells. -/
def thaw (rows : List (List FV)) : List AV := rows.flatten.map .fv
def stBx (i : TI) (h : List Blk) (id es r off : Nat) (cs : List AV) (v : AV) : Option (List Blk × Nat) :=
 (cellsA v).bind fun vs => if vs.length = i.size ∧ 0 < i.size ∧ vs.all okCell then (splice cs (r * es + off) vs).map fun cs' => (h.set id (.box cs'),id) else none
def stA (i : TI) (h : List Blk) (p v : AV) : Option (List Blk × Nat) := match p with
 | .ptr id es r off => match h[id]? with
  | some (.plain es' rows) => if es' = es then match rowOf v with
    | some fs => if fs.length = i.size ∧ 0 < i.size then (rows[r]?).bind fun row => (splice row off fs).map fun row' => (h.set id (.plain es (rows.set r row')),id) else none
    | none => stBx i h id es r off (thaw rows) v
   else none
  | some (.box cs) => stBx i h id es r off cs v
  | _ => none
 | _ => none
def fillA (place : Nat → Option (Nat × Nat)) (cells : List AV) : List (Nat × AV) → Option (List AV)
 | [] => some cells
 | (i,v) :: rest => match place i,cellsA v with
  | some (off,size),some vs => if vs.length = size then (splice cells off vs).bind fun cs => fillA place cs rest else none
  | _,_ => none
def evParts (t : List AV) : List (Nat × Operand) → Option (List (Nat × AV))
 | [] => some []
 | (i,x) :: l => match ev t x,evParts t l with
  | some a,some as => some ((i,a) :: as)
  | _,_ => none
def chunk {α : Type} (es : Nat) : Nat → List α → List (List α)
 | 0,_ => []
 | n + 1,l => l.take es :: chunk es n (l.drop es)
def placesOf (P : Program) : List Field → Option (List (Nat × Nat))
 | [] => some []
 | f :: l => match tiOf P f.type,placesOf P l with
  | some i,some ps => some ((f.offset,i.size) :: ps)
  | _,_ => none
def buildA (P : Program) (T : TypeId) (parts : List (Nat × AV)) : Option AV := match tiOf P T with
 | some { desc := .struct fs,zero := some z,.. } => (placesOf P fs.toList).bind fun ps => (fillA (fun i => ps[i]?) (z.map .fv) parts).map .agg
 | some { desc := .array _ e,zero := some z,.. } => (tiOf P e).bind fun ie => (fillA (fun i => some (i * ie.size,ie.size)) (z.map .fv) parts).map .agg
 | _ => none
/-- The rows that are put behind a slice. -/
def srcRows (iu : TI) (es : Nat) (h : List Blk) (x : AV) : Option (List (List FV)) := match iu.desc,x with
 | .slice _,.fv (.lst es' ys) => if es' = es then some ys else none
 | .slice _,.fv .nils => some []
 | .slice _,.ref id es' off len => match h[id]? with
  | some (.plain es'' rows) => if es' = es ∧ es'' = es ∧ off + len ≤ rows.length then some ((rows.drop off).take len) else none
  | _ => none
 | .string,.fv (.str s) => if es = 1 then some (s.map fun b => [.int .u8 b.toNat]) else none
 | _,_ => none
def appendA (ie : TI) (h : List Blk) (s : AV) (ys : List (List FV)) : Option (AV × List Blk × List Nat) := match s with
 | .fv .nils => if ys.length * ie.bytes ≤ 140737488355328 then some (.ref h.length ie.size 0 ys.length,h ++ [.plain ie.size ys],[]) else none
 | .ref id es off len => match h[id]? with
  | some (.plain es' rows) => if es = ie.size ∧ es' = es ∧ off + len ≤ rows.length ∧ (len + ys.length) * ie.bytes ≤ 140737488355328 then
    some (.ref h.length es 0 (len + ys.length),h.set id .dead ++ [.plain es ((rows.drop off).take len ++ ys)],[id]) else none
  | _ => none
 | _ => none
/-- Does a slice lie in cells of any kind? -/
def boxyB : Option Blk → Bool
 | some (.box _) => true
 | _ => false
def boxy (h : List Blk) : AV → Bool
 | .ref id _ _ _ => boxyB h[id]?
 | _ => false
/-- The cells of a slice; those that are put behind one. -/
def refCells (h : List Blk) (id es off len : Nat) : Option (List AV) := match h[id]? with
 | some (.plain es' rows) => if es' = es ∧ off + len ≤ rows.length then some (thaw ((rows.drop off).take len)) else none
 | some (.box cs) => if (off + len) * es ≤ cs.length then some ((cs.drop (off * es)).take (len * es)) else none
 | _ => none
def srcCells (iu : TI) (es : Nat) (h : List Blk) (x : AV) : Option (List AV) := match iu.desc,x with
 | .slice _,.ref id es' off len => if es' = es then (if len = 0 then some [] else (refCells h id es off len).bind fun cs => if cs.all okCell then some cs else none) else none
 | _,x => (srcRows iu es h x).map thaw
def appendB (ie : TI) (h : List Blk) (s : AV) (ys : List AV) : Option (AV × List Blk × List Nat) :=
 let k := ys.length / ie.size
 if ys.length = 0 then match s with
 | .fv .nils => some (s,h,[])
 | .ref .. => some (s,h,[])
 | _ => none
 else if k * ie.size = ys.length then match s with
 | .fv .nils => if k * ie.bytes ≤ 140737488355328 then some (.ref h.length ie.size 0 k,h ++ [.box ys],[]) else none
 | .ref id es off len => if es = ie.size ∧ (len + k) * ie.bytes ≤ 140737488355328 then
   (refCells h id es off len).bind fun xs => if xs.all okCell then some (.ref h.length es 0 (len + k),h.set id .dead ++ [.box (xs ++ ys)],[id]) else none else none
 | _ => none
 else none
def clearA (ie : TI) (z : List FV) (h : List Blk) : AV → Option (AV × List Blk × List Nat)
 | .ref id es off len => match h[id]? with
  | some (.plain es' rows) => if es = ie.size ∧ es' = es then (splice rows off (List.replicate len z)).map fun rows' => (.tuple [],h.set id (.plain es rows'),[id]) else none
  | _ => none
 | .fv .nils => some (.tuple [],h,[])
 | _ => none
/-- So many rows of a slice. -/
def cutA (k : Nat) : AV → Option AV
 | .fv (.lst es xs) => some (.fv (.lst es (xs.take k)))
 | .fv .nils => some (.fv .nils)
 | .ref id es off _ => some (.ref id es off k)
 | _ => none
def copyA (ie iu : TI) (h : List Blk) (d x : AV) : Option (AV × List Blk × List Nat) := match d with
 | .ref id es off len => match h[id]? with
  | some (.plain es' rows) => if es = ie.size ∧ es' = ie.size then (lenA x).bind fun k => (cutA (min k len) x).bind fun x' => (srcRows iu ie.size h x').bind fun ys =>
    (splice rows off ys).map fun rows' => (.fv (.int .i64 (min k len : Nat)),h.set id (.plain ie.size rows'),[id]) else none
  | _ => none
 | _ => none
/-- Rows of bytes as a text. -/
def rowsBytes : List (List FV) → Option (List UInt8)
 | [] => some []
 | [.int .u8 n] :: l => (rowsBytes l).map (UInt8.ofNat n.toNat :: ·)
 | _ => none
/-- Zeros put behind nothing: append(nil, make([]T, n)...) -/
def zerosA (iu : TI) (x : AV) : Option Nat := match iu.desc,x with
 | .int _,.fv (.int _ n) => if 0 < n then some n.toNat else none
 | _,_ => none
def zeroA (ie : TI) (z : List FV) (h : List Blk) (s : AV) (n : Nat) : Option (AV × List Blk × List Nat) := match s with
 | .fv .nils => if n * ie.bytes ≤ 140737488355328 then some (.ref h.length ie.size 0 n,h ++ [.plain ie.size (List.replicate n z)],[]) else none
 | _ => none
/-- One cell of a block of cells. -/
def cellA (h : List Blk) : AV → Option AV
 | .ptr id es r off => match h[id]? with
  | some (.box cs) => cs[r * es + off]?
  | _ => none
 | _ => none
/-! ### Maps -/
/-- Is that a key of the type, and one that is told by its bits? -/
def keyD : TypeDesc → FV → Bool
 | .bool,.bool _ => true
 | .int k,.int k' _ => k == k'
 | .string,.str _ => true
 | _,_ => false
def sameK : FV → FV → Option Bool
 | .bool a,.bool b => some (a == b)
 | .int k a,.int k' b => if k = k' then some (a == b) else none
 | .str a,.str b => some (a == b)
 | _,_ => none
def findA (k : FV) : List (FV × AV) → Nat → Option (Option (Nat × AV))
 | [],_ => some none
 | (k',v) :: l,i => match sameK k k' with
  | some true => some (some (i,v))
  | some false => findA k l (i + 1)
  | none => none
def mapOf (h : List Blk) : AV → Option (List (FV × AV))
 | .mp id => match h[id]? with
  | some (.map es) => some es
  | _ => none
 | .fv (.nil (.map none)) => some []
 | _ => none
def putE (k : FV) (v : AV) (es : List (FV × AV)) : Option (Nat × AV) → List (FV × AV)
 | some (j,_) => es.set j (k,v)
 | none => es ++ [(k,v)]
/-- A type's zero value. -/
def zeroV (P : Program) (T : TypeId) : Option AV := (P.info? T).bind fun i => i.zero.bind ofValue
def lookA (P : Program) (E : TypeId) (ok : Bool) : Option (Nat × AV) → Option AV
 | some (_,v) => some (if ok then .tuple [v,.fv (.bool true)] else v)
 | none => (zeroV P E).map fun z => if ok then .tuple [z,.fv (.bool false)] else z
/-- x.(T), of a type that is no interface. -/
def assertA (P : Program) (A : TypeId) (ok : Bool) : AV → Option AV
 | .iface T v => if T = A then some (if ok then .tuple [v,.fv (.bool true)] else v) else if ok then (zeroV P A).map fun z => .tuple [z,.fv (.bool false)] else none
 | .fv (.nil .nilIface) => if ok then (zeroV P A).map fun z => .tuple [z,.fv (.bool false)] else none
 | _ => none
/-- What an operation that makes or writes leaves: its value, the blocks, which of those that were have been written. -/
def effA (P : Program) (t : List AV) (h : List Blk) (o : Oper) : Option (AV × List Blk × List Nat) := match o.op with
 | .alloc T => match tiOf P T with
  | some { zero := some z,.. } => some (.ptr h.length 0 0 0,h ++ [.box (z.map .fv)],[])
  | _ => none
 | .box _ x => (ev t x).bind fun v => (cellsA v).map fun cs => (.ptr h.length 0 0 0,h ++ [.box cs],[])
 | .build T ps => (evParts t ps.toList).bind fun parts => (buildA P T parts).map fun v => (v,h,[])
 | .buildSlice T n ps => match tiOf P T with
  | some { desc := .slice e,.. } => match tiOf P e with
   | some ie => match ie.zero with
    | some z => if 0 < ie.size ∧ z.length = ie.size ∧ n * ie.size ≤ 16777216 then
      (evParts t ps.toList).bind fun parts => (fillA (fun i => some (i * ie.size,ie.size)) (flatN n (z.map .fv)) parts).bind fun cs =>
       match toFs cs with
       | some fs => some (.ref h.length ie.size 0 n,h ++ [.plain ie.size (chunk ie.size n fs)],[])
       | none => if cs.all okCell then some (.ref h.length ie.size 0 n,h ++ [.box cs],[]) else none
     else none
    | none => none
   | none => none
  | _ => none
 | .store T x y => (tiOf P T).bind fun i => (ev t x).bind fun p => (ev t y).bind fun v => (stA i h p v).map fun (h',id) => (.undef,h',[id])
 | .makeSlice T l c => match tiOf P T with
  | some { desc := .slice e,.. } => match tiOf P e with
   | some ie => match ie.zero with
    | some z => (ev t l).bind fun a => (asI a).bind fun n => (ev t c).bind fun b => (asI b).bind fun k =>
      if 0 < ie.size ∧ z.length = ie.size ∧ 0 ≤ n ∧ n = k ∧ ie.bytes * n ≤ 140737488355328 ∧ n ≤ 9223372036854775807 then
       some (.ref h.length ie.size 0 n.toNat,h ++ [.plain ie.size (List.replicate n.toNat z)],[]) else none
    | none => none
   | none => none
  | _ => none
 | .call { callee := .builtin .append,args := as,argTypes := ts } => match evs t as.toList,ts.toList with
  | some [s,x],[T,U] => match tiOf P T,tiOf P U with
   | some { desc := .slice e,.. },some iu => match tiOf P e with
    | some ie => if 0 < ie.size ∧ 0 < ie.bytes ∧ ie.zero.map List.length = some ie.size then (match zerosA iu x with
      | some n => ie.zero.bind fun z => zeroA ie z h s n
      | none => if boxy h s || boxy h x then (srcCells iu ie.size h x).bind fun ys => appendB ie h s ys else (srcRows iu ie.size h x).bind fun ys => appendA ie h s ys) else none
    | none => none
   | _,_ => none
  | _,_ => none
 | .call { callee := .builtin .clear,args := as,argTypes := ts } => match evs t as.toList,ts.toList with
  | some [s],[T] => match tiOf P T with
   | some { desc := .slice e,.. } => match tiOf P e with
    | some ie => match ie.zero with
     | some z => if 0 < ie.size ∧ z.length = ie.size then clearA ie z h s else none
     | none => none
    | none => none
   | _ => none
  | _,_ => none
 | .call { callee := .builtin .copy,args := as,argTypes := ts } => match evs t as.toList,ts.toList with
  | some [s,x],[T,U] => match tiOf P T,tiOf P U with
   | some { desc := .slice e,.. },some iu => match tiOf P e with
    | some ie => if 0 < ie.size then copyA ie iu h s x else none
    | none => none
   | _,_ => none
  | _,_ => none
 | .convert s u x => match tiOf P s,tiOf P u with
  | some { desc := .pointer e,.. },some { desc := .unsafePointer,.. } => match tiOf P e with
   | some ie => if ie.size = 0 then none else (ev t x).bind fun v => (cellA h v).map fun _ => (v,h,[])
   | none => none
  | some { desc := .slice e,size := n1,bytes := n2,zero := z },some { desc := .string,.. } => match tiOf P e with
   | some { desc := .int .u8,.. } => (ev t x).bind fun v => (srcRows ⟨.slice e,n1,n2,z⟩ 1 h v).bind fun ys => (rowsBytes ys).map fun s => (.fv (.str s),h,[])
   | _ => none
  | _,_ => none
 | .typeAssert x _ A ok => match tiOf P A with
  | some i => match i.desc with
   | .interface _ => none
   | _ => (ev t x).bind fun v => (assertA P A ok v).map fun r => (r,h,[])
  | none => none
 | .makeMap _ none => some (.mp h.length,h ++ [.map []],[])
 | .lookup X x k ok => match tiOf P X with
  | some { desc := .map K E,.. } => match tiOf P K,tiOf P E with
   | some ik,some _ => (ev t x).bind fun mv => (ev t k).bind fun kv => match kv with
    | .fv kf => if keyD ik.desc kf then (mapOf h mv).bind fun es => (findA kf es 0).bind fun r => (lookA P E ok r).map fun v => (v,h,[]) else none
    | _ => none
   | _,_ => none
  | _ => none
 | .mapUpdate X x k y => match tiOf P X with
  | some { desc := .map K _,.. } => match tiOf P K with
   | some ik => (ev t x).bind fun mv => (ev t k).bind fun kv => (ev t y).bind fun v => match mv,kv with
    | .mp id,.fv kf => match h[id]? with
     | some (.map es) => if keyD ik.desc kf then (findA kf es 0).map fun r => (.undef,h.set id (.map (putE kf v es r)),[id]) else none
     | _ => none
    | _,_ => none
   | none => none
  | _ => none
 | .insert X x k y => match tiOf P X with
  | some { desc := .map K _,.. } => match tiOf P K with
   | some ik => (ev t x).bind fun mv => (ev t k).bind fun kv => (ev t y).bind fun v => match mv,kv with
    | .mp id,.fv kf => match h[id]? with
     | some (.map es) => if keyD ik.desc kf then (findA kf es 0).map fun r => (.undef,h.set id (.map (putE kf v es r)),[id]) else none
     | _ => none
    | _,_ => none
   | none => none
  | _ => none
 | _ => none
/-! ### The weakest precondition -/
inductive AEx where
 | normal
 | exit (id : Nat)
 | ret
 | pan (v : AV)
inductive AOut where
 | ret (v : AV)
 | pan (v : AV)
variable [Kn]
set_option linter.unusedSectionVars false
/-- A relation between the frame's values and a state. -/
structure RelSM (w0 : World) (S0 : Nat → Prop) (m0 : List Loc) (w : World) (S : Nat → Prop) (m : List Loc) (a : Act) (st : St) : Prop where
 heap : HRel w S m st.h
 tmps : LRel w S m a.tmps.toList st.t
 defs : a.defers.length = st.d.length ∧ ∀ (i : Nat) (df : Deferred) (x : FuncId × List AV × List AV),a.defers[i]? = some df → st.d[i]? = some x →
  ∃ caps,df.target = .fn (.func x.1) caps ∧ LRel w S m df.args.toList x.2.1 ∧ LRel w S m caps.toList x.2.2
 fr : Fr w0 S0 m0 w S m
def ORel (w : World) (S : Nat → Prop) (m : List Loc) : Ending → AOut → Prop
 | .returned v,.ret x => VRel w S m v x
 | .panicked c,.pan x => ∃ v,c = [{ v,recovered := false }] ∧ VRel w S m v x
 | _,_ => False
def Enter (P : Program) (f : FuncId) : Prop := ∃ fn, P.funcs[f]? = some fn ∧ (fn.name == "runtime.NumGoroutine") = false ∧ fn.body.isNone = false
/-- A call: of a Go function, or of one of the model's own. -/
def Runs (P : Program) (f : FuncId) (args : Array Value) (w : World) (R : Ending → World → Prop) : Prop :=
 (Enter P f ∧ Calls P f args w R) ∨ ∃ v w',(callFunc f args).run P w = .ok (.value v) w' ∧ R (.returned v) w'
theorem Runs.mono {P : Program} {f : FuncId} {args : Array Value} {w : World} {R R' : Ending → World → Prop} (h : Runs P f args w R) (hr : ∀ e w',R e w' → R' e w') : Runs P f args w R' := by
 rcases h with ⟨he,hc⟩ | ⟨v,w',hc,hv⟩
 ·exact .inl ⟨he,Calls.mono hc hr⟩
 ·exact .inr ⟨v,w',hc,hr _ _ hv⟩
/-- A call of f with these arguments in this state comes to that outcome in that state; only the blocks of W (and new ones) were written. -/
def CallRel (P : Program) (f : FuncId) (args : List AV) (st : St) (W : List Nat) (o : AOut) (st' : St) : Prop :=
 (∀ i,i ∉ W → i < st.h.length → st'.h[i]? = st.h[i]?) ∧ ∀ w0 S0 m0 w S m a cargs,GOk P w0 S0 → RelSM w0 S0 m0 w S m a st → LRel w S m cargs args →
  Runs P f cargs.toArray w fun e w' => ∃ S' m',RelSM w0 S0 m0 w' S' m' a st' ∧ ORel w' S' m' e o ∧
   (∀ (i b o : Nat) (k : Blk),i ∉ W → m[i]? = some (some (b,o)) → st.h[i]? = some k → k.live = true → w'.heap[b]? = w.heap[b]?)
/-- One state says no more than another; n0: how many blocks the call was lent. -/
def Le (n0 : Nat) (st st' : St) : Prop :=
 ∀ w0 S0 m0 w S m a,m0.length = n0 → RelSM w0 S0 m0 w S m a st → ∃ S' m',RelSM w0 S0 m0 w S' m' a st'
def bO {α : Type} (x : Option α) (k : α → Prop) : Prop := match x with
 | some a => k a
 | none => False
def bB (x : AV) (k : Bool → Prop) : Prop := match x with
 | .fv (.bool b) => k b
 | .anyb => k true ∧ k false
 | _ => False
/-- What a region has read ahead of what may come in either order: the block, and who must come behind the read. -/
abbrev Held := List (Nat × List Nat)
def Held.ok (hs : Held) (i : Nat) (W : List Nat) : Bool := hs.all fun (id,deps) => deps.contains i || !W.contains id
def Held.drop (hs : Held) (i : Nat) : Held := hs.filter fun (_,deps) => !deps.contains i
def forget (ops : Array Oper) (st : St) : St :=
 { st with t := ops.toList.foldl (fun t o => match o.dst with
  | some d => t.set d .any
  | none => t) st.t }
def callee (t : List AV) (c : Call) : Option (FuncId × List AV) := match c.callee with
 | .value f => match ev t f,evs t c.args.toList with
  | some (.func fid caps),some as => some (fid,as ++ caps)
  | _,_ => none
 | _ => none
def awpCall (P : Program) (hs : Held) (i : Nat) (st : St) (f : FuncId) (args : List AV) (K X : AV → St → Prop) : Prop :=
 ∃ W o st',CallRel P f args st W o st' ∧ hs.ok i W = true ∧ match o with
  | .ret v => K v st'
  | .pan v => X v st'
/-- One operation that is carried out. -/
def awpOp (P : Program) (hs : Held) (i : Nat) (o : Oper) (st : St) (K : AV → St → Prop) (X : AV → St → Prop) : Prop :=
 match o.op with
 | .pick c a b => bO (ev st.t c) fun cv => bB cv fun t => bO (ev st.t a) fun x => bO (ev st.t b) fun y => if t then K x st else K y st
 | .panic x => bO (ev st.t x) fun v => match v with
  | .iface t y => X (.iface t y) st
  | _ => False
 | .defer c => match c.callee with
  | .value f => match ev st.t f,evs st.t c.args.toList with
   | some (.func fid caps),some as => K .undef { st with d := (fid,as,caps) :: st.d }
   | _,_ => False
  | _ => False
 | .call { callee := .value f,args := as,argTypes := ts } => bO (callee st.t { callee := .value f,args := as,argTypes := ts }) fun (fid,args) => awpCall P hs i st fid args K X
 | _ => match pureA P st.t o with
  | some v => K v st
  | none => match readA P st.t st.h o with
   | some (v,_) => K v st
   | none => bO (effA P st.t st.h o) fun (v,h',W) => hs.ok i W = true ∧ K v { st with h := h' }
def gval (ops : Array Oper) (t : List AV) (j : Nat) : Option (Option Bool) := match ops[j]? with
 | some o => match o.dst with
  | some d => match t.getD d .any with
   | .fv (.bool b) => some (some b)
   | .undef => some none
   | _ => none
  | none => some none
 | none => some none
def gd (ops : Array Oper) (o : Oper) (t : List AV) (y n : Prop) : Prop := match o.guard with
 | none => y
 | some (j,want) => bO (gval ops t j) fun g => if g = some want then y else n
def awpOps (P : Program) (ops : Array Oper) (Q : AEx → St → Prop) : List Nat → St → Prop
 | [],st => Q .normal st
 | i :: rest,st => match ops[i]? with
  | none => awpOps P ops Q rest st
  | some o => gd ops o st.t
    (awpOp P [] i o st (fun v s => awpOps P ops Q rest (s.put o.dst v)) (fun v s => Q (.pan v) (forget ops s)))
    (awpOps P ops Q rest (st.put o.dst .undef))
/-! ### A region whose order is drawn -/
/-- Who comes behind operation i (or is it). -/
def behind (ops : Array Oper) (i : Nat) : List Nat :=
 (List.range ops.size).foldl (fun acc j => match ops[j]? with
  | some o => if j == i || o.after.any (fun e => Region.binds .any e && acc.contains e.on) then acc ++ [j] else acc
  | none => acc) []
def quiet (o : Oper) : Bool := match o.op with
 | .move _ | .assign _ | .pick .. | .load .. | .nilCheck _ | .binOp .. | .unOp .. | .convert .. | .makeInterface .. | .makeFunc .. | .slice .. | .fieldAddr .. | .field ..
 | .indexAddr .. | .index .. | .extract .. => true
 | .call { callee := .builtin .len,.. } => true
 | .call { callee := .builtin .min,.. } => true
 | .call { callee := .builtin .max,.. } => true
 | _ => false
/-- The next operation: a quiet one that no other disturbs; else the only one that is ready. -/
def nextOp (ops : Array Oper) (listed : Array Bool) : Option (Nat × Bool) :=
 let r := Region.ready .any ops listed
 match r.find? (fun i => ((ops[i]?).map quiet).getD false && Region.free .any ops listed i) with
 | some i => some (i,true)
 | none => match r with
  | [i] => if ((ops[i]?).map quiet).getD true then none else some (i,false)
  | _ => none
def schedGo (ops : Array Oper) : Nat → Array Bool → Option (List (Nat × Bool))
 | 0,listed => if Region.ready .any ops listed = [] then some [] else none
 | n + 1,listed => if Region.ready .any ops listed = [] then some [] else match nextOp ops listed with
  | some (i,q) => (schedGo ops n (listed.setIfInBounds i true)).map ((i,q) :: ·)
  | none => none
def sched (ops : Array Oper) : Option (List (Nat × Bool)) :=
 if Region.noSelect ops then schedGo ops ops.size (Array.replicate ops.size false) else none
def awpDraw (P : Program) (ops : Array Oper) (Q : AEx → St → Prop) : List (Nat × Bool) → Held → St → Prop
 | [],_,st => Q .normal st
 | (i,q) :: rest,hs,st => match ops[i]? with
  | none => False
  | some o =>
   if q then gd ops o st.t
    (match o.op with
     | .pick c a b => bO (ev st.t c) fun cv => bB cv fun t => bO (ev st.t a) fun x => bO (ev st.t b) fun y =>
       if t then awpDraw P ops Q rest hs (st.put o.dst x) else awpDraw P ops Q rest hs (st.put o.dst y)
     | _ => match pureA P st.t o with
      | some v => awpDraw P ops Q rest hs (st.put o.dst v)
      | none => bO (readA P st.t st.h o) fun (v,id) => awpDraw P ops Q rest (match id with
        | some k => (k,behind ops i) :: hs
        | none => hs) (st.put o.dst v))
    (awpDraw P ops Q rest hs (st.put o.dst .undef))
   else gd ops o st.t
    (awpOp P hs i o st (fun v s => awpDraw P ops Q rest (hs.drop i) (s.put o.dst v)) (fun v s => Q (.pan v) (forget ops s)))
    (awpDraw P ops Q rest (hs.drop i) (st.put o.dst .undef))
/-- The same without a schedule: where nothing but loud operations are ready, whichever comes first. -/
def loudAll (ops : Array Oper) (r : List Nat) : Bool := r.all fun i => !((ops[i]?).map quiet).getD true
def awpTree (P : Program) (ops : Array Oper) (Q : AEx → St → Prop) : Nat → Array Bool → Held → St → Prop
 | 0,listed,_,st => Region.ready .any ops listed = [] ∧ Q .normal st
 | n + 1,listed,hs,st =>
  if Region.ready .any ops listed = [] then Q .normal st else
  match nextOp ops listed with
  | some (i,true) => (match ops[i]? with
   | none => False
   | some o => gd ops o st.t
    (match o.op with
     | .pick c a b => bO (ev st.t c) fun cv => bB cv fun t => bO (ev st.t a) fun x => bO (ev st.t b) fun y =>
       if t then awpTree P ops Q n (listed.setIfInBounds i true) hs (st.put o.dst x) else awpTree P ops Q n (listed.setIfInBounds i true) hs (st.put o.dst y)
     | _ => match pureA P st.t o with
      | some v => awpTree P ops Q n (listed.setIfInBounds i true) hs (st.put o.dst v)
      | none => bO (readA P st.t st.h o) fun (v,id) => awpTree P ops Q n (listed.setIfInBounds i true) (match id with
        | some k => (k,behind ops i) :: hs
        | none => hs) (st.put o.dst v))
    (awpTree P ops Q n (listed.setIfInBounds i true) hs (st.put o.dst .undef)))
  | _ => loudAll ops (Region.ready .any ops listed) = true ∧ ∀ i ∈ Region.ready .any ops listed,(match ops[i]? with
   | none => False
   | some o => gd ops o st.t
    (awpOp P hs i o st (fun v s => awpTree P ops Q n (listed.setIfInBounds i true) (hs.drop i) (s.put o.dst v)) (fun v s => Q (.pan v) (forget ops s)))
    (awpTree P ops Q n (listed.setIfInBounds i true) (hs.drop i) (st.put o.dst .undef)))
/-- At the end of a region less may be said. -/
def leQ (n0 : Nat) (Q : AEx → St → Prop) : AEx → St → Prop
 | .normal,s => ∃ s2,Le n0 s s2 ∧ Q .normal s2
 | e,s => Q e s
def AEx.then (next : St → Prop) (Q : AEx → St → Prop) : AEx → St → Prop
 | .normal,s => next s
 | e,s => Q e s
def AEx.inBlock (id : Nat) (Q : AEx → St → Prop) : AEx → St → Prop
 | .exit i,s => if i = id then Q .normal s else Q (.exit i) s
 | e,s => Q e s
/-- A loop: what holds at each round's head, and what each round lowers. -/
def LoopOk (n0 : Nat) (body : (AEx → St → Prop) → St → Prop) (Q : AEx → St → Prop) (st : St) : Prop :=
 ∃ (I : St → Prop) (μ : St → Nat),(∃ s,Le n0 st s ∧ I s) ∧ ∀ s,I s → body (AEx.then (fun s1 => ∃ s2,Le n0 s1 s2 ∧ I s2 ∧ μ s2 < μ s) Q) s
def awp (P : Program) (n0 : Nat) : Code → (AEx → St → Prop) → St → Prop
 | .skip,Q,st => Q .normal st
 | .region _ ops draws,Q,st => if draws then (match sched ops with
  | some l => awpDraw P ops Q l [] st
  | none => Region.noSelect ops = true ∧ awpTree P ops (leQ n0 Q) ops.size (Array.replicate ops.size false) [] st) else awpOps P ops Q (List.range ops.size) st
 | .seq a b,Q,st => awp P n0 a (AEx.then (awp P n0 b Q) Q) st
 | .cond c a b,Q,st => bO (ev st.t c) fun v => bB v fun t => if t then awp P n0 a Q st else awp P n0 b Q st
 | .block id c,Q,st => awp P n0 c (AEx.inBlock id Q) st
 | .loop c,Q,st => LoopOk n0 (awp P n0 c) Q st
 | .exit id,Q,st => Q (.exit id) st
 | .label _,Q,st => Q .normal st
 | .ret,Q,st => Q .ret st
 | _,_,_ => False
/-- The contract of a call: what it is given, which blocks lie open to it, and what becomes of both. -/
def Ok (P : Program) (f : FuncId) (args : List AV) (h : List Blk) (o : AOut) (h' : List Blk) : Prop :=
 Enter P f ∧ ∀ w S m cargs,GOk P w S → HRel w S m h → LRel w S m cargs args →
  Calls P f cargs.toArray w fun e w' => ∃ S' m',HRel w' S' m' h' ∧ ORel w' S' m' e o ∧ Fr w S m w' S' m'
/-- Named results that lie in boxes are loaded behind the body. -/
def resA (P : Program) (st : St) : ResultVar → Option AV
 | .tmp t => some (st.t.getD t .any)
 | .cell a T => (tiOf P T).bind fun i => ldA P i st.h (st.t.getD a .any)
def resAs (P : Program) (st : St) : List ResultVar → Option (List AV)
 | [] => some []
 | r :: l => match resA P st r,resAs P st l with
  | some a,some as => some (a :: as)
  | _,_ => none
def pack : List AV → AV
 | [v] => v
 | vs => .tuple vs
end Go.Abs
