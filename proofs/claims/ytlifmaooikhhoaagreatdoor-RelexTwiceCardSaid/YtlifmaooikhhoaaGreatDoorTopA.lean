/- Grammars as cells. -/
import Derived.Test.YtlifmaooikhhoaaGreatDoorAbsZ
import Derived.Lib.SlicesCompact
namespace Go.Abs
set_option linter.unusedVariables false
set_option linter.unusedSimpArgs false

abbrev Bs := List UInt8
structure Cel where
  op : Int
  a : Int
  b : Int
  c : Int
  d : Int
structure Rul where
  name : Bs
  re : List Cel
  skip : Bool
structure Lev where
  power : Int
  side : Int
structure Prd where
  left : Int
  right : List Int
  prec : Int
structure Gra where
  rules : List Rul
  nonts : List Bs
  levels : List Lev
  prods : List Prd
  start : Int
def Cel.row (c : Cel) : List FV := [.int .i64 c.op, .int .u64 c.a, .int .u64 c.b, .int .u64 c.c, .int .u64 c.d]
def Rul.row (r : Rul) : List FV := [.str r.name, .lst 5 (r.re.map Cel.row), .bool r.skip]
def Lev.row (l : Lev) : List FV := [.int .i64 l.power, .int .i64 l.side]
def iRow (n : Int) : List FV := [.int .i64 n]
def sRow (s : Bs) : List FV := [.str s]
def Prd.row (p : Prd) : List FV := [.int .i64 p.left, .lst 1 (p.right.map iRow), .int .i64 p.prec]
def Gra.row (g : Gra) : List FV := [.lst 3 (g.rules.map Rul.row), .lst 1 (g.nonts.map sRow), .lst 2 (g.levels.map Lev.row), .lst 3 (g.prods.map Prd.row), .int .i64 g.start]
def Gra.av (g : Gra) : AV := .agg [.fv (.lst 3 (g.rules.map Rul.row)), .fv (.lst 1 (g.nonts.map sRow)), .fv (.lst 2 (g.levels.map Lev.row)), .fv (.lst 3 (g.prods.map Prd.row)), .fv (.int .i64 g.start)]

/-! ### What is handed -/
def I64 (n : Int) : Prop := -9223372036854775808 ≤ n ∧ n ≤ 9223372036854775807
def Cel.ok (c : Cel) : Prop := I64 c.op
def Rul.ok (r : Rul) : Prop := r.name.length ≤ reachBytes ∧ (∀ c ∈ r.re, c.ok) ∧ r.re.length * 40 ≤ reachBytes
def Lev.ok (l : Lev) : Prop := I64 l.power ∧ I64 l.side
def Prd.ok (p : Prd) : Prop := I64 p.left ∧ (∀ n ∈ p.right, I64 n) ∧ p.right.length * 8 ≤ reachBytes ∧ I64 p.prec
structure Gra.ok (g : Gra) : Prop where
  rules : ∀ r ∈ g.rules, r.ok
  nonts : ∀ s ∈ g.nonts, s.length ≤ reachBytes
  levels : ∀ l ∈ g.levels, l.ok
  prods : ∀ p ∈ g.prods, p.ok
  start : I64 g.start
  nrules : g.rules.length ≤ reachBytes
  nnonts : g.nonts.length ≤ reachBytes
  nlevels : g.levels.length ≤ reachBytes
  nprods : g.prods.length ≤ reachBytes
theorem int_of (row : List FV) (h : RowC [.int .i64] row) : ∃ n : Int, row = iRow n ∧ I64 n := by
  obtain ⟨x0, r0, rfl, h0, h⟩ := h.cons_inv
  obtain rfl := h.nil_inv
  obtain ⟨n0, rfl, w0⟩ := h0.int_inv
  exact ⟨n0, rfl, wf_i64 w0⟩
end Go.Abs
/- What a grammar must be: words, names, rules, soundness, in plain words. -/
namespace Go.Abs
set_option linter.unusedVariables false
set_option linter.unusedSimpArgs false

/-! ### Words -/
def letterB (c : UInt8) : Bool := (decide (97 ≤ c.toNat) && decide (c.toNat ≤ 122)) || (decide (65 ≤ c.toNat) && decide (c.toNat ≤ 90)) || c.toNat == 95
def digitB (c : UInt8) : Bool := decide (48 ≤ c.toNat) && decide (c.toNat ≤ 57)
def isBl (c : UInt8) : Bool := c.toNat == 9 || c.toNat == 10 || c.toNat == 13 || c.toNat == 32
def blankG : Bool → Bs → Nat
  | _, [] => 0
  | true, c :: r => if c.toNat == 10 then blankG false r + 1 else blankG true r + 1
  | false, c :: r => if isBl c then blankG false r + 1 else if c.toNat == 35 then blankG true r + 1 else 0
def blankN (s : Bs) : Nat := blankG false s
def nameLen : Bs → Nat
  | [] => 0
  | c :: r => if letterB c then (r.takeWhile fun c => letterB c || digitB c).length + 1 else 0
def nameN (s : Bs) : Nat := if 16 < nameLen s then 0 else nameLen s
def ruleG : Bs → Nat → Nat
  | [], _ => 0
  | c :: r, n => if c.toNat == 10 then 0 else if c.toNat == 47 then n + 1 else if c.toNat == 92 then (match r with
      | [] => 0
      | d :: r' => if d.toNat == 10 then 0 else ruleG r' (n + 2)) else ruleG r (n + 1)
def ruleN : Bs → Nat
  | [] => 0
  | c :: r => if c.toNat == 47 then ruleG r 1 else 0
def signN : Bs → Nat
  | [] => 0
  | c :: _ => if c.toNat == 58 || c.toNat == 59 || c.toNat == 124 || c.toNat == 37 then 1 else 0
structure Wd where
  kind : Int
  at_ : Int
  text : Bs
def Wd.row (w : Wd) : List FV := [.int .i64 w.kind, .int .i64 w.at_, .str w.text]
/-- The word ahead: its kind, its length. -/
def cutW (s : Bs) : Option (Nat × Nat) :=
  if nameN s ≠ 0 then some (1, nameN s) else if ruleN s ≠ 0 then some (2, ruleN s) else if signN s ≠ 0 then some (3, signN s) else none
def wordAt (s : Bs) (at_ : Nat) (k n : Nat) : Wd := ⟨k, at_, if k = 2 then (((s.drop at_).take n).drop 1).take (n - 2) else (s.drop at_).take n⟩
def allG (s : Bs) : Nat → Nat → List Wd → Option (List Wd) × Nat
  | 0, at_, _ => (none, at_)
  | f + 1, at_, out => if at_ < s.length then (match cutW (s.drop at_) with
      | some (k, n) => allG s f (at_ + n + blankN (s.drop (at_ + n))) (out ++ [wordAt s at_ k n])
      | none => (none, at_)) else (some out, 0)
/-! ### Rules -/
def wantsI (op : Int) : Int := if op = 1 ∨ op = 2 then 0 else if op = 5 ∨ op = 6 ∨ op = 7 then 1 else if op = 3 ∨ op = 4 then 2 else -1
def Cel.none_ (c : Cel) : Bool := c.a == 0 && c.b == 0 && c.c == 0 && c.d == 0
def rightG : List Cel → Int → Option Int
  | [], n => some n
  | c :: r, n => if wantsI c.op < 0 ∨ n < wantsI c.op ∨ (c.op == 1) = c.none_ then none else rightG r (n + 1 - wantsI c.op)
def rightB (l : List Cel) : Bool := decide (1 ≤ l.length) && decide (l.length ≤ 60) && (match rightG l 0 with
  | some n => decide (n = 1)
  | none => false)

/-! ### Soundness -/
def Gra.terms (g : Gra) : Nat := (g.rules.filter fun r => !r.skip).length
def Gra.all (g : Gra) : Nat := g.terms + g.nonts.length
def Gra.names (g : Gra) : List Bs := g.rules.map Rul.name ++ g.nonts
def Gra.startB (g : Gra) : Bool := if g.nonts.length = 0 then decide (g.start = 0) else decide ((g.terms : Int) < g.start) && decide (g.start ≤ (g.all : Int))
end Go.Abs
/- Names of symbols. -/
namespace Go.Abs
set_option linter.unusedVariables false
set_option linter.unusedSimpArgs false

/-! ### How great a grammar is -/
end Go.Abs
/- Plain facts about sets of numbers as rising lists. -/
namespace Go.Abs
end Go.Abs
namespace Go.Abs
end Go.Abs
