/- Grammars as cells. -/
import Derived.Test.YtckpaaeilbgiiaaAbsArg
namespace Go.Abs
set_option linter.unusedVariables false
set_option linter.unusedSimpArgs false

abbrev Bs := List UInt8
def intF (n : Int) : FV := .int .i64 n
structure Cel where
  op : Int
  a : Int
  b : Int
  c : Int
  d : Int
structure Rul where
  name : Bs
  re : List Cel
  skip : Bool
structure Lev where
  power : Int
  side : Int
structure Prd where
  left : Int
  right : List Int
  prec : Int
structure Gra where
  rules : List Rul
  nonts : List Bs
  levels : List Lev
  prods : List Prd
  start : Int
def Cel.row (c : Cel) : List FV := [.int .i64 c.op, .int .u64 c.a, .int .u64 c.b, .int .u64 c.c, .int .u64 c.d]
def Rul.row (r : Rul) : List FV := [.str r.name, .lst 5 (r.re.map Cel.row), .bool r.skip]
def Lev.row (l : Lev) : List FV := [.int .i64 l.power, .int .i64 l.side]
def iRow (n : Int) : List FV := [.int .i64 n]
def sRow (s : Bs) : List FV := [.str s]
def Prd.row (p : Prd) : List FV := [.int .i64 p.left, .lst 1 (p.right.map iRow), .int .i64 p.prec]
def Gra.row (g : Gra) : List FV := [.lst 3 (g.rules.map Rul.row), .lst 1 (g.nonts.map sRow), .lst 2 (g.levels.map Lev.row), .lst 3 (g.prods.map Prd.row), .int .i64 g.start]
def Gra.av (g : Gra) : AV := .agg [.fv (.lst 3 (g.rules.map Rul.row)), .fv (.lst 1 (g.nonts.map sRow)), .fv (.lst 2 (g.levels.map Lev.row)), .fv (.lst 3 (g.prods.map Prd.row)), .fv (.int .i64 g.start)]

/-! ### What is handed -/
def I64 (n : Int) : Prop := -9223372036854775808 ≤ n ∧ n ≤ 9223372036854775807
def Cel.ok (c : Cel) : Prop := I64 c.op
def Rul.ok (r : Rul) : Prop := r.name.length ≤ reachBytes ∧ (∀ c ∈ r.re, c.ok) ∧ r.re.length * 40 ≤ reachBytes
def Lev.ok (l : Lev) : Prop := I64 l.power ∧ I64 l.side
def Prd.ok (p : Prd) : Prop := I64 p.left ∧ (∀ n ∈ p.right, I64 n) ∧ p.right.length * 8 ≤ reachBytes ∧ I64 p.prec
structure Gra.ok (g : Gra) : Prop where
  rules : ∀ r ∈ g.rules, r.ok
  nonts : ∀ s ∈ g.nonts, s.length ≤ reachBytes
  levels : ∀ l ∈ g.levels, l.ok
  prods : ∀ p ∈ g.prods, p.ok
  start : I64 g.start
  nrules : g.rules.length ≤ reachBytes
  nnonts : g.nonts.length ≤ reachBytes
  nlevels : g.levels.length ≤ reachBytes
  nprods : g.prods.length ≤ reachBytes
def shCel : List Sh := [.int .i64, .int .u64, .int .u64, .int .u64, .int .u64]
def shRul : List Sh := [.str, .slc 40 shCel, .bool]
def shLev : List Sh := [.int .i64, .int .i64]
def shPrd : List Sh := [.int .i64, .slc 8 [.int .i64], .int .i64]
def shGra (a b c d : Nat) : List Sh := [.slc a shRul, .slc b [.str], .slc c shLev, .slc d shPrd, .int .i64]
theorem cel_of (row : List FV) (h : RowC shCel row) : ∃ c : Cel, row = c.row ∧ c.ok := by
  obtain ⟨x0, r0, rfl, h0, h⟩ := h.cons_inv
  obtain ⟨x1, r1, rfl, h1, h⟩ := h.cons_inv
  obtain ⟨x2, r2, rfl, h2, h⟩ := h.cons_inv
  obtain ⟨x3, r3, rfl, h3, h⟩ := h.cons_inv
  obtain ⟨x4, r4, rfl, h4, h⟩ := h.cons_inv
  obtain rfl := h.nil_inv
  obtain ⟨n0, rfl, w0⟩ := h0.int_inv
  obtain ⟨n1, rfl, w1⟩ := h1.int_inv
  obtain ⟨n2, rfl, w2⟩ := h2.int_inv
  obtain ⟨n3, rfl, w3⟩ := h3.int_inv
  obtain ⟨n4, rfl, w4⟩ := h4.int_inv
  exact ⟨⟨n0, n1, n2, n3, n4⟩, rfl, wf_i64 w0⟩
theorem int_of (row : List FV) (h : RowC [.int .i64] row) : ∃ n : Int, row = iRow n ∧ I64 n := by
  obtain ⟨x0, r0, rfl, h0, h⟩ := h.cons_inv
  obtain rfl := h.nil_inv
  obtain ⟨n0, rfl, w0⟩ := h0.int_inv
  exact ⟨n0, rfl, wf_i64 w0⟩
theorem str_of (row : List FV) (h : RowC [.str] row) : ∃ s : Bs, row = sRow s ∧ s.length ≤ reachBytes := by
  obtain ⟨x0, r0, rfl, h0, h⟩ := h.cons_inv
  obtain rfl := h.nil_inv
  obtain ⟨s, rfl, w0⟩ := h0.str_inv
  exact ⟨s, rfl, w0⟩
theorem rul_of (row : List FV) (h : RowC shRul row) : ∃ r : Rul, row = r.row ∧ r.ok := by
  obtain ⟨x0, r0, rfl, h0, h⟩ := h.cons_inv
  obtain ⟨x1, r1, rfl, h1, h⟩ := h.cons_inv
  obtain ⟨x2, r2, rfl, h2, h⟩ := h.cons_inv
  obtain rfl := h.nil_inv
  obtain ⟨s, rfl, w0⟩ := h0.str_inv
  obtain ⟨l, rfl, w1, w2⟩ := h1.slc_inv Cel.row Cel.ok cel_of
  obtain ⟨b, rfl⟩ := h2.bool_inv
  exact ⟨⟨s, l, b⟩, rfl, w0, w1, w2⟩
theorem lev_of (row : List FV) (h : RowC shLev row) : ∃ l : Lev, row = l.row ∧ l.ok := by
  obtain ⟨x0, r0, rfl, h0, h⟩ := h.cons_inv
  obtain ⟨x1, r1, rfl, h1, h⟩ := h.cons_inv
  obtain rfl := h.nil_inv
  obtain ⟨n0, rfl, w0⟩ := h0.int_inv
  obtain ⟨n1, rfl, w1⟩ := h1.int_inv
  exact ⟨⟨n0, n1⟩, rfl, wf_i64 w0, wf_i64 w1⟩
theorem prd_of (row : List FV) (h : RowC shPrd row) : ∃ p : Prd, row = p.row ∧ p.ok := by
  obtain ⟨x0, r0, rfl, h0, h⟩ := h.cons_inv
  obtain ⟨x1, r1, rfl, h1, h⟩ := h.cons_inv
  obtain ⟨x2, r2, rfl, h2, h⟩ := h.cons_inv
  obtain rfl := h.nil_inv
  obtain ⟨n0, rfl, w0⟩ := h0.int_inv
  obtain ⟨l, rfl, w1, w2⟩ := h1.slc_inv iRow I64 int_of
  obtain ⟨n2, rfl, w3⟩ := h2.int_inv
  exact ⟨⟨n0, l, n2⟩, rfl, wf_i64 w0, w1, w2, wf_i64 w3⟩
theorem gra_of {a b c d : Nat} (ha : 0 < a) (hb : 0 < b) (hc : 0 < c) (hd : 0 < d) (row : List FV) (h : RowC (shGra a b c d) row) : ∃ g : Gra, row = g.row ∧ g.ok := by
  obtain ⟨x0, r0, rfl, h0, h⟩ := h.cons_inv
  obtain ⟨x1, r1, rfl, h1, h⟩ := h.cons_inv
  obtain ⟨x2, r2, rfl, h2, h⟩ := h.cons_inv
  obtain ⟨x3, r3, rfl, h3, h⟩ := h.cons_inv
  obtain ⟨x4, r4, rfl, h4, h⟩ := h.cons_inv
  obtain rfl := h.nil_inv
  obtain ⟨rs, rfl, v0, w0⟩ := h0.slc_inv Rul.row Rul.ok rul_of
  obtain ⟨ns, rfl, v1, w1⟩ := h1.slc_inv sRow (fun s => s.length ≤ reachBytes) str_of
  obtain ⟨ls, rfl, v2, w2⟩ := h2.slc_inv Lev.row Lev.ok lev_of
  obtain ⟨ps, rfl, v3, w3⟩ := h3.slc_inv Prd.row Prd.ok prd_of
  obtain ⟨n4, rfl, w4⟩ := h4.int_inv
  have small : ∀ {n k : Nat}, 0 < k → n * k ≤ reachBytes → n ≤ reachBytes := fun hk h => Nat.le_trans (Nat.le_mul_of_pos_right _ hk) h
  exact ⟨⟨rs, ns, ls, ps, n4⟩, rfl, v0, v1, v2, v3, wf_i64 w4, small ha w0, small hb w1, small hc w2, small hd w3⟩
theorem gra_av {g : Gra} : (g.row.map AV.fv) = [.fv (.lst 3 (g.rules.map Rul.row)), .fv (.lst 1 (g.nonts.map sRow)), .fv (.lst 2 (g.levels.map Lev.row)), .fv (.lst 3 (g.prods.map Prd.row)), .fv (.int .i64 g.start)] := rfl
end Go.Abs
