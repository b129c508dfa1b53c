/- Grammars as cells. -/
import Derived.Test.YtnhghoonlmoinaaGreatAbsZ
import Derived.Lib.SlicesCompact
namespace Go.Abs
set_option linter.unusedSectionVars false
variable [Kn]
set_option linter.unusedVariables false
set_option linter.unusedSimpArgs false
abbrev Bs := List UInt8
structure Cel where
 op : Int
 a : Int
 b : Int
 c : Int
 d : Int
structure Rul where
 name : Bs
 re : List Cel
 skip : Bool
structure Lev where
 power : Int
 side : Int
structure Prd where
 left : Int
 right : List Int
 prec : Int
structure Gra where
 rules : List Rul
 nonts : List Bs
 levels : List Lev
 prods : List Prd
 start : Int
def Cel.row (c : Cel) : List FV := [.int .i64 c.op,.int .u64 c.a,.int .u64 c.b,.int .u64 c.c,.int .u64 c.d]
def Rul.row (r : Rul) : List FV := [.str r.name,.lst 5 (r.re.map Cel.row),.bool r.skip]
def Lev.row (l : Lev) : List FV := [.int .i64 l.power,.int .i64 l.side]
def iRow (n : Int) : List FV := [.int .i64 n]
def sRow (s : Bs) : List FV := [.str s]
def Prd.row (p : Prd) : List FV := [.int .i64 p.left,.lst 1 (p.right.map iRow),.int .i64 p.prec]
def Gra.row (g : Gra) : List FV := [.lst 3 (g.rules.map Rul.row),.lst 1 (g.nonts.map sRow),.lst 2 (g.levels.map Lev.row),.lst 3 (g.prods.map Prd.row),.int .i64 g.start]
def Gra.av (g : Gra) : AV := .agg [.fv (.lst 3 (g.rules.map Rul.row)),.fv (.lst 1 (g.nonts.map sRow)),.fv (.lst 2 (g.levels.map Lev.row)),.fv (.lst 3 (g.prods.map Prd.row)),.fv (.int .i64 g.start)]
/-! ### What is handed -/
def I64 (n : Int) : Prop := -9223372036854775808 ≤ n ∧ n ≤ 9223372036854775807
def Cel.ok (c : Cel) : Prop := I64 c.op
def Rul.ok (r : Rul) : Prop := r.name.length ≤ reachBytes ∧ (∀ c ∈ r.re,c.ok) ∧ r.re.length * 40 ≤ reachBytes
def Lev.ok (l : Lev) : Prop := I64 l.power ∧ I64 l.side
def Prd.ok (p : Prd) : Prop := I64 p.left ∧ (∀ n ∈ p.right,I64 n) ∧ p.right.length * 8 ≤ reachBytes ∧ I64 p.prec
structure Gra.ok (g : Gra) : Prop where
 rules : ∀ r ∈ g.rules,r.ok
 nonts : ∀ s ∈ g.nonts,s.length ≤ reachBytes
 levels : ∀ l ∈ g.levels,l.ok
 prods : ∀ p ∈ g.prods,p.ok
 start : I64 g.start
 nrules : g.rules.length ≤ reachBytes
 nnonts : g.nonts.length ≤ reachBytes
 nlevels : g.levels.length ≤ reachBytes
 nprods : g.prods.length ≤ reachBytes
def shCel : List Sh := [.int .i64,.int .u64,.int .u64,.int .u64,.int .u64]
def shRul : List Sh := [.str,.slc 40 shCel,.bool]
def shLev : List Sh := [.int .i64,.int .i64]
def shPrd : List Sh := [.int .i64,.slc 8 [.int .i64],.int .i64]
def shGra (a b c d : Nat) : List Sh := [.slc a shRul,.slc b [.str],.slc c shLev,.slc d shPrd,.int .i64]
theorem cel_of (row : List FV) (h : RowC shCel row) : ∃ c : Cel,row = c.row ∧ c.ok := by
 obtain ⟨x0,r0,rfl,h0,h⟩ := h.cons_inv
 obtain ⟨x1,r1,rfl,h1,h⟩ := h.cons_inv
 obtain ⟨x2,r2,rfl,h2,h⟩ := h.cons_inv
 obtain ⟨x3,r3,rfl,h3,h⟩ := h.cons_inv
 obtain ⟨x4,r4,rfl,h4,h⟩ := h.cons_inv
 obtain rfl := h.nil_inv
 obtain ⟨n0,rfl,w0⟩ := h0.int_inv
 obtain ⟨n1,rfl,w1⟩ := h1.int_inv
 obtain ⟨n2,rfl,w2⟩ := h2.int_inv
 obtain ⟨n3,rfl,w3⟩ := h3.int_inv
 obtain ⟨n4,rfl,w4⟩ := h4.int_inv
 exact ⟨⟨n0,n1,n2,n3,n4⟩,rfl,wf_i64 w0⟩
theorem int_of (row : List FV) (h : RowC [.int .i64] row) : ∃ n : Int,row = iRow n ∧ I64 n := by
 obtain ⟨x0,r0,rfl,h0,h⟩ := h.cons_inv
 obtain rfl := h.nil_inv
 obtain ⟨n0,rfl,w0⟩ := h0.int_inv
 exact ⟨n0,rfl,wf_i64 w0⟩
theorem str_of (row : List FV) (h : RowC [.str] row) : ∃ s : Bs,row = sRow s ∧ s.length ≤ reachBytes := by
 obtain ⟨x0,r0,rfl,h0,h⟩ := h.cons_inv
 obtain rfl := h.nil_inv
 obtain ⟨s,rfl,w0⟩ := h0.str_inv
 exact ⟨s,rfl,w0⟩
theorem rul_of (row : List FV) (h : RowC shRul row) : ∃ r : Rul,row = r.row ∧ r.ok := by
 obtain ⟨x0,r0,rfl,h0,h⟩ := h.cons_inv
 obtain ⟨x1,r1,rfl,h1,h⟩ := h.cons_inv
 obtain ⟨x2,r2,rfl,h2,h⟩ := h.cons_inv
 obtain rfl := h.nil_inv
 obtain ⟨s,rfl,w0⟩ := h0.str_inv
 obtain ⟨l,rfl,w1,w2⟩ := h1.slc_inv Cel.row Cel.ok cel_of
 obtain ⟨b,rfl⟩ := h2.bool_inv
 exact ⟨⟨s,l,b⟩,rfl,w0,w1,w2⟩
theorem lev_of (row : List FV) (h : RowC shLev row) : ∃ l : Lev,row = l.row ∧ l.ok := by
 obtain ⟨x0,r0,rfl,h0,h⟩ := h.cons_inv
 obtain ⟨x1,r1,rfl,h1,h⟩ := h.cons_inv
 obtain rfl := h.nil_inv
 obtain ⟨n0,rfl,w0⟩ := h0.int_inv
 obtain ⟨n1,rfl,w1⟩ := h1.int_inv
 exact ⟨⟨n0,n1⟩,rfl,wf_i64 w0,wf_i64 w1⟩
theorem prd_of (row : List FV) (h : RowC shPrd row) : ∃ p : Prd,row = p.row ∧ p.ok := by
 obtain ⟨x0,r0,rfl,h0,h⟩ := h.cons_inv
 obtain ⟨x1,r1,rfl,h1,h⟩ := h.cons_inv
 obtain ⟨x2,r2,rfl,h2,h⟩ := h.cons_inv
 obtain rfl := h.nil_inv
 obtain ⟨n0,rfl,w0⟩ := h0.int_inv
 obtain ⟨l,rfl,w1,w2⟩ := h1.slc_inv iRow I64 int_of
 obtain ⟨n2,rfl,w3⟩ := h2.int_inv
 exact ⟨⟨n0,l,n2⟩,rfl,wf_i64 w0,w1,w2,wf_i64 w3⟩
theorem gra_of {a b c d : Nat} (ha : 0 < a) (hb : 0 < b) (hc : 0 < c) (hd : 0 < d) (row : List FV) (h : RowC (shGra a b c d) row) : ∃ g : Gra,row = g.row ∧ g.ok := by
 obtain ⟨x0,r0,rfl,h0,h⟩ := h.cons_inv
 obtain ⟨x1,r1,rfl,h1,h⟩ := h.cons_inv
 obtain ⟨x2,r2,rfl,h2,h⟩ := h.cons_inv
 obtain ⟨x3,r3,rfl,h3,h⟩ := h.cons_inv
 obtain ⟨x4,r4,rfl,h4,h⟩ := h.cons_inv
 obtain rfl := h.nil_inv
 obtain ⟨rs,rfl,v0,w0⟩ := h0.slc_inv Rul.row Rul.ok rul_of
 obtain ⟨ns,rfl,v1,w1⟩ := h1.slc_inv sRow (fun s => s.length ≤ reachBytes) str_of
 obtain ⟨ls,rfl,v2,w2⟩ := h2.slc_inv Lev.row Lev.ok lev_of
 obtain ⟨ps,rfl,v3,w3⟩ := h3.slc_inv Prd.row Prd.ok prd_of
 obtain ⟨n4,rfl,w4⟩ := h4.int_inv
 have small : ∀ {n k : Nat},0 < k → n * k ≤ reachBytes → n ≤ reachBytes := fun hk h => Nat.le_trans (Nat.le_mul_of_pos_right _ hk) h
 exact ⟨⟨rs,ns,ls,ps,n4⟩,rfl,v0,v1,v2,v3,wf_i64 w4,small ha w0,small hb w1,small hc w2,small hd w3⟩
end Go.Abs
/- What a grammar must be: words, names, rules, soundness, in plain words. -/
namespace Go.Abs
set_option linter.unusedSectionVars false
variable [Kn]
set_option linter.unusedVariables false
set_option linter.unusedSimpArgs false
/-! ### Words -/
def letterB (c : UInt8) : Bool := (decide (97 ≤ c.toNat) && decide (c.toNat ≤ 122)) || (decide (65 ≤ c.toNat) && decide (c.toNat ≤ 90)) || c.toNat == 95
def digitB (c : UInt8) : Bool := decide (48 ≤ c.toNat) && decide (c.toNat ≤ 57)
def isBl (c : UInt8) : Bool := c.toNat == 9 || c.toNat == 10 || c.toNat == 13 || c.toNat == 32
def blankG : Bool → Bs → Nat
 | _,[] => 0
 | true,c :: r => if c.toNat == 10 then blankG false r + 1 else blankG true r + 1
 | false,c :: r => if isBl c then blankG false r + 1 else if c.toNat == 35 then blankG true r + 1 else 0
def blankN (s : Bs) : Nat := blankG false s
def nameLen : Bs → Nat
 | [] => 0
 | c :: r => if letterB c then (r.takeWhile fun c => letterB c || digitB c).length + 1 else 0
def nameN (s : Bs) : Nat := if 16 < nameLen s then 0 else nameLen s
def ruleG : Bs → Nat → Nat
 | [],_ => 0
 | c :: r,n => if c.toNat == 10 then 0 else if c.toNat == 47 then n + 1 else if c.toNat == 92 then (match r with
   | [] => 0
   | d :: r' => if d.toNat == 10 then 0 else ruleG r' (n + 2)) else ruleG r (n + 1)
def ruleN : Bs → Nat
 | [] => 0
 | c :: r => if c.toNat == 47 then ruleG r 1 else 0
def signN : Bs → Nat
 | [] => 0
 | c :: _ => if c.toNat == 58 || c.toNat == 59 || c.toNat == 124 || c.toNat == 37 then 1 else 0
structure Wd where
 kind : Int
 at_ : Int
 text : Bs
def Wd.row (w : Wd) : List FV := [.int .i64 w.kind,.int .i64 w.at_,.str w.text]
/-- The word ahead: its kind, its length. -/
def cutW (s : Bs) : Option (Nat × Nat) :=
 if nameN s ≠ 0 then some (1,nameN s) else if ruleN s ≠ 0 then some (2,ruleN s) else if signN s ≠ 0 then some (3,signN s) else none
def wordAt (s : Bs) (at_ : Nat) (k n : Nat) : Wd := ⟨k,at_,if k = 2 then (((s.drop at_).take n).drop 1).take (n - 2) else (s.drop at_).take n⟩
def allG (s : Bs) : Nat → Nat → List Wd → Option (List Wd) × Nat
 | 0,at_,_ => (none,at_)
 | f + 1,at_,out => if at_ < s.length then (match cutW (s.drop at_) with
   | some (k,n) => allG s f (at_ + n + blankN (s.drop (at_ + n))) (out ++ [wordAt s at_ k n])
   | none => (none,at_)) else (some out,0)
/-- A text's words, or where there is none. -/
def allW (s : Bs) : Option (List Wd) × Nat := allG s (s.length + 1) (blankN s) []
def reserved : List Bs := [[116,111,107,101,110],[115,107,105,112],[108,101,102,116],[114,105,103,104,116],[110,111,110,101],[115,116,97,114,116]]
def resB (s : Bs) : Bool := reserved.contains s
def namedB (s : Bs) : Bool := decide (1 ≤ s.length) && decide (s.length ≤ 16) && !resB s && (match s with
 | [] => false
 | c :: r => letterB c && r.all fun c => letterB c || digitB c)
theorem blankG_le : ∀ (b : Bool) (s : Bs),blankG b s ≤ s.length
 | _,[] => by simp [blankG]
 | true,c :: r => by
  simp only [blankG,List.length_cons]
  have h1 := blankG_le false r
  have h2 := blankG_le true r
  split <;> omega
 | false,c :: r => by
  simp only [blankG,List.length_cons]
  have h1 := blankG_le false r
  have h2 := blankG_le true r
  split
  ·omega
  ·split <;> omega
theorem takeWhile_le {α : Type} (p : α → Bool) (l : List α) : (l.takeWhile p).length ≤ l.length := (List.takeWhile_sublist p).length_le
theorem nameLen_le (s : Bs) : nameLen s ≤ s.length := by
 cases s with
 | nil => simp [nameLen]
 | cons c r =>
  simp only [nameLen,List.length_cons]
  have := takeWhile_le (fun c => letterB c || digitB c) r
  split <;> omega
theorem nameN_le (s : Bs) : nameN s ≤ s.length := by
 have := nameLen_le s
 unfold nameN
 split <;> omega
theorem ruleG_le : ∀ (s : Bs) (n : Nat),ruleG s n ≤ s.length + n
 | [],n => by simp [ruleG]
 | c :: r,n => by
  unfold ruleG
  split
  ·omega
  ·split
   ·simp only [List.length_cons]; omega
   ·split
    ·cases r with
     | nil => simp
     | cons d r' =>
      simp only
      have := ruleG_le r' (n + 2)
      split
      ·omega
      ·simp only [List.length_cons]; omega
    ·have := ruleG_le r (n + 1)
     simp only [List.length_cons]; omega
theorem ruleN_le (s : Bs) : ruleN s ≤ s.length := by
 cases s with
 | nil => simp [ruleN]
 | cons c r =>
  simp only [ruleN,List.length_cons]
  have := ruleG_le r 1
  split <;> omega
theorem signN_le (s : Bs) : signN s ≤ s.length := by
 cases s with
 | nil => simp [signN]
 | cons c r => simp only [signN,List.length_cons]; split <;> omega
theorem cutW_le {s : Bs} {k n : Nat} (h : cutW s = some (k,n)) : 0 < n ∧ n ≤ s.length ∧ 1 ≤ k ∧ k ≤ 3 ∧ (k = 1 → n = nameN s) := by
 have h1 := nameN_le s
 have h2 := ruleN_le s
 have h3 := signN_le s
 unfold cutW at h
 split at h
 ·simp only [Option.some.injEq,Prod.mk.injEq] at h
  omega
 ·split at h
  ·simp only [Option.some.injEq,Prod.mk.injEq] at h
   omega
  ·split at h
   ·simp only [Option.some.injEq,Prod.mk.injEq] at h
    omega
   ·cases h
theorem allG_out (s : Bs) : ∀ (f at_ : Nat) (out l : List Wd),(allG s f at_ out).1 = some l → ∃ m,l = out ++ m
 | 0,_,_,_,h => by simp [allG] at h
 | f + 1,at_,out,l,h => by
  unfold allG at h
  split at h
  ·split at h
   ·rename_i k n _
    obtain ⟨m,rfl⟩ := allG_out s f _ _ l h
    exact ⟨[wordAt s at_ k n] ++ m,by simp⟩
   ·cases h
  ·simp only [Option.some.injEq] at h
   exact ⟨[],by simp [h]⟩
theorem nameLen_all {s : Bs} : nameLen s = s.length ↔ (match s with
 | [] => True
 | c :: r => letterB c = true ∧ r.all (fun c => letterB c || digitB c) = true) := by
 cases s with
 | nil => simp [nameLen]
 | cons c r =>
  simp only [nameLen,List.length_cons]
  have hle := takeWhile_le (fun c => letterB c || digitB c) r
  by_cases h : letterB c = true
  ·rw [if_pos h]
   constructor
   ·intro h1
    refine ⟨h,?_⟩
    have h2 : (r.takeWhile fun c => letterB c || digitB c).length = r.length := by omega
    have h3 : r.takeWhile (fun c => letterB c || digitB c) = r := (List.takeWhile_sublist _).eq_of_length h2
    rw [← h3]
    exact List.all_takeWhile
   ·rintro ⟨_,h2⟩
    have h3 : r.takeWhile (fun c => letterB c || digitB c) = r := by
     rw [List.all_eq_true] at h2
     clear hle h
     induction r with
     | nil => rfl
     | cons d r ih =>
      rw [List.takeWhile_cons,if_pos (h2 d (by simp)),ih fun x hx => h2 x (List.mem_cons_of_mem _ hx)]
    rw [h3]
  ·rw [if_neg h]
   constructor
   ·intro h1; omega
   ·rintro ⟨h1,_⟩; exact absurd h1 h
/-- A text is a name just if it is one word, whole. -/
theorem named_iff (s : Bs) (hs : s.length ≤ 4000) : namedB s = (!resB s && (match (allW s).1 with
 | some [w] => decide (w.kind = 1) && decide (w.text = s)
 | _ => false)) := by
 cases hr : resB s with
 | true => simp [namedB,hr]
 | false =>
  have hnb : namedB s = true ↔ (0 < s.length ∧ s.length ≤ 16 ∧ nameLen s = s.length) := by
   rw [nameLen_all]
   unfold namedB
   cases s with
   | nil => simp
   | cons c r => simp [hr,and_assoc]
  have key : (match (allW s).1 with
   | some [w] => decide (w.kind = 1) && decide (w.text = s)
   | _ => false) = true ↔ (0 < s.length ∧ s.length ≤ 16 ∧ nameLen s = s.length) := by
   constructor
   ·intro h
    split at h
    ·rename_i w hw
     simp only [Bool.and_eq_true,decide_eq_true_eq] at h
     obtain ⟨hk,ht⟩ := h
     unfold allW allG at hw
     split at hw
     ·rename_i hlt
      split at hw
      ·rename_i k n hc
       obtain ⟨h1,h2,h3,h4,h5⟩ := cutW_le hc
       obtain ⟨m,hm⟩ := allG_out _ _ _ _ _ hw
       simp only [List.nil_append,List.singleton_append,List.cons.injEq] at hm
       obtain ⟨hw1,_⟩ := hm
       subst hw1
       simp only [wordAt] at hk ht
       have hk1 : k = 1 := by omega
       subst hk1
       rw [if_neg (by omega)] at ht
       have hl := congrArg List.length ht
       rw [List.length_take,List.length_drop] at hl
       rw [List.length_drop] at h2
       have hb : blankN s = 0 := by omega
       rw [hb,List.drop_zero] at h5
       have hn : n = s.length := by omega
       have h6 := h5 rfl
       unfold nameN at h6
       split at h6 <;> omega
      ·cases hw
     ·simp at hw
    ·cases h
   ·rintro ⟨h1,h2,h3⟩
    have hfirst := nameLen_all.1 h3
    cases s with
    | nil => simp at h1
    | cons c r =>
     have hl : letterB c = true := hfirst.1
     have hbl : blankN (c :: r) = 0 := by
      have hb1 : isBl c = false := by
       simp only [letterB,isBl,Bool.or_eq_true,Bool.and_eq_true,decide_eq_true_eq,beq_iff_eq] at hl ⊢
       simp only [Bool.or_eq_false_iff,beq_eq_false_iff_ne,ne_eq]
       omega
      have hb2 : (c.toNat == 35) = false := by
       simp only [letterB,Bool.or_eq_true,Bool.and_eq_true,decide_eq_true_eq,beq_iff_eq] at hl
       simp only [beq_eq_false_iff_ne,ne_eq]
       omega
      simp [blankN,blankG,hb1,hb2]
     have hn : nameN (c :: r) = (c :: r).length := by
      unfold nameN
      rw [h3,if_neg (by omega)]
     have hcut : cutW (c :: r) = some (1,(c :: r).length) := by
      unfold cutW
      rw [hn,if_pos (by simp)]
     have e : (allW (c :: r)).1 = some [⟨1,0,c :: r⟩] := by
      unfold allW allG
      rw [hbl,if_pos (by simp),List.drop_zero,hcut]
      simp only [Nat.zero_add,List.drop_length]
      have : blankN ([] : Bs) = 0 := rfl
      rw [this]
      have hlen : (c :: r).length = r.length + 1 := rfl
      rw [hlen]
      unfold allG
      rw [if_neg (by simp)]
      simp [wordAt]
     rw [e]
     simp
  cases hx : namedB s with
  | true => simp only [Bool.not_false,Bool.true_and]; exact (key.2 (hnb.1 hx)).symm
  | false =>
   simp only [Bool.not_false,Bool.true_and]
   symm
   rw [Bool.eq_false_iff]
   intro h
   rw [hnb.2 (key.1 h)] at hx
   cases hx
/-! ### Rules -/
def wantsI (op : Int) : Int := if op = 1 ∨ op = 2 then 0 else if op = 5 ∨ op = 6 ∨ op = 7 then 1 else if op = 3 ∨ op = 4 then 2 else -1
def Cel.none_ (c : Cel) : Bool := c.a == 0 && c.b == 0 && c.c == 0 && c.d == 0
def rightG : List Cel → Int → Option Int
 | [],n => some n
 | c :: r,n => if wantsI c.op < 0 ∨ n < wantsI c.op ∨ (c.op == 1) = c.none_ then none else rightG r (n + 1 - wantsI c.op)
def rightB (l : List Cel) : Bool := decide (1 ≤ l.length) && decide (l.length ≤ 60) && (match rightG l 0 with
 | some n => decide (n = 1)
 | none => false)
/-! ### Soundness -/
def Gra.terms (g : Gra) : Nat := (g.rules.filter fun r => !r.skip).length
def Gra.all (g : Gra) : Nat := g.terms + g.nonts.length
def Gra.names (g : Gra) : List Bs := g.rules.map Rul.name ++ g.nonts
def nodupN : List Bs → Bool
 | [] => true
 | s :: l => !l.contains s && nodupN l
def Gra.namesB (g : Gra) : Bool := g.rules.all (fun r => rightB r.re) && g.names.all namedB && nodupN g.names
def Lev.okB (l : Lev) : Bool := (l.power == 0 && l.side == 0) || (decide (0 < l.power) && decide (0 < l.side) && decide (l.side < 4))
def Gra.levelsB (g : Gra) : Bool := decide (g.levels.length = g.terms + 1) && (match g.levels with
 | [] => false
 | l :: r => (l.power == 0 && l.side == 0) && r.all Lev.okB)
def Gra.startB (g : Gra) : Bool := if g.nonts.length = 0 then decide (g.start = 0) else decide ((g.terms : Int) < g.start) && decide (g.start ≤ (g.all : Int))
def Prd.okB (g : Gra) (p : Prd) : Bool := decide ((g.terms : Int) < p.left) && decide (p.left ≤ (g.all : Int)) && decide (p.right.length ≤ 8) && decide (0 ≤ p.prec) && decide (p.prec ≤ (g.terms : Int)) && p.right.all fun n => decide (1 ≤ n) && decide (n ≤ (g.all : Int))
def Gra.sound (g : Gra) : Bool := decide (g.rules.length ≤ 16) && decide (g.nonts.length ≤ 16) && decide (g.prods.length ≤ 40) && g.namesB && g.levelsB && g.startB && g.prods.all (Prd.okB g)
end Go.Abs
/- Names of symbols. -/
namespace Go.Abs
set_option linter.unusedSectionVars false
variable [Kn]
set_option linter.unusedVariables false
set_option linter.unusedSimpArgs false
def cntT (rs : List Rul) : Nat := (rs.filter fun r => !r.skip).length
theorem cntT_le (rs : List Rul) : cntT rs ≤ rs.length := List.length_filter_le _ _
theorem cntT_take_le (rs : List Rul) (i : Nat) : cntT (rs.take i) ≤ i := Nat.le_trans (cntT_le _) (by rw [List.length_take]; omega)
theorem cntT_yes {rs : List Rul} {i : Nat} (h : i < rs.length) (hs : rs[i].skip = false) : cntT (rs.take (i + 1)) = cntT (rs.take i) + 1 := by
 unfold cntT
 rw [List.take_succ_eq_append_getElem h,List.filter_append]
 simp [hs]
theorem cntT_no {rs : List Rul} {i : Nat} (h : i < rs.length) (hs : rs[i].skip = true) : cntT (rs.take (i + 1)) = cntT (rs.take i) := by
 unfold cntT
 rw [List.take_succ_eq_append_getElem h,List.filter_append]
 simp [hs]
/-! ### How great a grammar is -/
structure Small (g : Gra) (np : Nat) : Prop where
 nrules : g.rules.length ≤ 40
 nnonts : g.nonts.length ≤ 40
 nlevels : g.levels.length ≤ 100
 nprods : g.prods.length ≤ np
 rules : ∀ r ∈ g.rules,r.re.length ≤ 100 ∧ r.name.length ≤ 100
 nonts : ∀ s ∈ g.nonts,s.length ≤ 100
 prods : ∀ p ∈ g.prods,p.right.length ≤ 30
theorem any_take_succ {α : Type} (p : α → Bool) (l : List α) (i : Nat) (h : i < l.length) : (l.take (i + 1)).any p = ((l.take i).any p || p l[i]) := by
 rw [List.take_succ_eq_append_getElem h,List.any_append]
 simp
end Go.Abs
/- Plain facts about sets of numbers as rising lists. -/
namespace Go.Abs
/-- A list of numbers, sorted. -/
def sorted (l : List Int) : List Int := l.mergeSort fun x y => decide (x ≤ y)
theorem sorted_length (l : List Int) : (sorted l).length = l.length := List.length_mergeSort l
theorem mem_sorted (l : List Int) (x : Int) : x ∈ sorted l ↔ x ∈ l := List.mem_mergeSort
theorem sorted_rises (l : List Int) : (sorted l).Pairwise (· ≤ ·) := by
 have h := List.pairwise_mergeSort (le := fun x y : Int => decide (x ≤ y)) (by intro a b c; simp; omega) (by intro a b; simp; omega) l
 simpa [sorted] using h
/-- The set of a list. -/
def setOf (zs : List Int) : List Int := Lib.compact (sorted zs)
theorem compactUpTo_facts (zs : List Int) (hz : zs.Pairwise (· ≤ ·)) : ∀ m,m ≤ zs.length →
  (Lib.compactUpTo zs.toArray m).Pairwise (· < ·) ∧ (∀ x,x ∈ Lib.compactUpTo zs.toArray m ↔ x ∈ zs.take m) ∧ (∀ x ∈ Lib.compactUpTo zs.toArray m,0 < m ∧ x ≤ zs.toArray[m - 1]!)
 | 0,_ => by simp [Lib.compactUpTo]
 | m + 1,h => by
  obtain ⟨h1,h2,h3⟩ := compactUpTo_facts zs hz m (by omega)
  have hm : m < zs.length := by omega
  have hg : zs.toArray[m]! = zs[m] := by simp [hm]
  have hle : 0 < m → zs.toArray[m - 1]! ≤ zs[m] := fun hp => by
   have : m - 1 < zs.length := by omega
   have hg' : zs.toArray[m - 1]! = zs[m - 1] := by simp [this]
   rw [hg']
   exact List.pairwise_iff_getElem.1 hz (m - 1) m this hm (by omega)
  rw [Lib.compactUpTo_succ,List.take_succ_eq_append_getElem hm,hg]
  by_cases hk : Lib.keeps zs.toArray m = true
  ·rw [if_pos hk]
   refine ⟨?_,?_,?_⟩
   ·rw [List.pairwise_append]
    refine ⟨h1,by simp,fun x hx y hy => ?_⟩
    simp at hy; subst hy
    obtain ⟨hp,hxl⟩ := h3 x hx
    have := hle hp
    simp only [Lib.keeps,decide_eq_true_eq] at hk
    rcases hk with hk | hk
    ·omega
    ·rw [hg] at hk
     omega
   ·intro x
    rw [List.mem_append,List.mem_append,h2 x]
   ·intro x hx
    refine ⟨by omega,?_⟩
    rw [show m + 1 - 1 = m from by omega,hg]
    simp at hx
    rcases hx with hx | hx
    ·obtain ⟨hp,hxl⟩ := h3 x hx
     have := hle hp
     omega
    ·omega
  ·rw [if_neg hk,List.append_nil]
   simp only [Lib.keeps,decide_eq_true_eq,not_or,Classical.not_not] at hk
   obtain ⟨hk0,hk⟩ := hk
   have hp : 0 < m := by omega
   rw [hg] at hk
   refine ⟨h1,?_,?_⟩
   ·intro x
    rw [h2 x,List.mem_append,List.mem_singleton]
    constructor
    ·exact .inl
    ·rintro (hx | hx)
     ·exact hx
     ·subst hx
      have hm' : m - 1 < zs.length := by omega
      have hg' : zs.toArray[m - 1]! = zs[m - 1] := by simp [hm']
      rw [hk,hg',List.mem_take_iff_getElem]
      exact ⟨m - 1,by omega,rfl⟩
   ·intro x hx
    obtain ⟨_,hxl⟩ := h3 x hx
    refine ⟨by omega,?_⟩
    rw [show m + 1 - 1 = m from by omega,hg]
    rw [hk]
    exact hxl
theorem setOf_rises (l : List Int) : (setOf l).Pairwise (· < ·) := (compactUpTo_facts (sorted l) (sorted_rises l) _ (Nat.le_refl _)).1
theorem mem_setOf (l : List Int) (x : Int) : x ∈ setOf l ↔ x ∈ l := by
 have h := (compactUpTo_facts (sorted l) (sorted_rises l) _ (Nat.le_refl _)).2.1 x
 rw [List.take_length,mem_sorted] at h
 exact h
theorem rises_unique : ∀ s t : List Int,s.Pairwise (· < ·) → t.Pairwise (· < ·) → (∀ x,x ∈ s ↔ x ∈ t) → s = t
 | [],[],_,_,_ => rfl
 | [],y :: t,_,_,h => by have := (h y).2 (by simp); simp at this
 | x :: s,[],_,_,h => by have := (h x).1 (by simp); simp at this
 | x :: s,y :: t,hs,ht,h => by
  rw [List.pairwise_cons] at hs ht
  have e : x = y := by
   have h1 := (h x).1 (by simp)
   have h2 := (h y).2 (by simp)
   simp only [List.mem_cons] at h1 h2
   rcases h1 with h1 | h1
   ·exact h1
   ·rcases h2 with h2 | h2
    ·exact h2.symm
    ·have := hs.1 y h2
     have := ht.1 x h1
     omega
  subst e
  rw [rises_unique s t hs.2 ht.2 fun z => ?_]
  constructor
  ·intro hz
   have h1 := (h z).1 (by simp [hz])
   simp only [List.mem_cons] at h1
   rcases h1 with h1 | h1
   ·have := hs.1 z hz; omega
   ·exact h1
  ·intro hz
   have h1 := (h z).2 (by simp [hz])
   simp only [List.mem_cons] at h1
   rcases h1 with h1 | h1
   ·have := ht.1 z hz; omega
   ·exact h1
theorem compact_len_le (zs : List Int) : (Lib.compact zs).length ≤ zs.length := by
 simp only [Lib.compact,Lib.compactUpTo,List.length_map]
 have := List.length_filter_le (Lib.keeps zs.toArray) (List.range zs.length)
 simpa using this
theorem setOf_length_le (l : List Int) : (setOf l).length ≤ l.length := by
 have := compact_len_le (sorted l)
 rw [sorted_length] at this
 exact this
end Go.Abs
namespace Go.Abs
/-- Is a number above the first k of the set? -/
def Above (S : List Int) (k : Nat) (x : Int) : Prop := k = 0 ∨ ∃ h : k - 1 < S.length,S[k - 1] < x
theorem above_iff (l : List Int) (k : Nat) (hk : k ≤ (setOf l).length) (x : Int) (hx : x ∈ l) : Above (setOf l) k x ↔ ∃ j,∃ h : j < (setOf l).length,k ≤ j ∧ (setOf l)[j] = x := by
 have hr := List.pairwise_iff_getElem.1 (setOf_rises l)
 obtain ⟨j,hj,e⟩ := List.getElem_of_mem ((mem_setOf l x).2 hx)
 constructor
 ·rintro (h0 | ⟨h,hlt⟩)
  ·exact ⟨j,hj,by omega,e⟩
  ·refine ⟨j,hj,?_,e⟩
   rcases Nat.lt_or_ge j k with h' | h'
   ·exfalso
    rcases Nat.lt_or_ge j (k - 1) with h2 | h2
    ·have := hr j (k - 1) hj h h2
     omega
    ·have : j = k - 1 := by omega
     subst this
     omega
   ·exact h'
 ·rintro ⟨j,hj,hkj,e⟩
  by_cases h0 : k = 0
  ·exact .inl h0
  ·have h : k - 1 < (setOf l).length := by omega
   have := hr (k - 1) j h hj (by omega)
   exact .inr ⟨h,by omega⟩
theorem above_end (l : List Int) (k : Nat) (hk : k ≤ (setOf l).length) (h : ∀ x ∈ l,¬ Above (setOf l) k x) : k = (setOf l).length := by
 rcases Nat.lt_or_ge k (setOf l).length with h' | h'
 ·have hm : (setOf l)[k] ∈ l := (mem_setOf l _).1 (List.getElem_mem h')
  exact absurd ((above_iff l k hk _ hm).2 ⟨k,h',Nat.le_refl _,rfl⟩) (h _ hm)
 ·omega
theorem above_least (l : List Int) (k : Nat) (hk : k ≤ (setOf l).length) (y : Int) (hy : y ∈ l) (ha : Above (setOf l) k y) (hm : ∀ x ∈ l,Above (setOf l) k x → y ≤ x) :
  ∃ h : k < (setOf l).length,(setOf l)[k] = y := by
 obtain ⟨j,hj,hkj,e⟩ := (above_iff l k hk y hy).1 ha
 have h' : k < (setOf l).length := by omega
 refine ⟨h',?_⟩
 have hm' : (setOf l)[k] ∈ l := (mem_setOf l _).1 (List.getElem_mem h')
 have h1 := hm _ hm' ((above_iff l k hk _ hm').2 ⟨k,h',Nat.le_refl _,rfl⟩)
 have hr := List.pairwise_iff_getElem.1 (setOf_rises l)
 rcases Nat.lt_or_ge k j with h2 | h2
 ·have := hr k j h' hj h2
  omega
 ·have : j = k := by omega
  subst this
  exact e
end Go.Abs
