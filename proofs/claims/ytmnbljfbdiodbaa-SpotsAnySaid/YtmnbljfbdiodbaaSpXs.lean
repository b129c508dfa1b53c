/- Spots, and cells, as a row hands them. -/
import Derived.Test.YtmnbljfbdiodbaaSpBs
import Derived.Test.YtmnbljfbdiodbaaAbsZ
import Derived.Test.YtmnbljfbdiodbaaTopA
import Derived.Test.YtmnbljfbdiodbaaBytesM
import Derived.Test.YtmnbljfbdiodbaaSpCs
import Derived.Test.YtmnbljfbdiodbaaCkRs
namespace Go.Abs
set_option linter.unusedVariables false
set_option linter.unusedSimpArgs false
def U64 (n : Int) : Prop := 0 ≤ n ∧ n < 18446744073709551616
theorem wf_u64 {n : Int} (h : (Lit.int .u64 n).wf = true) : U64 n := by
 simp [Lit.wf,IntKind.min,IntKind.max,IntKind.signed,IntKind.bits] at h
 unfold U64
 omega
def shSet : List Sh := [.int .u64,.int .u64,.int .u64,.int .u64]
def shSpo : List Sh := [.slc 32 shSet,.bool,.slc 8 [.int .i64],.slc 8 [.int .i64],.slc 24 [.slc 8 [.int .i64]]]
theorem srow_pOf {a b c d : Int} (ha : U64 a) (hb : U64 b) (hc : U64 c) (hd : U64 d) : ∃ p,srow p = [.int .u64 a,.int .u64 b,.int .u64 c,.int .u64 d] := by
 unfold U64 at ha hb hc hd
 have h := ws_pOf (a := a.toNat) (b := b.toNat) (c := c.toNat) (d := d.toNat) (by omega) (by omega) (by omega) (by omega)
 refine ⟨pOf a.toNat b.toNat c.toNat d.toNat,?_⟩
 simp only [ws,List.cons.injEq,and_true] at h
 obtain ⟨h0,h1,h2,h3⟩ := h
 simp only [srow,h0,h1,h2,h3,Int.toNat_of_nonneg ha.1,Int.toNat_of_nonneg hb.1,Int.toNat_of_nonneg hc.1,Int.toNat_of_nonneg hd.1]
theorem set_of (row : List FV) (h : RowC shSet row) : ∃ p : Nat → Bool,row = srow p ∧ True := by
 obtain ⟨x1,r1,rfl,h1,h⟩ := h.cons_inv
 obtain ⟨x2,r2,rfl,h2,h⟩ := h.cons_inv
 obtain ⟨x3,r3,rfl,h3,h⟩ := h.cons_inv
 obtain ⟨x4,r4,rfl,h4,h⟩ := h.cons_inv
 obtain rfl := h.nil_inv
 obtain ⟨n1,rfl,w1⟩ := h1.int_inv
 obtain ⟨n2,rfl,w2⟩ := h2.int_inv
 obtain ⟨n3,rfl,w3⟩ := h3.int_inv
 obtain ⟨n4,rfl,w4⟩ := h4.int_inv
 obtain ⟨p,hp⟩ := srow_pOf (wf_u64 w1) (wf_u64 w2) (wf_u64 w3) (wf_u64 w4)
 exact ⟨p,hp.symm,trivial⟩
structure Spo.ok (p : Spo) : Prop where
 nsets : p.sets.length * 32 ≤ reachBytes
 first : ∀ n ∈ p.first,I64 n
 nfirst : p.first.length * 8 ≤ reachBytes
 last : ∀ n ∈ p.last,I64 n
 nlast : p.last.length * 8 ≤ reachBytes
 fol : ∀ l ∈ p.follow,(∀ n ∈ l,I64 n) ∧ l.length * 8 ≤ reachBytes
 nfol : p.follow.length * 24 ≤ reachBytes
theorem frow_of (row : List FV) (h : RowC [.slc 8 [.int .i64]] row) : ∃ l : List Int,row = [.lst 1 (ints l)] ∧ ((∀ n ∈ l,I64 n) ∧ l.length * 8 ≤ reachBytes) := by
 obtain ⟨x0,r0,rfl,h0,h⟩ := h.cons_inv
 obtain rfl := h.nil_inv
 obtain ⟨l,rfl,w1,w2⟩ := h0.slc_inv iRow I64 int_of
 exact ⟨l,rfl,w1,w2⟩
theorem spo_of (row : List FV) (h : RowC shSpo row) : ∃ p : Spo,row = p.row ∧ p.ok := by
 obtain ⟨x0,r0,rfl,h0,h⟩ := h.cons_inv
 obtain ⟨x1,r1,rfl,h1,h⟩ := h.cons_inv
 obtain ⟨x2,r2,rfl,h2,h⟩ := h.cons_inv
 obtain ⟨x3,r3,rfl,h3,h⟩ := h.cons_inv
 obtain ⟨x4,r4,rfl,h4,h⟩ := h.cons_inv
 obtain rfl := h.nil_inv
 obtain ⟨s,rfl,_,w0⟩ := h0.slc_inv srow (fun _ => True) set_of
 obtain ⟨b,rfl⟩ := h1.bool_inv
 obtain ⟨f,rfl,v2,w2⟩ := h2.slc_inv iRow I64 int_of
 obtain ⟨l,rfl,v3,w3⟩ := h3.slc_inv iRow I64 int_of
 obtain ⟨fo,rfl,v4,w4⟩ := h4.slc_inv (fun l => [.lst 1 (ints l)]) (fun l => (∀ n ∈ l,I64 n) ∧ l.length * 8 ≤ reachBytes) frow_of
 exact ⟨⟨s,b,f,l,fo⟩,rfl,w0,v2,w2,v3,w3,v4,w4⟩
end Go.Abs
/- A rule's spots, cell by cell: plain. -/
namespace Go.Abs
set_option linter.unusedVariables false
set_option linter.unusedSimpArgs false
def Cel.pset (c : Cel) : Nat → Bool := pOf c.a.toNat c.b.toNat c.c.toNat c.d.toNat
def Cel.okk (c : Cel) : Prop := I64 c.op ∧ U64 c.a ∧ U64 c.b ∧ U64 c.c ∧ U64 c.d
theorem cel_ofk (row : List FV) (h : RowC shCel row) : ∃ c : Cel,row = c.row ∧ c.okk := by
 obtain ⟨x0,r0,rfl,h0,h⟩ := h.cons_inv
 obtain ⟨x1,r1,rfl,h1,h⟩ := h.cons_inv
 obtain ⟨x2,r2,rfl,h2,h⟩ := h.cons_inv
 obtain ⟨x3,r3,rfl,h3,h⟩ := h.cons_inv
 obtain ⟨x4,r4,rfl,h4,h⟩ := h.cons_inv
 obtain rfl := h.nil_inv
 obtain ⟨n0,rfl,w0⟩ := h0.int_inv
 obtain ⟨n1,rfl,w1⟩ := h1.int_inv
 obtain ⟨n2,rfl,w2⟩ := h2.int_inv
 obtain ⟨n3,rfl,w3⟩ := h3.int_inv
 obtain ⟨n4,rfl,w4⟩ := h4.int_inv
 exact ⟨⟨n0,n1,n2,n3,n4⟩,rfl,wf_i64 w0,wf_u64 w1,wf_u64 w2,wf_u64 w3,wf_u64 w4⟩
theorem pset_row {c : Cel} (h : c.okk) : srow c.pset = [.int .u64 c.a,.int .u64 c.b,.int .u64 c.c,.int .u64 c.d] := by
 obtain ⟨_,ha,hb,hc,hd⟩ := h
 unfold U64 at ha hb hc hd
 have h := ws_pOf (a := c.a.toNat) (b := c.b.toNat) (c := c.c.toNat) (d := c.d.toNat) (by omega) (by omega) (by omega) (by omega)
 simp only [ws,List.cons.injEq,and_true] at h
 obtain ⟨h0,h1,h2,h3⟩ := h
 unfold Cel.pset
 simp only [srow,h0,h1,h2,h3,Int.toNat_of_nonneg ha.1,Int.toNat_of_nonneg hb.1,Int.toNat_of_nonneg hc.1,Int.toNat_of_nonneg hd.1]
structure Prt where
 null : Bool
 first : List Int
 last : List Int
def Prt.row (x : Prt) : List FV := [.bool x.null,.lst 1 (ints x.first),.lst 1 (ints x.last)]
structure Bld where
 sets : List (Nat → Bool)
 fol : List (List Int)
 stk : List Prt
def linkL (F : List (List Int)) (fr to_ : List Int) : List (List Int) := fr.foldl (fun F k => F.set k.toNat (setOf (F.getD k.toNat [] ++ to_))) F
def orP (x y : Prt) : Prt := ⟨x.null || y.null,setOf (x.first ++ y.first),setOf (x.last ++ y.last)⟩
def catP (x y : Prt) : Prt := ⟨x.null && y.null,if x.null = true then setOf (x.first ++ y.first) else x.first,if y.null = true then setOf (x.last ++ y.last) else y.last⟩
def stepB (b : Bld) (c : Cel) : Bld :=
 if c.op = 1 then ⟨b.sets ++ [c.pset],b.fol ++ [[]],⟨false,[(b.sets.length : Int)],[(b.sets.length : Int)]⟩ :: b.stk⟩
 else if c.op = 2 then ⟨b.sets,b.fol,⟨true,[],[]⟩ :: b.stk⟩
 else match b.stk with
  | [] => b
  | y :: st =>
   if c.op = 7 then ⟨b.sets,b.fol,⟨true,y.first,y.last⟩ :: st⟩
   else if c.op = 5 ∨ c.op = 6 then ⟨b.sets,linkL b.fol y.last y.first,⟨y.null || decide (c.op = 5),y.first,y.last⟩ :: st⟩
   else match st with
    | [] => b
    | x :: st =>
     if c.op = 4 then ⟨b.sets,b.fol,orP x y :: st⟩
     else if c.op = 3 then ⟨b.sets,linkL b.fol x.last y.first,catP x y :: st⟩ else b
def cnt1 (l : List Cel) : Nat := (l.filter fun c => decide (c.op = 1)).length
/-- The cells from one place up to another are one operand, and this is what it has. -/
inductive Opd (l : List Cel) : Nat → Nat → Prt → Prop
 | set (i : Nat) (c : Cel) (h : l[i]? = some c) (o : c.op = 1) : Opd l i (i + 1) ⟨false,[(cnt1 (l.take i) : Int)],[(cnt1 (l.take i) : Int)]⟩
 | empty (i : Nat) (c : Cel) (h : l[i]? = some c) (o : c.op = 2) : Opd l i (i + 1) ⟨true,[],[]⟩
 | star (s e : Nat) (y : Prt) (c : Cel) (b : Bool) (x : Opd l s e y) (h : l[e]? = some c) (o : ((c.op = 5 ∨ c.op = 7) ∧ b = true) ∨ (c.op = 6 ∧ b = y.null)) : Opd l s (e + 1) ⟨b,y.first,y.last⟩
 | cat (s m e : Nat) (x y : Prt) (c : Cel) (hx : Opd l s m x) (hy : Opd l m e y) (h : l[e]? = some c) (o : c.op = 3) : Opd l s (e + 1) (catP x y)
 | or (s m e : Nat) (x y : Prt) (c : Cel) (hx : Opd l s m x) (hy : Opd l m e y) (h : l[e]? = some c) (o : c.op = 4) : Opd l s (e + 1) (orP x y)
theorem opd_seg {l : List Cel} {s e : Nat} {x : Prt} (h : Opd l s e x) : Seg l s e x.null := by
 induction h with
 | set i c h o => exact .one i c _ h (.inl ⟨o,rfl⟩)
 | empty i c h o => exact .one i c _ h (.inr ⟨o,rfl⟩)
 | star s e y c b x h o ih => exact .star s e _ _ c ih h o
 | cat s m e x y c hx hy h o i1 i2 => exact .two s m e _ _ _ c i1 i2 h (.inl ⟨o,rfl⟩)
 | or s m e x y c hx hy h o i1 i2 => exact .two s m e _ _ _ c i1 i2 h (.inr ⟨o,rfl⟩)
def StkP (l : List Cel) : List Prt → Nat → Prop
 | [],e => e = 0
 | x :: st,e => ∃ m,Opd l m e x ∧ StkP l st m
structure PI (n : Nat) (x : Prt) : Prop where
 fr : x.first.Pairwise (· < ·)
 fb : ∀ k ∈ x.first,inB n k = true
 lr : x.last.Pairwise (· < ·)
 lb : ∀ k ∈ x.last,inB n k = true
theorem inB_up {n m : Nat} {k : Int} (h : inB n k = true) (hm : n ≤ m) : inB m k = true := by
 rw [inB_iff] at h ⊢
 omega
theorem PI.up {n m : Nat} {x : Prt} (h : PI n x) (hm : n ≤ m) : PI m x := ⟨h.fr,fun k hk => inB_up (h.fb k hk) hm,h.lr,fun k hk => inB_up (h.lb k hk) hm⟩
theorem inB_len {n : Nat} {l : List Int} (h : l.Pairwise (· < ·)) (hb : ∀ k ∈ l,inB n k = true) : l.length ≤ n :=
 rises_len (a := -1) h fun x hx => by
  have := inB_iff.1 (hb x hx)
  omega
theorem set_app {n : Nat} {a b : List Int} (ha : ∀ k ∈ a,inB n k = true) (hb : ∀ k ∈ b,inB n k = true) : (setOf (a ++ b)).Pairwise (· < ·) ∧ ∀ k ∈ setOf (a ++ b),inB n k = true := by
 refine ⟨setOf_rises _,fun k hk => ?_⟩
 rw [mem_setOf,List.mem_append] at hk
 rcases hk with h | h
 ·exact ha k h
 ·exact hb k h
theorem PI.or {n : Nat} {x y : Prt} (hx : PI n x) (hy : PI n y) : PI n (orP x y) :=
 ⟨(set_app hx.fb hy.fb).1,(set_app hx.fb hy.fb).2,(set_app hx.lb hy.lb).1,(set_app hx.lb hy.lb).2⟩
theorem PI.cat {n : Nat} {x y : Prt} (hx : PI n x) (hy : PI n y) : PI n (catP x y) := by
 refine ⟨?_,?_,?_,?_⟩ <;> (simp only [catP]; split)
 ·exact (set_app hx.fb hy.fb).1
 ·exact hx.fr
 ·exact (set_app hx.fb hy.fb).2
 ·exact hx.fb
 ·exact (set_app hx.lb hy.lb).1
 ·exact hy.lr
 ·exact (set_app hx.lb hy.lb).2
 ·exact hy.lb
def FI (n : Nat) (F : List (List Int)) : Prop := ∀ f ∈ F,f.Pairwise (· < ·) ∧ ∀ k ∈ f,inB n k = true
theorem FI.link {n : Nat} {to_ : List Int} (ht : ∀ k ∈ to_,inB n k = true) : ∀ (fr : List Int) (F : List (List Int)),FI n F → FI n (linkL F fr to_) ∧ (linkL F fr to_).length = F.length
 | [],F,h => ⟨h,rfl⟩
 | k :: fr,F,h => by
  have h1 : FI n (F.set k.toNat (setOf (F.getD k.toNat [] ++ to_))) := fun f hf => by
   rcases List.mem_or_eq_of_mem_set hf with hf | rfl
   ·exact h f hf
   ·refine set_app (fun j hj => ?_) ht
    rw [List.getD_eq_getElem?_getD] at hj
    cases hx : F[k.toNat]? with
    | none => rw [hx] at hj; simp at hj
    | some g => rw [hx] at hj; exact (h g (List.mem_of_getElem? hx)).2 j hj
  obtain ⟨h2,h3⟩ := FI.link ht fr _ h1
  exact ⟨h2,by rw [List.length_set] at h3; exact h3⟩
structure BI (l : List Cel) (i : Nat) (b : Bld) : Prop where
 sets : b.sets = ((l.take i).filter fun c => decide (c.op = 1)).map Cel.pset
 nf : b.fol.length = b.sets.length
 stk : StkP l b.stk i
 prt : ∀ x ∈ b.stk,PI b.sets.length x
 fol : FI b.sets.length b.fol
 right : rightG (l.drop i) b.stk.length = some 1
theorem BI.cnt {l : List Cel} {i : Nat} {b : Bld} (h : BI l i b) : b.sets.length = cnt1 (l.take i) := by rw [h.sets,List.length_map]; rfl
theorem stepB_cases {l : List Cel} {i : Nat} {b : Bld} {c : Cel} (h : BI l i b) (hlt : i < l.length) (hc : l[i] = c) :
  (c.op = 1 ∧ stepB b c = ⟨b.sets ++ [c.pset],b.fol ++ [[]],⟨false,[(b.sets.length : Int)],[(b.sets.length : Int)]⟩ :: b.stk⟩) ∨
  (c.op = 2 ∧ stepB b c = ⟨b.sets,b.fol,⟨true,[],[]⟩ :: b.stk⟩) ∨
  (∃ y st,b.stk = y :: st ∧ ((c.op = 7 ∧ stepB b c = ⟨b.sets,b.fol,⟨true,y.first,y.last⟩ :: st⟩) ∨
   ((c.op = 5 ∨ c.op = 6) ∧ stepB b c = ⟨b.sets,linkL b.fol y.last y.first,⟨y.null || decide (c.op = 5),y.first,y.last⟩ :: st⟩))) ∨
  (∃ y x st,b.stk = y :: x :: st ∧ ((c.op = 4 ∧ stepB b c = ⟨b.sets,b.fol,orP x y :: st⟩) ∨ (c.op = 3 ∧ stepB b c = ⟨b.sets,linkL b.fol x.last y.first,catP x y :: st⟩))) := by
 have hr := h.right
 clear h
 rw [List.drop_eq_getElem_cons hlt,hc] at hr
 obtain ⟨hw0,hw1,hg2⟩ := rightG_next hr
 obtain ⟨sets,fol,stk⟩ := b
 simp only at hw1 ⊢
 rcases op_cases hw0 with h | h | h | h | h | h | h
 ·exact .inl ⟨h,by simp [stepB,h]⟩
 ·exact .inr (.inl ⟨h,by simp [stepB,h]⟩)
 ·rw [h,w3] at hw1
  match stk,hw1 with
  | [],hw1 => simp at hw1
  | [_],hw1 => simp at hw1
  | y :: x :: st,_ => exact .inr (.inr (.inr ⟨y,x,st,rfl,.inr ⟨h,by simp [stepB,h]⟩⟩))
 ·rw [h,w4] at hw1
  match stk,hw1 with
  | [],hw1 => simp at hw1
  | [_],hw1 => simp at hw1
  | y :: x :: st,_ => exact .inr (.inr (.inr ⟨y,x,st,rfl,.inl ⟨h,by simp [stepB,h]⟩⟩))
 ·rw [h,w5] at hw1
  match stk,hw1 with
  | [],hw1 => simp at hw1
  | y :: st,_ => exact .inr (.inr (.inl ⟨y,st,rfl,.inr ⟨.inl h,by simp [stepB,h]⟩⟩))
 ·rw [h,w6] at hw1
  match stk,hw1 with
  | [],hw1 => simp at hw1
  | y :: st,_ => exact .inr (.inr (.inl ⟨y,st,rfl,.inr ⟨.inr h,by simp [stepB,h]⟩⟩))
 ·rw [h,w7] at hw1
  match stk,hw1 with
  | [],hw1 => simp at hw1
  | y :: st,_ => exact .inr (.inr (.inl ⟨y,st,rfl,.inl ⟨h,by simp [stepB,h]⟩⟩))
theorem BI.step {l : List Cel} {i : Nat} {b : Bld} (h : BI l i b) (hlt : i < l.length) : BI l (i + 1) (stepB b l[i]) := by
 have hci : l[i]? = some l[i] := List.getElem?_eq_getElem hlt
 have hr := h.right
 rw [List.drop_eq_getElem_cons hlt] at hr
 obtain ⟨hw0,hw1,hg2⟩ := rightG_next hr
 have hts := List.take_succ_eq_append_getElem hlt
 have hcn := h.cnt
 have hss := h.sets
 have hno : l[i].op ≠ 1 → ((l.take (i + 1)).filter fun c => decide (c.op = 1)).map Cel.pset = b.sets := fun hn => by
  rw [hts,List.filter_append,List.map_append,← hss]
  simp [hn]
 rcases stepB_cases h hlt rfl with ⟨o,e⟩ | ⟨o,e⟩ | ⟨y,st,es,⟨o,e⟩ | ⟨o,e⟩⟩ | ⟨y,x,st,es,⟨o,e⟩ | ⟨o,e⟩⟩
 ·rw [e]
  rw [o,w1] at hg2
  refine ⟨?_,by simp [h.nf],⟨i,?_,h.stk⟩,fun x hx => ?_,fun f hf => ?_,?_⟩
  ·rw [hts,List.filter_append,List.map_append,← hss]
   simp [o]
  ·have := Opd.set (l := l) i l[i] hci o
   rw [← hcn] at this
   exact this
  ·simp only [List.length_append,List.length_cons,List.length_nil]
   rcases List.mem_cons.1 hx with rfl | hx
   ·refine ⟨by simp,fun k hk => ?_,by simp,fun k hk => ?_⟩ <;> (simp only [List.mem_singleton] at hk; rw [inB_iff]; omega)
   ·exact (h.prt x hx).up (by omega)
  ·simp only [List.length_append,List.length_cons,List.length_nil]
   rcases List.mem_append.1 hf with hf | hf
   ·exact ⟨(h.fol f hf).1,fun k hk => inB_up ((h.fol f hf).2 k hk) (by omega)⟩
   ·simp only [List.mem_singleton] at hf
    subst hf
    exact ⟨.nil,by simp⟩
  ·rw [← hg2]; congr 1 <;> (simp only [List.length_cons]; try omega)
 ·rw [e]
  rw [o,w2] at hg2
  refine ⟨(hno (by omega)).symm,h.nf,⟨i,.empty i l[i] hci o,h.stk⟩,fun x hx => ?_,h.fol,?_⟩
  ·rcases List.mem_cons.1 hx with rfl | hx
   ·exact ⟨.nil,by simp,.nil,by simp⟩
   ·exact h.prt x hx
  ·rw [← hg2]; congr 1 <;> (simp only [List.length_cons]; try omega)
 ·rw [e]
  rw [o,w7,es] at hg2
  have hk := h.stk
  rw [es] at hk
  obtain ⟨m,ho,hk⟩ := hk
  have hy := h.prt y (by rw [es]; simp)
  refine ⟨(hno (by omega)).symm,h.nf,⟨m,.star m i y _ true ho hci (.inl ⟨.inr o,rfl⟩),hk⟩,fun x hx => ?_,h.fol,?_⟩
  ·rcases List.mem_cons.1 hx with rfl | hx
   ·exact ⟨hy.fr,hy.fb,hy.lr,hy.lb⟩
   ·exact h.prt x (by rw [es]; exact List.mem_cons_of_mem _ hx)
  ·rw [← hg2]; congr 1 <;> (simp only [List.length_cons]; try omega)
 ·rw [e]
  have hwi : wantsI l[i].op = 1 := by rcases o with o | o <;> rw [o] <;> decide
  rw [hwi,es] at hg2
  have hk := h.stk
  rw [es] at hk
  obtain ⟨m,ho,hk⟩ := hk
  have hy := h.prt y (by rw [es]; simp)
  obtain ⟨f1,f2⟩ := FI.link hy.fb y.last b.fol h.fol
  refine ⟨(hno (by omega)).symm,by simp only [f2]; exact h.nf,⟨m,.star m i y _ _ ho hci ?_,hk⟩,fun x hx => ?_,f1,?_⟩
  ·rcases o with o | o
   ·exact .inl ⟨.inl o,by simp [o]⟩
   ·exact .inr ⟨o,by simp [o]⟩
  ·rcases List.mem_cons.1 hx with rfl | hx
   ·exact ⟨hy.fr,hy.fb,hy.lr,hy.lb⟩
   ·exact h.prt x (by rw [es]; exact List.mem_cons_of_mem _ hx)
  ·rw [← hg2]; congr 1 <;> (simp only [List.length_cons]; try omega)
 ·rw [e]
  rw [o,w4,es] at hg2
  have hk := h.stk
  rw [es] at hk
  obtain ⟨m,ho,m2,ho2,hk⟩ := hk
  have hy := h.prt y (by rw [es]; simp)
  have hx := h.prt x (by rw [es]; simp)
  refine ⟨(hno (by omega)).symm,h.nf,⟨m2,.or m2 m i x y _ ho2 ho hci o,hk⟩,fun z hz => ?_,h.fol,?_⟩
  ·rcases List.mem_cons.1 hz with rfl | hz
   ·exact hx.or hy
   ·exact h.prt z (by rw [es]; exact List.mem_cons_of_mem _ (List.mem_cons_of_mem _ hz))
  ·rw [← hg2]; congr 1 <;> (simp only [List.length_cons]; try omega)
 ·rw [e]
  rw [o,w3,es] at hg2
  have hk := h.stk
  rw [es] at hk
  obtain ⟨m,ho,m2,ho2,hk⟩ := hk
  have hy := h.prt y (by rw [es]; simp)
  have hx := h.prt x (by rw [es]; simp)
  obtain ⟨f1,f2⟩ := FI.link hy.fb x.last b.fol h.fol
  refine ⟨(hno (by omega)).symm,by simp only [f2]; exact h.nf,⟨m2,.cat m2 m i x y _ ho2 ho hci o,hk⟩,fun z hz => ?_,f1,?_⟩
  ·rcases List.mem_cons.1 hz with rfl | hz
   ·exact hx.cat hy
   ·exact h.prt z (by rw [es]; exact List.mem_cons_of_mem _ (List.mem_cons_of_mem _ hz))
  ·rw [← hg2]; congr 1 <;> (simp only [List.length_cons]; try omega)
def buildAt (l : List Cel) (i : Nat) : Bld := (l.take i).foldl stepB ⟨[],[],[]⟩
theorem buildAt_succ {l : List Cel} {i : Nat} (h : i < l.length) : buildAt l (i + 1) = stepB (buildAt l i) l[i] := by
 unfold buildAt
 rw [List.take_succ_eq_append_getElem h,List.foldl_append]
 rfl
theorem buildAt_inv {l : List Cel} (hr : rightB l = true) : ∀ i,i ≤ l.length → BI l i (buildAt l i)
 | 0,_ => ⟨rfl,rfl,rfl,by simp [buildAt],by simp [buildAt,FI],by rw [List.drop_zero]; exact (rightB_get hr).2⟩
 | i + 1,h => by
  rw [buildAt_succ (by omega)]
  exact (buildAt_inv hr i (by omega)).step (by omega)
theorem buildAt_end {l : List Cel} (hr : rightB l = true) : ∃ x,(buildAt l l.length).stk = [x] ∧ Opd l 0 l.length x ∧ PI (buildAt l l.length).sets.length x := by
 have h := buildAt_inv hr l.length (Nat.le_refl _)
 have h1 := h.right
 rw [List.drop_length,rightG] at h1
 have h2 := h.stk
 have h3 := h.prt
 generalize (buildAt l l.length).stk = st at h1 h2 h3
 match st,h1,h2,h3 with
 | [],h1,_,_ => simp at h1
 | [x],_,⟨m,ho,hm⟩,h3 =>
  obtain rfl : m = 0 := hm
  exact ⟨x,rfl,ho,h3 x (by simp)⟩
 | _ :: _ :: _,h1,_,_ => simp at h1; omega
/-- A rule's spots. -/
def spotsL (l : List Cel) : Spo :=
 let b := buildAt l l.length
 let x := b.stk.getD 0 ⟨false,[],[]⟩
 ⟨b.sets,x.null,x.first,x.last,b.fol⟩
theorem cnt1_le (l : List Cel) : cnt1 l ≤ l.length := List.length_filter_le _ _
end Go.Abs
