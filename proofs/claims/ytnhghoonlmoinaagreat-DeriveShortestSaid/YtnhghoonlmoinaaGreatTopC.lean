/- What is reached, what ends: closed lists, and the least one. -/
import Derived.Test.YtnhghoonlmoinaaGreatTopA
namespace Go.Abs
set_option linter.unusedSectionVars false
variable [Kn]
set_option linter.unusedVariables false
set_option linter.unusedSimpArgs false
/-! ### Lists that only grow -/
def iter {α : Type} (f : α → α) : Nat → α → α
 | 0,x => x
 | n + 1,x => iter f n (f x)
theorem iter_fix {α : Type} (f : α → α) {x : α} (h : f x = x) : ∀ n,iter f n x = x
 | 0 => rfl
 | n + 1 => by rw [iter,h]; exact iter_fix f h n
theorem iter_inv {α : Type} (f : α → α) (I : α → Prop) (hI : ∀ x,I x → I (f x)) : ∀ n x,I x → I (iter f n x)
 | 0,_,h => h
 | n + 1,x,h => iter_inv f I hI n _ (hI x h)
/-- A list that only grows, and not beyond a bound, stands in the end. -/
theorem iter_stands {α : Type} (f : List α → List α) (I : List α → Prop) (hI : ∀ x,I x → I (f x)) (hext : ∀ x,I x → ∃ m,f x = x ++ m) (N : Nat) (hN : ∀ x,I x → x.length ≤ N) :
  ∀ n x,I x → N < n + x.length → f (iter f n x) = iter f n x
 | 0,x,h,hl => by have := hN x h; omega
 | n + 1,x,h,hl => by
  rw [iter]
  obtain ⟨m,hm⟩ := hext x h
  cases m with
  | nil =>
   rw [List.append_nil] at hm
   rw [hm,iter_fix f hm n,hm]
  | cons a m =>
   refine iter_stands f I hI hext N hN n _ (hI x h) ?_
   rw [hm,List.length_append,List.length_cons]
   omega
/-! ### What is reached -/
inductive Reach (g : Gra) : Int → Prop
 | start (h : (g.terms : Int) < g.start) : Reach g g.start
 | step (p : Prd) (k : Int) (hp : p ∈ g.prods) (hl : Reach g p.left) (hk : k ∈ p.right) (ht : (g.terms : Int) < k) : Reach g k
inductive Ended (g : Gra) : Int → Prop
 | mk (p : Prd) (hp : p ∈ g.prods) (h : ∀ k ∈ p.right,(g.terms : Int) < k → Ended g k) : Ended g p.left
/-- The nonterminals that are so. -/
noncomputable def Gra.those (g : Gra) (Q : Int → Prop) : List Int :=
 haveI : DecidablePred Q := fun n => Classical.propDecidable (Q n)
 ((List.range g.nonts.length).map fun i : Nat => (g.terms : Int) + 1 + i).filter fun n => decide (Q n)
theorem Gra.mem_those (g : Gra) (Q : Int → Prop) (n : Int) : n ∈ g.those Q ↔ ((g.terms : Int) < n ∧ n ≤ (g.all : Int)) ∧ Q n := by
 unfold Gra.those
 simp only [List.mem_filter,List.mem_map,List.mem_range,decide_eq_true_eq]
 constructor
 ·rintro ⟨⟨i,hi,rfl⟩,h⟩
  exact ⟨⟨by omega,by unfold Gra.all; omega⟩,h⟩
 ·rintro ⟨⟨h1,h2⟩,h⟩
  exact ⟨⟨(n - g.terms - 1).toNat,by unfold Gra.all at h2; omega,by omega⟩,h⟩
theorem Gra.those_rises (g : Gra) (Q : Int → Prop) : (g.those Q).Pairwise (· < ·) := by
 unfold Gra.those
 refine List.Pairwise.filter _ ?_
 rw [List.pairwise_map]
 exact List.pairwise_lt_range.imp fun h => by omega
theorem Gra.setOf_those (g : Gra) (Q : Int → Prop) {l : List Int} (h : ∀ n,n ∈ l ↔ ((g.terms : Int) < n ∧ n ≤ (g.all : Int)) ∧ Q n) : setOf l = g.those Q :=
 rises_unique _ _ (setOf_rises l) (g.those_rises Q) fun n => by rw [mem_setOf,h n,g.mem_those]
theorem Gra.those_length (g : Gra) (Q : Int → Prop) : (g.those Q).length ≤ g.nonts.length := by
 unfold Gra.those
 refine Nat.le_trans (List.length_filter_le _ _) ?_
 simp
/-- Lists of nonterminals, each once, are no longer than these. -/
theorem Gra.nont_len (g : Gra) {l : List Int} (hnd : l.Nodup) (hl : ∀ n ∈ l,(g.terms : Int) < n ∧ n ≤ (g.all : Int)) : l.length ≤ g.nonts.length := by
 have h1 : (setOf l).length = l.length := by
  have e := g.setOf_those (fun n => n ∈ l) (l := l) (fun n => ⟨fun h => ⟨hl n h,h⟩,fun h => h.2⟩)
  have hp : (setOf l).Perm l := by
   rw [List.perm_ext_iff_of_nodup ((setOf_rises l).imp fun h => by omega) hnd]
   exact mem_setOf l
  exact hp.length_eq
 have e := g.setOf_those (fun n => n ∈ l) (l := l) (fun n => ⟨fun h => ⟨hl n h,h⟩,fun h => h.2⟩)
 rw [← h1,e]
 exact g.those_length _
structure Sound (g : Gra) : Prop where
 prods : ∀ p ∈ g.prods,(g.terms : Int) < p.left ∧ p.left ≤ (g.all : Int) ∧ p.right.length ≤ 8 ∧ 0 ≤ p.prec ∧ p.prec ≤ (g.terms : Int) ∧ ∀ n ∈ p.right,1 ≤ n ∧ n ≤ (g.all : Int)
 start : (g.nonts = [] → g.start = 0) ∧ (g.nonts ≠ [] → (g.terms : Int) < g.start ∧ g.start ≤ (g.all : Int))
 nrules : g.rules.length ≤ 16
 nnonts : g.nonts.length ≤ 16
 nprods : g.prods.length ≤ 40
theorem Gra.sound_iff {g : Gra} (h : g.sound = true) : Sound g := by
 simp only [Gra.sound,Bool.and_eq_true,decide_eq_true_eq,List.all_eq_true] at h
 obtain ⟨⟨⟨⟨⟨⟨h1,h2⟩,h3⟩,_⟩,_⟩,h6⟩,h7⟩ := h
 refine ⟨fun p hp => ?_,⟨fun hn => ?_,fun hn => ?_⟩,h1,h2,h3⟩
 ·have := h7 p hp
  simp only [Prd.okB,Bool.and_eq_true,decide_eq_true_eq,List.all_eq_true] at this
  obtain ⟨⟨⟨⟨⟨a,b⟩,c⟩,d⟩,e⟩,f⟩ := this
  exact ⟨a,b,c,d,e,f⟩
 ·unfold Gra.startB at h6
  rw [if_pos (by simp [hn])] at h6
  simpa using h6
 ·unfold Gra.startB at h6
  rw [if_neg (by simpa using hn)] at h6
  simpa using h6
theorem Sound.terms_le {g : Gra} (h : Sound g) : g.terms ≤ 16 := by
 have := List.length_filter_le (fun r : Rul => !r.skip) g.rules
 have := h.nrules
 unfold Gra.terms
 omega
theorem Sound.reach {g : Gra} (h : Sound g) {n : Int} (hr : Reach g n) : (g.terms : Int) < n ∧ n ≤ (g.all : Int) := by
 cases hr with
 | start ht =>
  refine ⟨ht,?_⟩
  by_cases hn : g.nonts = []
  ·have := h.start.1 hn; omega
  ·exact (h.start.2 hn).2
 | step p k hp hl hk ht => exact ⟨ht,((h.prods p hp).2.2.2.2.2 n hk).2⟩
theorem Sound.ended {g : Gra} (h : Sound g) {n : Int} (hr : Ended g n) : (g.terms : Int) < n ∧ n ≤ (g.all : Int) := by
 cases hr with
 | mk p hp _ => exact ⟨(h.prods p hp).1,(h.prods p hp).2.1⟩
/-! ### Steps that add one number or none -/
/-- Steps over a list of things, each of which may add one number. -/
def adds {β : Type} (c : List Int → β → Option Int) (out : List Int) (b : β) : List Int := match c out b with
 | some n => out ++ [n]
 | none => out
theorem adds_ext {β : Type} (c : List Int → β → Option Int) : ∀ (l : List β) (out : List Int),∃ m,l.foldl (adds c) out = out ++ m
 | [],out => ⟨[],by simp⟩
 | b :: l,out => by
  obtain ⟨m,hm⟩ := adds_ext c l (adds c out b)
  rw [List.foldl_cons,hm]
  unfold adds
  split
  ·rename_i n _; exact ⟨[n] ++ m,by simp⟩
  ·exact ⟨m,rfl⟩
/-- Where nothing was added, nobody would. -/
theorem adds_fix {β : Type} (c : List Int → β → Option Int) : ∀ (l : List β) (out : List Int),l.foldl (adds c) out = out → ∀ b ∈ l,c out b = none
 | [],out,_,b,hb => by simp at hb
 | b0 :: l,out,h,b,hb => by
  rw [List.foldl_cons] at h
  cases hc : c out b0 with
  | some n =>
   exfalso
   obtain ⟨m,hm⟩ := adds_ext c l (adds c out b0)
   rw [hm] at h
   simp only [adds,hc] at h
   have := congrArg List.length h
   simp at this
  | none =>
   have e : adds c out b0 = out := by simp [adds,hc]
   rw [e] at h
   rcases List.mem_cons.1 hb with rfl | hb
   ·exact hc
   ·exact adds_fix c l out h b hb
/-! ### The document's rounds -/
def endsC (T : Nat) (out : List Int) (p : Prd) : Option Int := if (∀ n ∈ p.right,n ≤ (T : Int) ∨ n ∈ out) ∧ p.left ∉ out then some p.left else none
def endsP (g : Gra) (out : List Int) : List Int := g.prods.foldl (adds (endsC g.terms)) out
def refEnds (g : Gra) : List Int := iter (endsP g) (g.nonts.length + 1) []
def EndsI (g : Gra) (l : List Int) : Prop := l.Nodup ∧ ∀ x ∈ l,Ended g x
theorem endsC_inv {g : Gra} {out : List Int} {p : Prd} {n : Int} (hI : EndsI g out) (hp : p ∈ g.prods) (hc : endsC g.terms out p = some n) : EndsI g (out ++ [n]) := by
 unfold endsC at hc
 split at hc
 ·rename_i hcc
  cases hc
  refine ⟨?_,fun x hx => ?_⟩
  ·rw [List.nodup_append]
   exact ⟨hI.1,by simp,fun a ha b' hb' => by rw [List.mem_singleton] at hb'; subst hb'; exact fun e => hcc.2 (e ▸ ha)⟩
  ·rcases List.mem_append.1 hx with hx | hx
   ·exact hI.2 x hx
   ·rw [List.mem_singleton] at hx
    subst hx
    exact .mk p hp fun k hk ht => by
     rcases hcc.1 k hk with h1 | h1
     ·omega
     ·exact hI.2 k h1
 ·cases hc
theorem EndsI.fold {g : Gra} : ∀ (l : List Prd) (out : List Int),(∀ p ∈ l,p ∈ g.prods) → EndsI g out → EndsI g (l.foldl (adds (endsC g.terms)) out)
 | [],out,_,hI => hI
 | p :: l,out,hl,hI => by
  rw [List.foldl_cons]
  refine EndsI.fold l _ (fun q hq => hl q (List.mem_cons_of_mem _ hq)) ?_
  unfold adds
  split
  ·rename_i n hc; exact endsC_inv hI (hl p (by simp)) hc
  ·exact hI
/-- A list to which no production adds is all that ends. -/
theorem EndsI.closed {g : Gra} {l : List Int} (hI : EndsI g l) (hc : ∀ p ∈ g.prods,endsC g.terms l p = none) (n : Int) : n ∈ l ↔ Ended g n := by
 constructor
 ·exact hI.2 n
 ·intro hr
  induction hr with
  | mk p hp h ih =>
   have h1 := hc p hp
   unfold endsC at h1
   split at h1
   ·cases h1
   ·rename_i hcc
    apply Classical.byContradiction
    intro hne
    refine hcc ⟨fun k hk => ?_,hne⟩
    by_cases ht : (g.terms : Int) < k
    ·exact .inr (ih k hk ht)
    ·exact .inl (by omega)
theorem EndsI.len {g : Gra} (h : Sound g) {l : List Int} (hI : EndsI g l) : l.length ≤ g.nonts.length := g.nont_len hI.1 fun n hn => h.ended (hI.2 n hn)
theorem refEnds_mem {g : Gra} (h : Sound g) (n : Int) : n ∈ refEnds g ↔ Ended g n := by
 have hI : ∀ x,EndsI g x → EndsI g (endsP g x) := fun x hx => EndsI.fold _ _ (fun _ hb => hb) hx
 have hI0 : EndsI g [] := ⟨by simp,fun x hx => by simp at hx⟩
 have hfin := iter_inv (endsP g) (EndsI g) hI (g.nonts.length + 1) _ hI0
 have hstand := iter_stands (endsP g) (EndsI g) hI (fun x _ => adds_ext _ _ x) g.nonts.length (fun x hx => hx.len h) (g.nonts.length + 1) [] hI0 (by simp)
 exact hfin.closed (adds_fix _ _ _ hstand) n
theorem Gra.ends_those {g : Gra} (h : Sound g) {l : List Int} (hl : ∀ n,n ∈ l ↔ Ended g n) : setOf l = g.those (Ended g) :=
 g.setOf_those _ fun n => by rw [hl]; exact ⟨fun hr => ⟨h.ended hr,hr⟩,fun hr => hr.2⟩
end Go.Abs
/- Going down to all that is reached. -/
namespace Go.Abs
set_option linter.unusedSectionVars false
variable [Kn]
set_option linter.unusedVariables false
set_option linter.unusedSimpArgs false
/-- What stands right of a symbol. -/
def Gra.next (g : Gra) (n : Int) : List Int := g.prods.flatMap fun p => if p.left = n then p.right else []
structure MarkI (g : Gra) (o : List Int) : Prop where
 nd : o.Nodup
 rg : ∀ x ∈ o,(g.terms : Int) < x ∧ x ≤ (g.all : Int)
theorem MarkI.len {g : Gra} {o : List Int} (h : MarkI g o) : o.length ≤ g.nonts.length := g.nont_len h.nd h.rg
/-- What a walk from one list to another leaves. -/
structure Went (g : Gra) (o o' : List Int) : Prop where
 inv : MarkI g o'
 sub : ∃ m,o' = o ++ m
 cls : ∀ x ∈ o',x ∉ o → ∀ k ∈ g.next x,(g.terms : Int) < k → k ∈ o'
 rea : (∀ x ∈ o,Reach g x) → ∀ x ∈ o',Reach g x
theorem Went.trans {g : Gra} {a b c : List Int} (h1 : Went g a b) (h2 : Went g b c) : Went g a c := by
 obtain ⟨m1,e1⟩ := h1.sub
 obtain ⟨m2,e2⟩ := h2.sub
 refine ⟨h2.inv,⟨m1 ++ m2,by rw [e2,e1,List.append_assoc]⟩,fun x hx hn k hk ht => ?_,fun h => h2.rea (h1.rea h)⟩
 by_cases hb : x ∈ b
 ·have := h1.cls x hb hn k hk ht
  rw [e2]; exact List.mem_append_left _ this
 ·exact h2.cls x hx hb k hk ht
theorem Went.refl {g : Gra} {o : List Int} (h : MarkI g o) : Went g o o := ⟨h,⟨[],by simp⟩,fun x hx hn => absurd hx hn,fun h => h⟩
end Go.Abs
/- What may vanish, what begins a text: tables that are closed under productions. -/
namespace Go.Abs
set_option linter.unusedSectionVars false
variable [Kn]
set_option linter.unusedVariables false
set_option linter.unusedSimpArgs false
inductive Nul (g : Gra) : Int → Prop
 | mk (p : Prd) (hp : p ∈ g.prods) (h : ∀ k ∈ p.right,Nul g k) : Nul g p.left
inductive Fst (g : Gra) : List Int → Int → Prop
 | here (t : Int) (l : List Int) (h : t ≤ (g.terms : Int)) : Fst g (t :: l) t
 | down (p : Prd) (l : List Int) (t : Int) (hp : p ∈ g.prods) (h : Fst g p.right t) : Fst g (p.left :: l) t
 | skip (n : Int) (l : List Int) (t : Int) (hn : Nul g n) (h : Fst g l t) : Fst g (n :: l) t
theorem Fst.one {g : Gra} {n : Int} {l : List Int} {t : Int} (h : Fst g [n] t) : Fst g (n :: l) t := by
 cases h with
 | here _ _ h => exact .here _ _ h
 | down p _ _ hp h => exact .down p _ _ hp h
 | skip _ _ _ hn h => cases h
theorem Fst.nont {g : Gra} {s t : Int} (hs : (g.terms : Int) < s) : Fst g [s] t ↔ ∃ p ∈ g.prods,p.left = s ∧ Fst g p.right t := by
 constructor
 ·intro h
  cases h with
  | here _ _ h => omega
  | down p _ _ hp h => exact ⟨p,hp,rfl,h⟩
  | skip _ _ _ hn h => cases h
 ·rintro ⟨p,hp,rfl,h⟩
  exact .down p _ _ hp h
theorem Sound.nul {g : Gra} (h : Sound g) {n : Int} (hr : Nul g n) : (g.terms : Int) < n ∧ n ≤ (g.all : Int) := by
 cases hr with
 | mk p hp _ => exact ⟨(h.prods p hp).1,(h.prods p hp).2.1⟩
theorem Sound.fst {g : Gra} (hs : Sound g) {l : List Int} {t : Int} (h : Fst g l t) : (∀ n ∈ l,1 ≤ n) → 1 ≤ t ∧ t ≤ (g.terms : Int) := by
 induction h with
 | here t l h => exact fun hl => ⟨hl t (by simp),h⟩
 | down p l t hp h ih => exact fun _ => ih fun n hn => ((hs.prods p hp).2.2.2.2.2 n hn).1
 | skip n l t hn h ih => exact fun hl => ih fun k hk => hl k (List.mem_cons_of_mem _ hk)
/-! ### Tables -/
def nAt (N : List Bool) (n : Int) : Bool := N.getD n.toNat false
def fAt (F : List (List Int)) (n : Int) : List Int := F.getD n.toNat []
def BegT (N : List Bool) (F : List (List Int)) : List Int → Int → Prop
 | [],_ => False
 | n :: r,x => x ∈ fAt F n ∨ (nAt N n = true ∧ BegT N F r x)
theorem rises_len : ∀ {l : List Int} {a : Int} {b : Nat},l.Pairwise (· < ·) → (∀ x ∈ l,a < x ∧ x ≤ a + b) → l.length ≤ b
 | [],_,_,_,_ => by simp
 | x :: l,a,b,hp,h => by
  have hx := h x (by simp)
  rw [List.pairwise_cons] at hp
  have := rises_len (l := l) (a := x) (b := (a + b - x).toNat) hp.2 fun y hy => ⟨hp.1 y hy,by have := h y (List.mem_cons_of_mem _ hy); omega⟩
  rw [List.length_cons]
  omega
structure TabI (g : Gra) (N : List Bool) (F : List (List Int)) : Prop where
 lenN : N.length = g.all + 1
 lenF : F.length = g.all + 1
 nul : ∀ n : Nat,N[n]? = some true → Nul g n
 fst : ∀ (n : Nat) (l : List Int),F[n]? = some l → (∀ x ∈ l,Fst g [(n : Int)] x) ∧ l.Pairwise (· < ·) ∧ ∀ x ∈ l,1 ≤ x ∧ x ≤ (g.terms : Int)
 term : ∀ n : Nat,1 ≤ n → n ≤ g.terms → F[n]? = some [(n : Int)]
theorem TabI.len {g : Gra} {N : List Bool} {F : List (List Int)} (h : TabI g N F) {n : Nat} {l : List Int} (hl : F[n]? = some l) : l.length ≤ g.terms := by
 obtain ⟨_,h2,h3⟩ := h.fst n l hl
 exact rises_len (a := 0) h2 fun x hx => by have := h3 x hx; omega
theorem TabI.nul_at {g : Gra} {N : List Bool} {F : List (List Int)} (h : TabI g N F) {n : Int} (h0 : 0 ≤ n) (hn : nAt N n = true) : Nul g n := by
 have e : N[n.toNat]? = some true := by
  unfold nAt at hn
  rw [List.getD_eq_getElem?_getD] at hn
  cases hc : N[n.toNat]? with
  | none => rw [hc] at hn; simp at hn
  | some b => rw [hc] at hn; simp at hn; rw [hn]
 have := h.nul _ e
 rwa [show ((n.toNat : Nat) : Int) = n from by omega] at this
theorem TabI.fst_at {g : Gra} {N : List Bool} {F : List (List Int)} (h : TabI g N F) {n : Int} (h0 : 0 ≤ n) {x : Int} (hn : x ∈ fAt F n) : Fst g [n] x ∧ 1 ≤ x ∧ x ≤ (g.terms : Int) := by
 unfold fAt at hn
 rw [List.getD_eq_getElem?_getD] at hn
 cases hc : F[n.toNat]? with
 | none => rw [hc] at hn; simp at hn
 | some l =>
  rw [hc] at hn
  simp only [Option.getD_some] at hn
  obtain ⟨h1,_,h3⟩ := h.fst _ l hc
  have := h1 x hn
  rw [show ((n.toNat : Nat) : Int) = n from by omega] at this
  exact ⟨this,h3 x hn⟩
theorem TabI.beg {g : Gra} {N : List Bool} {F : List (List Int)} (h : TabI g N F) {x : Int} : ∀ {l : List Int},(∀ n ∈ l,1 ≤ n) → BegT N F l x → Fst g l x ∧ 1 ≤ x ∧ x ≤ (g.terms : Int)
 | [],_,hb => hb.elim
 | n :: r,hl,hb => by
  have h1 := hl n (by simp)
  rcases hb with hb | ⟨h2,hb⟩
  ·have := h.fst_at (by omega) hb
   exact ⟨this.1.one,this.2⟩
  ·have := h.beg (fun k hk => hl k (List.mem_cons_of_mem _ hk)) hb
   exact ⟨.skip _ _ _ (h.nul_at (by omega) h2) this.1,this.2⟩
/-! ### One production -/
/-- Tables that no production changes are whole. -/
structure TabC (g : Gra) (N : List Bool) (F : List (List Int)) : Prop where
 nul : ∀ n,nAt N n = true ↔ Nul g n
 beg : ∀ l x,(∀ n ∈ l,1 ≤ n) → (BegT N F l x ↔ Fst g l x)
theorem TabI.closed {g : Gra} {N : List Bool} {F : List (List Int)} (hs : Sound g) (h : TabI g N F)
  (hc : ∀ p ∈ g.prods,(p.right.all (nAt N) = true → nAt N p.left = true) ∧ ∀ x,BegT N F p.right x → x ∈ fAt F p.left) : TabC g N F := by
 have hnul : ∀ n,Nul g n → nAt N n = true := fun n hn => by
  induction hn with
  | mk p hp h ih => exact (hc p hp).1 (List.all_eq_true.2 ih)
 refine ⟨fun n => ⟨fun hn => ?_,hnul n⟩,fun l x hl => ⟨fun hb => (h.beg hl hb).1,fun hf => ?_⟩⟩
 ·by_cases h0 : 0 ≤ n
  ·exact h.nul_at h0 hn
  ·have e : nAt N n = nAt N 0 := by unfold nAt; rw [show n.toNat = 0 from by omega]; rfl
   rw [e] at hn
   have := hs.nul (h.nul_at (Int.le_refl 0) hn)
   omega
 ·induction hf with
  | here t l ht =>
   have h1 := hl t (by simp)
   have := h.term t.toNat (by omega) (by omega)
   refine .inl ?_
   unfold fAt
   rw [List.getD_eq_getElem?_getD,this]
   simp
   omega
  | down p l t hp hf ih => exact .inl ((hc p hp).2 _ (ih fun n hn => ((hs.prods p hp).2.2.2.2.2 n hn).1))
  | skip n l t hn hf ih => exact .inr ⟨hnul n hn,ih fun k hk => hl k (List.mem_cons_of_mem _ hk)⟩
/-! ### How much stands in tables -/
open Classical in
theorem TabC.all {g : Gra} {N : List Bool} {F : List (List Int)} (h : TabC g N F) {l : List Int} : l.all (nAt N) = decide (∀ k ∈ l,Nul g k) := by
 rw [Bool.eq_iff_iff,List.all_eq_true,decide_eq_true_eq]
 exact ⟨fun ha k hk => (h.nul k).1 (ha k hk),fun ha k hk => (h.nul k).2 (ha k hk)⟩
end Go.Abs
/- What begins a text: the document's rounds and its queue. -/
namespace Go.Abs
set_option linter.unusedSectionVars false
variable [Kn]
set_option linter.unusedVariables false
set_option linter.unusedSimpArgs false
def vanC (out : List Int) (p : Prd) : Option Int := if (∀ n ∈ p.right,n ∈ out) ∧ p.left ∉ out then some p.left else none
def VanI (g : Gra) (l : List Int) : Prop := l.Nodup ∧ ∀ x ∈ l,Nul g x
theorem vanC_inv {g : Gra} {out : List Int} {p : Prd} {n : Int} (hI : VanI g out) (hp : p ∈ g.prods) (hc : vanC out p = some n) : VanI g (out ++ [n]) := by
 unfold vanC at hc
 split at hc
 ·rename_i hcc
  cases hc
  refine ⟨?_,fun x hx => ?_⟩
  ·rw [List.nodup_append]
   exact ⟨hI.1,by simp,fun a ha b' hb' => by rw [List.mem_singleton] at hb'; subst hb'; exact fun e => hcc.2 (e ▸ ha)⟩
  ·rcases List.mem_append.1 hx with hx | hx
   ·exact hI.2 x hx
   ·rw [List.mem_singleton] at hx
    subst hx
    exact .mk p hp fun k hk => hI.2 k (hcc.1 k hk)
 ·cases hc
theorem VanI.fold {g : Gra} : ∀ (l : List Prd) (out : List Int),(∀ p ∈ l,p ∈ g.prods) → VanI g out → VanI g (l.foldl (adds vanC) out)
 | [],out,_,hI => hI
 | p :: l,out,hl,hI => by
  rw [List.foldl_cons]
  refine VanI.fold l _ (fun q hq => hl q (List.mem_cons_of_mem _ hq)) ?_
  unfold adds
  split
  ·rename_i n hc; exact vanC_inv hI (hl p (by simp)) hc
  ·exact hI
theorem VanI.closed {g : Gra} {l : List Int} (hI : VanI g l) (hc : ∀ p ∈ g.prods,vanC l p = none) (n : Int) : n ∈ l ↔ Nul g n := by
 constructor
 ·exact hI.2 n
 ·intro hr
  induction hr with
  | mk p hp h ih =>
   have h1 := hc p hp
   unfold vanC at h1
   split at h1
   ·cases h1
   ·rename_i hcc
    apply Classical.byContradiction
    intro hne
    exact hcc ⟨ih,hne⟩
theorem VanI.len {g : Gra} (h : Sound g) {l : List Int} (hI : VanI g l) : l.length ≤ g.nonts.length := g.nont_len hI.1 fun n hn => h.nul (hI.2 n hn)
/-! ### The queue -/
inductive Sta (g : Gra) : List Int → Int → Prop
 | here (n : Int) (l : List Int) : Sta g (n :: l) n
 | down (p : Prd) (l : List Int) (n : Int) (hp : p ∈ g.prods) (h : Sta g p.right n) : Sta g (p.left :: l) n
 | skip (n : Int) (l : List Int) (m : Int) (hn : Nul g n) (h : Sta g l m) : Sta g (n :: l) m
inductive Top (g : Gra) : List Int → Int → Prop
 | here (n : Int) (l : List Int) : Top g (n :: l) n
 | skip (n : Int) (l : List Int) (m : Int) (hn : Nul g n) (h : Top g l m) : Top g (n :: l) m
theorem Top.sta {g : Gra} {l : List Int} {n : Int} (h : Top g l n) : Sta g l n := by
 induction h with
 | here n l => exact .here _ _
 | skip n l m hn h ih => exact .skip _ _ _ hn ih
theorem Top.through {g : Gra} {l : List Int} {p : Prd} {n : Int} (hp : p ∈ g.prods) (hn : Sta g p.right n) (h : Top g l p.left) : Sta g l n := by
 generalize hm : p.left = m at h
 induction h with
 | here m l => subst hm; exact .down p _ _ hp hn
 | skip k l m hk h ih => exact .skip _ _ _ hk (ih hm)
theorem Top.mem {g : Gra} {l : List Int} {n : Int} (h : Top g l n) : n ∈ l := by
 induction h with
 | here n l => simp
 | skip n l m hn h ih => exact List.mem_cons_of_mem _ ih
def Gra.rights (g : Gra) (n : Int) : List (List Int) := g.prods.flatMap fun p => if p.left = n then [p.right] else []
theorem mem_rights {g : Gra} {n : Int} {r : List Int} : r ∈ g.rights n ↔ ∃ p ∈ g.prods,p.left = n ∧ r = p.right := by
 simp only [Gra.rights,List.mem_flatMap]
 constructor
 ·rintro ⟨p,hp,h⟩
  split at h
  ·rename_i e; rw [List.mem_singleton] at h; exact ⟨p,hp,e,h⟩
  ·simp at h
 ·rintro ⟨p,hp,e,h⟩
  exact ⟨p,hp,by rw [if_pos e,h]; simp⟩
theorem rights_length (g : Gra) (n : Int) : (g.rights n).length ≤ g.prods.length := by
 have key : ∀ l : List Prd,(l.flatMap fun p => if p.left = n then [p.right] else []).length ≤ l.length := by
  intro l
  induction l with
  | nil => simp
  | cons p l ih =>
   rw [List.flatMap_cons,List.length_append,List.length_cons]
   have : (if p.left = n then [p.right] else []).length ≤ 1 := by split <;> simp
   omega
 exact key g.prods
/-- One text of the queue. -/
def seenT (g : Gra) (null : List Int) : List Int → List Int × List (List Int) → List Int × List (List Int)
 | [],s => s
 | n :: r,s => if n ∈ null then seenT g null r (if n ∈ s.1 then s else (s.1 ++ [n],s.2 ++ g.rights n)) else (if n ∈ s.1 then s else (s.1 ++ [n],s.2 ++ g.rights n))
structure Seen (g : Gra) (t : List Int) (s s' : List Int × List (List Int)) : Prop where
 sub : ∀ n ∈ s.1,n ∈ s'.1
 subT : ∀ r ∈ s.2,r ∈ s'.2
 top : ∀ n,Top g t n → n ∈ s'.1
 new : ∀ n ∈ s'.1,n ∈ s.1 ∨ (Top g t n ∧ ∀ r ∈ g.rights n,r ∈ s'.2)
 newT : ∀ r ∈ s'.2,r ∈ s.2 ∨ ∃ p ∈ g.prods,r = p.right ∧ Top g t p.left
 nd : s.1.Nodup → s'.1.Nodup
 len : s.1.length ≤ s'.1.length ∧ s'.2.length + s.1.length * g.prods.length ≤ s.2.length + s'.1.length * g.prods.length
theorem seen_one {g : Gra} (n : Int) (s : List Int × List (List Int)) : Seen g [n] s (if n ∈ s.1 then s else (s.1 ++ [n],s.2 ++ g.rights n)) := by
 split
 ·rename_i h
  refine ⟨fun _ h => h,fun _ h => h,fun m hm => ?_,fun _ h => .inl h,fun _ h => .inl h,fun h => h,Nat.le_refl _,Nat.le_refl _⟩
  cases hm with
  | here => exact h
  | skip _ _ _ _ h => cases h
 ·rename_i h
  refine ⟨fun m hm => List.mem_append_left _ hm,fun r hr => List.mem_append_left _ hr,fun m hm => ?_,fun m hm => ?_,fun r hr => ?_,fun hnd => ?_,by simp,?_⟩
  ·cases hm with
   | here => simp
   | skip _ _ _ _ h => cases h
  ·rcases List.mem_append.1 hm with hm | hm
   ·exact .inl hm
   ·rw [List.mem_singleton] at hm
    subst hm
    exact .inr ⟨.here _ _,fun r hr => List.mem_append_right _ hr⟩
  ·rcases List.mem_append.1 hr with hr | hr
   ·exact .inl hr
   ·obtain ⟨p,hp,e,hr⟩ := mem_rights.1 hr
    exact .inr ⟨p,hp,hr,by rw [e]; exact .here _ _⟩
  ·rw [List.nodup_append]
   exact ⟨hnd,by simp,fun a ha b hb e => by rw [List.mem_singleton] at hb; subst hb; exact h (e ▸ ha)⟩
  ·have := rights_length g n
   simp only [List.length_append,List.length_cons,List.length_nil,Nat.zero_add,Nat.succ_mul]
   omega
theorem seenT_seen {g : Gra} {null : List Int} (hnull : ∀ n,n ∈ null ↔ Nul g n) : ∀ (t : List Int) (s : List Int × List (List Int)),Seen g t s (seenT g null t s)
 | [],s => ⟨fun _ h => h,fun _ h => h,fun m hm => (nomatch hm),fun _ h => .inl h,fun _ h => .inl h,fun h => h,Nat.le_refl _,Nat.le_refl _⟩
 | n :: r,s => by
  have h1 := seen_one (g := g) n s
  unfold seenT
  split
  ·rename_i hn
   have hN := (hnull n).1 hn
   have h2 := seenT_seen hnull r (if n ∈ s.1 then s else (s.1 ++ [n],s.2 ++ g.rights n))
   generalize seenT g null r (if n ∈ s.1 then s else (s.1 ++ [n],s.2 ++ g.rights n)) = s2 at h2
   generalize (if n ∈ s.1 then s else (s.1 ++ [n],s.2 ++ g.rights n)) = s1 at h1 h2
   refine ⟨fun m hm => h2.sub m (h1.sub m hm),fun x hx => h2.subT x (h1.subT x hx),fun m hm => ?_,fun m hm => ?_,fun x hx => ?_,fun h => h2.nd (h1.nd h),?_⟩
   ·cases hm with
    | here => exact h2.sub _ (h1.top _ (.here _ _))
    | skip _ _ _ _ h => exact h2.top _ h
   ·rcases h2.new m hm with hm | ⟨ht,hr⟩
    ·rcases h1.new m hm with hm | ⟨ht,hr⟩
     ·exact .inl hm
     ·refine .inr ⟨?_,fun x hx => h2.subT x (hr x hx)⟩
      cases ht with
      | here => exact .here _ _
      | skip _ _ _ _ h => cases h
    ·exact .inr ⟨.skip _ _ _ hN ht,hr⟩
   ·rcases h2.newT x hx with hx | ⟨p,hp,e,ht⟩
    ·rcases h1.newT x hx with hx | ⟨p,hp,e,ht⟩
     ·exact .inl hx
     ·refine .inr ⟨p,hp,e,?_⟩
      generalize p.left = m at ht
      cases ht with
      | here => exact .here _ _
      | skip _ _ _ _ h => cases h
    ·exact .inr ⟨p,hp,e,.skip _ _ _ hN ht⟩
   ·have a := h1.len
    have b := h2.len
    omega
  ·rename_i hn
   have hN : ¬ Nul g n := fun h => hn ((hnull n).2 h)
   generalize (if n ∈ s.1 then s else (s.1 ++ [n],s.2 ++ g.rights n)) = s1 at h1
   have up : ∀ m,Top g [n] m → Top g (n :: r) m := fun m ht => by
    cases ht with
    | here => exact .here _ _
    | skip _ _ _ _ h => cases h
   refine ⟨h1.sub,h1.subT,fun m hm => ?_,fun m hm => ?_,fun x hx => ?_,h1.nd,h1.len⟩
   ·cases hm with
    | here => exact h1.top _ (.here _ _)
    | skip _ _ _ hk h => exact absurd hk hN
   ·rcases h1.new m hm with hm | ⟨ht,hr⟩
    ·exact .inl hm
    ·exact .inr ⟨up m ht,hr⟩
   ·rcases h1.newT x hx with hx | ⟨p,hp,e,ht⟩
    ·exact .inl hx
    ·exact .inr ⟨p,hp,e,up _ ht⟩
/-- What holds of the queue and of what was seen. -/
structure StaI (g : Gra) (text : List Int) (out : List Int) (todo : List (List Int)) : Prop where
 nd : out.Nodup
 rg : ∀ n ∈ out,1 ≤ n ∧ n ≤ (g.all : Int)
 rgT : ∀ r ∈ todo,∀ n ∈ r,1 ≤ n ∧ n ≤ (g.all : Int)
 ok : ∀ n ∈ out,Sta g text n
 okT : ∀ r ∈ todo,∀ n,Sta g r n → Sta g text n
 dn : ∀ n ∈ out,∀ r ∈ g.rights n,r ∈ todo ∨ ∀ m,Top g r m → m ∈ out
 dt : text ∈ todo ∨ ∀ m,Top g text m → m ∈ out
 short : ∀ r ∈ todo,r.length ≤ text.length + 8
theorem nodup_len {l : List Int} {k : Nat} (hnd : l.Nodup) (h : ∀ x ∈ l,1 ≤ x ∧ x ≤ (k : Int)) : l.length ≤ k := by
 have hp : (setOf l).Perm l := by
  rw [List.perm_ext_iff_of_nodup ((setOf_rises l).imp fun h => by omega) hnd]
  exact mem_setOf l
 rw [← hp.length_eq]
 exact rises_len (a := 0) (setOf_rises l) fun x hx => by have := h x ((mem_setOf l x).1 hx); omega
theorem StaI.next {g : Gra} (hs : Sound g) {null : List Int} (hnull : ∀ n,n ∈ null ↔ Nul g n) {text : List Int} {out : List Int} {t : List Int} {todo : List (List Int)} (h : StaI g text out (t :: todo)) :
  StaI g text (seenT g null t (out,todo)).1 (seenT g null t (out,todo)).2 := by
 have hn := seenT_seen hnull t (out,todo)
 generalize seenT g null t (out,todo) = s at hn
 have hrt : ∀ p ∈ g.prods,∀ n ∈ p.right,1 ≤ n ∧ n ≤ (g.all : Int) := fun p hp => (hs.prods p hp).2.2.2.2.2
 refine ⟨hn.nd h.nd,fun n hm => ?_,fun r hr => ?_,fun n hm => ?_,fun r hr n hm => ?_,fun n hm r hr => ?_,?_,fun r hr => ?_⟩
 ·rcases hn.new n hm with hm | ⟨ht,_⟩
  ·exact h.rg n hm
  ·exact h.rgT t (by simp) n ht.mem
 ·rcases hn.newT r hr with hr | ⟨p,hp,rfl,_⟩
  ·exact h.rgT r (List.mem_cons_of_mem _ hr)
  ·exact hrt p hp
 ·rcases hn.new n hm with hm | ⟨ht,_⟩
  ·exact h.ok n hm
  ·exact h.okT t (by simp) n ht.sta
 ·rcases hn.newT r hr with hr | ⟨p,hp,rfl,ht⟩
  ·exact h.okT r (List.mem_cons_of_mem _ hr) n hm
  ·exact h.okT t (by simp) n (ht.through hp hm)
 ·rcases hn.new n hm with hm | ⟨_,hall⟩
  ·rcases h.dn n hm r hr with hr2 | hr2
   ·rcases List.mem_cons.1 hr2 with rfl | hr2
    ·exact .inr hn.top
    ·exact .inl (hn.subT r hr2)
   ·exact .inr fun m ht => hn.sub m (hr2 m ht)
  ·exact .inl (hall r hr)
 ·rcases h.dt with hr2 | hr2
  ·rcases List.mem_cons.1 hr2 with rfl | hr2
   ·exact .inr hn.top
   ·exact .inl (hn.subT _ hr2)
  ·exact .inr fun m ht => hn.sub m (hr2 m ht)
 ·rcases hn.newT r hr with hr | ⟨p,hp,rfl,_⟩
  ·exact h.short r (List.mem_cons_of_mem _ hr)
  ·have := (hs.prods p hp).2.2.1
   omega
theorem StaI.fin {g : Gra} {text out : List Int} (h : StaI g text out []) (n : Int) : n ∈ out ↔ Sta g text n := by
 have key : ∀ (l : List Int) (n : Int),Sta g l n → (∀ m,Top g l m → m ∈ out) → n ∈ out := by
  intro l n hl
  induction hl with
  | here n l => exact fun ht => ht n (.here _ _)
  | down p l n hp _ ih =>
   intro ht
   refine ih fun m hm => ?_
   rcases h.dn p.left (ht p.left (.here _ _)) p.right (mem_rights.2 ⟨p,hp,rfl,rfl⟩) with h2 | h2
   ·simp at h2
   ·exact h2 m hm
  | skip k l m hk _ ih => exact fun ht => ih fun m hm => ht m (.skip _ _ _ hk hm)
 refine ⟨h.ok n,fun hn => ?_⟩
 rcases h.dt with h2 | h2
 ·simp at h2
 ·exact key text n hn h2
def staM (g : Gra) (out : List Int) (todo : List (List Int)) : Nat := todo.length + (g.all - out.length) * g.prods.length
theorem StaI.less {g : Gra} (hs : Sound g) {null : List Int} (hnull : ∀ n,n ∈ null ↔ Nul g n) {text : List Int} {out : List Int} {t : List Int} {todo : List (List Int)} (h : StaI g text out (t :: todo)) :
  staM g (seenT g null t (out,todo)).1 (seenT g null t (out,todo)).2 < staM g out (t :: todo) := by
 have h' := h.next hs hnull
 have hn := (seenT_seen hnull t (out,todo)).len
 generalize seenT g null t (out,todo) = s at hn h'
 have l1 := nodup_len h.nd h.rg
 have l2 := nodup_len h'.nd h'.rg
 unfold staM
 rw [List.length_cons]
 simp only at hn
 obtain ⟨a,ha⟩ := Nat.le.dest l1
 obtain ⟨b,hb⟩ := Nat.le.dest l2
 rw [← ha]
 have e1 : out.length + a - out.length = a := by omega
 have e2 : out.length + a - s.1.length = b := by omega
 rw [e1,e2]
 have e3 : (out.length + a) * g.prods.length = (s.1.length + b) * g.prods.length := by rw [ha,hb]
 rw [Nat.add_mul,Nat.add_mul] at e3
 omega
end Go.Abs
/- What begins a text: the program's rounds over its tables. -/
namespace Go.Abs
set_option linter.unusedSectionVars false
variable [Kn]
set_option linter.unusedVariables false
set_option linter.unusedSimpArgs false
end Go.Abs
