/- What may vanish, what begins a text: tables that are closed under productions. -/
import Derived.Test.YtmnbljfbdiodbaaGreatTopA
namespace Go.Abs
set_option linter.unusedVariables false
set_option linter.unusedSimpArgs false
inductive Nul (g : Gra) : Int → Prop
 | mk (p : Prd) (hp : p ∈ g.prods) (h : ∀ k ∈ p.right,Nul g k) : Nul g p.left
inductive Fst (g : Gra) : List Int → Int → Prop
 | here (t : Int) (l : List Int) (h : t ≤ (g.terms : Int)) : Fst g (t :: l) t
 | down (p : Prd) (l : List Int) (t : Int) (hp : p ∈ g.prods) (h : Fst g p.right t) : Fst g (p.left :: l) t
 | skip (n : Int) (l : List Int) (t : Int) (hn : Nul g n) (h : Fst g l t) : Fst g (n :: l) t
theorem Fst.one {g : Gra} {n : Int} {l : List Int} {t : Int} (h : Fst g [n] t) : Fst g (n :: l) t := by
 cases h with
 | here _ _ h => exact .here _ _ h
 | down p _ _ hp h => exact .down p _ _ hp h
 | skip _ _ _ hn h => cases h
theorem Sound.nul {g : Gra} (h : Sound g) {n : Int} (hr : Nul g n) : (g.terms : Int) < n ∧ n ≤ (g.all : Int) := by
 cases hr with
 | mk p hp _ => exact ⟨(h.prods p hp).1,(h.prods p hp).2.1⟩
theorem Sound.fst {g : Gra} (hs : Sound g) {l : List Int} {t : Int} (h : Fst g l t) : (∀ n ∈ l,1 ≤ n) → 1 ≤ t ∧ t ≤ (g.terms : Int) := by
 induction h with
 | here t l h => exact fun hl => ⟨hl t (by simp),h⟩
 | down p l t hp h ih => exact fun _ => ih fun n hn => ((hs.prods p hp).2.2.2.2.2 n hn).1
 | skip n l t hn h ih => exact fun hl => ih fun k hk => hl k (List.mem_cons_of_mem _ hk)
/-! ### Tables -/
def nAt (N : List Bool) (n : Int) : Bool := N.getD n.toNat false
def fAt (F : List (List Int)) (n : Int) : List Int := F.getD n.toNat []
def ofT (N : List Bool) (F : List (List Int)) : List Int → List Int → List Int × Bool
 | [],out => (out,true)
 | n :: r,out => if nAt N n = true then ofT N F r (setOf (out ++ fAt F n)) else (setOf (out ++ fAt F n),false)
def BegT (N : List Bool) (F : List (List Int)) : List Int → Int → Prop
 | [],_ => False
 | n :: r,x => x ∈ fAt F n ∨ (nAt N n = true ∧ BegT N F r x)
theorem ofT_mem {N : List Bool} {F : List (List Int)} {x : Int} : ∀ {text out : List Int},x ∈ (ofT N F text out).1 ↔ x ∈ out ∨ BegT N F text x
 | [],out => by simp [ofT,BegT]
 | n :: r,out => by
  unfold ofT BegT
  split
  ·rename_i h
   rw [ofT_mem,mem_setOf,List.mem_append,or_assoc]
   simp [h]
  ·rename_i h
   simp [mem_setOf,h]
theorem ofT_null {N : List Bool} {F : List (List Int)} : ∀ {text out : List Int},(ofT N F text out).2 = text.all (nAt N)
 | [],out => rfl
 | n :: r,out => by
  unfold ofT
  split
  ·rename_i h; rw [ofT_null,List.all_cons,h,Bool.true_and]
  ·rename_i h; simp [h]
theorem ofT_rises {N : List Bool} {F : List (List Int)} : ∀ {text out : List Int},out.Pairwise (· < ·) → (ofT N F text out).1.Pairwise (· < ·)
 | [],out,h => h
 | n :: r,out,h => by
  unfold ofT
  split
  ·exact ofT_rises (setOf_rises _)
  ·exact setOf_rises _
theorem rises_len : ∀ {l : List Int} {a : Int} {b : Nat},l.Pairwise (· < ·) → (∀ x ∈ l,a < x ∧ x ≤ a + b) → l.length ≤ b
 | [],_,_,_,_ => by simp
 | x :: l,a,b,hp,h => by
  have hx := h x (by simp)
  rw [List.pairwise_cons] at hp
  have := rises_len (l := l) (a := x) (b := (a + b - x).toNat) hp.2 fun y hy => ⟨hp.1 y hy,by have := h y (List.mem_cons_of_mem _ hy); omega⟩
  rw [List.length_cons]
  omega
structure TabI (g : Gra) (N : List Bool) (F : List (List Int)) : Prop where
 lenN : N.length = g.all + 1
 lenF : F.length = g.all + 1
 nul : ∀ n : Nat,N[n]? = some true → Nul g n
 fst : ∀ (n : Nat) (l : List Int),F[n]? = some l → (∀ x ∈ l,Fst g [(n : Int)] x) ∧ l.Pairwise (· < ·) ∧ ∀ x ∈ l,1 ≤ x ∧ x ≤ (g.terms : Int)
 term : ∀ n : Nat,1 ≤ n → n ≤ g.terms → F[n]? = some [(n : Int)]
theorem TabI.len {g : Gra} {N : List Bool} {F : List (List Int)} (h : TabI g N F) {n : Nat} {l : List Int} (hl : F[n]? = some l) : l.length ≤ g.terms := by
 obtain ⟨_,h2,h3⟩ := h.fst n l hl
 exact rises_len (a := 0) h2 fun x hx => by have := h3 x hx; omega
theorem fAt_get {F : List (List Int)} {n : Int} (h0 : 0 ≤ n) (h : n < F.length) : ∃ i : Nat,n = (i : Int) ∧ i < F.length ∧ F[i]? = some (fAt F n) := by
 refine ⟨n.toNat,by omega,by omega,?_⟩
 unfold fAt
 rw [List.getD_eq_getElem?_getD,List.getElem?_eq_getElem (by omega)]
 rfl
theorem nAt_get {N : List Bool} {n : Int} (h0 : 0 ≤ n) (h : n < N.length) : ∃ i : Nat,n = (i : Int) ∧ i < N.length ∧ N[i]? = some (nAt N n) := by
 refine ⟨n.toNat,by omega,by omega,?_⟩
 unfold nAt
 rw [List.getD_eq_getElem?_getD,List.getElem?_eq_getElem (by omega)]
 rfl
theorem TabI.nul_at {g : Gra} {N : List Bool} {F : List (List Int)} (h : TabI g N F) {n : Int} (h0 : 0 ≤ n) (hn : nAt N n = true) : Nul g n := by
 have e : N[n.toNat]? = some true := by
  unfold nAt at hn
  rw [List.getD_eq_getElem?_getD] at hn
  cases hc : N[n.toNat]? with
  | none => rw [hc] at hn; simp at hn
  | some b => rw [hc] at hn; simp at hn; rw [hn]
 have := h.nul _ e
 rwa [show ((n.toNat : Nat) : Int) = n from by omega] at this
theorem TabI.fst_at {g : Gra} {N : List Bool} {F : List (List Int)} (h : TabI g N F) {n : Int} (h0 : 0 ≤ n) {x : Int} (hn : x ∈ fAt F n) : Fst g [n] x ∧ 1 ≤ x ∧ x ≤ (g.terms : Int) := by
 unfold fAt at hn
 rw [List.getD_eq_getElem?_getD] at hn
 cases hc : F[n.toNat]? with
 | none => rw [hc] at hn; simp at hn
 | some l =>
  rw [hc] at hn
  simp only [Option.getD_some] at hn
  obtain ⟨h1,_,h3⟩ := h.fst _ l hc
  have := h1 x hn
  rw [show ((n.toNat : Nat) : Int) = n from by omega] at this
  exact ⟨this,h3 x hn⟩
theorem TabI.beg {g : Gra} {N : List Bool} {F : List (List Int)} (h : TabI g N F) {x : Int} : ∀ {l : List Int},(∀ n ∈ l,1 ≤ n) → BegT N F l x → Fst g l x ∧ 1 ≤ x ∧ x ≤ (g.terms : Int)
 | [],_,hb => hb.elim
 | n :: r,hl,hb => by
  have h1 := hl n (by simp)
  rcases hb with hb | ⟨h2,hb⟩
  ·have := h.fst_at (by omega) hb
   exact ⟨this.1.one,this.2⟩
  ·have := h.beg (fun k hk => hl k (List.mem_cons_of_mem _ hk)) hb
   exact ⟨.skip _ _ _ (h.nul_at (by omega) h2) this.1,this.2⟩
theorem TabI.allNul {g : Gra} {N : List Bool} {F : List (List Int)} (h : TabI g N F) {l : List Int} (hl : ∀ n ∈ l,1 ≤ n) (ha : l.all (nAt N) = true) : ∀ k ∈ l,Nul g k :=
 fun k hk => h.nul_at (by have := hl k hk; omega) (List.all_eq_true.1 ha k hk)
/-! ### One production -/
def stepN (N : List Bool) (p : Prd) : List Bool := if p.right.all (nAt N) = true then N.set p.left.toNat true else N
def stepF (N : List Bool) (F : List (List Int)) (p : Prd) : List (List Int) := F.set p.left.toNat (setOf (fAt F p.left ++ (ofT N F p.right []).1))
theorem TabI.stepN {g : Gra} {N : List Bool} {F : List (List Int)} (hs : Sound g) (h : TabI g N F) {p : Prd} (hp : p ∈ g.prods) : TabI g (stepN N p) F := by
 unfold Go.Abs.stepN
 split
 ·rename_i ha
  have hpr := hs.prods p hp
  refine ⟨by rw [List.length_set]; exact h.lenN,h.lenF,fun n hn => ?_,h.fst,h.term⟩
  rw [List.getElem?_set] at hn
  split at hn
  ·rename_i e
   have := Nul.mk p hp (h.allNul (fun n hn => (hpr.2.2.2.2.2 n hn).1) ha)
   rwa [show p.left = (n : Int) from by omega] at this
  ·exact h.nul n hn
 ·exact h
theorem TabI.stepF {g : Gra} {N N' : List Bool} {F : List (List Int)} (hs : Sound g) (h : TabI g N F) (h' : TabI g N' F) {p : Prd} (hp : p ∈ g.prods) : TabI g N' (stepF N F p) := by
 unfold Go.Abs.stepF
 have hpr := hs.prods p hp
 refine ⟨h'.lenN,by rw [List.length_set]; exact h.lenF,h'.nul,fun n l hl => ?_,fun n h1 h2 => ?_⟩
 ·rw [List.getElem?_set] at hl
  split at hl
  ·rename_i e
   split at hl
   ·injection hl with hl
    subst hl
    have hx : ∀ x ∈ setOf (fAt F p.left ++ (ofT N F p.right []).1),Fst g [p.left] x ∧ 1 ≤ x ∧ x ≤ (g.terms : Int) := fun x hx => by
     rw [mem_setOf,List.mem_append,ofT_mem] at hx
     rcases hx with hx | hx | hx
     ·exact h.fst_at (by omega) hx
     ·simp at hx
     ·have := h.beg (fun n hn => (hpr.2.2.2.2.2 n hn).1) hx
      exact ⟨.down p _ _ hp this.1,this.2⟩
    refine ⟨fun x hm => ?_,setOf_rises _,fun x hm => (hx x hm).2⟩
    have := (hx x hm).1
    rwa [show p.left = (n : Int) from by omega] at this
   ·cases hl
  ·exact h.fst n l hl
 ·rw [List.getElem?_set,if_neg (by omega)]
  exact h.term n h1 h2
/-- Tables that no production changes are whole. -/
structure TabC (g : Gra) (N : List Bool) (F : List (List Int)) : Prop where
 nul : ∀ n,nAt N n = true ↔ Nul g n
 beg : ∀ l x,(∀ n ∈ l,1 ≤ n) → (BegT N F l x ↔ Fst g l x)
theorem TabI.closed {g : Gra} {N : List Bool} {F : List (List Int)} (hs : Sound g) (h : TabI g N F)
  (hc : ∀ p ∈ g.prods,(p.right.all (nAt N) = true → nAt N p.left = true) ∧ ∀ x,BegT N F p.right x → x ∈ fAt F p.left) : TabC g N F := by
 have hnul : ∀ n,Nul g n → nAt N n = true := fun n hn => by
  induction hn with
  | mk p hp h ih => exact (hc p hp).1 (List.all_eq_true.2 ih)
 refine ⟨fun n => ⟨fun hn => ?_,hnul n⟩,fun l x hl => ⟨fun hb => (h.beg hl hb).1,fun hf => ?_⟩⟩
 ·by_cases h0 : 0 ≤ n
  ·exact h.nul_at h0 hn
  ·have e : nAt N n = nAt N 0 := by unfold nAt; rw [show n.toNat = 0 from by omega]; rfl
   rw [e] at hn
   have := hs.nul (h.nul_at (Int.le_refl 0) hn)
   omega
 ·induction hf with
  | here t l ht =>
   have h1 := hl t (by simp)
   have := h.term t.toNat (by omega) (by omega)
   refine .inl ?_
   unfold fAt
   rw [List.getD_eq_getElem?_getD,this]
   simp
   omega
  | down p l t hp hf ih => exact .inl ((hc p hp).2 _ (ih fun n hn => ((hs.prods p hp).2.2.2.2.2 n hn).1))
  | skip n l t hn hf ih => exact .inr ⟨hnul n hn,ih fun k hk => hl k (List.mem_cons_of_mem _ hk)⟩
/-! ### How much stands in tables -/
theorem sum_set {α : Type} (f : α → Nat) : ∀ {l : List α} {i : Nat} {x a : α},l[i]? = some a → ((l.set i x).map f).sum + f a = (l.map f).sum + f x
 | [],i,x,a,h => by simp at h
 | b :: l,0,x,a,h => by
  simp only [List.getElem?_cons_zero,Option.some.injEq] at h
  subst h
  simp only [List.set_cons_zero,List.map_cons,List.sum_cons]
  omega
 | b :: l,i + 1,x,a,h => by
  simp only [List.getElem?_cons_succ] at h
  have := sum_set f (x := x) h
  simp only [List.set_cons_succ,List.map_cons,List.sum_cons]
  omega
theorem sum_le {α : Type} (f : α → Nat) (k : Nat) : ∀ {l : List α},(∀ x ∈ l,f x ≤ k) → (l.map f).sum ≤ l.length * k
 | [],_ => by simp
 | b :: l,h => by
  have := sum_le f k (l := l) fun x hx => h x (List.mem_cons_of_mem _ hx)
  have := h b (by simp)
  simp only [List.map_cons,List.sum_cons,List.length_cons,Nat.succ_mul]
  omega
def tabW (N : List Bool) (F : List (List Int)) : Nat := (N.map Bool.toNat).sum + (F.map List.length).sum
def tabB (g : Gra) : Nat := (g.all + 1) * 1 + (g.all + 1) * g.terms
theorem TabI.weight {g : Gra} {N : List Bool} {F : List (List Int)} (h : TabI g N F) : tabW N F ≤ tabB g := by
 have h1 := sum_le Bool.toNat 1 (l := N) fun x _ => by cases x <;> simp
 have h2 := sum_le List.length g.terms (l := F) fun x hx => by
  obtain ⟨i,hi,e⟩ := List.getElem_of_mem hx
  exact h.len (n := i) (by rw [List.getElem?_eq_getElem hi,e])
 rw [h.lenN] at h1
 rw [h.lenF] at h2
 unfold tabW tabB
 omega
theorem rises_same : ∀ {a b : List Int},a.Pairwise (· < ·) → b.Pairwise (· < ·) → (∀ x ∈ a,x ∈ b) → b.length ≤ a.length → a = b := by
 intro a b ha hb hs hl
 have hsub : ∀ x ∈ b,x ∈ a := by
  intro x hx
  apply Classical.byContradiction
  intro hn
  have h1 : (setOf (x :: a)).length = (x :: a).length := by
   have hp : (setOf (x :: a)).Perm (x :: a) := by
    rw [List.perm_ext_iff_of_nodup ((setOf_rises _).imp fun h => by omega) (List.nodup_cons.2 ⟨hn,ha.imp fun h => by omega⟩)]
    exact mem_setOf _
   exact hp.length_eq
  have h2 : (setOf (x :: a)).length ≤ b.length := by
   have key : ∀ (c d : List Int),c.Nodup → (∀ y ∈ c,y ∈ d) → c.length ≤ d.length := by
    intro c
    induction c with
    | nil => intro d _ _; simp
    | cons y c ih =>
     intro d hc hd
     rw [List.nodup_cons] at hc
     have hy := hd y (by simp)
     have := ih (d.erase y) hc.2 fun z hz => by
      have hne : z ≠ y := fun e => hc.1 (e ▸ hz)
      exact (List.mem_erase_of_ne hne).2 (hd z (List.mem_cons_of_mem _ hz))
     rw [List.length_erase_of_mem hy] at this
     have : 0 < d.length := List.length_pos_of_mem hy
     rw [List.length_cons]
     omega
   refine key _ _ ((setOf_rises _).imp fun h => by omega) fun y hy => ?_
   rw [mem_setOf] at hy
   rcases List.mem_cons.1 hy with rfl | hy
   ·exact hx
   ·exact hs y hy
  rw [h1,List.length_cons] at h2
  omega
 exact rises_unique _ _ ha hb fun x => ⟨hs x,hsub x⟩
theorem set_self {α : Type} : ∀ {l : List α} {i : Nat} {a : α},l[i]? = some a → l.set i a = l
 | [],i,a,h => by simp at h
 | b :: l,0,a,h => by simp at h; subst h; rfl
 | b :: l,i + 1,a,h => by
  simp only [List.getElem?_cons_succ] at h
  rw [List.set_cons_succ,set_self h]
/-- The lists that begin a text, each once, in order. -/
noncomputable def Gra.firsts (g : Gra) (l : List Int) : List Int :=
 haveI : DecidablePred (Fst g l) := fun n => Classical.propDecidable _
 ((List.range g.terms).map fun i : Nat => (i : Int) + 1).filter fun n => decide (Fst g l n)
theorem Gra.mem_firsts (g : Gra) (l : List Int) (n : Int) : n ∈ g.firsts l ↔ (1 ≤ n ∧ n ≤ (g.terms : Int)) ∧ Fst g l n := by
 unfold Gra.firsts
 simp only [List.mem_filter,List.mem_map,List.mem_range,decide_eq_true_eq]
 constructor
 ·rintro ⟨⟨i,hi,rfl⟩,h⟩
  exact ⟨⟨by omega,by omega⟩,h⟩
 ·rintro ⟨⟨h1,h2⟩,h⟩
  exact ⟨⟨(n - 1).toNat,by omega,by omega⟩,h⟩
theorem Gra.firsts_rises (g : Gra) (l : List Int) : (g.firsts l).Pairwise (· < ·) := by
 unfold Gra.firsts
 refine List.Pairwise.filter _ ?_
 rw [List.pairwise_map]
 exact List.pairwise_lt_range.imp fun h => by omega
theorem Gra.firsts_length (g : Gra) (l : List Int) : (g.firsts l).length ≤ g.terms := by
 unfold Gra.firsts
 refine Nat.le_trans (List.length_filter_le _ _) ?_
 simp
theorem Gra.setOf_firsts {g : Gra} (hs : Sound g) {l : List Int} (hl : ∀ n ∈ l,1 ≤ n) {o : List Int} (h : ∀ x,x ∈ o ↔ Fst g l x) : setOf o = g.firsts l :=
 rises_unique _ _ (setOf_rises _) (g.firsts_rises l) fun x => by rw [mem_setOf,h,g.mem_firsts]; exact ⟨fun hf => ⟨hs.fst hf hl,hf⟩,fun h => h.2⟩
theorem TabC.ofT {g : Gra} {N : List Bool} {F : List (List Int)} (hs : Sound g) (h : TabC g N F) {l : List Int} (hl : ∀ n ∈ l,1 ≤ n) : (Go.Abs.ofT N F l []).1 = g.firsts l :=
 rises_unique _ _ (ofT_rises .nil) (g.firsts_rises l) fun x => by
  rw [ofT_mem,g.mem_firsts,h.beg l x hl]
  exact ⟨fun hf => by
   rcases hf with hf | hf
   ·simp at hf
   ·exact ⟨hs.fst hf hl,hf⟩,fun h => .inr h.2⟩
open Classical in
theorem TabC.all {g : Gra} {N : List Bool} {F : List (List Int)} (h : TabC g N F) {l : List Int} : l.all (nAt N) = decide (∀ k ∈ l,Nul g k) := by
 rw [Bool.eq_iff_iff,List.all_eq_true,decide_eq_true_eq]
 exact ⟨fun ha k hk => (h.nul k).1 (ha k hk),fun ha k hk => (h.nul k).2 (ha k hk)⟩
end Go.Abs
/- What begins a text: the program's rounds over its tables. -/
namespace Go.Abs
set_option linter.unusedVariables false
set_option linter.unusedSimpArgs false
abbrev Tab := List Bool × List (List Int)
def stepT (s : Tab) (p : Prd) : Tab := (stepN s.1 p,stepF s.1 s.2 p)
def passT (g : Gra) (s : Tab) : Tab := g.prods.foldl stepT s
def tabF (g : Gra) (k : Nat) : List (List Int) := (List.range (g.all + 1)).map fun j : Nat => if 1 ≤ j ∧ j < k then [(j : Int)] else []
def tab0 (g : Gra) : Tab := (List.replicate (g.all + 1) false,tabF g (g.terms + 1))
def tabs (g : Gra) : Tab := iter (passT g) (tabB g + 1) (tab0 g)
theorem tabF_length (g : Gra) (k : Nat) : (tabF g k).length = g.all + 1 := by simp [tabF]
theorem tabF_get {g : Gra} {k n : Nat} {l : List Int} (h : (tabF g k)[n]? = some l) : l = if 1 ≤ n ∧ n < k then [(n : Int)] else [] := by
 unfold tabF at h
 rw [List.getElem?_map] at h
 cases hr : (List.range (g.all + 1))[n]? with
 | none => rw [hr] at h; simp at h
 | some j =>
  rw [hr] at h
  have : j = n := by
   have hh := List.getElem?_eq_some_iff.1 hr
   obtain ⟨h1,h2⟩ := hh
   simpa using h2.symm
  subst this
  simpa using h.symm
theorem tabF_at {g : Gra} {k n : Nat} (h : n ≤ g.all) : (tabF g k)[n]? = some (if 1 ≤ n ∧ n < k then [(n : Int)] else []) := by
 unfold tabF
 rw [List.getElem?_map,List.getElem?_range (by omega)]
 rfl
theorem tabF_one (g : Gra) : tabF g 1 = List.replicate (g.all + 1) [] := by
 refine List.ext_getElem? fun n => ?_
 by_cases h : n ≤ g.all
 ·rw [tabF_at h,if_neg (by omega),List.getElem?_replicate,if_pos (by omega)]
 ·rw [List.getElem?_eq_none (by rw [tabF_length]; omega),List.getElem?_eq_none (by simp; omega)]
theorem tabF_succ {g : Gra} {k : Nat} (h1 : 1 ≤ k) (h : k ≤ g.all) : tabF g (k + 1) = (tabF g k).set k [(k : Int)] := by
 refine List.ext_getElem? fun n => ?_
 rw [List.getElem?_set,tabF_length]
 by_cases hn : n ≤ g.all
 ·rw [tabF_at hn,tabF_at hn]
  by_cases e : k = n
  ·subst e
   rw [if_pos rfl,if_pos (by omega),if_pos (by omega)]
  ·rw [if_neg e]
   by_cases hc : 1 ≤ n ∧ n < k
   ·rw [if_pos hc,if_pos (by omega)]
   ·rw [if_neg hc,if_neg (by omega)]
 ·rw [List.getElem?_eq_none (by rw [tabF_length]; omega),if_neg (by omega),List.getElem?_eq_none (by rw [tabF_length]; omega)]
theorem tab0_inv (g : Gra) : TabI g (tab0 g).1 (tab0 g).2 := by
 have hle : g.terms ≤ g.all := by unfold Gra.all; omega
 refine ⟨by simp [tab0],by simp [tab0,tabF_length],fun n h => ?_,fun n l h => ?_,fun n h1 h2 => ?_⟩
 ·simp only [tab0,List.getElem?_replicate] at h
  split at h <;> simp at h
 ·have := tabF_get h
  subst this
  split
  ·rename_i hc
   refine ⟨fun x hx => ?_,by simp,fun x hx => ?_⟩
   ·rw [List.mem_singleton] at hx; subst hx; exact .here _ _ (by omega)
   ·rw [List.mem_singleton] at hx; subst hx; omega
  ·simp
 ·simp only [tab0]
  rw [tabF_at (by omega),if_pos (by omega)]
theorem stepT_inv {g : Gra} (hs : Sound g) {s : Tab} (h : TabI g s.1 s.2) {p : Prd} (hp : p ∈ g.prods) : TabI g (stepT s p).1 (stepT s p).2 :=
 h.stepF hs (h.stepN hs hp) hp
/-- Does a production change the tables? -/
def chgN (s : Tab) (p : Prd) : Bool := p.right.all (nAt s.1) && !nAt s.1 p.left
def chgF (s : Tab) (p : Prd) : Bool := decide ((fAt s.2 p.left).length < (setOf (fAt s.2 p.left ++ (ofT s.1 s.2 p.right []).1)).length)
theorem fAt_mem {F : List (List Int)} {n : Int} (h0 : 0 ≤ n) (h : n < F.length) : F[n.toNat]? = some (fAt F n) := by
 obtain ⟨i,e,_,hg⟩ := fAt_get h0 h
 rw [show n.toNat = i from by omega,hg]
theorem nAt_mem {N : List Bool} {n : Int} (h0 : 0 ≤ n) (h : n < N.length) : N[n.toNat]? = some (nAt N n) := by
 obtain ⟨i,e,_,hg⟩ := nAt_get h0 h
 rw [show n.toNat = i from by omega,hg]
theorem stepT_same {g : Gra} (hs : Sound g) {s : Tab} (h : TabI g s.1 s.2) {p : Prd} (hp : p ∈ g.prods) (h1 : chgN s p = false) (h2 : chgF s p = false) : stepT s p = s := by
 obtain ⟨N,F⟩ := s
 have hpr := hs.prods p hp
 simp only [chgN,chgF] at h1 h2
 have hN := nAt_mem (N := N) (n := p.left) (by omega) (by have := h.lenN; simp only at this; rw [this]; omega)
 have hF := fAt_mem (F := F) (n := p.left) (by omega) (by have := h.lenF; simp only at this; rw [this]; omega)
 have e1 : stepN N p = N := by
  unfold stepN
  split
  ·rename_i ha
   rw [ha,Bool.true_and] at h1
   have : nAt N p.left = true := by simpa using h1
   rw [this] at hN
   exact set_self hN
  ·rfl
 have e2 : stepF N F p = F := by
  unfold stepF
  have hr := (h.fst _ _ hF).2.1
  have : fAt F p.left = setOf (fAt F p.left ++ (ofT N F p.right []).1) := rises_same hr (setOf_rises _) (fun x hx => by rw [mem_setOf]; exact List.mem_append_left _ hx) (by simpa using h2)
  rw [← this]
  exact set_self hF
 simp only [stepT,e1,e2]
theorem stepT_more {g : Gra} (hs : Sound g) {s : Tab} (h : TabI g s.1 s.2) {p : Prd} (hp : p ∈ g.prods) : tabW s.1 s.2 + (chgN s p).toNat + (chgF s p).toNat ≤ tabW (stepT s p).1 (stepT s p).2 := by
 obtain ⟨N,F⟩ := s
 have hpr := hs.prods p hp
 have hN := nAt_mem (N := N) (n := p.left) (by omega) (by have := h.lenN; simp only at this; rw [this]; omega)
 have hF := fAt_mem (F := F) (n := p.left) (by omega) (by have := h.lenF; simp only at this; rw [this]; omega)
 have hr := (h.fst _ _ hF).2.1
 have hle : (fAt F p.left).length ≤ (setOf (fAt F p.left ++ (ofT N F p.right []).1)).length := by
  have e : setOf (fAt F p.left) = fAt F p.left := rises_unique _ _ (setOf_rises _) hr fun x => mem_setOf _ _
  have key : ∀ (c d : List Int),c.Nodup → (∀ y ∈ c,y ∈ d) → c.length ≤ d.length := by
   intro c
   induction c with
   | nil => intro d _ _; simp
   | cons y c ih =>
    intro d hc hd
    rw [List.nodup_cons] at hc
    have hy := hd y (by simp)
    have := ih (d.erase y) hc.2 fun z hz => by
     have hne : z ≠ y := fun e => hc.1 (e ▸ hz)
     exact (List.mem_erase_of_ne hne).2 (hd z (List.mem_cons_of_mem _ hz))
    rw [List.length_erase_of_mem hy] at this
    have : 0 < d.length := List.length_pos_of_mem hy
    rw [List.length_cons]
    omega
  exact key _ _ (hr.imp fun h => by omega) fun y hy => by rw [mem_setOf]; exact List.mem_append_left _ hy
 have sF := sum_set List.length (x := setOf (fAt F p.left ++ (ofT N F p.right []).1)) hF
 have a1 : (N.map Bool.toNat).sum + (chgN (N,F) p).toNat ≤ ((stepN N p).map Bool.toNat).sum := by
  unfold stepN chgN
  simp only
  split
  ·rename_i ha
   have sN := sum_set Bool.toNat (x := true) hN
   rw [ha,Bool.true_and]
   cases hb : nAt N p.left <;> rw [hb] at sN <;> simp at sN ⊢ <;> omega
  ·rename_i ha
   have : p.right.all (nAt N) = false := by simpa using ha
   rw [this,Bool.false_and]
   simp
 have a2 : (F.map List.length).sum + (chgF (N,F) p).toNat ≤ ((stepF N F p).map List.length).sum := by
  unfold stepF chgF
  simp only
  by_cases hc : (fAt F p.left).length < (setOf (fAt F p.left ++ (ofT N F p.right []).1)).length
  ·rw [decide_eq_true hc]
   simp only [Bool.toNat_true]
   omega
  ·rw [decide_eq_false hc]
   simp only [Bool.toNat_false]
   omega
 simp only [tabW,stepT]
 omega
theorem foldT {g : Gra} (hs : Sound g) : ∀ (l : List Prd) (s : Tab),(∀ p ∈ l,p ∈ g.prods) → TabI g s.1 s.2 → TabI g (l.foldl stepT s).1 (l.foldl stepT s).2 ∧ tabW s.1 s.2 ≤ tabW (l.foldl stepT s).1 (l.foldl stepT s).2 ∧
  (tabW (l.foldl stepT s).1 (l.foldl stepT s).2 = tabW s.1 s.2 → l.foldl stepT s = s ∧ ∀ p ∈ l,chgN s p = false ∧ chgF s p = false)
 | [],s,_,h => ⟨h,Nat.le_refl _,fun _ => ⟨rfl,by simp⟩⟩
 | p :: l,s,hl,h => by
  have hp := hl p (by simp)
  have hm := stepT_more hs h hp
  obtain ⟨h1,h2,h3⟩ := foldT hs l (stepT s p) (fun q hq => hl q (List.mem_cons_of_mem _ hq)) (stepT_inv hs h hp)
  rw [List.foldl_cons]
  refine ⟨h1,by omega,fun e => ?_⟩
  have c1 : chgN s p = false := by
   cases hc : chgN s p
   ·rfl
   ·rw [hc] at hm; simp at hm; omega
  have c2 : chgF s p = false := by
   cases hc : chgF s p
   ·rfl
   ·rw [hc] at hm; simp at hm; omega
  have es := stepT_same hs h hp c1 c2
  rw [es] at h3 ⊢
  rw [es] at e
  obtain ⟨k1,k2⟩ := h3 e
  refine ⟨k1,fun q hq => ?_⟩
  rcases List.mem_cons.1 hq with rfl | hq
  ·exact ⟨c1,c2⟩
  ·exact k2 q hq
/-- In the end no production changes the tables. -/
theorem tabs_fin {g : Gra} (hs : Sound g) : TabI g (tabs g).1 (tabs g).2 ∧ TabC g (tabs g).1 (tabs g).2 := by
 have key : ∀ (k : Nat) (s : Tab),TabI g s.1 s.2 → tabB g + 1 ≤ k + tabW s.1 s.2 → TabI g (iter (passT g) k s).1 (iter (passT g) k s).2 ∧ passT g (iter (passT g) k s) = iter (passT g) k s := by
  intro k
  induction k with
  | zero => intro s h hk; have := h.weight; omega
  | succ k ih =>
   intro s h hk
   rw [iter]
   obtain ⟨h1,h2,h3⟩ := foldT hs g.prods s (fun _ h => h) h
   by_cases e : tabW (passT g s).1 (passT g s).2 = tabW s.1 s.2
   ·have e2 : passT g s = s := (h3 e).1
    rw [e2,iter_fix (passT g) e2]
    exact ⟨h,e2⟩
   ·exact ih _ h1 (by unfold passT at e ⊢; omega)
 obtain ⟨h1,h2⟩ : TabI g (tabs g).1 (tabs g).2 ∧ passT g (tabs g) = tabs g := key (tabB g + 1) (tab0 g) (tab0_inv g) (by omega)
 refine ⟨h1,?_⟩
 have h3 := ((foldT hs g.prods (tabs g) (fun _ h => h) h1).2.2 (by
  unfold passT at h2
  rw [h2])).2
 refine h1.closed hs fun p hp => ?_
 obtain ⟨c1,c2⟩ := h3 p hp
 have hpr := hs.prods p hp
 have hes := stepT_same hs h1 hp c1 c2
 refine ⟨fun ha => ?_,fun x hx => ?_⟩
 ·unfold chgN at c1
  change (p.right.all (nAt (tabs g).1) && !nAt (tabs g).1 p.left) = false at c1
  rw [ha] at c1
  simpa using c1
 ·have e2 : stepF (tabs g).1 (tabs g).2 p = (tabs g).2 := congrArg Prod.snd hes
  have hl : p.left.toNat < (tabs g).2.length := by rw [h1.lenF]; omega
  have hF := fAt_mem (F := (tabs g).2) (n := p.left) (by omega) (by rw [h1.lenF]; omega)
  have h4 : (stepF (tabs g).1 (tabs g).2 p)[p.left.toNat]? = some (setOf (fAt (tabs g).2 p.left ++ (ofT (tabs g).1 (tabs g).2 p.right []).1)) := by
   unfold stepF
   rw [List.getElem?_set_self hl]
  rw [e2,hF] at h4
  injection h4 with h4
  rw [h4,mem_setOf,List.mem_append,ofT_mem]
  exact .inr (.inr hx)
end Go.Abs
/- What begins a text: the document's rounds and its queue. -/
namespace Go.Abs
set_option linter.unusedVariables false
set_option linter.unusedSimpArgs false
def vanC (out : List Int) (p : Prd) : Option Int := if (∀ n ∈ p.right,n ∈ out) ∧ p.left ∉ out then some p.left else none
def vanP (g : Gra) (out : List Int) : List Int := g.prods.foldl (adds vanC) out
def refVan (g : Gra) : List Int := iter (vanP g) (g.nonts.length + 1) []
def VanI (g : Gra) (l : List Int) : Prop := l.Nodup ∧ ∀ x ∈ l,Nul g x
theorem vanC_inv {g : Gra} {out : List Int} {p : Prd} {n : Int} (hI : VanI g out) (hp : p ∈ g.prods) (hc : vanC out p = some n) : VanI g (out ++ [n]) := by
 unfold vanC at hc
 split at hc
 ·rename_i hcc
  cases hc
  refine ⟨?_,fun x hx => ?_⟩
  ·rw [List.nodup_append]
   exact ⟨hI.1,by simp,fun a ha b' hb' => by rw [List.mem_singleton] at hb'; subst hb'; exact fun e => hcc.2 (e ▸ ha)⟩
  ·rcases List.mem_append.1 hx with hx | hx
   ·exact hI.2 x hx
   ·rw [List.mem_singleton] at hx
    subst hx
    exact .mk p hp fun k hk => hI.2 k (hcc.1 k hk)
 ·cases hc
theorem VanI.fold {g : Gra} : ∀ (l : List Prd) (out : List Int),(∀ p ∈ l,p ∈ g.prods) → VanI g out → VanI g (l.foldl (adds vanC) out)
 | [],out,_,hI => hI
 | p :: l,out,hl,hI => by
  rw [List.foldl_cons]
  refine VanI.fold l _ (fun q hq => hl q (List.mem_cons_of_mem _ hq)) ?_
  unfold adds
  split
  ·rename_i n hc; exact vanC_inv hI (hl p (by simp)) hc
  ·exact hI
theorem VanI.closed {g : Gra} {l : List Int} (hI : VanI g l) (hc : ∀ p ∈ g.prods,vanC l p = none) (n : Int) : n ∈ l ↔ Nul g n := by
 constructor
 ·exact hI.2 n
 ·intro hr
  induction hr with
  | mk p hp h ih =>
   have h1 := hc p hp
   unfold vanC at h1
   split at h1
   ·cases h1
   ·rename_i hcc
    apply Classical.byContradiction
    intro hne
    exact hcc ⟨ih,hne⟩
theorem VanI.len {g : Gra} (h : Sound g) {l : List Int} (hI : VanI g l) : l.length ≤ g.nonts.length := g.nont_len hI.1 fun n hn => h.nul (hI.2 n hn)
theorem refVan_mem {g : Gra} (h : Sound g) (n : Int) : n ∈ refVan g ↔ Nul g n := by
 have hI : ∀ x,VanI g x → VanI g (vanP g x) := fun x hx => VanI.fold _ _ (fun _ hb => hb) hx
 have hI0 : VanI g [] := ⟨by simp,fun x hx => by simp at hx⟩
 have hfin := iter_inv (vanP g) (VanI g) hI (g.nonts.length + 1) _ hI0
 have hstand := iter_stands (vanP g) (VanI g) hI (fun x _ => adds_ext _ _ x) g.nonts.length (fun x hx => hx.len h) (g.nonts.length + 1) [] hI0 (by simp)
 exact hfin.closed (adds_fix _ _ _ hstand) n
theorem Gra.van_those {g : Gra} (h : Sound g) {l : List Int} (hl : ∀ n,n ∈ l ↔ Nul g n) : setOf l = g.those (Nul g) :=
 g.setOf_those _ fun n => by rw [hl]; exact ⟨fun hr => ⟨h.nul hr,hr⟩,fun hr => hr.2⟩
/-! ### The queue -/
inductive Sta (g : Gra) : List Int → Int → Prop
 | here (n : Int) (l : List Int) : Sta g (n :: l) n
 | down (p : Prd) (l : List Int) (n : Int) (hp : p ∈ g.prods) (h : Sta g p.right n) : Sta g (p.left :: l) n
 | skip (n : Int) (l : List Int) (m : Int) (hn : Nul g n) (h : Sta g l m) : Sta g (n :: l) m
inductive Top (g : Gra) : List Int → Int → Prop
 | here (n : Int) (l : List Int) : Top g (n :: l) n
 | skip (n : Int) (l : List Int) (m : Int) (hn : Nul g n) (h : Top g l m) : Top g (n :: l) m
theorem Top.sta {g : Gra} {l : List Int} {n : Int} (h : Top g l n) : Sta g l n := by
 induction h with
 | here n l => exact .here _ _
 | skip n l m hn h ih => exact .skip _ _ _ hn ih
theorem Top.through {g : Gra} {l : List Int} {p : Prd} {n : Int} (hp : p ∈ g.prods) (hn : Sta g p.right n) (h : Top g l p.left) : Sta g l n := by
 generalize hm : p.left = m at h
 induction h with
 | here m l => subst hm; exact .down p _ _ hp hn
 | skip k l m hk h ih => exact .skip _ _ _ hk (ih hm)
theorem Top.mem {g : Gra} {l : List Int} {n : Int} (h : Top g l n) : n ∈ l := by
 induction h with
 | here n l => simp
 | skip n l m hn h ih => exact List.mem_cons_of_mem _ ih
theorem fst_iff {g : Gra} {l : List Int} {t : Int} : Fst g l t ↔ Sta g l t ∧ t ≤ (g.terms : Int) := by
 constructor
 ·intro h
  induction h with
  | here t l h => exact ⟨.here _ _,h⟩
  | down p l t hp h ih => exact ⟨.down p _ _ hp ih.1,ih.2⟩
  | skip n l t hn h ih => exact ⟨.skip _ _ _ hn ih.1,ih.2⟩
 ·rintro ⟨h,ht⟩
  induction h with
  | here t l => exact .here _ _ ht
  | down p l t hp h ih => exact .down p _ _ hp (ih ht)
  | skip n l t hn h ih => exact .skip _ _ _ hn (ih ht)
def Gra.rights (g : Gra) (n : Int) : List (List Int) := g.prods.flatMap fun p => if p.left = n then [p.right] else []
theorem mem_rights {g : Gra} {n : Int} {r : List Int} : r ∈ g.rights n ↔ ∃ p ∈ g.prods,p.left = n ∧ r = p.right := by
 simp only [Gra.rights,List.mem_flatMap]
 constructor
 ·rintro ⟨p,hp,h⟩
  split at h
  ·rename_i e; rw [List.mem_singleton] at h; exact ⟨p,hp,e,h⟩
  ·simp at h
 ·rintro ⟨p,hp,e,h⟩
  exact ⟨p,hp,by rw [if_pos e,h]; simp⟩
theorem rights_length (g : Gra) (n : Int) : (g.rights n).length ≤ g.prods.length := by
 have key : ∀ l : List Prd,(l.flatMap fun p => if p.left = n then [p.right] else []).length ≤ l.length := by
  intro l
  induction l with
  | nil => simp
  | cons p l ih =>
   rw [List.flatMap_cons,List.length_append,List.length_cons]
   have : (if p.left = n then [p.right] else []).length ≤ 1 := by split <;> simp
   omega
 exact key g.prods
/-- One text of the queue. -/
def seenT (g : Gra) (null : List Int) : List Int → List Int × List (List Int) → List Int × List (List Int)
 | [],s => s
 | n :: r,s => if n ∈ null then seenT g null r (if n ∈ s.1 then s else (s.1 ++ [n],s.2 ++ g.rights n)) else (if n ∈ s.1 then s else (s.1 ++ [n],s.2 ++ g.rights n))
def startsR (g : Gra) (null : List Int) : Nat → List (List Int) → List Int → List Int
 | 0,_,out => out
 | f + 1,[],out => out
 | f + 1,t :: todo,out => startsR g null f (seenT g null t (out,todo)).2 (seenT g null t (out,todo)).1
theorem startsR_nil (g : Gra) (null : List Int) (f : Nat) (out : List Int) : startsR g null f [] out = out := by cases f <;> rfl
structure Seen (g : Gra) (t : List Int) (s s' : List Int × List (List Int)) : Prop where
 sub : ∀ n ∈ s.1,n ∈ s'.1
 subT : ∀ r ∈ s.2,r ∈ s'.2
 top : ∀ n,Top g t n → n ∈ s'.1
 new : ∀ n ∈ s'.1,n ∈ s.1 ∨ (Top g t n ∧ ∀ r ∈ g.rights n,r ∈ s'.2)
 newT : ∀ r ∈ s'.2,r ∈ s.2 ∨ ∃ p ∈ g.prods,r = p.right ∧ Top g t p.left
 nd : s.1.Nodup → s'.1.Nodup
 len : s.1.length ≤ s'.1.length ∧ s'.2.length + s.1.length * g.prods.length ≤ s.2.length + s'.1.length * g.prods.length
theorem seen_one {g : Gra} (n : Int) (s : List Int × List (List Int)) : Seen g [n] s (if n ∈ s.1 then s else (s.1 ++ [n],s.2 ++ g.rights n)) := by
 split
 ·rename_i h
  refine ⟨fun _ h => h,fun _ h => h,fun m hm => ?_,fun _ h => .inl h,fun _ h => .inl h,fun h => h,Nat.le_refl _,Nat.le_refl _⟩
  cases hm with
  | here => exact h
  | skip _ _ _ _ h => cases h
 ·rename_i h
  refine ⟨fun m hm => List.mem_append_left _ hm,fun r hr => List.mem_append_left _ hr,fun m hm => ?_,fun m hm => ?_,fun r hr => ?_,fun hnd => ?_,by simp,?_⟩
  ·cases hm with
   | here => simp
   | skip _ _ _ _ h => cases h
  ·rcases List.mem_append.1 hm with hm | hm
   ·exact .inl hm
   ·rw [List.mem_singleton] at hm
    subst hm
    exact .inr ⟨.here _ _,fun r hr => List.mem_append_right _ hr⟩
  ·rcases List.mem_append.1 hr with hr | hr
   ·exact .inl hr
   ·obtain ⟨p,hp,e,hr⟩ := mem_rights.1 hr
    exact .inr ⟨p,hp,hr,by rw [e]; exact .here _ _⟩
  ·rw [List.nodup_append]
   exact ⟨hnd,by simp,fun a ha b hb e => by rw [List.mem_singleton] at hb; subst hb; exact h (e ▸ ha)⟩
  ·have := rights_length g n
   simp only [List.length_append,List.length_cons,List.length_nil,Nat.zero_add,Nat.succ_mul]
   omega
theorem seenT_seen {g : Gra} {null : List Int} (hnull : ∀ n,n ∈ null ↔ Nul g n) : ∀ (t : List Int) (s : List Int × List (List Int)),Seen g t s (seenT g null t s)
 | [],s => ⟨fun _ h => h,fun _ h => h,fun m hm => (nomatch hm),fun _ h => .inl h,fun _ h => .inl h,fun h => h,Nat.le_refl _,Nat.le_refl _⟩
 | n :: r,s => by
  have h1 := seen_one (g := g) n s
  unfold seenT
  split
  ·rename_i hn
   have hN := (hnull n).1 hn
   have h2 := seenT_seen hnull r (if n ∈ s.1 then s else (s.1 ++ [n],s.2 ++ g.rights n))
   generalize seenT g null r (if n ∈ s.1 then s else (s.1 ++ [n],s.2 ++ g.rights n)) = s2 at h2
   generalize (if n ∈ s.1 then s else (s.1 ++ [n],s.2 ++ g.rights n)) = s1 at h1 h2
   refine ⟨fun m hm => h2.sub m (h1.sub m hm),fun x hx => h2.subT x (h1.subT x hx),fun m hm => ?_,fun m hm => ?_,fun x hx => ?_,fun h => h2.nd (h1.nd h),?_⟩
   ·cases hm with
    | here => exact h2.sub _ (h1.top _ (.here _ _))
    | skip _ _ _ _ h => exact h2.top _ h
   ·rcases h2.new m hm with hm | ⟨ht,hr⟩
    ·rcases h1.new m hm with hm | ⟨ht,hr⟩
     ·exact .inl hm
     ·refine .inr ⟨?_,fun x hx => h2.subT x (hr x hx)⟩
      cases ht with
      | here => exact .here _ _
      | skip _ _ _ _ h => cases h
    ·exact .inr ⟨.skip _ _ _ hN ht,hr⟩
   ·rcases h2.newT x hx with hx | ⟨p,hp,e,ht⟩
    ·rcases h1.newT x hx with hx | ⟨p,hp,e,ht⟩
     ·exact .inl hx
     ·refine .inr ⟨p,hp,e,?_⟩
      generalize p.left = m at ht
      cases ht with
      | here => exact .here _ _
      | skip _ _ _ _ h => cases h
    ·exact .inr ⟨p,hp,e,.skip _ _ _ hN ht⟩
   ·have a := h1.len
    have b := h2.len
    omega
  ·rename_i hn
   have hN : ¬ Nul g n := fun h => hn ((hnull n).2 h)
   generalize (if n ∈ s.1 then s else (s.1 ++ [n],s.2 ++ g.rights n)) = s1 at h1
   have up : ∀ m,Top g [n] m → Top g (n :: r) m := fun m ht => by
    cases ht with
    | here => exact .here _ _
    | skip _ _ _ _ h => cases h
   refine ⟨h1.sub,h1.subT,fun m hm => ?_,fun m hm => ?_,fun x hx => ?_,h1.nd,h1.len⟩
   ·cases hm with
    | here => exact h1.top _ (.here _ _)
    | skip _ _ _ hk h => exact absurd hk hN
   ·rcases h1.new m hm with hm | ⟨ht,hr⟩
    ·exact .inl hm
    ·exact .inr ⟨up m ht,hr⟩
   ·rcases h1.newT x hx with hx | ⟨p,hp,e,ht⟩
    ·exact .inl hx
    ·exact .inr ⟨p,hp,e,up _ ht⟩
/-- What holds of the queue and of what was seen. -/
structure StaI (g : Gra) (text : List Int) (out : List Int) (todo : List (List Int)) : Prop where
 nd : out.Nodup
 rg : ∀ n ∈ out,1 ≤ n ∧ n ≤ (g.all : Int)
 rgT : ∀ r ∈ todo,∀ n ∈ r,1 ≤ n ∧ n ≤ (g.all : Int)
 ok : ∀ n ∈ out,Sta g text n
 okT : ∀ r ∈ todo,∀ n,Sta g r n → Sta g text n
 dn : ∀ n ∈ out,∀ r ∈ g.rights n,r ∈ todo ∨ ∀ m,Top g r m → m ∈ out
 dt : text ∈ todo ∨ ∀ m,Top g text m → m ∈ out
 short : ∀ r ∈ todo,r.length ≤ text.length + 8
theorem nodup_len {l : List Int} {k : Nat} (hnd : l.Nodup) (h : ∀ x ∈ l,1 ≤ x ∧ x ≤ (k : Int)) : l.length ≤ k := by
 have hp : (setOf l).Perm l := by
  rw [List.perm_ext_iff_of_nodup ((setOf_rises l).imp fun h => by omega) hnd]
  exact mem_setOf l
 rw [← hp.length_eq]
 exact rises_len (a := 0) (setOf_rises l) fun x hx => by have := h x ((mem_setOf l x).1 hx); omega
theorem StaI.next {g : Gra} (hs : Sound g) {null : List Int} (hnull : ∀ n,n ∈ null ↔ Nul g n) {text : List Int} {out : List Int} {t : List Int} {todo : List (List Int)} (h : StaI g text out (t :: todo)) :
  StaI g text (seenT g null t (out,todo)).1 (seenT g null t (out,todo)).2 := by
 have hn := seenT_seen hnull t (out,todo)
 generalize seenT g null t (out,todo) = s at hn
 have hrt : ∀ p ∈ g.prods,∀ n ∈ p.right,1 ≤ n ∧ n ≤ (g.all : Int) := fun p hp => (hs.prods p hp).2.2.2.2.2
 refine ⟨hn.nd h.nd,fun n hm => ?_,fun r hr => ?_,fun n hm => ?_,fun r hr n hm => ?_,fun n hm r hr => ?_,?_,fun r hr => ?_⟩
 ·rcases hn.new n hm with hm | ⟨ht,_⟩
  ·exact h.rg n hm
  ·exact h.rgT t (by simp) n ht.mem
 ·rcases hn.newT r hr with hr | ⟨p,hp,rfl,_⟩
  ·exact h.rgT r (List.mem_cons_of_mem _ hr)
  ·exact hrt p hp
 ·rcases hn.new n hm with hm | ⟨ht,_⟩
  ·exact h.ok n hm
  ·exact h.okT t (by simp) n ht.sta
 ·rcases hn.newT r hr with hr | ⟨p,hp,rfl,ht⟩
  ·exact h.okT r (List.mem_cons_of_mem _ hr) n hm
  ·exact h.okT t (by simp) n (ht.through hp hm)
 ·rcases hn.new n hm with hm | ⟨_,hall⟩
  ·rcases h.dn n hm r hr with hr2 | hr2
   ·rcases List.mem_cons.1 hr2 with rfl | hr2
    ·exact .inr hn.top
    ·exact .inl (hn.subT r hr2)
   ·exact .inr fun m ht => hn.sub m (hr2 m ht)
  ·exact .inl (hall r hr)
 ·rcases h.dt with hr2 | hr2
  ·rcases List.mem_cons.1 hr2 with rfl | hr2
   ·exact .inr hn.top
   ·exact .inl (hn.subT _ hr2)
  ·exact .inr fun m ht => hn.sub m (hr2 m ht)
 ·rcases hn.newT r hr with hr | ⟨p,hp,rfl,_⟩
  ·exact h.short r (List.mem_cons_of_mem _ hr)
  ·have := (hs.prods p hp).2.2.1
   omega
theorem StaI.fin {g : Gra} {text out : List Int} (h : StaI g text out []) (n : Int) : n ∈ out ↔ Sta g text n := by
 have key : ∀ (l : List Int) (n : Int),Sta g l n → (∀ m,Top g l m → m ∈ out) → n ∈ out := by
  intro l n hl
  induction hl with
  | here n l => exact fun ht => ht n (.here _ _)
  | down p l n hp _ ih =>
   intro ht
   refine ih fun m hm => ?_
   rcases h.dn p.left (ht p.left (.here _ _)) p.right (mem_rights.2 ⟨p,hp,rfl,rfl⟩) with h2 | h2
   ·simp at h2
   ·exact h2 m hm
  | skip k l m hk _ ih => exact fun ht => ih fun m hm => ht m (.skip _ _ _ hk hm)
 refine ⟨h.ok n,fun hn => ?_⟩
 rcases h.dt with h2 | h2
 ·simp at h2
 ·exact key text n hn h2
def staM (g : Gra) (out : List Int) (todo : List (List Int)) : Nat := todo.length + (g.all - out.length) * g.prods.length
theorem StaI.less {g : Gra} (hs : Sound g) {null : List Int} (hnull : ∀ n,n ∈ null ↔ Nul g n) {text : List Int} {out : List Int} {t : List Int} {todo : List (List Int)} (h : StaI g text out (t :: todo)) :
  staM g (seenT g null t (out,todo)).1 (seenT g null t (out,todo)).2 < staM g out (t :: todo) := by
 have h' := h.next hs hnull
 have hn := (seenT_seen hnull t (out,todo)).len
 generalize seenT g null t (out,todo) = s at hn h'
 have l1 := nodup_len h.nd h.rg
 have l2 := nodup_len h'.nd h'.rg
 unfold staM
 rw [List.length_cons]
 simp only at hn
 obtain ⟨a,ha⟩ := Nat.le.dest l1
 obtain ⟨b,hb⟩ := Nat.le.dest l2
 rw [← ha]
 have e1 : out.length + a - out.length = a := by omega
 have e2 : out.length + a - s.1.length = b := by omega
 rw [e1,e2]
 have e3 : (out.length + a) * g.prods.length = (s.1.length + b) * g.prods.length := by rw [ha,hb]
 rw [Nat.add_mul,Nat.add_mul] at e3
 omega
theorem startsR_mem {g : Gra} (hs : Sound g) {null : List Int} (hnull : ∀ n,n ∈ null ↔ Nul g n) {text : List Int} : ∀ (f : Nat) (todo : List (List Int)) (out : List Int),StaI g text out todo → staM g out todo ≤ f → ∀ n,n ∈ startsR g null f todo out ↔ Sta g text n
 | 0,[],out,h,_,n => h.fin n
 | 0,t :: todo,out,h,hf,n => by unfold staM at hf; rw [List.length_cons] at hf; omega
 | f + 1,[],out,h,_,n => h.fin n
 | f + 1,t :: todo,out,h,hf,n => by
  unfold startsR
  exact startsR_mem hs hnull f _ _ (h.next hs hnull) (by have := h.less hs hnull; omega) n
theorem staI_start {g : Gra} {text : List Int} (h : ∀ n ∈ text,1 ≤ n ∧ n ≤ (g.all : Int)) : StaI g text [] [text] :=
 ⟨by simp,by simp,fun r hr => by rw [List.mem_singleton] at hr; subst hr; exact h,by simp,fun r hr n hn => by rw [List.mem_singleton] at hr; subst hr; exact hn,by simp,.inl (by simp),fun r hr => by rw [List.mem_singleton] at hr; subst hr; omega⟩
def startsL (g : Gra) (null text : List Int) : List Int := startsR g null (staM g [] [text]) [text] []
theorem startsL_mem {g : Gra} (hs : Sound g) {null : List Int} (hnull : ∀ n,n ∈ null ↔ Nul g n) {text : List Int} (h : ∀ n ∈ text,1 ≤ n ∧ n ≤ (g.all : Int)) (n : Int) : n ∈ startsL g null text ↔ Sta g text n :=
 startsR_mem hs hnull _ _ _ (staI_start h) (Nat.le_refl _) n
theorem firsts_starts {g : Gra} (hs : Sound g) {null : List Int} (hnull : ∀ n,n ∈ null ↔ Nul g n) {text : List Int} (h : ∀ n ∈ text,1 ≤ n ∧ n ≤ (g.all : Int)) :
  setOf ((startsL g null text).filter fun n => decide (n ≤ (g.terms : Int))) = g.firsts text :=
 Gra.setOf_firsts hs (fun n hn => (h n hn).1) fun x => by rw [List.mem_filter,startsL_mem hs hnull h,fst_iff,decide_eq_true_eq]
end Go.Abs
/- What may stand behind a symbol. -/
namespace Go.Abs
set_option linter.unusedVariables false
set_option linter.unusedSimpArgs false
inductive Beh (g : Gra) : Int → Int → Prop
 | start : Beh g g.start 0
 | first (p : Prd) (a b : List Int) (n t : Int) (hp : p ∈ g.prods) (hl : Reach g p.left) (e : p.right = a ++ n :: b) (hf : Fst g b t) : Beh g n t
 | up (p : Prd) (a b : List Int) (n t : Int) (hp : p ∈ g.prods) (hl : Reach g p.left) (e : p.right = a ++ n :: b) (hn : ∀ k ∈ b,Nul g k) (h : Beh g p.left t) : Beh g n t
theorem Sound.right {g : Gra} (hs : Sound g) {p : Prd} (hp : p ∈ g.prods) {a b : List Int} {n : Int} (e : p.right = a ++ n :: b) : (1 ≤ n ∧ n ≤ (g.all : Int)) ∧ ∀ k ∈ b,1 ≤ k ∧ k ≤ (g.all : Int) := by
 have h := (hs.prods p hp).2.2.2.2.2
 rw [e] at h
 exact ⟨h n (by simp),fun k hk => h k (by simp [hk])⟩
theorem Sound.beh {g : Gra} (hs : Sound g) (hne : g.nonts ≠ []) {n t : Int} (h : Beh g n t) : (1 ≤ n ∧ n ≤ (g.all : Int)) ∧ 0 ≤ t ∧ t ≤ (g.terms : Int) := by
 induction h with
 | start => have := hs.start.2 hne; omega
 | first p a b n t hp hl e hf =>
  have h1 := hs.right hp e
  have h2 := hs.fst hf fun k hk => (h1.2 k hk).1
  omega
 | up p a b n t hp hl e hn h ih => exact ⟨(hs.right hp e).1,ih.2⟩
/-- What stands behind a symbol, each once, in order. -/
noncomputable def Gra.behs (g : Gra) (n : Int) : List Int :=
 haveI : DecidablePred (Beh g n) := fun t => Classical.propDecidable _
 ((List.range (g.terms + 1)).map fun i : Nat => (i : Int)).filter fun t => decide (Beh g n t)
theorem Gra.mem_behs (g : Gra) (n t : Int) : t ∈ g.behs n ↔ (0 ≤ t ∧ t ≤ (g.terms : Int)) ∧ Beh g n t := by
 unfold Gra.behs
 simp only [List.mem_filter,List.mem_map,List.mem_range,decide_eq_true_eq]
 constructor
 ·rintro ⟨⟨i,hi,rfl⟩,h⟩
  exact ⟨⟨by omega,by omega⟩,h⟩
 ·rintro ⟨⟨h1,h2⟩,h⟩
  exact ⟨⟨t.toNat,by omega,by omega⟩,h⟩
theorem Gra.behs_rises (g : Gra) (n : Int) : (g.behs n).Pairwise (· < ·) := by
 unfold Gra.behs
 refine List.Pairwise.filter _ ?_
 rw [List.pairwise_map]
 exact List.pairwise_lt_range.imp fun h => by omega
noncomputable def Gra.behRows (g : Gra) : List (List Int) := (List.range (g.all + 1)).map fun i : Nat => g.behs (i : Int)
structure BehI (g : Gra) (O : List (List Int)) : Prop where
 len : O.length = g.all + 1
 beh : ∀ (n : Nat) (l : List Int),O[n]? = some l → (∀ x ∈ l,Beh g n x) ∧ l.Pairwise (· < ·)
 start : (0 : Int) ∈ fAt O g.start
theorem BehI.at_ {g : Gra} {O : List (List Int)} (h : BehI g O) {n : Int} (h0 : 0 ≤ n) (h1 : n ≤ (g.all : Int)) : O[n.toNat]? = some (fAt O n) ∧ (∀ x ∈ fAt O n,Beh g n x) ∧ (fAt O n).Pairwise (· < ·) := by
 have hg := fAt_mem (F := O) h0 (by rw [h.len]; omega)
 have := h.beh _ _ hg
 rw [show ((n.toNat : Nat) : Int) = n from by omega] at this
 exact ⟨hg,this⟩
theorem BehI.lenle {g : Gra} (hs : Sound g) (hne : g.nonts ≠ []) {O : List (List Int)} (h : BehI g O) {n : Nat} {l : List Int} (hl : O[n]? = some l) : l.length ≤ g.terms + 1 := by
 obtain ⟨h1,h2⟩ := h.beh n l hl
 exact rises_len (a := -1) h2 fun x hx => by have := (hs.beh hne (h1 x hx)).2; omega
def behW (O : List (List Int)) : Nat := (O.map List.length).sum
def behB (g : Gra) : Nat := (g.all + 1) * (g.terms + 1)
theorem BehI.weight {g : Gra} (hs : Sound g) (hne : g.nonts ≠ []) {O : List (List Int)} (h : BehI g O) : behW O ≤ behB g := by
 have h2 := sum_le List.length (g.terms + 1) (l := O) fun x hx => by
  obtain ⟨i,hi,e⟩ := List.getElem_of_mem hx
  exact h.lenle hs hne (n := i) (by rw [List.getElem?_eq_getElem hi,e])
 rw [h.len] at h2
 exact h2
def putB (O : List (List Int)) (n : Int) (l : List Int) : List (List Int) := O.set n.toNat (setOf (fAt O n ++ l))
def chgB (O : List (List Int)) (n : Int) (l : List Int) : Bool := decide ((fAt O n).length < (setOf (fAt O n ++ l)).length)
theorem fAt_put {O : List (List Int)} {n : Int} {l : List Int} (h0 : 0 ≤ n) (h : n < O.length) {m : Int} (hm : 0 ≤ m) {x : Int} (hx : x ∈ fAt O m) : x ∈ fAt (putB O n l) m := by
 unfold putB
 by_cases e : m = n
 ·subst e
  have : (O.set m.toNat (setOf (fAt O m ++ l)))[m.toNat]? = some (setOf (fAt O m ++ l)) := List.getElem?_set_self (by omega)
  show x ∈ (O.set m.toNat (setOf (fAt O m ++ l))).getD m.toNat []
  rw [List.getD_eq_getElem?_getD,this]
  simp only [Option.getD_some,mem_setOf]
  exact List.mem_append_left _ hx
 ·show x ∈ (O.set n.toNat (setOf (fAt O n ++ l))).getD m.toNat []
  rw [List.getD_eq_getElem?_getD,List.getElem?_set_ne (by omega),← List.getD_eq_getElem?_getD]
  exact hx
theorem BehI.put {g : Gra} (hs : Sound g) (hne : g.nonts ≠ []) {O : List (List Int)} (h : BehI g O) {n : Int} (h0 : 0 ≤ n) (h1 : n ≤ (g.all : Int)) {l : List Int} (hl : ∀ x ∈ l,Beh g n x) : BehI g (putB O n l) := by
 refine ⟨by unfold putB; rw [List.length_set]; exact h.len,fun k r hr => ?_,fAt_put h0 (by rw [h.len]; omega) (by have := hs.start.2 hne; omega) h.start⟩
 unfold putB at hr
 rw [List.getElem?_set] at hr
 split at hr
 ·rename_i e
  split at hr
  ·cases hr
   refine ⟨fun x hx => ?_,setOf_rises _⟩
   rw [mem_setOf,List.mem_append] at hx
   rw [show (k : Int) = n from by omega]
   rcases hx with hx | hx
   ·exact (h.at_ h0 h1).2.1 x hx
   ·exact hl x hx
  ·cases hr
 ·exact h.beh k r hr
theorem sub_len : ∀ (c d : List Int),c.Nodup → (∀ y ∈ c,y ∈ d) → c.length ≤ d.length := by
 intro c
 induction c with
 | nil => intro d _ _; simp
 | cons y c ih =>
  intro d hc hd
  rw [List.nodup_cons] at hc
  have hy := hd y (by simp)
  have := ih (d.erase y) hc.2 fun z hz => by
   have hne : z ≠ y := fun e => hc.1 (e ▸ hz)
   exact (List.mem_erase_of_ne hne).2 (hd z (List.mem_cons_of_mem _ hz))
  rw [List.length_erase_of_mem hy] at this
  have : 0 < d.length := List.length_pos_of_mem hy
  rw [List.length_cons]
  omega
theorem BehI.more {g : Gra} {O : List (List Int)} (h : BehI g O) {n : Int} (h0 : 0 ≤ n) (h1 : n ≤ (g.all : Int)) {l : List Int} : behW O + (chgB O n l).toNat ≤ behW (putB O n l) := by
 obtain ⟨hg,_,hr⟩ := h.at_ h0 h1
 have hle : (fAt O n).length ≤ (setOf (fAt O n ++ l)).length := sub_len _ _ (hr.imp fun h => by omega) fun y hy => by rw [mem_setOf]; exact List.mem_append_left _ hy
 have sF := sum_set List.length (x := setOf (fAt O n ++ l)) hg
 unfold behW putB chgB
 by_cases hc : (fAt O n).length < (setOf (fAt O n ++ l)).length
 ·rw [decide_eq_true hc]
  simp only [Bool.toNat_true]
  omega
 ·rw [decide_eq_false hc]
  simp only [Bool.toNat_false]
  omega
theorem BehI.same {g : Gra} {O : List (List Int)} (h : BehI g O) {n : Int} (h0 : 0 ≤ n) (h1 : n ≤ (g.all : Int)) {l : List Int} (hc : chgB O n l = false) : putB O n l = O ∧ ∀ x ∈ l,x ∈ fAt O n := by
 obtain ⟨hg,_,hr⟩ := h.at_ h0 h1
 unfold chgB at hc
 have e : fAt O n = setOf (fAt O n ++ l) := rises_same hr (setOf_rises _) (fun x hx => by rw [mem_setOf]; exact List.mem_append_left _ hx) (by simpa using hc)
 refine ⟨?_,fun x hx => ?_⟩
 ·unfold putB
  rw [← e]
  exact set_self hg
 ·rw [e,mem_setOf]
  exact List.mem_append_right _ hx
/-- The first places of a right side give nothing more. -/
def OccC (g : Gra) (O : List (List Int)) (p : Prd) (m : Nat) : Prop :=
 ∀ a n b,p.right = a ++ n :: b → a.length < m → (∀ t,Fst g b t → t ∈ fAt O n) ∧ ((∀ k ∈ b,Nul g k) → ∀ t ∈ fAt O p.left,t ∈ fAt O n)
theorem OccC.zero {g : Gra} {O : List (List Int)} {p : Prd} : OccC g O p 0 := fun a n b _ h => by omega
theorem split_at {l a b : List Int} {n : Int} (e : l = a ++ n :: b) : l[a.length]? = some n ∧ b = l.drop (a.length + 1) := by
 subst e
 refine ⟨by simp,?_⟩
 rw [List.drop_append,List.drop_eq_nil_of_le (by omega),show a.length + 1 - a.length = 1 from by omega]
 rfl
theorem OccC.succ {g : Gra} {O : List (List Int)} {p : Prd} {m : Nat} {n : Int} (h : OccC g O p m) (hn : p.right[m]? = some n) (h1 : ∀ t,Fst g (p.right.drop (m + 1)) t → t ∈ fAt O n) (h2 : (∀ k ∈ p.right.drop (m + 1),Nul g k) → ∀ t ∈ fAt O p.left,t ∈ fAt O n) :
  OccC g O p (m + 1) := fun a k b e hl => by
 by_cases hlt : a.length < m
 ·exact h a k b e hlt
 ·obtain ⟨e1,e2⟩ := split_at e
  have : a.length = m := by omega
  rw [this] at e1 e2
  rw [hn] at e1
  cases e1
  rw [e2]
  exact ⟨h1,h2⟩
theorem beh_fin {g : Gra} (hs : Sound g) (hne : g.nonts ≠ []) {O : List (List Int)} (h : BehI g O) (hc : ∀ p ∈ g.prods,Reach g p.left → OccC g O p p.right.length) : O = g.behRows := by
 have hall : ∀ n t,Beh g n t → t ∈ fAt O n := fun n t hb => by
  induction hb with
  | start => exact h.start
  | first p a b n t hp hl e hf => exact (hc p hp hl a n b e (by rw [e]; simp)).1 t hf
  | up p a b n t hp hl e hn _ ih => exact (hc p hp hl a n b e (by rw [e]; simp)).2 hn t ih
 refine List.ext_getElem? fun i => ?_
 unfold Gra.behRows
 by_cases hi : i < g.all + 1
 ·obtain ⟨h1,h2,h3⟩ := h.at_ (n := (i : Int)) (by omega) (by omega)
  rw [Int.toNat_natCast] at h1
  rw [h1,List.getElem?_map,List.getElem?_range hi]
  simp only [Option.map_some]
  congr 1
  refine rises_unique _ _ h3 (g.behs_rises _) fun x => ?_
  rw [g.mem_behs]
  exact ⟨fun hx => ⟨(hs.beh hne (h2 x hx)).2,h2 x hx⟩,fun hx => hall _ _ hx.2⟩
 ·rw [List.getElem?_eq_none (by rw [h.len]; omega),List.getElem?_eq_none (by simp; omega)]
theorem behI_start {g : Gra} (hs : Sound g) (hne : g.nonts ≠ []) : BehI g ((List.replicate (g.all + 1) []).set g.start.toNat [0]) := by
 have hst := hs.start.2 hne
 refine ⟨by simp,fun n l hl => ?_,?_⟩
 ·rw [List.getElem?_set] at hl
  split at hl
  ·split at hl
   ·cases hl
    refine ⟨fun x hx => ?_,by simp⟩
    obtain rfl : x = 0 := by simpa using hx
    rw [show (n : Int) = g.start from by omega]
    exact .start
   ·cases hl
  ·rw [List.getElem?_replicate] at hl
   split at hl
   ·cases hl; exact ⟨by simp,.nil⟩
   ·cases hl
 ·show (0 : Int) ∈ ((List.replicate (g.all + 1) []).set g.start.toNat [0]).getD g.start.toNat []
  rw [List.getD_eq_getElem?_getD,List.getElem?_set_self (by simp; omega)]
  simp
/-! ### The document's way -/
inductive Rim (g : Gra) (s : Int) : Int → Prop
 | here : Rim g s s
 | up (p : Prd) (a b : List Int) (n : Int) (hp : p ∈ g.prods) (hl : Reach g p.left) (e : p.right = a ++ n :: b) (hn : ∀ k ∈ b,Nul g k) (h : Rim g s n) : Rim g s p.left
theorem Rim.trans {g : Gra} {s n m : Int} (h : Rim g s n) (h2 : Rim g n m) : Rim g s m := by
 induction h2 with
 | here => exact h
 | up p a b k hp hl e hn _ ih => exact .up p a b k hp hl e hn ih
def AtE (g : Gra) (e t : Int) : Prop := (e = g.start ∧ t = 0) ∨ ∃ p ∈ g.prods,Reach g p.left ∧ ∃ a b,p.right = a ++ e :: b ∧ Fst g b t
theorem beh_rim {g : Gra} {s t : Int} : Beh g s t ↔ ∃ e,Rim g s e ∧ AtE g e t := by
 constructor
 ·intro h
  induction h with
  | start => exact ⟨_,.here,.inl ⟨rfl,rfl⟩⟩
  | first p a b n t hp hl e hf => exact ⟨_,.here,.inr ⟨p,hp,hl,a,b,e,hf⟩⟩
  | up p a b n t hp hl e hn h ih =>
   obtain ⟨m,h1,h2⟩ := ih
   exact ⟨m,Rim.trans (.up p a b n hp hl e hn .here) h1,h2⟩
 ·rintro ⟨e,h1,h2⟩
  have hb : Beh g e t := by
   rcases h2 with ⟨rfl,rfl⟩ | ⟨p,hp,hl,a,b,h3,h4⟩
   ·exact .start
   ·exact .first p a b e t hp hl h3 h4
  clear h2
  induction h1 with
  | here => exact hb
  | up p a b n hp hl h3 hn _ ih => exact ih (.up p a b n t hp hl h3 hn hb)
theorem Sound.rim {g : Gra} (hs : Sound g) {s n : Int} (h0 : 1 ≤ s ∧ s ≤ (g.all : Int)) (h : Rim g s n) : 1 ≤ n ∧ n ≤ (g.all : Int) := by
 cases h with
 | here => exact h0
 | up p a b k hp hl e hn h => have := hs.prods p hp; omega
/-- What the first places of a right side give for a symbol is there. -/
def Cov (g : Gra) (e : Int) (p : Prd) (m : Nat) (ends all : List Int) : Prop :=
 ∀ a b,p.right = a ++ e :: b → a.length < m → (∀ t,Fst g b t → t ∈ all) ∧ ((∀ k ∈ b,Nul g k) → p.left ∈ ends)
theorem Cov.mono {g : Gra} {e : Int} {p : Prd} {m : Nat} {ends all ends' all' : List Int} (h : Cov g e p m ends all) (h1 : ∀ x ∈ ends,x ∈ ends') (h2 : ∀ x ∈ all,x ∈ all') : Cov g e p m ends' all' := fun a b he hl =>
 ⟨fun t ht => h2 _ ((h a b he hl).1 t ht),fun hn => h1 _ ((h a b he hl).2 hn)⟩
theorem Cov.zero {g : Gra} {e : Int} {p : Prd} {ends all : List Int} : Cov g e p 0 ends all := fun a b _ h => by omega
theorem Cov.succ {g : Gra} {e : Int} {p : Prd} {m : Nat} {n : Int} {ends all : List Int} (h : Cov g e p m ends all) (hn : p.right[m]? = some n) (h1 : n = e → (∀ t,Fst g (p.right.drop (m + 1)) t → t ∈ all) ∧ ((∀ k ∈ p.right.drop (m + 1),Nul g k) → p.left ∈ ends)) :
  Cov g e p (m + 1) ends all := fun a b he hl => by
 by_cases hlt : a.length < m
 ·exact h a b he hlt
 ·obtain ⟨e1,e2⟩ := split_at he
  have : a.length = m := by omega
  rw [this] at e1 e2
  rw [hn] at e1
  cases e1
  rw [e2]
  exact h1 rfl
/-- All that a symbol gives is there. -/
def CovE (g : Gra) (e : Int) (ends all : List Int) : Prop := (e = g.start → (0 : Int) ∈ all) ∧ ∀ p ∈ g.prods,Reach g p.left → Cov g e p p.right.length ends all
theorem CovE.mono {g : Gra} {e : Int} {ends all ends' all' : List Int} (h : CovE g e ends all) (h1 : ∀ x ∈ ends,x ∈ ends') (h2 : ∀ x ∈ all,x ∈ all') : CovE g e ends' all' :=
 ⟨fun he => h2 _ (h.1 he),fun p hp hl => (h.2 p hp hl).mono h1 h2⟩
structure RimI (g : Gra) (s : Int) (ends all : List Int) : Prop where
 nodup : ends.Nodup
 rim : ∀ x ∈ ends,Rim g s x
 mem : s ∈ ends
 all_ : ∀ x ∈ all,Beh g s x
theorem RimI.len {g : Gra} (hs : Sound g) {s : Int} (h0 : 1 ≤ s ∧ s ≤ (g.all : Int)) {ends all : List Int} (h : RimI g s ends all) : ends.length ≤ g.all :=
 nodup_len h.nodup fun x hx => hs.rim h0 (h.rim x hx)
theorem rim_fin {g : Gra} (hs : Sound g) (hne : g.nonts ≠ []) {s : Int} {ends all : List Int} (h : RimI g s ends all) (hc : ∀ e ∈ ends,CovE g e ends all) : setOf all = g.behs s := by
 have hr : ∀ e,Rim g s e → e ∈ ends := fun e he => by
  induction he with
  | here => exact h.mem
  | up p a b n hp hl e hn _ ih => exact ((hc _ ih).2 p hp hl a b e (by rw [e]; simp)).2 hn
 refine rises_unique _ _ (setOf_rises _) (g.behs_rises _) fun x => ?_
 rw [mem_setOf,g.mem_behs]
 constructor
 ·exact fun hx => ⟨(hs.beh hne (h.all_ x hx)).2,h.all_ x hx⟩
 ·rintro ⟨_,hb⟩
  obtain ⟨e,h1,h2⟩ := beh_rim.1 hb
  have h3 := hc e (hr e h1)
  rcases h2 with ⟨rfl,rfl⟩ | ⟨p,hp,hl,a,b,h4,h5⟩
  ·exact h3.1 rfl
  ·exact (h3.2 p hp hl a b h4 (by rw [h4]; simp)).1 x h5
/-! ### One place of a right side -/
structure InnI (g : Gra) (O0 : List (List Int)) (D : Prop) (p : Prd) (j : Nat) (gr : Bool) (O : List (List Int)) : Prop where
 beh : BehI g O
 le : behW O0 ≤ behW O
 no : gr = false → O = O0 ∧ D ∧ OccC g O p j
 yes : gr = true → behW O0 < behW O
theorem InnI.done {g : Gra} {O0 : List (List Int)} {D : Prop} {p q : Prd} {j : Nat} {gr : Bool} {O : List (List Int)} (h : InnI g O0 D p j gr O) {D' : Prop} (hd : O = O0 → D → OccC g O p j → D') : InnI g O0 D' q 0 gr O :=
 ⟨h.beh,h.le,fun e => by obtain ⟨h1,h2,h3⟩ := h.no e; exact ⟨h1,hd h1 h2 h3,.zero⟩,h.yes⟩
theorem InnI.step {g : Gra} (hs : Sound g) (hne : g.nonts ≠ []) {O0 : List (List Int)} {D : Prop} {p : Prd} {j : Nat} {gr : Bool} {O : List (List Int)} (h : InnI g O0 D p j gr O) (hp : p ∈ g.prods) (hl : Reach g p.left) {n : Int} (hn : p.right[j]? = some n) :
  (¬ (∀ k ∈ p.right.drop (j + 1),Nul g k) → InnI g O0 D p (j + 1) (gr || chgB O n (g.firsts (p.right.drop (j + 1)))) (putB O n (g.firsts (p.right.drop (j + 1))))) ∧
  ((∀ k ∈ p.right.drop (j + 1),Nul g k) → InnI g O0 D p (j + 1) ((gr || chgB O n (g.firsts (p.right.drop (j + 1)))) || chgB (putB O n (g.firsts (p.right.drop (j + 1)))) n (fAt (putB O n (g.firsts (p.right.drop (j + 1)))) p.left))
   (putB (putB O n (g.firsts (p.right.drop (j + 1)))) n (fAt (putB O n (g.firsts (p.right.drop (j + 1)))) p.left))) := by
 have hjl : j < p.right.length := (List.getElem?_eq_some_iff.1 hn).1
 have hnj : p.right[j] = n := (List.getElem?_eq_some_iff.1 hn).2
 have he : p.right = p.right.take j ++ n :: p.right.drop (j + 1) := by
  rw [← hnj,← List.drop_eq_getElem_cons hjl,List.take_append_drop]
 have hr := hs.right hp he
 have hpl := hs.prods p hp
 generalize hb : p.right.drop (j + 1) = b at *
 have hfb : ∀ t,Fst g b t → t ∈ g.firsts b := fun t ht => (g.mem_firsts b t).2 ⟨hs.fst ht fun k hk => (hr.2 k hk).1,ht⟩
 have hB1 : BehI g (putB O n (g.firsts b)) := h.beh.put hs hne (by omega) hr.1.2 fun x hx => .first p _ b n x hp hl he ((g.mem_firsts b x).1 hx).2
 have hm1 := h.beh.more (n := n) (by omega) hr.1.2 (l := g.firsts b)
 have hs1 := h.beh.same (n := n) (by omega) hr.1.2 (l := g.firsts b)
 generalize chgB O n (g.firsts b) = c1 at hm1 hs1 ⊢
 constructor
 ·intro hnn
  refine ⟨hB1,by have := h.le; omega,fun e => ?_,fun e => ?_⟩
  ·obtain ⟨rfl,rfl⟩ : gr = false ∧ c1 = false := by simpa using e
   obtain ⟨e1,e2⟩ := hs1 rfl
   rw [e1]
   obtain ⟨h1,h2,h3⟩ := h.no rfl
   refine ⟨h1,h2,h3.succ hn (by rw [hb]; exact fun t ht => e2 _ (hfb t ht)) (by rw [hb]; exact fun h => absurd h hnn)⟩
  ·cases c1 with
   | true => have := h.le; simp only [Bool.toNat_true] at hm1; omega
   | false => have := h.yes (by simpa using e); simp only [Bool.toNat_false] at hm1; omega
 ·intro hnn
  have hB2 : BehI g (putB (putB O n (g.firsts b)) n (fAt (putB O n (g.firsts b)) p.left)) := hB1.put hs hne (by omega) hr.1.2 fun x hx => .up p _ b n x hp hl he hnn ((hB1.at_ (n := p.left) (by omega) (by omega)).2.1 x hx)
  have hm2 := hB1.more (n := n) (by omega) hr.1.2 (l := fAt (putB O n (g.firsts b)) p.left)
  have hs2 := hB1.same (n := n) (by omega) hr.1.2 (l := fAt (putB O n (g.firsts b)) p.left)
  generalize chgB (putB O n (g.firsts b)) n (fAt (putB O n (g.firsts b)) p.left) = c2 at hm2 hs2 ⊢
  refine ⟨hB2,by have := h.le; omega,fun e => ?_,fun e => ?_⟩
  ·obtain ⟨⟨rfl,rfl⟩,rfl⟩ : (gr = false ∧ c1 = false) ∧ c2 = false := by simpa using e
   obtain ⟨e1,e2⟩ := hs1 rfl
   rw [e1] at hs2 ⊢
   obtain ⟨e3,e4⟩ := hs2 rfl
   rw [e3]
   obtain ⟨h1,h2,h3⟩ := h.no rfl
   refine ⟨h1,h2,h3.succ hn (by rw [hb]; exact fun t ht => e2 _ (hfb t ht)) (fun _ => e4)⟩
  ·cases c2 with
   | true => have := h.le; simp only [Bool.toNat_true] at hm2; omega
   | false =>
    cases c1 with
    | true => have := h.le; simp only [Bool.toNat_true] at hm1; omega
    | false => have := h.yes (by simpa using e); simp only [Bool.toNat_false] at hm1 hm2; omega
/-! ### One place of a right side, the document's way -/
structure MidI (g : Gra) (s : Int) (T0 T : List Int) (e0 : Int) (i : Nat) (P : List Prd) (p : Prd) (j : Nat) (ends all : List Int) : Prop where
 rim : RimI g s ends all
 tk : ends.take (i + 1) = T
 len : i < ends.length
 mem : e0 ∈ ends
 old : ∀ e ∈ T0,CovE g e ends all
 st : e0 = g.start → (0 : Int) ∈ all
 cur : ∀ q ∈ P,Reach g q.left → Cov g e0 q q.right.length ends all
 now : Cov g e0 p j ends all
theorem MidI.next {g : Gra} {s : Int} {T0 T : List Int} {e0 : Int} {i : Nat} {P P' : List Prd} {p q : Prd} {j : Nat} {ends all : List Int} (h : MidI g s T0 T e0 i P p j ends all)
  (hc : ∀ q ∈ P',Reach g q.left → Cov g e0 q q.right.length ends all) : MidI g s T0 T e0 i P' q 0 ends all := ⟨h.rim,h.tk,h.len,h.mem,h.old,h.st,hc,.zero⟩
theorem MidI.skip {g : Gra} {s : Int} {T0 T : List Int} {e0 : Int} {i : Nat} {P : List Prd} {p : Prd} {j : Nat} {ends all : List Int} (h : MidI g s T0 T e0 i P p j ends all) {n : Int} (hn : p.right[j]? = some n) (hne : n ≠ e0) :
  MidI g s T0 T e0 i P p (j + 1) ends all := ⟨h.rim,h.tk,h.len,h.mem,h.old,h.st,h.cur,h.now.succ hn fun e => absurd e hne⟩
theorem MidI.put {g : Gra} (hs : Sound g) {s : Int} {T0 T : List Int} {e0 : Int} {i : Nat} {P : List Prd} {p : Prd} {j : Nat} {ends all : List Int} (h : MidI g s T0 T e0 i P p j ends all) (hp : p ∈ g.prods) (hl : Reach g p.left) (hn : p.right[j]? = some e0) :
  ((∀ k ∈ p.right.drop (j + 1),Nul g k) → p.left ∉ ends → MidI g s T0 T e0 i P p (j + 1) (ends ++ [p.left]) (all ++ g.firsts (p.right.drop (j + 1)))) ∧
  (¬ ((∀ k ∈ p.right.drop (j + 1),Nul g k) ∧ p.left ∉ ends) → MidI g s T0 T e0 i P p (j + 1) ends (all ++ g.firsts (p.right.drop (j + 1)))) := by
 have hjl : j < p.right.length := (List.getElem?_eq_some_iff.1 hn).1
 have hnj : p.right[j] = e0 := (List.getElem?_eq_some_iff.1 hn).2
 have he : p.right = p.right.take j ++ e0 :: p.right.drop (j + 1) := by
  rw [← hnj,← List.drop_eq_getElem_cons hjl,List.take_append_drop]
 have hr := hs.right hp he
 generalize hb : p.right.drop (j + 1) = b at *
 have hfb : ∀ t,Fst g b t → t ∈ g.firsts b := fun t ht => (g.mem_firsts b t).2 ⟨hs.fst ht fun k hk => (hr.2 k hk).1,ht⟩
 have h0 := h.rim.rim _ h.mem
 have hall : ∀ x ∈ all ++ g.firsts b,Beh g s x := fun x hx => by
  rcases List.mem_append.1 hx with hx | hx
  ·exact h.rim.all_ x hx
  ·exact beh_rim.2 ⟨e0,h0,.inr ⟨p,hp,hl,_,b,he,((g.mem_firsts b x).1 hx).2⟩⟩
 have ha : ∀ x ∈ all,x ∈ all ++ g.firsts b := fun x hx => List.mem_append_left _ hx
 constructor
 ·intro hnul hni
  have hen : ∀ x ∈ ends,x ∈ ends ++ [p.left] := fun x hx => List.mem_append_left _ hx
  refine ⟨⟨?_,?_,hen _ h.rim.mem,hall⟩,?_,?_,hen _ h.mem,fun e he => (h.old e he).mono hen ha,fun e => ha _ (h.st e),fun q hq hl => (h.cur q hq hl).mono hen ha,(h.now.mono hen ha).succ hn fun _ => ?_⟩
  ·rw [List.nodup_append]
   refine ⟨h.rim.nodup,by simp,fun x hx y hy => ?_⟩
   obtain rfl : y = p.left := by simpa using hy
   rintro rfl
   exact hni hx
  ·intro x hx
   rcases List.mem_append.1 hx with hx | hx
   ·exact h.rim.rim x hx
   ·obtain rfl : x = p.left := by simpa using hx
    exact .up p _ b e0 hp hl he hnul h0
  ·rw [List.take_append_of_le_length (by have := h.len; omega)]; exact h.tk
  ·rw [List.length_append]; have := h.len; omega
  ·rw [hb]
   exact ⟨fun t ht => List.mem_append_right _ (hfb t ht),fun _ => by simp⟩
 ·intro hnn
  have hen : ∀ x ∈ ends,x ∈ ends := fun x hx => hx
  refine ⟨⟨h.rim.nodup,h.rim.rim,h.rim.mem,hall⟩,h.tk,h.len,h.mem,fun e he => (h.old e he).mono hen ha,fun e => ha _ (h.st e),fun q hq hl => (h.cur q hq hl).mono hen ha,(h.now.mono hen ha).succ hn fun _ => ?_⟩
  rw [hb]
  exact ⟨fun t ht => List.mem_append_right _ (hfb t ht),fun hnul => Classical.byContradiction fun hni => hnn ⟨hnul,hni⟩⟩
def allS (g : Gra) (e : Int) (all : List Int) : List Int := if e = g.start then all ++ [0] else all
theorem midI_start {g : Gra} {s : Int} {ends all : List Int} {i : Nat} {e0 : Int} {p : Prd} (h : RimI g s ends all) (hi : ends[i]? = some e0) (hc : ∀ e ∈ ends.take i,CovE g e ends all) :
  MidI g s (ends.take i) (ends.take (i + 1)) e0 i [] p 0 ends (allS g e0 all) := by
 have hm := List.mem_of_getElem? hi
 have ha : ∀ x ∈ all,x ∈ allS g e0 all := fun x hx => by
  unfold allS
  split
  ·exact List.mem_append_left _ hx
  ·exact hx
 refine ⟨⟨h.nodup,h.rim,h.mem,fun x hx => ?_⟩,rfl,(List.getElem?_eq_some_iff.1 hi).1,hm,fun e he => (hc e he).mono (fun _ h => h) ha,fun e => ?_,by simp,.zero⟩
 ·unfold allS at hx
  split at hx
  ·rename_i e
   rcases List.mem_append.1 hx with hx | hx
   ·exact h.all_ x hx
   ·obtain rfl : x = 0 := by simpa using hx
    exact beh_rim.2 ⟨e0,h.rim _ hm,.inl ⟨e,rfl⟩⟩
  ·exact h.all_ x hx
 ·unfold allS
  rw [if_pos e]
  simp
theorem MidI.fin {g : Gra} {s : Int} {T0 : List Int} {e0 : Int} {i : Nat} {p : Prd} {j : Nat} {ends all : List Int} (h : MidI g s T0 (T0 ++ [e0]) e0 i g.prods p j ends all) : ∀ e ∈ ends.take (i + 1),CovE g e ends all := by
 rw [h.tk]
 intro e he
 rcases List.mem_append.1 he with he | he
 ·exact h.old e he
 ·obtain rfl : e = e0 := by simpa using he
  exact ⟨h.st,h.cur⟩
end Go.Abs
