/- What may vanish, what begins a text: tables that are closed under productions. -/
import Derived.Test.YtmnbljfbdiodbaaTopC
namespace Go.Abs
set_option linter.unusedVariables false
set_option linter.unusedSimpArgs false
inductive Nul (g : Gra) : Int → Prop
 | mk (p : Prd) (hp : p ∈ g.prods) (h : ∀ k ∈ p.right,Nul g k) : Nul g p.left
inductive Fst (g : Gra) : List Int → Int → Prop
 | here (t : Int) (l : List Int) (h : t ≤ (g.terms : Int)) : Fst g (t :: l) t
 | down (p : Prd) (l : List Int) (t : Int) (hp : p ∈ g.prods) (h : Fst g p.right t) : Fst g (p.left :: l) t
 | skip (n : Int) (l : List Int) (t : Int) (hn : Nul g n) (h : Fst g l t) : Fst g (n :: l) t
theorem Fst.one {g : Gra} {n : Int} {l : List Int} {t : Int} (h : Fst g [n] t) : Fst g (n :: l) t := by
 cases h with
 | here _ _ h => exact .here _ _ h
 | down p _ _ hp h => exact .down p _ _ hp h
 | skip _ _ _ hn h => cases h
theorem Fst.cons_iff {g : Gra} {n : Int} {l : List Int} {t : Int} : Fst g (n :: l) t ↔ Fst g [n] t ∨ (Nul g n ∧ Fst g l t) := by
 constructor
 ·intro h
  cases h with
  | here _ _ h => exact .inl (.here _ _ h)
  | down p _ _ hp h => exact .inl (.down p _ _ hp h)
  | skip _ _ _ hn h => exact .inr ⟨hn,h⟩
 ·rintro (h | ⟨hn,h⟩)
  ·exact h.one
  ·exact .skip _ _ _ hn h
theorem Fst.append_iff {g : Gra} {t : Int} {b : List Int} : ∀ {a : List Int},Fst g (a ++ b) t ↔ Fst g a t ∨ ((∀ k ∈ a,Nul g k) ∧ Fst g b t)
 | [] => by
  constructor
  ·exact fun h => .inr ⟨by simp,h⟩
  ·rintro (h | h)
   ·cases h
   ·exact h.2
 | n :: a => by
  rw [List.cons_append,Fst.cons_iff,Fst.append_iff (a := a),Fst.cons_iff (l := a)]
  constructor
  ·rintro (h | ⟨h1,h | ⟨h2,h⟩⟩)
   ·exact .inl (.inl h)
   ·exact .inl (.inr ⟨h1,h⟩)
   ·refine .inr ⟨fun k hk => ?_,h⟩
    rcases List.mem_cons.1 hk with rfl | hk
    ·exact h1
    ·exact h2 k hk
  ·rintro ((h | ⟨h1,h⟩) | ⟨h2,h⟩)
   ·exact .inl h
   ·exact .inr ⟨h1,.inl h⟩
   ·exact .inr ⟨h2 n (by simp),.inr ⟨fun k hk => h2 k (List.mem_cons_of_mem _ hk),h⟩⟩
theorem Fst.nont {g : Gra} {s t : Int} (hs : (g.terms : Int) < s) : Fst g [s] t ↔ ∃ p ∈ g.prods,p.left = s ∧ Fst g p.right t := by
 constructor
 ·intro h
  cases h with
  | here _ _ h => omega
  | down p _ _ hp h => exact ⟨p,hp,rfl,h⟩
  | skip _ _ _ hn h => cases h
 ·rintro ⟨p,hp,rfl,h⟩
  exact .down p _ _ hp h
theorem Nul.iff {g : Gra} {s : Int} : Nul g s ↔ ∃ p ∈ g.prods,p.left = s ∧ ∀ k ∈ p.right,Nul g k := by
 constructor
 ·rintro ⟨p,hp,h⟩
  exact ⟨p,hp,rfl,h⟩
 ·rintro ⟨p,hp,rfl,h⟩
  exact .mk p hp h
theorem Sound.nul {g : Gra} (h : Sound g) {n : Int} (hr : Nul g n) : (g.terms : Int) < n ∧ n ≤ (g.all : Int) := by
 cases hr with
 | mk p hp _ => exact ⟨(h.prods p hp).1,(h.prods p hp).2.1⟩
theorem Sound.fst {g : Gra} (hs : Sound g) {l : List Int} {t : Int} (h : Fst g l t) : (∀ n ∈ l,1 ≤ n) → 1 ≤ t ∧ t ≤ (g.terms : Int) := by
 induction h with
 | here t l h => exact fun hl => ⟨hl t (by simp),h⟩
 | down p l t hp h ih => exact fun _ => ih fun n hn => ((hs.prods p hp).2.2.2.2.2 n hn).1
 | skip n l t hn h ih => exact fun hl => ih fun k hk => hl k (List.mem_cons_of_mem _ hk)
/-! ### Tables -/
def nAt (N : List Bool) (n : Int) : Bool := N.getD n.toNat false
def fAt (F : List (List Int)) (n : Int) : List Int := F.getD n.toNat []
def ofT (N : List Bool) (F : List (List Int)) : List Int → List Int → List Int × Bool
 | [],out => (out,true)
 | n :: r,out => if nAt N n = true then ofT N F r (setOf (out ++ fAt F n)) else (setOf (out ++ fAt F n),false)
def BegT (N : List Bool) (F : List (List Int)) : List Int → Int → Prop
 | [],_ => False
 | n :: r,x => x ∈ fAt F n ∨ (nAt N n = true ∧ BegT N F r x)
theorem ofT_mem {N : List Bool} {F : List (List Int)} {x : Int} : ∀ {text out : List Int},x ∈ (ofT N F text out).1 ↔ x ∈ out ∨ BegT N F text x
 | [],out => by simp [ofT,BegT]
 | n :: r,out => by
  unfold ofT BegT
  split
  ·rename_i h
   rw [ofT_mem,mem_setOf,List.mem_append,or_assoc]
   simp [h]
  ·rename_i h
   simp [mem_setOf,h]
theorem ofT_null {N : List Bool} {F : List (List Int)} : ∀ {text out : List Int},(ofT N F text out).2 = text.all (nAt N)
 | [],out => rfl
 | n :: r,out => by
  unfold ofT
  split
  ·rename_i h; rw [ofT_null,List.all_cons,h,Bool.true_and]
  ·rename_i h; simp [h]
theorem ofT_rises {N : List Bool} {F : List (List Int)} : ∀ {text out : List Int},out.Pairwise (· < ·) → (ofT N F text out).1.Pairwise (· < ·)
 | [],out,h => h
 | n :: r,out,h => by
  unfold ofT
  split
  ·exact ofT_rises (setOf_rises _)
  ·exact setOf_rises _
theorem rises_len : ∀ {l : List Int} {a : Int} {b : Nat},l.Pairwise (· < ·) → (∀ x ∈ l,a < x ∧ x ≤ a + b) → l.length ≤ b
 | [],_,_,_,_ => by simp
 | x :: l,a,b,hp,h => by
  have hx := h x (by simp)
  rw [List.pairwise_cons] at hp
  have := rises_len (l := l) (a := x) (b := (a + b - x).toNat) hp.2 fun y hy => ⟨hp.1 y hy,by have := h y (List.mem_cons_of_mem _ hy); omega⟩
  rw [List.length_cons]
  omega
structure TabI (g : Gra) (N : List Bool) (F : List (List Int)) : Prop where
 lenN : N.length = g.all + 1
 lenF : F.length = g.all + 1
 nul : ∀ n : Nat,N[n]? = some true → Nul g n
 fst : ∀ (n : Nat) (l : List Int),F[n]? = some l → (∀ x ∈ l,Fst g [(n : Int)] x) ∧ l.Pairwise (· < ·) ∧ ∀ x ∈ l,1 ≤ x ∧ x ≤ (g.terms : Int)
 term : ∀ n : Nat,1 ≤ n → n ≤ g.terms → F[n]? = some [(n : Int)]
theorem TabI.len {g : Gra} {N : List Bool} {F : List (List Int)} (h : TabI g N F) {n : Nat} {l : List Int} (hl : F[n]? = some l) : l.length ≤ g.terms := by
 obtain ⟨_,h2,h3⟩ := h.fst n l hl
 exact rises_len (a := 0) h2 fun x hx => by have := h3 x hx; omega
theorem fAt_get {F : List (List Int)} {n : Int} (h0 : 0 ≤ n) (h : n < F.length) : ∃ i : Nat,n = (i : Int) ∧ i < F.length ∧ F[i]? = some (fAt F n) := by
 refine ⟨n.toNat,by omega,by omega,?_⟩
 unfold fAt
 rw [List.getD_eq_getElem?_getD,List.getElem?_eq_getElem (by omega)]
 rfl
theorem nAt_get {N : List Bool} {n : Int} (h0 : 0 ≤ n) (h : n < N.length) : ∃ i : Nat,n = (i : Int) ∧ i < N.length ∧ N[i]? = some (nAt N n) := by
 refine ⟨n.toNat,by omega,by omega,?_⟩
 unfold nAt
 rw [List.getD_eq_getElem?_getD,List.getElem?_eq_getElem (by omega)]
 rfl
theorem TabI.nul_at {g : Gra} {N : List Bool} {F : List (List Int)} (h : TabI g N F) {n : Int} (h0 : 0 ≤ n) (hn : nAt N n = true) : Nul g n := by
 have e : N[n.toNat]? = some true := by
  unfold nAt at hn
  rw [List.getD_eq_getElem?_getD] at hn
  cases hc : N[n.toNat]? with
  | none => rw [hc] at hn; simp at hn
  | some b => rw [hc] at hn; simp at hn; rw [hn]
 have := h.nul _ e
 rwa [show ((n.toNat : Nat) : Int) = n from by omega] at this
theorem TabI.fst_at {g : Gra} {N : List Bool} {F : List (List Int)} (h : TabI g N F) {n : Int} (h0 : 0 ≤ n) {x : Int} (hn : x ∈ fAt F n) : Fst g [n] x ∧ 1 ≤ x ∧ x ≤ (g.terms : Int) := by
 unfold fAt at hn
 rw [List.getD_eq_getElem?_getD] at hn
 cases hc : F[n.toNat]? with
 | none => rw [hc] at hn; simp at hn
 | some l =>
  rw [hc] at hn
  simp only [Option.getD_some] at hn
  obtain ⟨h1,_,h3⟩ := h.fst _ l hc
  have := h1 x hn
  rw [show ((n.toNat : Nat) : Int) = n from by omega] at this
  exact ⟨this,h3 x hn⟩
theorem TabI.beg {g : Gra} {N : List Bool} {F : List (List Int)} (h : TabI g N F) {x : Int} : ∀ {l : List Int},(∀ n ∈ l,1 ≤ n) → BegT N F l x → Fst g l x ∧ 1 ≤ x ∧ x ≤ (g.terms : Int)
 | [],_,hb => hb.elim
 | n :: r,hl,hb => by
  have h1 := hl n (by simp)
  rcases hb with hb | ⟨h2,hb⟩
  ·have := h.fst_at (by omega) hb
   exact ⟨this.1.one,this.2⟩
  ·have := h.beg (fun k hk => hl k (List.mem_cons_of_mem _ hk)) hb
   exact ⟨.skip _ _ _ (h.nul_at (by omega) h2) this.1,this.2⟩
theorem TabI.allNul {g : Gra} {N : List Bool} {F : List (List Int)} (h : TabI g N F) {l : List Int} (hl : ∀ n ∈ l,1 ≤ n) (ha : l.all (nAt N) = true) : ∀ k ∈ l,Nul g k :=
 fun k hk => h.nul_at (by have := hl k hk; omega) (List.all_eq_true.1 ha k hk)
/-! ### One production -/
def stepN (N : List Bool) (p : Prd) : List Bool := if p.right.all (nAt N) = true then N.set p.left.toNat true else N
def stepF (N : List Bool) (F : List (List Int)) (p : Prd) : List (List Int) := F.set p.left.toNat (setOf (fAt F p.left ++ (ofT N F p.right []).1))
theorem TabI.stepN {g : Gra} {N : List Bool} {F : List (List Int)} (hs : Sound g) (h : TabI g N F) {p : Prd} (hp : p ∈ g.prods) : TabI g (stepN N p) F := by
 unfold Go.Abs.stepN
 split
 ·rename_i ha
  have hpr := hs.prods p hp
  refine ⟨by rw [List.length_set]; exact h.lenN,h.lenF,fun n hn => ?_,h.fst,h.term⟩
  rw [List.getElem?_set] at hn
  split at hn
  ·rename_i e
   have := Nul.mk p hp (h.allNul (fun n hn => (hpr.2.2.2.2.2 n hn).1) ha)
   rwa [show p.left = (n : Int) from by omega] at this
  ·exact h.nul n hn
 ·exact h
theorem TabI.stepF {g : Gra} {N N' : List Bool} {F : List (List Int)} (hs : Sound g) (h : TabI g N F) (h' : TabI g N' F) {p : Prd} (hp : p ∈ g.prods) : TabI g N' (stepF N F p) := by
 unfold Go.Abs.stepF
 have hpr := hs.prods p hp
 refine ⟨h'.lenN,by rw [List.length_set]; exact h.lenF,h'.nul,fun n l hl => ?_,fun n h1 h2 => ?_⟩
 ·rw [List.getElem?_set] at hl
  split at hl
  ·rename_i e
   split at hl
   ·injection hl with hl
    subst hl
    have hx : ∀ x ∈ setOf (fAt F p.left ++ (ofT N F p.right []).1),Fst g [p.left] x ∧ 1 ≤ x ∧ x ≤ (g.terms : Int) := fun x hx => by
     rw [mem_setOf,List.mem_append,ofT_mem] at hx
     rcases hx with hx | hx | hx
     ·exact h.fst_at (by omega) hx
     ·simp at hx
     ·have := h.beg (fun n hn => (hpr.2.2.2.2.2 n hn).1) hx
      exact ⟨.down p _ _ hp this.1,this.2⟩
    refine ⟨fun x hm => ?_,setOf_rises _,fun x hm => (hx x hm).2⟩
    have := (hx x hm).1
    rwa [show p.left = (n : Int) from by omega] at this
   ·cases hl
  ·exact h.fst n l hl
 ·rw [List.getElem?_set,if_neg (by omega)]
  exact h.term n h1 h2
/-- Tables that no production changes are whole. -/
structure TabC (g : Gra) (N : List Bool) (F : List (List Int)) : Prop where
 nul : ∀ n,nAt N n = true ↔ Nul g n
 beg : ∀ l x,(∀ n ∈ l,1 ≤ n) → (BegT N F l x ↔ Fst g l x)
theorem TabI.closed {g : Gra} {N : List Bool} {F : List (List Int)} (hs : Sound g) (h : TabI g N F)
  (hc : ∀ p ∈ g.prods,(p.right.all (nAt N) = true → nAt N p.left = true) ∧ ∀ x,BegT N F p.right x → x ∈ fAt F p.left) : TabC g N F := by
 have hnul : ∀ n,Nul g n → nAt N n = true := fun n hn => by
  induction hn with
  | mk p hp h ih => exact (hc p hp).1 (List.all_eq_true.2 ih)
 refine ⟨fun n => ⟨fun hn => ?_,hnul n⟩,fun l x hl => ⟨fun hb => (h.beg hl hb).1,fun hf => ?_⟩⟩
 ·by_cases h0 : 0 ≤ n
  ·exact h.nul_at h0 hn
  ·have e : nAt N n = nAt N 0 := by unfold nAt; rw [show n.toNat = 0 from by omega]; rfl
   rw [e] at hn
   have := hs.nul (h.nul_at (Int.le_refl 0) hn)
   omega
 ·induction hf with
  | here t l ht =>
   have h1 := hl t (by simp)
   have := h.term t.toNat (by omega) (by omega)
   refine .inl ?_
   unfold fAt
   rw [List.getD_eq_getElem?_getD,this]
   simp
   omega
  | down p l t hp hf ih => exact .inl ((hc p hp).2 _ (ih fun n hn => ((hs.prods p hp).2.2.2.2.2 n hn).1))
  | skip n l t hn hf ih => exact .inr ⟨hnul n hn,ih fun k hk => hl k (List.mem_cons_of_mem _ hk)⟩
/-! ### How much stands in tables -/
theorem sum_set {α : Type} (f : α → Nat) : ∀ {l : List α} {i : Nat} {x a : α},l[i]? = some a → ((l.set i x).map f).sum + f a = (l.map f).sum + f x
 | [],i,x,a,h => by simp at h
 | b :: l,0,x,a,h => by
  simp only [List.getElem?_cons_zero,Option.some.injEq] at h
  subst h
  simp only [List.set_cons_zero,List.map_cons,List.sum_cons]
  omega
 | b :: l,i + 1,x,a,h => by
  simp only [List.getElem?_cons_succ] at h
  have := sum_set f (x := x) h
  simp only [List.set_cons_succ,List.map_cons,List.sum_cons]
  omega
theorem sum_le {α : Type} (f : α → Nat) (k : Nat) : ∀ {l : List α},(∀ x ∈ l,f x ≤ k) → (l.map f).sum ≤ l.length * k
 | [],_ => by simp
 | b :: l,h => by
  have := sum_le f k (l := l) fun x hx => h x (List.mem_cons_of_mem _ hx)
  have := h b (by simp)
  simp only [List.map_cons,List.sum_cons,List.length_cons,Nat.succ_mul]
  omega
def tabW (N : List Bool) (F : List (List Int)) : Nat := (N.map Bool.toNat).sum + (F.map List.length).sum
def tabB (g : Gra) : Nat := (g.all + 1) * 1 + (g.all + 1) * g.terms
theorem TabI.weight {g : Gra} {N : List Bool} {F : List (List Int)} (h : TabI g N F) : tabW N F ≤ tabB g := by
 have h1 := sum_le Bool.toNat 1 (l := N) fun x _ => by cases x <;> simp
 have h2 := sum_le List.length g.terms (l := F) fun x hx => by
  obtain ⟨i,hi,e⟩ := List.getElem_of_mem hx
  exact h.len (n := i) (by rw [List.getElem?_eq_getElem hi,e])
 rw [h.lenN] at h1
 rw [h.lenF] at h2
 unfold tabW tabB
 omega
theorem rises_same : ∀ {a b : List Int},a.Pairwise (· < ·) → b.Pairwise (· < ·) → (∀ x ∈ a,x ∈ b) → b.length ≤ a.length → a = b := by
 intro a b ha hb hs hl
 have hsub : ∀ x ∈ b,x ∈ a := by
  intro x hx
  apply Classical.byContradiction
  intro hn
  have h1 : (setOf (x :: a)).length = (x :: a).length := by
   have hp : (setOf (x :: a)).Perm (x :: a) := by
    rw [List.perm_ext_iff_of_nodup ((setOf_rises _).imp fun h => by omega) (List.nodup_cons.2 ⟨hn,ha.imp fun h => by omega⟩)]
    exact mem_setOf _
   exact hp.length_eq
  have h2 : (setOf (x :: a)).length ≤ b.length := by
   have key : ∀ (c d : List Int),c.Nodup → (∀ y ∈ c,y ∈ d) → c.length ≤ d.length := by
    intro c
    induction c with
    | nil => intro d _ _; simp
    | cons y c ih =>
     intro d hc hd
     rw [List.nodup_cons] at hc
     have hy := hd y (by simp)
     have := ih (d.erase y) hc.2 fun z hz => by
      have hne : z ≠ y := fun e => hc.1 (e ▸ hz)
      exact (List.mem_erase_of_ne hne).2 (hd z (List.mem_cons_of_mem _ hz))
     rw [List.length_erase_of_mem hy] at this
     have : 0 < d.length := List.length_pos_of_mem hy
     rw [List.length_cons]
     omega
   refine key _ _ ((setOf_rises _).imp fun h => by omega) fun y hy => ?_
   rw [mem_setOf] at hy
   rcases List.mem_cons.1 hy with rfl | hy
   ·exact hx
   ·exact hs y hy
  rw [h1,List.length_cons] at h2
  omega
 exact rises_unique _ _ ha hb fun x => ⟨hs x,hsub x⟩
theorem set_self {α : Type} : ∀ {l : List α} {i : Nat} {a : α},l[i]? = some a → l.set i a = l
 | [],i,a,h => by simp at h
 | b :: l,0,a,h => by simp at h; subst h; rfl
 | b :: l,i + 1,a,h => by
  simp only [List.getElem?_cons_succ] at h
  rw [List.set_cons_succ,set_self h]
/-- The lists that begin a text, each once, in order. -/
noncomputable def Gra.firsts (g : Gra) (l : List Int) : List Int :=
 haveI : DecidablePred (Fst g l) := fun n => Classical.propDecidable _
 ((List.range g.terms).map fun i : Nat => (i : Int) + 1).filter fun n => decide (Fst g l n)
theorem Gra.mem_firsts (g : Gra) (l : List Int) (n : Int) : n ∈ g.firsts l ↔ (1 ≤ n ∧ n ≤ (g.terms : Int)) ∧ Fst g l n := by
 unfold Gra.firsts
 simp only [List.mem_filter,List.mem_map,List.mem_range,decide_eq_true_eq]
 constructor
 ·rintro ⟨⟨i,hi,rfl⟩,h⟩
  exact ⟨⟨by omega,by omega⟩,h⟩
 ·rintro ⟨⟨h1,h2⟩,h⟩
  exact ⟨⟨(n - 1).toNat,by omega,by omega⟩,h⟩
theorem Gra.firsts_rises (g : Gra) (l : List Int) : (g.firsts l).Pairwise (· < ·) := by
 unfold Gra.firsts
 refine List.Pairwise.filter _ ?_
 rw [List.pairwise_map]
 exact List.pairwise_lt_range.imp fun h => by omega
theorem Gra.firsts_length (g : Gra) (l : List Int) : (g.firsts l).length ≤ g.terms := by
 unfold Gra.firsts
 refine Nat.le_trans (List.length_filter_le _ _) ?_
 simp
theorem Gra.setOf_firsts {g : Gra} (hs : Sound g) {l : List Int} (hl : ∀ n ∈ l,1 ≤ n) {o : List Int} (h : ∀ x,x ∈ o ↔ Fst g l x) : setOf o = g.firsts l :=
 rises_unique _ _ (setOf_rises _) (g.firsts_rises l) fun x => by rw [mem_setOf,h,g.mem_firsts]; exact ⟨fun hf => ⟨hs.fst hf hl,hf⟩,fun h => h.2⟩
theorem TabC.ofT {g : Gra} {N : List Bool} {F : List (List Int)} (hs : Sound g) (h : TabC g N F) {l : List Int} (hl : ∀ n ∈ l,1 ≤ n) : (Go.Abs.ofT N F l []).1 = g.firsts l :=
 rises_unique _ _ (ofT_rises .nil) (g.firsts_rises l) fun x => by
  rw [ofT_mem,g.mem_firsts,h.beg l x hl]
  exact ⟨fun hf => by
   rcases hf with hf | hf
   ·simp at hf
   ·exact ⟨hs.fst hf hl,hf⟩,fun h => .inr h.2⟩
open Classical in
theorem TabC.all {g : Gra} {N : List Bool} {F : List (List Int)} (h : TabC g N F) {l : List Int} : l.all (nAt N) = decide (∀ k ∈ l,Nul g k) := by
 rw [Bool.eq_iff_iff,List.all_eq_true,decide_eq_true_eq]
 exact ⟨fun ha k hk => (h.nul k).1 (ha k hk),fun ha k hk => (h.nul k).2 (ha k hk)⟩
end Go.Abs
