/- What may vanish, what begins a text: tables that are closed under productions. -/
import Derived.Test.YtmnbljfbdiodbaaTopC
namespace Go.Abs
set_option linter.unusedVariables false
set_option linter.unusedSimpArgs false
inductive Nul (g : Gra) : Int → Prop
 | mk (p : Prd) (hp : p ∈ g.prods) (h : ∀ k ∈ p.right,Nul g k) : Nul g p.left
inductive Fst (g : Gra) : List Int → Int → Prop
 | here (t : Int) (l : List Int) (h : t ≤ (g.terms : Int)) : Fst g (t :: l) t
 | down (p : Prd) (l : List Int) (t : Int) (hp : p ∈ g.prods) (h : Fst g p.right t) : Fst g (p.left :: l) t
 | skip (n : Int) (l : List Int) (t : Int) (hn : Nul g n) (h : Fst g l t) : Fst g (n :: l) t
theorem Fst.one {g : Gra} {n : Int} {l : List Int} {t : Int} (h : Fst g [n] t) : Fst g (n :: l) t := by
 cases h with
 | here _ _ h => exact .here _ _ h
 | down p _ _ hp h => exact .down p _ _ hp h
 | skip _ _ _ hn h => cases h
theorem Sound.nul {g : Gra} (h : Sound g) {n : Int} (hr : Nul g n) : (g.terms : Int) < n ∧ n ≤ (g.all : Int) := by
 cases hr with
 | mk p hp _ => exact ⟨(h.prods p hp).1,(h.prods p hp).2.1⟩
theorem Sound.fst {g : Gra} (hs : Sound g) {l : List Int} {t : Int} (h : Fst g l t) : (∀ n ∈ l,1 ≤ n) → 1 ≤ t ∧ t ≤ (g.terms : Int) := by
 induction h with
 | here t l h => exact fun hl => ⟨hl t (by simp),h⟩
 | down p l t hp h ih => exact fun _ => ih fun n hn => ((hs.prods p hp).2.2.2.2.2 n hn).1
 | skip n l t hn h ih => exact fun hl => ih fun k hk => hl k (List.mem_cons_of_mem _ hk)
/-! ### Tables -/
def nAt (N : List Bool) (n : Int) : Bool := N.getD n.toNat false
def fAt (F : List (List Int)) (n : Int) : List Int := F.getD n.toNat []
def BegT (N : List Bool) (F : List (List Int)) : List Int → Int → Prop
 | [],_ => False
 | n :: r,x => x ∈ fAt F n ∨ (nAt N n = true ∧ BegT N F r x)
theorem rises_len : ∀ {l : List Int} {a : Int} {b : Nat},l.Pairwise (· < ·) → (∀ x ∈ l,a < x ∧ x ≤ a + b) → l.length ≤ b
 | [],_,_,_,_ => by simp
 | x :: l,a,b,hp,h => by
  have hx := h x (by simp)
  rw [List.pairwise_cons] at hp
  have := rises_len (l := l) (a := x) (b := (a + b - x).toNat) hp.2 fun y hy => ⟨hp.1 y hy,by have := h y (List.mem_cons_of_mem _ hy); omega⟩
  rw [List.length_cons]
  omega
structure TabI (g : Gra) (N : List Bool) (F : List (List Int)) : Prop where
 lenN : N.length = g.all + 1
 lenF : F.length = g.all + 1
 nul : ∀ n : Nat,N[n]? = some true → Nul g n
 fst : ∀ (n : Nat) (l : List Int),F[n]? = some l → (∀ x ∈ l,Fst g [(n : Int)] x) ∧ l.Pairwise (· < ·) ∧ ∀ x ∈ l,1 ≤ x ∧ x ≤ (g.terms : Int)
 term : ∀ n : Nat,1 ≤ n → n ≤ g.terms → F[n]? = some [(n : Int)]
theorem TabI.len {g : Gra} {N : List Bool} {F : List (List Int)} (h : TabI g N F) {n : Nat} {l : List Int} (hl : F[n]? = some l) : l.length ≤ g.terms := by
 obtain ⟨_,h2,h3⟩ := h.fst n l hl
 exact rises_len (a := 0) h2 fun x hx => by have := h3 x hx; omega
theorem TabI.nul_at {g : Gra} {N : List Bool} {F : List (List Int)} (h : TabI g N F) {n : Int} (h0 : 0 ≤ n) (hn : nAt N n = true) : Nul g n := by
 have e : N[n.toNat]? = some true := by
  unfold nAt at hn
  rw [List.getD_eq_getElem?_getD] at hn
  cases hc : N[n.toNat]? with
  | none => rw [hc] at hn; simp at hn
  | some b => rw [hc] at hn; simp at hn; rw [hn]
 have := h.nul _ e
 rwa [show ((n.toNat : Nat) : Int) = n from by omega] at this
theorem TabI.fst_at {g : Gra} {N : List Bool} {F : List (List Int)} (h : TabI g N F) {n : Int} (h0 : 0 ≤ n) {x : Int} (hn : x ∈ fAt F n) : Fst g [n] x ∧ 1 ≤ x ∧ x ≤ (g.terms : Int) := by
 unfold fAt at hn
 rw [List.getD_eq_getElem?_getD] at hn
 cases hc : F[n.toNat]? with
 | none => rw [hc] at hn; simp at hn
 | some l =>
  rw [hc] at hn
  simp only [Option.getD_some] at hn
  obtain ⟨h1,_,h3⟩ := h.fst _ l hc
  have := h1 x hn
  rw [show ((n.toNat : Nat) : Int) = n from by omega] at this
  exact ⟨this,h3 x hn⟩
theorem TabI.beg {g : Gra} {N : List Bool} {F : List (List Int)} (h : TabI g N F) {x : Int} : ∀ {l : List Int},(∀ n ∈ l,1 ≤ n) → BegT N F l x → Fst g l x ∧ 1 ≤ x ∧ x ≤ (g.terms : Int)
 | [],_,hb => hb.elim
 | n :: r,hl,hb => by
  have h1 := hl n (by simp)
  rcases hb with hb | ⟨h2,hb⟩
  ·have := h.fst_at (by omega) hb
   exact ⟨this.1.one,this.2⟩
  ·have := h.beg (fun k hk => hl k (List.mem_cons_of_mem _ hk)) hb
   exact ⟨.skip _ _ _ (h.nul_at (by omega) h2) this.1,this.2⟩
/-! ### One production -/
/-- Tables that no production changes are whole. -/
structure TabC (g : Gra) (N : List Bool) (F : List (List Int)) : Prop where
 nul : ∀ n,nAt N n = true ↔ Nul g n
 beg : ∀ l x,(∀ n ∈ l,1 ≤ n) → (BegT N F l x ↔ Fst g l x)
theorem TabI.closed {g : Gra} {N : List Bool} {F : List (List Int)} (hs : Sound g) (h : TabI g N F)
  (hc : ∀ p ∈ g.prods,(p.right.all (nAt N) = true → nAt N p.left = true) ∧ ∀ x,BegT N F p.right x → x ∈ fAt F p.left) : TabC g N F := by
 have hnul : ∀ n,Nul g n → nAt N n = true := fun n hn => by
  induction hn with
  | mk p hp h ih => exact (hc p hp).1 (List.all_eq_true.2 ih)
 refine ⟨fun n => ⟨fun hn => ?_,hnul n⟩,fun l x hl => ⟨fun hb => (h.beg hl hb).1,fun hf => ?_⟩⟩
 ·by_cases h0 : 0 ≤ n
  ·exact h.nul_at h0 hn
  ·have e : nAt N n = nAt N 0 := by unfold nAt; rw [show n.toNat = 0 from by omega]; rfl
   rw [e] at hn
   have := hs.nul (h.nul_at (Int.le_refl 0) hn)
   omega
 ·induction hf with
  | here t l ht =>
   have h1 := hl t (by simp)
   have := h.term t.toNat (by omega) (by omega)
   refine .inl ?_
   unfold fAt
   rw [List.getD_eq_getElem?_getD,this]
   simp
   omega
  | down p l t hp hf ih => exact .inl ((hc p hp).2 _ (ih fun n hn => ((hs.prods p hp).2.2.2.2.2 n hn).1))
  | skip n l t hn hf ih => exact .inr ⟨hnul n hn,ih fun k hk => hl k (List.mem_cons_of_mem _ hk)⟩
/-! ### How much stands in tables -/
open Classical in
theorem TabC.all {g : Gra} {N : List Bool} {F : List (List Int)} (h : TabC g N F) {l : List Int} : l.all (nAt N) = decide (∀ k ∈ l,Nul g k) := by
 rw [Bool.eq_iff_iff,List.all_eq_true,decide_eq_true_eq]
 exact ⟨fun ha k hk => (h.nul k).1 (ha k hk),fun ha k hk => (h.nul k).2 (ha k hk)⟩
end Go.Abs
