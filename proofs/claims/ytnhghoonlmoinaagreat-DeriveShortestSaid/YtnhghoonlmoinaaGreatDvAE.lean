/- What is derived, and what productions make; what it begins with. -/
import Derived.Test.YtnhghoonlmoinaaGreatTopC
import Derived.Test.YtnhghoonlmoinaaGreatDvAB
import Derived.Test.YtnhghoonlmoinaaGreatAbsNil
namespace Go.Abs
set_option linter.unusedSectionVars false
variable [Kn]
set_option linter.unusedVariables false
variable {g : Gra}
theorem Der.terms {w : List Int} : ∀ (ts : List Int) (i : Nat),w.drop i = ts → i ≤ w.length → (∀ n ∈ ts,n ≤ (g.terms : Int)) → Der g w ts i w.length
 | [],i,h,hi,_ => by
  have h2 := congrArg List.length h
  rw [List.length_drop,List.length_nil] at h2
  have e : w.length = i := by omega
  rw [e]
  exact .nil i hi
 | n :: ts,i,h,hi,hn => by
  have h0 : w[i]? = some n := by
   have := congrArg (fun l => l[0]?) h
   simpa using this
  have h1 : w.drop (i + 1) = ts := by
   have := congrArg (List.drop 1) h
   simpa [List.drop_drop] using this
  exact .term n ts i _ (hn n (by simp)) h0 (Der.terms ts (i + 1) h1 (List.getElem?_eq_some_iff.1 h0).1 fun k hk => hn k (List.mem_cons_of_mem _ hk))
theorem Der.nul {w : List Int} {ts : List Int} {i k : Nat} (h : Der g w ts i k) : i = k → ∀ n ∈ ts,Nul g n := by
 induction h with
 | nil i h => intro _ n hn; cases hn
 | term n ts i k hn hw h ih => intro e; have := h.le; omega
 | nont n p ts i j k hn hp hl h1 h2 ih1 ih2 =>
  intro e
  have := h1.le; have := h2.le
  have e1 : i = j := by omega
  have e2 : j = k := by omega
  intro m hm
  rcases List.mem_cons.1 hm with rfl | hm
  ·rw [← hl]; exact .mk p hp (ih1 e1)
  ·exact ih2 e2 m hm
theorem Nul.der (hl : ∀ p ∈ g.prods,(g.terms : Int) < p.left) {w : List Int} {i : Nat} (hi : i ≤ w.length) {n : Int} (h : Nul g n) : Der g w [n] i i := by
 have hall : ∀ ts : List Int,(∀ n ∈ ts,Der g w [n] i i) → Der g w ts i i := by
  intro ts
  induction ts with
  | nil => intro _; exact .nil i hi
  | cons n ts ih => intro h; exact (Der.append (a := [n])).2 ⟨i,h n (by simp),ih fun k hk => h k (List.mem_cons_of_mem _ hk)⟩
 induction h with
 | mk p hp _ ih => exact .nont_one (hl p hp) hp (hall _ ih)
theorem Der.fst {w : List Int} {ts : List Int} {i k : Nat} (h : Der g w ts i k) : i < k → ∃ t,w[i]? = some t ∧ Fst g ts t := by
 induction h with
 | nil i h => intro h; omega
 | term n ts i k hn hw h ih => intro _; exact ⟨n,hw,.here n ts hn⟩
 | nont n p ts i j k hn hp hl h1 h2 ih1 ih2 =>
  intro hik
  have := h1.le
  by_cases e : i < j
  ·obtain ⟨t,h3,h4⟩ := ih1 e
   refine ⟨t,h3,?_⟩
   rw [← hl]
   exact .down p ts t hp h4
  ·obtain rfl : i = j := by omega
   obtain ⟨t,h3,h4⟩ := ih2 hik
   refine ⟨t,h3,.skip n ts t ?_ h4⟩
   rw [← hl]
   exact .mk p hp (h1.nul rfl)
end Go.Abs
/- Shortest words: what tables know, and when nothing is better. -/
namespace Go.Abs
set_option linter.unusedSectionVars false
variable [Kn]
set_option linter.unusedVariables false
/-! ### Words as numbers -/
def valW (T : Nat) : List Int → Nat
 | [] => 0
 | x :: l => x.toNat * (T + 1) ^ l.length + valW T l
def okW (T : Nat) (l : List Int) : Prop := ∀ x ∈ l,1 ≤ x ∧ x ≤ (T : Int)
theorem okW.tail {T : Nat} {x : Int} {l : List Int} (h : okW T (x :: l)) : okW T l := fun y hy => h y (List.mem_cons_of_mem _ hy)
theorem okW.app {T : Nat} {a b : List Int} (ha : okW T a) (hb : okW T b) : okW T (a ++ b) := fun x hx => (List.mem_append.1 hx).elim (ha x) (hb x)
theorem val_lt {T : Nat} : ∀ {l : List Int},okW T l → valW T l < (T + 1) ^ l.length
 | [],_ => by simp [valW]
 | x :: l,h => by
  have h1 := val_lt h.tail
  have h2 := h x (by simp)
  have h3 : x.toNat + 1 ≤ T + 1 := by omega
  have h4 := Nat.mul_le_mul_right ((T + 1) ^ l.length) h3
  rw [Nat.add_mul,Nat.one_mul] at h4
  rw [valW,List.length_cons,Nat.pow_succ,Nat.mul_comm]
  rw [Nat.mul_comm (T + 1)] at h4
  rw [Nat.mul_comm ((T + 1) ^ l.length) (T + 1)]
  rw [Nat.mul_comm ((T + 1) ^ l.length) (T + 1)] at h4
  rw [Nat.mul_comm ((T + 1) ^ l.length) x.toNat]
  omega
theorem val_ge {T : Nat} {x : Int} {l : List Int} (h : 1 ≤ x) : (T + 1) ^ l.length ≤ valW T (x :: l) := by
 have h3 : 1 ≤ x.toNat := by omega
 have h4 := Nat.mul_le_mul_right ((T + 1) ^ l.length) h3
 rw [Nat.one_mul] at h4
 rw [valW]
 omega
theorem val_app {T : Nat} (b : List Int) : ∀ a : List Int,valW T (a ++ b) = valW T a * (T + 1) ^ b.length + valW T b
 | [] => by simp [valW]
 | x :: a => by
  rw [List.cons_append,valW,val_app b a,valW,List.length_append,Nat.add_mul,Nat.pow_add]
  rw [Nat.mul_assoc]
  omega
theorem val_len {T : Nat} {a b : List Int} (ha : okW T a) (hb : okW T b) (h : valW T a ≤ valW T b) : a.length ≤ b.length := by
 rcases Nat.lt_or_ge b.length a.length with c | c
 ·exfalso
  cases a with
  | nil => simp at c
  | cons x a =>
   have h1 := val_ge (T := T) (l := a) (ha x (by simp)).1
   have h2 := val_lt hb
   have h3 : (T + 1) ^ b.length ≤ (T + 1) ^ a.length := Nat.pow_le_pow_right (by omega) (by simp at c; omega)
   omega
 ·exact c
theorem val_cons_lt {T : Nat} {x y : Int} {a b : List Int} (hx : 1 ≤ x) (hy : 1 ≤ y) (ha : okW T a) (hb : okW T b) (hl : a.length = b.length) (h : x < y) : valW T (x :: a) < valW T (y :: b) := by
 have h1 := val_lt ha
 have h3 : x.toNat + 1 ≤ y.toNat := by omega
 have h4 := Nat.mul_le_mul_right ((T + 1) ^ a.length) h3
 rw [Nat.add_mul,Nat.one_mul] at h4
 rw [valW,valW,← hl]
 omega
theorem val_inj {T : Nat} : ∀ {a b : List Int},okW T a → okW T b → valW T a = valW T b → a = b
 | [],[],_,_,_ => rfl
 | [],y :: b,h0,hb,h => by have := val_len hb h0 (by omega); simp at this
 | x :: a,[],ha,h0,h => by have := val_len ha h0 (by omega); simp at this
 | x :: a,y :: b,ha,hb,h => by
  have l1 := val_len ha hb (by omega)
  have l2 := val_len hb ha (by omega)
  simp only [List.length_cons] at l1 l2
  have hl : a.length = b.length := by omega
  have hx := ha x (by simp)
  have hy := hb y (by simp)
  have : x = y := by
   rcases Int.lt_trichotomy x y with c | c | c
   ·have := val_cons_lt hx.1 hy.1 ha.tail hb.tail hl c; omega
   ·exact c
   ·have := val_cons_lt hy.1 hx.1 hb.tail ha.tail hl.symm c; omega
  subst this
  rw [valW,valW,hl] at h
  rw [val_inj ha.tail hb.tail (by omega)]
theorem val_mono {T : Nat} {a a' b b' : List Int} (hb : okW T b) (hb' : okW T b') (h1 : valW T a ≤ valW T a') (h2 : valW T b ≤ valW T b') : valW T (a ++ b) ≤ valW T (a' ++ b') := by
 rw [val_app,val_app]
 have h3 := Nat.mul_le_mul h1 (Nat.pow_le_pow_right (n := T + 1) (by omega) (val_len hb hb' h2))
 omega
/-! ### What a text yields -/
inductive Yld (g : Gra) : List Int → List Int → Prop
 | nil : Yld g [] []
 | term (n : Int) (ts w : List Int) (hn : n ≤ (g.terms : Int)) (h : Yld g ts w) : Yld g (n :: ts) (n :: w)
 | nont (p : Prd) (ts u w : List Int) (hp : p ∈ g.prods) (h1 : Yld g p.right u) (h2 : Yld g ts w) : Yld g (p.left :: ts) (u ++ w)
variable {g : Gra}
theorem Yld.ok (hr : ∀ p ∈ g.prods,∀ n ∈ p.right,1 ≤ n) {ts w : List Int} (h : Yld g ts w) : (∀ n ∈ ts,1 ≤ n) → okW g.terms w := by
 induction h with
 | nil => intro _ x hx; cases hx
 | term n ts w hn h ih =>
  intro ht x hx
  rcases List.mem_cons.1 hx with rfl | hx
  ·exact ⟨ht _ (by simp),hn⟩
  ·exact ih (fun k hk => ht k (List.mem_cons_of_mem _ hk)) x hx
 | nont p ts u w hp h1 h2 ih1 ih2 =>
  intro ht
  exact (ih1 (hr p hp)).app (ih2 fun k hk => ht k (List.mem_cons_of_mem _ hk))
theorem Yld.app {a b u w : List Int} (h1 : Yld g a u) (h2 : Yld g b w) : Yld g (a ++ b) (u ++ w) := by
 induction h1 with
 | nil => exact h2
 | term n ts w' hn h ih => exact .term n _ _ hn ih
 | nont p ts u' w' hp h3 h4 ih3 ih4 => rw [List.append_assoc]; exact .nont p _ _ _ hp h3 ih4
theorem Yld.der (hl : ∀ p ∈ g.prods,(g.terms : Int) < p.left) {ts u : List Int} (h : Yld g ts u) : ∀ pre post : List Int,Der g (pre ++ u ++ post) ts pre.length (pre.length + u.length) := by
 induction h with
 | nil => intro pre post; exact .nil _ (by simp)
 | term n ts w hn h ih =>
  intro pre post
  have := ih (pre ++ [n]) post
  have e : pre ++ [n] ++ w ++ post = pre ++ n :: w ++ post := by simp
  rw [e] at this
  refine .term n ts _ _ hn (by simp) ?_
  rw [List.length_append,List.length_cons,List.length_nil] at this
  rw [List.length_cons,show pre.length + (w.length + 1) = pre.length + (0 + 1) + w.length from by omega]
  exact this
 | nont p ts u w hp h1 h2 ih1 ih2 =>
  intro pre post
  have a := ih1 pre (w ++ post)
  have b := ih2 (pre ++ u) post
  have e1 : pre ++ u ++ (w ++ post) = pre ++ (u ++ w) ++ post := by simp
  have e2 : pre ++ u ++ w ++ post = pre ++ (u ++ w) ++ post := by simp
  rw [e1] at a
  rw [e2,List.length_append] at b
  rw [List.length_append,show pre.length + (u.length + w.length) = pre.length + u.length + w.length from by omega]
  exact .nont p.left p ts _ _ _ (hl p hp) hp rfl a b
/-! ### Tables -/
def bOf (T : Nat) (B : List (List Int)) (n : Int) : List Int := if n ≤ (T : Int) then [n] else B.getD n.toNat []
def kOf (T : Nat) (K : List Bool) (n : Int) : Bool := decide (n ≤ (T : Int)) || K.getD n.toNat false
def wordS (T : Nat) (B : List (List Int)) (ts : List Int) : List Int := ts.flatMap (bOf T B)
def allS (T : Nat) (K : List Bool) (ts : List Int) : Bool := ts.all (kOf T K)
structure ShI (g : Gra) (K : List Bool) (B : List (List Int)) : Prop where
 lenK : K.length = g.all + 1
 lenB : B.length = g.all + 1
 snd : ∀ n : Nat,g.terms < n → K.getD n false = true → Yld g [(n : Int)] (B.getD n []) ∧ (B.getD n []).length ≤ 400
def stepC (g : Gra) (K : List Bool) (B : List (List Int)) (p : Prd) : Prop :=
 allS g.terms K p.right = true ∧ (wordS g.terms B p.right).length ≤ 400 ∧ (K.getD p.left.toNat false = false ∨ valW g.terms (wordS g.terms B p.right) < valW g.terms (B.getD p.left.toNat []))
def ShC (g : Gra) (K : List Bool) (B : List (List Int)) : Prop := ∀ p ∈ g.prods,¬ stepC g K B p
theorem ShI.yld {K : List Bool} {B : List (List Int)} (h : ShI g K B) : ∀ {ts : List Int},(∀ n ∈ ts,1 ≤ n) → allS g.terms K ts = true → Yld g ts (wordS g.terms B ts)
 | [],_,_ => .nil
 | n :: ts,hn,ha => by
  unfold allS at ha
  rw [List.all_cons,Bool.and_eq_true] at ha
  have ih := h.yld (fun k hk => hn k (List.mem_cons_of_mem _ hk)) ha.2
  have e : wordS g.terms B (n :: ts) = bOf g.terms B n ++ wordS g.terms B ts := by simp [wordS]
  rw [e]
  refine Yld.app (a := [n]) ?_ ih
  unfold bOf
  by_cases c : n ≤ (g.terms : Int)
  ·rw [if_pos c]; exact .term n [] [] c .nil
  ·rw [if_neg c]
   have h1 := ha.1
   unfold kOf at h1
   rw [decide_eq_false c,Bool.false_or] at h1
   have := (h.snd n.toNat (by omega) h1).1
   rwa [Int.toNat_of_nonneg (by omega)] at this
/-- Facts of a grammar that is usable. -/
structure GraF (g : Gra) : Prop where
 left : ∀ p ∈ g.prods,(g.terms : Int) < p.left ∧ p.left ≤ (g.all : Int)
 right : ∀ p ∈ g.prods,∀ n ∈ p.right,1 ≤ n
/-- Nothing that is yielded is better than what closed tables know. -/
theorem best_of (hg : GraF g) {K : List Bool} {B : List (List Int)} (hI : ShI g K B) (hC : ShC g K B) {ts w : List Int} (h : Yld g ts w) : (∀ n ∈ ts,1 ≤ n) → w.length ≤ 400 → allS g.terms K ts = true ∧ valW g.terms (wordS g.terms B ts) ≤ valW g.terms w := by
 induction h with
 | nil => intro _ _; exact ⟨rfl,Nat.le_refl _⟩
 | term n ts w hn h ih =>
  intro ht hw
  simp only [List.length_cons] at hw
  have ht2 : ∀ k ∈ ts,1 ≤ k := fun k hk => ht k (List.mem_cons_of_mem _ hk)
  obtain ⟨h1,h2⟩ := ih ht2 (by omega)
  refine ⟨?_,?_⟩
  ·unfold allS at h1 ⊢
   rw [List.all_cons,h1,kOf,decide_eq_true hn]; rfl
  ·have e : wordS g.terms B (n :: ts) = [n] ++ wordS g.terms B ts := by simp [wordS,bOf,hn]
   rw [e]
   exact val_mono (a' := [n]) ((hI.yld ht2 h1).ok hg.right ht2) (h.ok hg.right ht2) (Nat.le_refl _) h2
 | nont p ts u w hp h1 h2 ih1 ih2 =>
  intro ht hw
  rw [List.length_append] at hw
  have ht2 : ∀ k ∈ ts,1 ≤ k := fun k hk => ht k (List.mem_cons_of_mem _ hk)
  obtain ⟨a1,a2⟩ := ih1 (hg.right p hp) (by omega)
  obtain ⟨b1,b2⟩ := ih2 ht2 (by omega)
  have hou := h1.ok hg.right (hg.right p hp)
  have hlw := val_len ((hI.yld (hg.right p hp) a1).ok hg.right (hg.right p hp)) hou a2
  have hcl := hC p hp
  unfold stepC at hcl
  have hk : K.getD p.left.toNat false = true := by
   cases hk : K.getD p.left.toNat false with
   | true => rfl
   | false => exact (hcl ⟨a1,by omega,.inl hk⟩).elim
  have hv : valW g.terms (B.getD p.left.toNat []) ≤ valW g.terms (wordS g.terms B p.right) := by
   rcases Nat.lt_or_ge (valW g.terms (wordS g.terms B p.right)) (valW g.terms (B.getD p.left.toNat [])) with c | c
   ·exact (hcl ⟨a1,by omega,.inr c⟩).elim
   ·exact c
  have hpl := hg.left p hp
  refine ⟨?_,?_⟩
  ·unfold allS at b1 ⊢
   rw [List.all_cons,b1,kOf,hk]; simp
  ·have e : wordS g.terms B (p.left :: ts) = B.getD p.left.toNat [] ++ wordS g.terms B ts := by
    have : ¬ p.left ≤ (g.terms : Int) := by omega
    simp [wordS,bOf,this]
   rw [e]
   exact val_mono ((hI.yld ht2 b1).ok hg.right ht2) (h2.ok hg.right ht2) (Nat.le_trans hv a2) b2
/-- The least word. -/
def Least (g : Gra) (w : List Int) : Prop := Yld g [g.start] w ∧ w.length ≤ 400 ∧ ∀ u,Yld g [g.start] u → u.length ≤ 400 → valW g.terms w ≤ valW g.terms u
theorem Least.uniq (hg : GraF g) (hs : 1 ≤ g.start) {w u : List Int} (h1 : Least g w) (h2 : Least g u) : w = u := by
 have ho : ∀ x,Yld g [g.start] x → okW g.terms x := fun x hx => hx.ok hg.right (by simpa using hs)
 exact val_inj (ho w h1.1) (ho u h2.1) (Nat.le_antisymm (h1.2.2 u h2.1 h2.2.1) (h2.2.2 w h1.1 h1.2.1))
theorem tables_least (hg : GraF g) (hs : (g.terms : Int) < g.start) {K : List Bool} {B : List (List Int)} (hI : ShI g K B) (hC : ShC g K B) :
  (K.getD g.start.toNat false = true → Least g (B.getD g.start.toNat [])) ∧ (K.getD g.start.toNat false = false → ¬ ∃ w,Least g w) := by
 have key : ∀ u,Yld g [g.start] u → u.length ≤ 400 → K.getD g.start.toNat false = true ∧ valW g.terms (B.getD g.start.toNat []) ≤ valW g.terms u := fun u hu hl => by
  obtain ⟨h1,h2⟩ := best_of hg hI hC hu (by simp; omega) hl
  have hns : ¬ g.start ≤ (g.terms : Int) := by omega
  simp only [allS,List.all_cons,List.all_nil,Bool.and_true,kOf,decide_eq_false hns,Bool.false_or] at h1
  simp only [wordS,List.flatMap_cons,List.flatMap_nil,List.append_nil,bOf,if_neg hns] at h2
  exact ⟨h1,h2⟩
 constructor
 ·intro hk
  have := hI.snd g.start.toNat (by omega) hk
  rw [Int.toNat_of_nonneg (by omega)] at this
  exact ⟨this.1,this.2,fun u hu hl => (key u hu hl).2⟩
 ·rintro hk ⟨w,h1,h2,_⟩
  have := (key w h1 h2).1
  rw [hk] at this
  cases this
/-! ### Steps -/
theorem getD_set_b {α : Type} {l : List α} {i j : Nat} {x d : α} (h : i < l.length) : (l.set i x).getD j d = if j = i then x else l.getD j d := by
 rw [List.getD_eq_getElem?_getD,List.getElem?_set]
 by_cases c : i = j
 ·subst c; rw [if_pos rfl,if_pos h,if_pos rfl]; rfl
 ·rw [if_neg c,if_neg (fun e => c e.symm),List.getD_eq_getElem?_getD]
theorem ShI.step (hg : GraF g) {K : List Bool} {B : List (List Int)} (h : ShI g K B) {p : Prd} (hp : p ∈ g.prods) (hc : stepC g K B p) : ShI g (K.set p.left.toNat true) (B.set p.left.toNat (wordS g.terms B p.right)) where
 lenK := by rw [List.length_set]; exact h.lenK
 lenB := by rw [List.length_set]; exact h.lenB
 snd n hn hk := by
  have hl := hg.left p hp
  rw [getD_set_b (by rw [h.lenK]; omega)] at hk
  rw [getD_set_b (by rw [h.lenB]; omega)]
  by_cases c : n = p.left.toNat
  ·rw [if_pos c]
   refine ⟨?_,hc.2.1⟩
   have hy := h.yld (hg.right p hp) hc.1
   have := Yld.nont p [] _ [] hp hy .nil
   rw [List.append_nil] at this
   rwa [c,Int.toNat_of_nonneg (by omega)]
  ·rw [if_neg c] at hk ⊢
   exact h.snd n hn hk
def costS (T : Nat) (K : List Bool) (B : List (List Int)) (n : Nat) : Nat := if K.getD n false = true then valW T (B.getD n []) else (T + 1) ^ 400
def muS (g : Gra) (K : List Bool) (B : List (List Int)) : Nat := ((List.range (g.all + 1)).map (costS g.terms K B)).sum
theorem sum_lt {f h : Nat → Nat} : ∀ {l : List Nat},(∀ x ∈ l,h x ≤ f x) → (∃ x ∈ l,h x < f x) → (l.map h).sum < (l.map f).sum
 | [],_,⟨x,hx,_⟩ => by simp at hx
 | y :: l,hle,⟨x,hx,hlt⟩ => by
  have hle2 : ∀ {l : List Nat},(∀ x ∈ l,h x ≤ f x) → (l.map h).sum ≤ (l.map f).sum := by
   intro l
   induction l with
   | nil => intro _; simp
   | cons z l ih => intro hz; have := ih fun x hx => hz x (List.mem_cons_of_mem _ hx); have := hz z (by simp); simp only [List.map_cons,List.sum_cons]; omega
  have h1 := hle y (by simp)
  simp only [List.map_cons,List.sum_cons]
  rcases List.mem_cons.1 hx with rfl | hx
  ·have := hle2 (l := l) fun z hz => hle z (List.mem_cons_of_mem _ hz)
   omega
  ·have := sum_lt (l := l) (fun z hz => hle z (List.mem_cons_of_mem _ hz)) ⟨x,hx,hlt⟩
   omega
theorem ShI.less (hg : GraF g) {K : List Bool} {B : List (List Int)} (h : ShI g K B) {p : Prd} (hp : p ∈ g.prods) (hc : stepC g K B p) : muS g (K.set p.left.toNat true) (B.set p.left.toNat (wordS g.terms B p.right)) < muS g K B := by
 have hl := hg.left p hp
 have hcost : ∀ n,costS g.terms (K.set p.left.toNat true) (B.set p.left.toNat (wordS g.terms B p.right)) n = if n = p.left.toNat then valW g.terms (wordS g.terms B p.right) else costS g.terms K B n := fun n => by
  unfold costS
  rw [getD_set_b (by rw [h.lenK]; omega),getD_set_b (by rw [h.lenB]; omega)]
  by_cases c : n = p.left.toNat
  ·rw [if_pos c,if_pos c,if_pos rfl,if_pos c]
  ·rw [if_neg c,if_neg c,if_neg c]
 have hlt : valW g.terms (wordS g.terms B p.right) < costS g.terms K B p.left.toNat := by
  unfold costS
  have hv := val_lt ((h.yld (hg.right p hp) hc.1).ok hg.right (hg.right p hp))
  have hpw := Nat.pow_le_pow_right (n := g.terms + 1) (by omega) hc.2.1
  cases hk : K.getD p.left.toNat false with
  | false => rw [if_neg (by simp)]; omega
  | true =>
   rw [if_pos rfl]
   rcases hc.2.2 with h1 | h1
   ·rw [hk] at h1; cases h1
   ·exact h1
 refine sum_lt (fun x _ => ?_) ⟨p.left.toNat,List.mem_range.2 (by omega),?_⟩
 ·rw [hcost]
  split
  ·rename_i c; subst c; omega
  ·exact Nat.le_refl _
 ·rw [hcost,if_pos rfl]; exact hlt
/-! ### A round -/
structure RndI (g : Gra) (K0 : List Bool) (B0 : List (List Int)) (ps : List Prd) (K : List Bool) (B : List (List Int)) (b : Bool) : Prop where
 inv : ShI g K B
 off : b = false → K = K0 ∧ B = B0 ∧ ∀ p ∈ ps,¬ stepC g K0 B0 p
 on : b = true → muS g K B < muS g K0 B0
theorem RndI.start {K : List Bool} {B : List (List Int)} (h : ShI g K B) : RndI g K B [] K B false := ⟨h,fun _ => ⟨rfl,rfl,fun p hp => by cases hp⟩,fun e => by cases e⟩
theorem RndI.yes (hg : GraF g) {K0 K : List Bool} {B0 B : List (List Int)} {ps : List Prd} {b : Bool} (h : RndI g K0 B0 ps K B b) {p : Prd} (hp : p ∈ g.prods) (hc : stepC g K B p) {qs : List Prd} :
  RndI g K0 B0 qs (K.set p.left.toNat true) (B.set p.left.toNat (wordS g.terms B p.right)) true := by
 refine ⟨h.inv.step hg hp hc,fun e => (by cases e),fun _ => ?_⟩
 have h1 := h.inv.less hg hp hc
 cases b with
 | true => exact Nat.lt_trans h1 (h.on rfl)
 | false =>
  obtain ⟨e1,e2,_⟩ := h.off rfl
  subst e1; subst e2
  exact h1
theorem RndI.no {K0 K : List Bool} {B0 B : List (List Int)} {ps : List Prd} {b : Bool} (h : RndI g K0 B0 ps K B b) {p : Prd} (hc : ¬ stepC g K B p) {qs : List Prd} (hq : ∀ q ∈ qs,q = p ∨ q ∈ ps) : RndI g K0 B0 qs K B b :=
 ⟨h.inv,fun e => by
  obtain ⟨e1,e2,h3⟩ := h.off e
  subst e1; subst e2
  exact ⟨rfl,rfl,fun q hq' => (hq q hq').elim (fun e => by subst e; exact hc) (h3 q)⟩,h.on⟩
theorem RndI.closed {K0 K : List Bool} {B0 B : List (List Int)} {ps : List Prd} (h : RndI g K0 B0 ps K B false) (hp : ∀ p ∈ g.prods,p ∈ ps) : K = K0 ∧ B = B0 ∧ ShC g K B := by
 obtain ⟨e1,e2,h3⟩ := h.off rfl
 subst e1; subst e2
 exact ⟨rfl,rfl,fun p hq => h3 p (hp p hq)⟩
end Go.Abs
