/- Which parts of a word a text derives: by definition; as the program's chart has it; as the document's has it. -/
import Derived.Test.YtnhghoonlmoinaaGreatTopA
namespace Go.Abs
set_option linter.unusedSectionVars false
variable [Kn]
set_option linter.unusedVariables false
/-- A text derives the part of a word from i to k. -/
inductive Der (g : Gra) (w : List Int) : List Int → Nat → Nat → Prop
 | nil (i : Nat) (h : i ≤ w.length) : Der g w [] i i
 | term (n : Int) (ts : List Int) (i k : Nat) (hn : n ≤ (g.terms : Int)) (hw : w[i]? = some n) (h : Der g w ts (i + 1) k) : Der g w (n :: ts) i k
 | nont (n : Int) (p : Prd) (ts : List Int) (i j k : Nat) (hn : (g.terms : Int) < n) (hp : p ∈ g.prods) (hl : p.left = n) (h1 : Der g w p.right i j) (h2 : Der g w ts j k) : Der g w (n :: ts) i k
variable {g : Gra} {w : List Int}
theorem Der.le {ts : List Int} {i k : Nat} (h : Der g w ts i k) : i ≤ k ∧ k ≤ w.length := by
 induction h with
 | nil i h => exact ⟨Nat.le_refl _,h⟩
 | term n ts i k _ _ _ ih => omega
 | nont n p ts i j k _ _ _ _ _ ih1 ih2 => omega
theorem Der.nil_inv {i k : Nat} (h : Der g w [] i k) : i = k := by cases h; rfl
theorem Der.append {a b : List Int} {i k : Nat} : Der g w (a ++ b) i k ↔ ∃ j,Der g w a i j ∧ Der g w b j k := by
 constructor
 ·intro h
  induction a generalizing i with
  | nil => exact ⟨i,.nil i (by have := h.le; omega),h⟩
  | cons n a ih =>
   rw [List.cons_append] at h
   generalize hx : n :: (a ++ b) = x at h
   cases h with
   | nil => cases hx
   | term n' ts i k hn hw h =>
    cases hx
    obtain ⟨j,h1,h2⟩ := ih h
    exact ⟨j,.term n a i j hn hw h1,h2⟩
   | nont n' p ts i j k hn hp hl h1 h2 =>
    cases hx
    obtain ⟨m,h3,h4⟩ := ih h2
    exact ⟨m,.nont n p a i j m hn hp hl h1 h3,h4⟩
 ·rintro ⟨j,h1,h2⟩
  induction h1 with
  | nil i h => exact h2
  | term n ts i k' hn hw h ih => exact .term n _ i k hn hw (ih h2)
  | nont n p ts i m k' hn hp hl h1 h3 ih1 ih2 => exact .nont n p _ i m k hn hp hl h1 (ih2 h2)
theorem Der.term_one {n : Int} {i : Nat} (hn : n ≤ (g.terms : Int)) (hw : w[i]? = some n) : Der g w [n] i (i + 1) :=
 .term n [] i (i + 1) hn hw (.nil (i + 1) (List.getElem?_eq_some_iff.1 hw).1)
theorem Der.nont_one {p : Prd} {i k : Nat} (hn : (g.terms : Int) < p.left) (hp : p ∈ g.prods) (h : Der g w p.right i k) : Der g w [p.left] i k :=
 .nont p.left p [] i k k hn hp rfl h (.nil k h.le.2)
theorem Der.one_inv {n : Int} {i k : Nat} (h : Der g w [n] i k) : (n ≤ (g.terms : Int) ∧ k = i + 1 ∧ w[i]? = some n) ∨ ((g.terms : Int) < n ∧ ∃ p ∈ g.prods,p.left = n ∧ Der g w p.right i k) := by
 cases h with
 | term n ts i k hn hw h => exact .inl ⟨hn,h.nil_inv.symm,hw⟩
 | nont n p ts i j k hn hp hl h1 h2 =>
  obtain rfl := h2.nil_inv
  exact .inr ⟨hn,p,hp,hl,h1⟩
/-! ### The program's chart: of each symbol, by the place where it begins, where it may end -/
/-- Where a symbol leads from the places that are on. -/
def stepE (T : Nat) (w : List Int) (E : Nat → Nat → Nat → Bool) (n : Int) (f : Nat → Bool) (k : Nat) : Bool :=
 (List.range (w.length + 1)).any fun i => f i && (if n ≤ (T : Int) then decide (k = i + 1 ∧ w[i]? = some n) else E n.toNat i k)
def textE (T : Nat) (w : List Int) (E : Nat → Nat → Nat → Bool) (ts : List Int) (f : Nat → Bool) : Nat → Bool := ts.foldl (fun f n => stepE T w E n f) f
theorem stepE_iff {T : Nat} {E : Nat → Nat → Nat → Bool} {n : Int} {f : Nat → Bool} {k : Nat} :
  stepE T w E n f k = true ↔ ∃ i,i ≤ w.length ∧ f i = true ∧ ((n ≤ (T : Int) ∧ k = i + 1 ∧ w[i]? = some n) ∨ ((T : Int) < n ∧ E n.toNat i k = true)) := by
 simp only [stepE,List.any_eq_true,List.mem_range,Bool.and_eq_true]
 constructor
 ·rintro ⟨i,hi,hf,h⟩
  by_cases c : n ≤ (T : Int)
  ·rw [if_pos c] at h
   exact ⟨i,by omega,hf,.inl ⟨c,of_decide_eq_true h⟩⟩
  ·rw [if_neg c] at h
   exact ⟨i,by omega,hf,.inr ⟨by omega,h⟩⟩
 ·rintro ⟨i,hi,hf,⟨c,h⟩ | ⟨c,h⟩⟩
  ·exact ⟨i,by omega,hf,by rw [if_pos c]; exact decide_eq_true h⟩
  ·exact ⟨i,by omega,hf,by rw [if_neg (by omega)]; exact h⟩
/-- A chart says nothing that is not so. -/
def SoundE (g : Gra) (w : List Int) (E : Nat → Nat → Nat → Bool) : Prop := ∀ (n i k : Nat),E n i k = true → Der g w [(n : Int)] i k
/-- A chart has all that its own facts bring. -/
def ClosedE (g : Gra) (w : List Int) (E : Nat → Nat → Nat → Bool) : Prop := ∀ p ∈ g.prods,∀ i,i ≤ w.length → ∀ k,textE g.terms w E p.right (fun j => decide (j = i)) k = true → E p.left.toNat i k = true
theorem textE_sound {E : Nat → Nat → Nat → Bool} (hE : SoundE g w E) : ∀ (ts : List Int) (f : Nat → Bool) (k : Nat),(∀ i,f i = true → i ≤ w.length) → textE g.terms w E ts f k = true → ∃ i,f i = true ∧ Der g w ts i k
 | [],f,k,hf,h => ⟨k,h,.nil k (hf k h)⟩
 | n :: ts,f,k,hf,h => by
  have h2 : textE g.terms w E ts (stepE g.terms w E n f) k = true := h
  have hs : ∀ i,stepE g.terms w E n f i = true → ∃ j,f j = true ∧ Der g w [n] j i := fun i hi => by
   obtain ⟨j,_,hj,⟨c,rfl,hw⟩ | ⟨c,hE2⟩⟩ := stepE_iff.1 hi
   ·exact ⟨j,hj,.term_one c hw⟩
   ·have := hE _ _ _ hE2
    rw [Int.toNat_of_nonneg (by omega)] at this
    exact ⟨j,hj,this⟩
  obtain ⟨i,hi,hd⟩ := textE_sound hE ts _ k (fun i hi => by obtain ⟨j,_,hd⟩ := hs i hi; exact hd.le.2) h2
  obtain ⟨j,hj,hd2⟩ := hs i hi
  exact ⟨j,hj,(Der.append (a := [n])).2 ⟨i,hd2,hd⟩⟩
theorem textE_all {E : Nat → Nat → Nat → Bool} (hE : ClosedE g w E) {ts : List Int} {i k : Nat} (h : Der g w ts i k) : ∀ f : Nat → Bool,f i = true → textE g.terms w E ts f k = true := by
 induction h with
 | nil i h => exact fun f hf => hf
 | term n ts i k hn hw h ih =>
  intro f hf
  exact ih _ (stepE_iff.2 ⟨i,by have := h.le; omega,hf,.inl ⟨hn,rfl,hw⟩⟩)
 | nont n p ts i j k hn hp hl h1 h2 ih1 ih2 =>
  intro f hf
  refine ih2 _ (stepE_iff.2 ⟨i,by have := h1.le; omega,hf,.inr ⟨hn,?_⟩⟩)
  rw [← hl]
  exact hE p hp i (by have := h1.le; omega) j (ih1 _ (decide_eq_true rfl))
/-- A chart that is sound and closed has a nonterminal's parts just as they are derived. -/
theorem chart_iff {E : Nat → Nat → Nat → Bool} (hS : SoundE g w E) (hC : ClosedE g w E) {n : Nat} (hn : g.terms < n) (i k : Nat) : E n i k = true ↔ Der g w [(n : Int)] i k := by
 refine ⟨hS n i k,fun h => ?_⟩
 rcases h.one_inv with ⟨c,_⟩ | ⟨_,p,hp,hl,hd⟩
 ·omega
 ·have := hC p hp i (by have := hd.le; omega) k (textE_all hC hd _ (decide_eq_true rfl))
  rw [hl] at this
  exact this
/-! ### The document's chart: of each production (the added one first), how much of it, and each two places -/
end Go.Abs
/- The program's chart grows: what one round brings; when it stands still it is whole. -/
namespace Go.Abs
set_option linter.unusedSectionVars false
variable [Kn]
set_option linter.unusedVariables false
/-- One place of one nonterminal: where it may end is added. -/
def addE (E : Nat → Nat → Nat → Bool) (n i : Nat) (to : Nat → Bool) : Nat → Nat → Nat → Bool := fun a b k => if a = n ∧ b = i ∧ k < 41 then E a b k || to k else E a b k
def newE (E : Nat → Nat → Nat → Bool) (n i : Nat) (to : Nat → Bool) : Bool := (List.range 41).any fun k => to k && !E n i k
abbrev ES := (Nat → Nat → Nat → Bool) × Bool
/-- One production at one place. -/
def stepG (g : Gra) (w : List Int) (p : Prd) (s : ES) (i : Nat) : ES :=
 (addE s.1 p.left.toNat i (textE g.terms w s.1 p.right fun j => decide (j = i)),s.2 || newE s.1 p.left.toNat i (textE g.terms w s.1 p.right fun j => decide (j = i)))
/-- One production. -/
def prodG (g : Gra) (w : List Int) (s : ES) (p : Prd) (k : Nat) : ES := (List.range k).foldl (stepG g w p) s
/-- The first productions. -/
def rndG (g : Gra) (w : List Int) (E : Nat → Nat → Nat → Bool) (q : Nat) : ES := (g.prods.take q).foldl (fun s p => prodG g w s p (w.length + 1)) (E,false)
theorem prodG_succ (g : Gra) (w : List Int) (s : ES) (p : Prd) (k : Nat) : prodG g w s p (k + 1) = stepG g w p (prodG g w s p k) k := by
 simp [prodG,List.range_succ]
theorem rndG_succ (g : Gra) (w : List Int) (E : Nat → Nat → Nat → Bool) (q : Nat) (p : Prd) (h : g.prods[q]? = some p) : rndG g w E (q + 1) = prodG g w (rndG g w E q) p (w.length + 1) := by
 have hq := (List.getElem?_eq_some_iff.1 h).1
 have e : g.prods[q] = p := (List.getElem?_eq_some_iff.1 h).2
 unfold rndG
 rw [List.take_succ_eq_append_getElem hq,e]
 simp
/-- What a state of the growth keeps: all is so; all that was is; if nothing came, all is as it was, and nothing would come of what is behind. -/
structure GrowI (g : Gra) (w : List Int) (E : Nat → Nat → Nat → Bool) (s : ES) : Prop where
 sound : SoundE g w s.1
 mono : ∀ n i k,E n i k = true → s.1 n i k = true
 same : s.2 = false → s.1 = E
 more : s.2 = true → ∃ n i k,n ≤ g.all ∧ i ≤ w.length ∧ k < 41 ∧ E n i k = false ∧ s.1 n i k = true
variable {g : Gra} {w : List Int}
theorem over_sound {E : Nat → Nat → Nat → Bool} (hE : SoundE g w E) {p : Prd} (hp : p ∈ g.prods) (hpl : (g.terms : Int) < p.left) {i : Nat} (hi : i ≤ w.length) {k : Nat} (h : textE g.terms w E p.right (fun j => decide (j = i)) k = true) : Der g w [(p.left.toNat : Int)] i k := by
 obtain ⟨j,hj,hd⟩ := textE_sound hE p.right _ k (fun j hj => by rw [of_decide_eq_true hj]; exact hi) h
 rw [of_decide_eq_true hj] at hd
 rw [Int.toNat_of_nonneg (by omega)]
 exact .nont_one hpl hp hd
theorem GrowI.step {E : Nat → Nat → Nat → Bool} {s : ES} (h : GrowI g w E s) {p : Prd} (hp : p ∈ g.prods) (hpl : (g.terms : Int) < p.left) (hpa : p.left ≤ (g.all : Int)) {i : Nat} (hi : i ≤ w.length) : GrowI g w E (stepG g w p s i) where
 sound n b k hk := by
  simp only [stepG,addE] at hk
  split at hk
  ·rename_i c
   obtain ⟨rfl,rfl,_⟩ := c
   rcases Bool.or_eq_true_iff.1 hk with q | q
   ·exact h.sound _ _ _ q
   ·exact over_sound h.sound hp hpl hi q
  ·exact h.sound _ _ _ hk
 mono n b k hk := by
  have := h.mono n b k hk
  simp only [stepG,addE]
  split
  ·rw [this]; rfl
  ·exact this
 same hs := by
  simp only [stepG,Bool.or_eq_false_iff] at hs
  rw [← h.same hs.1]
  funext n b k
  simp only [stepG,addE]
  split
  ·rename_i c
   obtain ⟨rfl,rfl,hk⟩ := c
   have h2 := hs.2
   simp only [newE,List.any_eq_false,List.mem_range,Bool.and_eq_true,Bool.not_eq_true',not_and] at h2
   have := h2 k hk
   cases ht : textE g.terms w s.1 p.right (fun j => decide (j = b)) k with
   | false => simp
   | true =>
    have := this ht
    simp only [Bool.not_eq_false] at this
    simp [this]
  ·rfl
 more hs := by
  simp only [stepG,Bool.or_eq_true] at hs
  rcases hs with hs | hs
  ·obtain ⟨n,b,k,h1,h2,h3,h4,h5⟩ := h.more hs
   refine ⟨n,b,k,h1,h2,h3,h4,?_⟩
   simp only [stepG,addE]
   split
   ·rw [h5]; rfl
   ·exact h5
  ·simp only [newE,List.any_eq_true,List.mem_range,Bool.and_eq_true,Bool.not_eq_true'] at hs
   obtain ⟨k,hk,ht,hf⟩ := hs
   refine ⟨p.left.toNat,i,k,by omega,hi,hk,?_,?_⟩
   ·cases hE : E p.left.toNat i k with
    | false => rfl
    | true => rw [h.mono _ _ _ hE] at hf; cases hf
   ·simp only [stepG,addE]
    simp [hk,ht]
theorem GrowI.start {E : Nat → Nat → Nat → Bool} (hE : SoundE g w E) : GrowI g w E (E,false) := ⟨hE,fun _ _ _ h => h,fun _ => rfl,fun h => by cases h⟩
theorem GrowI.prod {E : Nat → Nat → Nat → Bool} {s : ES} (h : GrowI g w E s) {p : Prd} (hp : p ∈ g.prods) (hpl : (g.terms : Int) < p.left) (hpa : p.left ≤ (g.all : Int)) : ∀ k,k ≤ w.length + 1 → GrowI g w E (prodG g w s p k)
 | 0,_ => h
 | k + 1,hk => by
  rw [prodG_succ]
  exact (GrowI.prod h hp hpl hpa k (by omega)).step hp hpl hpa (by omega)
theorem GrowI.rnd {E : Nat → Nat → Nat → Bool} (hE : SoundE g w E) (hl : ∀ p ∈ g.prods,(g.terms : Int) < p.left ∧ p.left ≤ (g.all : Int)) : ∀ q,q ≤ g.prods.length → GrowI g w E (rndG g w E q)
 | 0,_ => GrowI.start hE
 | q + 1,hq => by
  have hp : g.prods[q]? = some g.prods[q] := List.getElem?_eq_getElem (by omega)
  have hm := List.mem_of_getElem? hp
  rw [rndG_succ g w E q _ hp]
  exact (GrowI.rnd hE hl q (by omega)).prod hm (hl _ hm).1 (hl _ hm).2 _ (Nat.le_refl _)
theorem stepG_false {s : ES} {p : Prd} {i : Nat} (h : (stepG g w p s i).2 = false) : s.2 = false := by
 simp only [stepG,Bool.or_eq_false_iff] at h
 exact h.1
theorem prodG_false {s : ES} {p : Prd} : ∀ {k : Nat},(prodG g w s p k).2 = false → s.2 = false
 | 0,h => h
 | k + 1,h => by
  rw [prodG_succ] at h
  exact prodG_false (stepG_false h)
theorem prodG_false_lt {s : ES} {p : Prd} : ∀ {k j : Nat},(prodG g w s p k).2 = false → j ≤ k → (prodG g w s p j).2 = false
 | 0,j,h,hj => by
  have e : j = 0 := by omega
  rw [e]; exact h
 | k + 1,j,h,hj => by
  by_cases c : j = k + 1
  ·rw [c]; exact h
  ·rw [prodG_succ] at h
   exact prodG_false_lt (stepG_false h) (by omega)
theorem rndG_false_lt {E : Nat → Nat → Nat → Bool} : ∀ {k j : Nat},k ≤ g.prods.length → (rndG g w E k).2 = false → j ≤ k → (rndG g w E j).2 = false
 | 0,j,hk,h,hj => by
  have e : j = 0 := by omega
  rw [e]; exact h
 | k + 1,j,hk,h,hj => by
  by_cases c : j = k + 1
  ·rw [c]; exact h
  ·rw [rndG_succ g w E k _ (List.getElem?_eq_getElem (by omega))] at h
   exact rndG_false_lt (by omega) (prodG_false h) (by omega)
/-- Where nothing comes, the chart is closed. -/
theorem rnd_closed {E : Nat → Nat → Nat → Bool} (hE : SoundE g w E) (hw : w.length ≤ 40) (hl : ∀ p ∈ g.prods,(g.terms : Int) < p.left ∧ p.left ≤ (g.all : Int)) (h : (rndG g w E g.prods.length).2 = false) : ClosedE g w E := by
 intro p hp i hi k hk
 obtain ⟨q,hq⟩ := List.mem_iff_getElem?.1 hp
 have hql := (List.getElem?_eq_some_iff.1 hq).1
 have h1 := rndG_false_lt (Nat.le_refl _) h (j := q + 1) (by omega)
 rw [rndG_succ g w E q p hq] at h1
 have h2 := prodG_false_lt h1 (j := i + 1) (by omega)
 have hI := (GrowI.rnd hE hl q (by omega)).prod hp (hl p hp).1 (hl p hp).2 i (by omega)
 have h3 := hI.same (prodG_false_lt h1 (by omega))
 rw [prodG_succ] at h2
 simp only [stepG,Bool.or_eq_false_iff] at h2
 rw [h3] at h2
 have h4 := h2.2
 simp only [newE,List.any_eq_false,List.mem_range,Bool.and_eq_true,Bool.not_eq_true',not_and] at h4
 have hd := over_sound hE hp (hl p hp).1 hi hk
 have hkl := hd.le.2
 have := h4 k (by omega) hk
 simpa using this
/-! ### How much is lacking -/
def cellsE (m n1 : Nat) : List (Nat × Nat × Nat) := (List.range m).flatMap fun n => (List.range n1).flatMap fun i => (List.range 41).map fun k => (n,i,k)
theorem cellsE_mem {m n1 n i k : Nat} : (n,i,k) ∈ cellsE m n1 ↔ n < m ∧ i < n1 ∧ k < 41 := by
 simp only [cellsE,List.mem_flatMap,List.mem_map,List.mem_range,Prod.mk.injEq]
 constructor
 ·rintro ⟨a,ha,b,hb,c,hc,rfl,rfl,rfl⟩
  exact ⟨ha,hb,hc⟩
 ·rintro ⟨h1,h2,h3⟩
  exact ⟨n,h1,i,h2,k,h3,rfl,rfl,rfl⟩
def lackE (m n1 : Nat) (E : Nat → Nat → Nat → Bool) : Nat := ((cellsE m n1).filter fun c => !E c.1 c.2.1 c.2.2).length
theorem filter_lt {α : Type} (f h : α → Bool) : ∀ l : List α,(∀ x ∈ l,h x = true → f x = true) → (∃ x ∈ l,f x = true ∧ h x = false) → (l.filter h).length < (l.filter f).length
 | [],_,⟨x,hx,_⟩ => by simp at hx
 | y :: l,hs,⟨x,hx,h1,h2⟩ => by
  have hle : ∀ l : List α,(∀ x ∈ l,h x = true → f x = true) → (l.filter h).length ≤ (l.filter f).length := fun l => by
   induction l with
   | nil => intro _; exact Nat.le_refl _
   | cons z l ih =>
    intro hs
    have := ih fun x hx => hs x (List.mem_cons_of_mem _ hx)
    simp only [List.filter_cons]
    have hz := hs z (by simp)
    cases c1 : h z with
    | true => rw [hz c1]; simp only [if_true,List.length_cons]; omega
    | false =>
     simp only [Bool.false_eq_true,if_false]
     split
     ·simp only [List.length_cons]; omega
     ·exact this
  simp only [List.filter_cons]
  by_cases e : x = y
  ·subst e
   rw [h1,h2]
   have := hle l fun x hx => hs x (List.mem_cons_of_mem _ hx)
   simp only [Bool.false_eq_true,if_false,if_true,List.length_cons]
   omega
  ·have hx' : x ∈ l := by
    rcases List.mem_cons.1 hx with q | q
    ·exact absurd q e
    ·exact q
   have := filter_lt f h l (fun x hx => hs x (List.mem_cons_of_mem _ hx)) ⟨x,hx',h1,h2⟩
   have hy := hs y (by simp)
   cases c1 : h y with
   | true => rw [hy c1]; simp only [if_true,List.length_cons]; omega
   | false =>
    simp only [Bool.false_eq_true,if_false]
    split
    ·simp only [List.length_cons]; omega
    ·exact this
theorem lack_lt {E : Nat → Nat → Nat → Bool} {s : ES} (h : GrowI g w E s) (hs : s.2 = true) : lackE (g.all + 1) (w.length + 1) s.1 < lackE (g.all + 1) (w.length + 1) E := by
 obtain ⟨n,i,k,h1,h2,h3,h4,h5⟩ := h.more hs
 refine filter_lt _ _ _ (fun x _ hx => ?_) ⟨(n,i,k),cellsE_mem.2 ⟨by omega,by omega,h3⟩,by simp [h4],by simp [h5]⟩
 cases hE : E x.1 x.2.1 x.2.2 with
 | false => rfl
 | true => rw [h.mono _ _ _ hE] at hx; cases hx
end Go.Abs
/- The document's chart, round by round. -/
namespace Go.Abs
set_option linter.unusedSectionVars false
variable [Kn]
set_option linter.unusedVariables false
abbrev BS := List Bool × Bool
/-- Nothing came; or something, that stays. -/
def Stp (s s' : BS) : Prop := s' = s ∨ (s'.1.length = s.1.length ∧ s'.1.count false < s.1.count false ∧ s'.2 = true)
theorem Stp.refl (s : BS) : Stp s s := .inl rfl
theorem Stp.trans {a b c : BS} (h1 : Stp a b) (h2 : Stp b c) : Stp a c := by
 rcases h1 with rfl | ⟨l1,c1,f1⟩
 ·exact h2
 ·rcases h2 with rfl | ⟨l2,c2,f2⟩
  ·exact .inr ⟨l1,c1,f1⟩
  ·exact .inr ⟨by omega,by omega,f2⟩
theorem Stp.len {a b : BS} (h : Stp a b) : b.1.length = a.1.length := by
 rcases h with rfl | h
 ·rfl
 ·exact h.1
theorem Stp.off {a b : BS} (h : Stp a b) (hb : b.2 = false) : b = a := by
 rcases h with h | h
 ·exact h
 ·rw [h.2.2] at hb; cases hb
section
variable (g : Gra) (w : List Int)
variable {g w}
end
end Go.Abs
