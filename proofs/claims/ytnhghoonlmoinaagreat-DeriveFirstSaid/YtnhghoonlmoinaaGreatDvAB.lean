/- Which parts of a word a text derives: by definition; as the program's chart has it; as the document's has it. -/
import Derived.Test.YtnhghoonlmoinaaGreatTopA
namespace Go.Abs
set_option linter.unusedSectionVars false
variable [Kn]
set_option linter.unusedVariables false
/-- A text derives the part of a word from i to k. -/
inductive Der (g : Gra) (w : List Int) : List Int → Nat → Nat → Prop
 | nil (i : Nat) (h : i ≤ w.length) : Der g w [] i i
 | term (n : Int) (ts : List Int) (i k : Nat) (hn : n ≤ (g.terms : Int)) (hw : w[i]? = some n) (h : Der g w ts (i + 1) k) : Der g w (n :: ts) i k
 | nont (n : Int) (p : Prd) (ts : List Int) (i j k : Nat) (hn : (g.terms : Int) < n) (hp : p ∈ g.prods) (hl : p.left = n) (h1 : Der g w p.right i j) (h2 : Der g w ts j k) : Der g w (n :: ts) i k
variable {g : Gra} {w : List Int}
theorem Der.le {ts : List Int} {i k : Nat} (h : Der g w ts i k) : i ≤ k ∧ k ≤ w.length := by
 induction h with
 | nil i h => exact ⟨Nat.le_refl _,h⟩
 | term n ts i k _ _ _ ih => omega
 | nont n p ts i j k _ _ _ _ _ ih1 ih2 => omega
theorem Der.nil_inv {i k : Nat} (h : Der g w [] i k) : i = k := by cases h; rfl
theorem Der.append {a b : List Int} {i k : Nat} : Der g w (a ++ b) i k ↔ ∃ j,Der g w a i j ∧ Der g w b j k := by
 constructor
 ·intro h
  induction a generalizing i with
  | nil => exact ⟨i,.nil i (by have := h.le; omega),h⟩
  | cons n a ih =>
   rw [List.cons_append] at h
   generalize hx : n :: (a ++ b) = x at h
   cases h with
   | nil => cases hx
   | term n' ts i k hn hw h =>
    cases hx
    obtain ⟨j,h1,h2⟩ := ih h
    exact ⟨j,.term n a i j hn hw h1,h2⟩
   | nont n' p ts i j k hn hp hl h1 h2 =>
    cases hx
    obtain ⟨m,h3,h4⟩ := ih h2
    exact ⟨m,.nont n p a i j m hn hp hl h1 h3,h4⟩
 ·rintro ⟨j,h1,h2⟩
  induction h1 with
  | nil i h => exact h2
  | term n ts i k' hn hw h ih => exact .term n _ i k hn hw (ih h2)
  | nont n p ts i m k' hn hp hl h1 h3 ih1 ih2 => exact .nont n p _ i m k hn hp hl h1 (ih2 h2)
theorem Der.term_one {n : Int} {i : Nat} (hn : n ≤ (g.terms : Int)) (hw : w[i]? = some n) : Der g w [n] i (i + 1) :=
 .term n [] i (i + 1) hn hw (.nil (i + 1) (List.getElem?_eq_some_iff.1 hw).1)
theorem Der.nont_one {p : Prd} {i k : Nat} (hn : (g.terms : Int) < p.left) (hp : p ∈ g.prods) (h : Der g w p.right i k) : Der g w [p.left] i k :=
 .nont p.left p [] i k k hn hp rfl h (.nil k h.le.2)
theorem Der.one_inv {n : Int} {i k : Nat} (h : Der g w [n] i k) : (n ≤ (g.terms : Int) ∧ k = i + 1 ∧ w[i]? = some n) ∨ ((g.terms : Int) < n ∧ ∃ p ∈ g.prods,p.left = n ∧ Der g w p.right i k) := by
 cases h with
 | term n ts i k hn hw h => exact .inl ⟨hn,h.nil_inv.symm,hw⟩
 | nont n p ts i j k hn hp hl h1 h2 =>
  obtain rfl := h2.nil_inv
  exact .inr ⟨hn,p,hp,hl,h1⟩
/-! ### The program's chart: of each symbol, by the place where it begins, where it may end -/
/-- Where a symbol leads from the places that are on. -/
def stepE (T : Nat) (w : List Int) (E : Nat → Nat → Nat → Bool) (n : Int) (f : Nat → Bool) (k : Nat) : Bool :=
 (List.range (w.length + 1)).any fun i => f i && (if n ≤ (T : Int) then decide (k = i + 1 ∧ w[i]? = some n) else E n.toNat i k)
def textE (T : Nat) (w : List Int) (E : Nat → Nat → Nat → Bool) (ts : List Int) (f : Nat → Bool) : Nat → Bool := ts.foldl (fun f n => stepE T w E n f) f
theorem stepE_iff {T : Nat} {E : Nat → Nat → Nat → Bool} {n : Int} {f : Nat → Bool} {k : Nat} :
  stepE T w E n f k = true ↔ ∃ i,i ≤ w.length ∧ f i = true ∧ ((n ≤ (T : Int) ∧ k = i + 1 ∧ w[i]? = some n) ∨ ((T : Int) < n ∧ E n.toNat i k = true)) := by
 simp only [stepE,List.any_eq_true,List.mem_range,Bool.and_eq_true]
 constructor
 ·rintro ⟨i,hi,hf,h⟩
  by_cases c : n ≤ (T : Int)
  ·rw [if_pos c] at h
   exact ⟨i,by omega,hf,.inl ⟨c,of_decide_eq_true h⟩⟩
  ·rw [if_neg c] at h
   exact ⟨i,by omega,hf,.inr ⟨by omega,h⟩⟩
 ·rintro ⟨i,hi,hf,⟨c,h⟩ | ⟨c,h⟩⟩
  ·exact ⟨i,by omega,hf,by rw [if_pos c]; exact decide_eq_true h⟩
  ·exact ⟨i,by omega,hf,by rw [if_neg (by omega)]; exact h⟩
/-- A chart says nothing that is not so. -/
def SoundE (g : Gra) (w : List Int) (E : Nat → Nat → Nat → Bool) : Prop := ∀ (n i k : Nat),E n i k = true → Der g w [(n : Int)] i k
/-- A chart has all that its own facts bring. -/
def ClosedE (g : Gra) (w : List Int) (E : Nat → Nat → Nat → Bool) : Prop := ∀ p ∈ g.prods,∀ i,i ≤ w.length → ∀ k,textE g.terms w E p.right (fun j => decide (j = i)) k = true → E p.left.toNat i k = true
theorem textE_sound {E : Nat → Nat → Nat → Bool} (hE : SoundE g w E) : ∀ (ts : List Int) (f : Nat → Bool) (k : Nat),(∀ i,f i = true → i ≤ w.length) → textE g.terms w E ts f k = true → ∃ i,f i = true ∧ Der g w ts i k
 | [],f,k,hf,h => ⟨k,h,.nil k (hf k h)⟩
 | n :: ts,f,k,hf,h => by
  have h2 : textE g.terms w E ts (stepE g.terms w E n f) k = true := h
  have hs : ∀ i,stepE g.terms w E n f i = true → ∃ j,f j = true ∧ Der g w [n] j i := fun i hi => by
   obtain ⟨j,_,hj,⟨c,rfl,hw⟩ | ⟨c,hE2⟩⟩ := stepE_iff.1 hi
   ·exact ⟨j,hj,.term_one c hw⟩
   ·have := hE _ _ _ hE2
    rw [Int.toNat_of_nonneg (by omega)] at this
    exact ⟨j,hj,this⟩
  obtain ⟨i,hi,hd⟩ := textE_sound hE ts _ k (fun i hi => by obtain ⟨j,_,hd⟩ := hs i hi; exact hd.le.2) h2
  obtain ⟨j,hj,hd2⟩ := hs i hi
  exact ⟨j,hj,(Der.append (a := [n])).2 ⟨i,hd2,hd⟩⟩
theorem textE_all {E : Nat → Nat → Nat → Bool} (hE : ClosedE g w E) {ts : List Int} {i k : Nat} (h : Der g w ts i k) : ∀ f : Nat → Bool,f i = true → textE g.terms w E ts f k = true := by
 induction h with
 | nil i h => exact fun f hf => hf
 | term n ts i k hn hw h ih =>
  intro f hf
  exact ih _ (stepE_iff.2 ⟨i,by have := h.le; omega,hf,.inl ⟨hn,rfl,hw⟩⟩)
 | nont n p ts i j k hn hp hl h1 h2 ih1 ih2 =>
  intro f hf
  refine ih2 _ (stepE_iff.2 ⟨i,by have := h1.le; omega,hf,.inr ⟨hn,?_⟩⟩)
  rw [← hl]
  exact hE p hp i (by have := h1.le; omega) j (ih1 _ (decide_eq_true rfl))
/-- A chart that is sound and closed has a nonterminal's parts just as they are derived. -/
theorem chart_iff {E : Nat → Nat → Nat → Bool} (hS : SoundE g w E) (hC : ClosedE g w E) {n : Nat} (hn : g.terms < n) (i k : Nat) : E n i k = true ↔ Der g w [(n : Int)] i k := by
 refine ⟨hS n i k,fun h => ?_⟩
 rcases h.one_inv with ⟨c,_⟩ | ⟨_,p,hp,hl,hd⟩
 ·omega
 ·have := hC p hp i (by have := hd.le; omega) k (textE_all hC hd _ (decide_eq_true rfl))
  rw [hl] at this
  exact this
/-! ### The document's chart: of each production (the added one first), how much of it, and each two places -/
/-- The right side of production q - 1; of the added one: the start. -/
def sideN (g : Gra) : Nat → List Int
 | 0 => [g.start]
 | q + 1 => ((g.prods[q]?).map Prd.right).getD []
def wholeR (g : Gra) (w : List Int) (On : Nat → Nat → Nat → Nat → Bool) (n : Int) (j k : Nat) : Bool :=
 if n ≤ (g.terms : Int) then decide (k = j + 1 ∧ w[j]? = some n) else (List.range g.prods.length).any fun q => match g.prods[q]? with
  | some p => decide (p.left = n) && On (q + 1) p.right.length j k
  | none => false
def SoundR (g : Gra) (w : List Int) (On : Nat → Nat → Nat → Nat → Bool) : Prop := ∀ q d i k,q ≤ g.prods.length → d ≤ (sideN g q).length → On q d i k = true → Der g w ((sideN g q).take d) i k
def ClosedR (g : Gra) (w : List Int) (On : Nat → Nat → Nat → Nat → Bool) : Prop :=
 (∀ q i,q ≤ g.prods.length → i ≤ w.length → On q 0 i i = true) ∧
 ∀ q d i j k n,q ≤ g.prods.length → (sideN g q)[d]? = some n → i ≤ j → j ≤ k → k ≤ w.length → On q d i j = true → wholeR g w On n j k = true → On q (d + 1) i k = true
theorem wholeR_iff {On : Nat → Nat → Nat → Nat → Bool} {n : Int} {j k : Nat} : wholeR g w On n j k = true ↔ (n ≤ (g.terms : Int) ∧ k = j + 1 ∧ w[j]? = some n) ∨ ((g.terms : Int) < n ∧ ∃ q p,g.prods[q]? = some p ∧ p.left = n ∧ On (q + 1) p.right.length j k = true) := by
 unfold wholeR
 by_cases c : n ≤ (g.terms : Int)
 ·rw [if_pos c,decide_eq_true_eq]
  exact ⟨fun h => .inl ⟨c,h⟩,fun h => by rcases h with h | h; exact h.2; omega⟩
 ·rw [if_neg c,List.any_eq_true]
  constructor
  ·rintro ⟨q,hq,h⟩
   cases hp : g.prods[q]? with
   | none => rw [hp] at h; cases h
   | some p =>
    rw [hp] at h
    simp only [Bool.and_eq_true,decide_eq_true_eq] at h
    exact .inr ⟨by omega,q,p,hp,h.1,h.2⟩
  ·rintro (h | ⟨_,q,p,hp,hl,ho⟩)
   ·omega
   ·exact ⟨q,List.mem_range.2 (List.getElem?_eq_some_iff.1 hp).1,by rw [hp]; simp [hl,ho]⟩
theorem whole_sound {On : Nat → Nat → Nat → Nat → Bool} (hS : SoundR g w On) {n : Int} {j k : Nat} (h : wholeR g w On n j k = true) : Der g w [n] j k := by
 rcases wholeR_iff.1 h with ⟨c,rfl,hw⟩ | ⟨c,q,p,hp,hl,ho⟩
 ·exact .term_one c hw
 ·have hq := (List.getElem?_eq_some_iff.1 hp).1
  have hs : sideN g (q + 1) = p.right := by simp [sideN,hp]
  have := hS (q + 1) p.right.length j k (by omega) (by rw [hs]; exact Nat.le_refl _) ho
  rw [hs,List.take_length] at this
  rw [← hl] at c ⊢
  exact .nont_one c (List.mem_of_getElem? hp) this
theorem closed_all {On : Nat → Nat → Nat → Nat → Bool} (hC : ClosedR g w On) {ts : List Int} {i k : Nat} (h : Der g w ts i k) :
  ∀ (q d i0 : Nat) (r : List Int),q ≤ g.prods.length → (sideN g q).drop d = ts ++ r → i0 ≤ i → On q d i0 i = true → On q (d + ts.length) i0 k = true := by
 have nxt : ∀ {q d : Nat} {n : Int} {l : List Int},(sideN g q).drop d = n :: l → (sideN g q)[d]? = some n ∧ (sideN g q).drop (d + 1) = l := fun {q d n l} e => by
  have h1 := congrArg (fun l => l[0]?) e
  have h2 := congrArg (List.drop 1) e
  simp only [List.getElem?_drop,Nat.add_zero,List.getElem?_cons_zero] at h1
  rw [List.drop_drop] at h2
  exact ⟨h1,h2⟩
 induction h with
 | nil i h => exact fun q d i0 r hq he hi ho => ho
 | term n ts i k hn hw h ih =>
  intro q d i0 r hq he hi ho
  obtain ⟨e1,e2⟩ := nxt he
  have hle := h.le
  have := hC.2 q d i0 i (i + 1) n hq e1 hi (by omega) (by omega) ho (wholeR_iff.2 (.inl ⟨hn,rfl,hw⟩))
  have := ih q (d + 1) i0 r hq e2 (by omega) this
  rw [List.length_cons]
  rwa [show d + (ts.length + 1) = d + 1 + ts.length from by omega]
 | nont n p ts i j k hn hp hl h1 h2 ih1 ih2 =>
  intro q d i0 r hq he hi ho
  obtain ⟨e1,e2⟩ := nxt he
  have hle1 := h1.le
  have hle2 := h2.le
  obtain ⟨m,hm⟩ := List.mem_iff_getElem?.1 hp
  have hml := (List.getElem?_eq_some_iff.1 hm).1
  have hs : sideN g (m + 1) = p.right := by simp [sideN,hm]
  have h3 := ih1 (m + 1) 0 i [] (by omega) (by rw [hs]; simp) (Nat.le_refl _) (hC.1 (m + 1) i (by omega) (by omega))
  rw [Nat.zero_add] at h3
  have := hC.2 q d i0 i j n hq e1 hi hle1.1 hle1.2 ho (wholeR_iff.2 (.inr ⟨hn,m,p,hm,hl,h3⟩))
  have := ih2 q (d + 1) i0 r hq e2 (by omega) this
  rw [List.length_cons]
  rwa [show d + (ts.length + 1) = d + 1 + ts.length from by omega]
theorem doc_iff {On : Nat → Nat → Nat → Nat → Bool} (hS : SoundR g w On) (hC : ClosedR g w On) : On 0 1 0 w.length = true ↔ Der g w [g.start] 0 w.length := by
 constructor
 ·intro h
  exact hS 0 1 0 w.length (Nat.zero_le _) (by simp [sideN]) h
 ·intro h
  have := closed_all hC h 0 0 0 [] (Nat.zero_le _) (by simp [sideN]) (Nat.le_refl _) (hC.1 0 0 (Nat.zero_le _) (Nat.zero_le _))
  simpa using this
end Go.Abs
/- The program's chart grows: what one round brings; when it stands still it is whole. -/
namespace Go.Abs
set_option linter.unusedSectionVars false
variable [Kn]
set_option linter.unusedVariables false
/-- One place of one nonterminal: where it may end is added. -/
def addE (E : Nat → Nat → Nat → Bool) (n i : Nat) (to : Nat → Bool) : Nat → Nat → Nat → Bool := fun a b k => if a = n ∧ b = i ∧ k < 41 then E a b k || to k else E a b k
def newE (E : Nat → Nat → Nat → Bool) (n i : Nat) (to : Nat → Bool) : Bool := (List.range 41).any fun k => to k && !E n i k
abbrev ES := (Nat → Nat → Nat → Bool) × Bool
/-- One production at one place. -/
def stepG (g : Gra) (w : List Int) (p : Prd) (s : ES) (i : Nat) : ES :=
 (addE s.1 p.left.toNat i (textE g.terms w s.1 p.right fun j => decide (j = i)),s.2 || newE s.1 p.left.toNat i (textE g.terms w s.1 p.right fun j => decide (j = i)))
/-- One production. -/
def prodG (g : Gra) (w : List Int) (s : ES) (p : Prd) (k : Nat) : ES := (List.range k).foldl (stepG g w p) s
/-- The first productions. -/
def rndG (g : Gra) (w : List Int) (E : Nat → Nat → Nat → Bool) (q : Nat) : ES := (g.prods.take q).foldl (fun s p => prodG g w s p (w.length + 1)) (E,false)
theorem prodG_succ (g : Gra) (w : List Int) (s : ES) (p : Prd) (k : Nat) : prodG g w s p (k + 1) = stepG g w p (prodG g w s p k) k := by
 simp [prodG,List.range_succ]
theorem rndG_succ (g : Gra) (w : List Int) (E : Nat → Nat → Nat → Bool) (q : Nat) (p : Prd) (h : g.prods[q]? = some p) : rndG g w E (q + 1) = prodG g w (rndG g w E q) p (w.length + 1) := by
 have hq := (List.getElem?_eq_some_iff.1 h).1
 have e : g.prods[q] = p := (List.getElem?_eq_some_iff.1 h).2
 unfold rndG
 rw [List.take_succ_eq_append_getElem hq,e]
 simp
/-- What a state of the growth keeps: all is so; all that was is; if nothing came, all is as it was, and nothing would come of what is behind. -/
structure GrowI (g : Gra) (w : List Int) (E : Nat → Nat → Nat → Bool) (s : ES) : Prop where
 sound : SoundE g w s.1
 mono : ∀ n i k,E n i k = true → s.1 n i k = true
 same : s.2 = false → s.1 = E
 more : s.2 = true → ∃ n i k,n ≤ g.all ∧ i ≤ w.length ∧ k < 41 ∧ E n i k = false ∧ s.1 n i k = true
variable {g : Gra} {w : List Int}
theorem over_sound {E : Nat → Nat → Nat → Bool} (hE : SoundE g w E) {p : Prd} (hp : p ∈ g.prods) (hpl : (g.terms : Int) < p.left) {i : Nat} (hi : i ≤ w.length) {k : Nat} (h : textE g.terms w E p.right (fun j => decide (j = i)) k = true) : Der g w [(p.left.toNat : Int)] i k := by
 obtain ⟨j,hj,hd⟩ := textE_sound hE p.right _ k (fun j hj => by rw [of_decide_eq_true hj]; exact hi) h
 rw [of_decide_eq_true hj] at hd
 rw [Int.toNat_of_nonneg (by omega)]
 exact .nont_one hpl hp hd
theorem GrowI.step {E : Nat → Nat → Nat → Bool} {s : ES} (h : GrowI g w E s) {p : Prd} (hp : p ∈ g.prods) (hpl : (g.terms : Int) < p.left) (hpa : p.left ≤ (g.all : Int)) {i : Nat} (hi : i ≤ w.length) : GrowI g w E (stepG g w p s i) where
 sound n b k hk := by
  simp only [stepG,addE] at hk
  split at hk
  ·rename_i c
   obtain ⟨rfl,rfl,_⟩ := c
   rcases Bool.or_eq_true_iff.1 hk with q | q
   ·exact h.sound _ _ _ q
   ·exact over_sound h.sound hp hpl hi q
  ·exact h.sound _ _ _ hk
 mono n b k hk := by
  have := h.mono n b k hk
  simp only [stepG,addE]
  split
  ·rw [this]; rfl
  ·exact this
 same hs := by
  simp only [stepG,Bool.or_eq_false_iff] at hs
  rw [← h.same hs.1]
  funext n b k
  simp only [stepG,addE]
  split
  ·rename_i c
   obtain ⟨rfl,rfl,hk⟩ := c
   have h2 := hs.2
   simp only [newE,List.any_eq_false,List.mem_range,Bool.and_eq_true,Bool.not_eq_true',not_and] at h2
   have := h2 k hk
   cases ht : textE g.terms w s.1 p.right (fun j => decide (j = b)) k with
   | false => simp
   | true =>
    have := this ht
    simp only [Bool.not_eq_false] at this
    simp [this]
  ·rfl
 more hs := by
  simp only [stepG,Bool.or_eq_true] at hs
  rcases hs with hs | hs
  ·obtain ⟨n,b,k,h1,h2,h3,h4,h5⟩ := h.more hs
   refine ⟨n,b,k,h1,h2,h3,h4,?_⟩
   simp only [stepG,addE]
   split
   ·rw [h5]; rfl
   ·exact h5
  ·simp only [newE,List.any_eq_true,List.mem_range,Bool.and_eq_true,Bool.not_eq_true'] at hs
   obtain ⟨k,hk,ht,hf⟩ := hs
   refine ⟨p.left.toNat,i,k,by omega,hi,hk,?_,?_⟩
   ·cases hE : E p.left.toNat i k with
    | false => rfl
    | true => rw [h.mono _ _ _ hE] at hf; cases hf
   ·simp only [stepG,addE]
    simp [hk,ht]
theorem GrowI.start {E : Nat → Nat → Nat → Bool} (hE : SoundE g w E) : GrowI g w E (E,false) := ⟨hE,fun _ _ _ h => h,fun _ => rfl,fun h => by cases h⟩
theorem GrowI.prod {E : Nat → Nat → Nat → Bool} {s : ES} (h : GrowI g w E s) {p : Prd} (hp : p ∈ g.prods) (hpl : (g.terms : Int) < p.left) (hpa : p.left ≤ (g.all : Int)) : ∀ k,k ≤ w.length + 1 → GrowI g w E (prodG g w s p k)
 | 0,_ => h
 | k + 1,hk => by
  rw [prodG_succ]
  exact (GrowI.prod h hp hpl hpa k (by omega)).step hp hpl hpa (by omega)
theorem GrowI.rnd {E : Nat → Nat → Nat → Bool} (hE : SoundE g w E) (hl : ∀ p ∈ g.prods,(g.terms : Int) < p.left ∧ p.left ≤ (g.all : Int)) : ∀ q,q ≤ g.prods.length → GrowI g w E (rndG g w E q)
 | 0,_ => GrowI.start hE
 | q + 1,hq => by
  have hp : g.prods[q]? = some g.prods[q] := List.getElem?_eq_getElem (by omega)
  have hm := List.mem_of_getElem? hp
  rw [rndG_succ g w E q _ hp]
  exact (GrowI.rnd hE hl q (by omega)).prod hm (hl _ hm).1 (hl _ hm).2 _ (Nat.le_refl _)
theorem stepG_false {s : ES} {p : Prd} {i : Nat} (h : (stepG g w p s i).2 = false) : s.2 = false := by
 simp only [stepG,Bool.or_eq_false_iff] at h
 exact h.1
theorem prodG_false {s : ES} {p : Prd} : ∀ {k : Nat},(prodG g w s p k).2 = false → s.2 = false
 | 0,h => h
 | k + 1,h => by
  rw [prodG_succ] at h
  exact prodG_false (stepG_false h)
theorem prodG_false_lt {s : ES} {p : Prd} : ∀ {k j : Nat},(prodG g w s p k).2 = false → j ≤ k → (prodG g w s p j).2 = false
 | 0,j,h,hj => by
  have e : j = 0 := by omega
  rw [e]; exact h
 | k + 1,j,h,hj => by
  by_cases c : j = k + 1
  ·rw [c]; exact h
  ·rw [prodG_succ] at h
   exact prodG_false_lt (stepG_false h) (by omega)
theorem rndG_false_lt {E : Nat → Nat → Nat → Bool} : ∀ {k j : Nat},k ≤ g.prods.length → (rndG g w E k).2 = false → j ≤ k → (rndG g w E j).2 = false
 | 0,j,hk,h,hj => by
  have e : j = 0 := by omega
  rw [e]; exact h
 | k + 1,j,hk,h,hj => by
  by_cases c : j = k + 1
  ·rw [c]; exact h
  ·rw [rndG_succ g w E k _ (List.getElem?_eq_getElem (by omega))] at h
   exact rndG_false_lt (by omega) (prodG_false h) (by omega)
/-- Where nothing comes, the chart is closed. -/
theorem rnd_closed {E : Nat → Nat → Nat → Bool} (hE : SoundE g w E) (hw : w.length ≤ 40) (hl : ∀ p ∈ g.prods,(g.terms : Int) < p.left ∧ p.left ≤ (g.all : Int)) (h : (rndG g w E g.prods.length).2 = false) : ClosedE g w E := by
 intro p hp i hi k hk
 obtain ⟨q,hq⟩ := List.mem_iff_getElem?.1 hp
 have hql := (List.getElem?_eq_some_iff.1 hq).1
 have h1 := rndG_false_lt (Nat.le_refl _) h (j := q + 1) (by omega)
 rw [rndG_succ g w E q p hq] at h1
 have h2 := prodG_false_lt h1 (j := i + 1) (by omega)
 have hI := (GrowI.rnd hE hl q (by omega)).prod hp (hl p hp).1 (hl p hp).2 i (by omega)
 have h3 := hI.same (prodG_false_lt h1 (by omega))
 rw [prodG_succ] at h2
 simp only [stepG,Bool.or_eq_false_iff] at h2
 rw [h3] at h2
 have h4 := h2.2
 simp only [newE,List.any_eq_false,List.mem_range,Bool.and_eq_true,Bool.not_eq_true',not_and] at h4
 have hd := over_sound hE hp (hl p hp).1 hi hk
 have hkl := hd.le.2
 have := h4 k (by omega) hk
 simpa using this
/-! ### How much is lacking -/
def cellsE (m n1 : Nat) : List (Nat × Nat × Nat) := (List.range m).flatMap fun n => (List.range n1).flatMap fun i => (List.range 41).map fun k => (n,i,k)
theorem cellsE_mem {m n1 n i k : Nat} : (n,i,k) ∈ cellsE m n1 ↔ n < m ∧ i < n1 ∧ k < 41 := by
 simp only [cellsE,List.mem_flatMap,List.mem_map,List.mem_range,Prod.mk.injEq]
 constructor
 ·rintro ⟨a,ha,b,hb,c,hc,rfl,rfl,rfl⟩
  exact ⟨ha,hb,hc⟩
 ·rintro ⟨h1,h2,h3⟩
  exact ⟨n,h1,i,h2,k,h3,rfl,rfl,rfl⟩
def lackE (m n1 : Nat) (E : Nat → Nat → Nat → Bool) : Nat := ((cellsE m n1).filter fun c => !E c.1 c.2.1 c.2.2).length
theorem filter_lt {α : Type} (f h : α → Bool) : ∀ l : List α,(∀ x ∈ l,h x = true → f x = true) → (∃ x ∈ l,f x = true ∧ h x = false) → (l.filter h).length < (l.filter f).length
 | [],_,⟨x,hx,_⟩ => by simp at hx
 | y :: l,hs,⟨x,hx,h1,h2⟩ => by
  have hle : ∀ l : List α,(∀ x ∈ l,h x = true → f x = true) → (l.filter h).length ≤ (l.filter f).length := fun l => by
   induction l with
   | nil => intro _; exact Nat.le_refl _
   | cons z l ih =>
    intro hs
    have := ih fun x hx => hs x (List.mem_cons_of_mem _ hx)
    simp only [List.filter_cons]
    have hz := hs z (by simp)
    cases c1 : h z with
    | true => rw [hz c1]; simp only [if_true,List.length_cons]; omega
    | false =>
     simp only [Bool.false_eq_true,if_false]
     split
     ·simp only [List.length_cons]; omega
     ·exact this
  simp only [List.filter_cons]
  by_cases e : x = y
  ·subst e
   rw [h1,h2]
   have := hle l fun x hx => hs x (List.mem_cons_of_mem _ hx)
   simp only [Bool.false_eq_true,if_false,if_true,List.length_cons]
   omega
  ·have hx' : x ∈ l := by
    rcases List.mem_cons.1 hx with q | q
    ·exact absurd q e
    ·exact q
   have := filter_lt f h l (fun x hx => hs x (List.mem_cons_of_mem _ hx)) ⟨x,hx',h1,h2⟩
   have hy := hs y (by simp)
   cases c1 : h y with
   | true => rw [hy c1]; simp only [if_true,List.length_cons]; omega
   | false =>
    simp only [Bool.false_eq_true,if_false]
    split
    ·simp only [List.length_cons]; omega
    ·exact this
theorem lack_lt {E : Nat → Nat → Nat → Bool} {s : ES} (h : GrowI g w E s) (hs : s.2 = true) : lackE (g.all + 1) (w.length + 1) s.1 < lackE (g.all + 1) (w.length + 1) E := by
 obtain ⟨n,i,k,h1,h2,h3,h4,h5⟩ := h.more hs
 refine filter_lt _ _ _ (fun x _ hx => ?_) ⟨(n,i,k),cellsE_mem.2 ⟨by omega,by omega,h3⟩,by simp [h4],by simp [h5]⟩
 cases hE : E x.1 x.2.1 x.2.2 with
 | false => rfl
 | true => rw [h.mono _ _ _ hE] at hx; cases hx
end Go.Abs
/- The document's chart, round by round. -/
namespace Go.Abs
set_option linter.unusedSectionVars false
variable [Kn]
set_option linter.unusedVariables false
def foldN {σ : Type} (f : Nat → σ → σ) : Nat → σ → σ
 | 0,s => s
 | n + 1,s => f n (foldN f n s)
abbrev BS := List Bool × Bool
/-- Nothing came; or something, that stays. -/
def Stp (s s' : BS) : Prop := s' = s ∨ (s'.1.length = s.1.length ∧ s'.1.count false < s.1.count false ∧ s'.2 = true)
theorem Stp.refl (s : BS) : Stp s s := .inl rfl
theorem Stp.trans {a b c : BS} (h1 : Stp a b) (h2 : Stp b c) : Stp a c := by
 rcases h1 with rfl | ⟨l1,c1,f1⟩
 ·exact h2
 ·rcases h2 with rfl | ⟨l2,c2,f2⟩
  ·exact .inr ⟨l1,c1,f1⟩
  ·exact .inr ⟨by omega,by omega,f2⟩
theorem Stp.len {a b : BS} (h : Stp a b) : b.1.length = a.1.length := by
 rcases h with rfl | h
 ·rfl
 ·exact h.1
theorem Stp.off {a b : BS} (h : Stp a b) (hb : b.2 = false) : b = a := by
 rcases h with h | h
 ·exact h
 ·rw [h.2.2] at hb; cases hb
theorem foldN_stp {N : Nat} {f : Nat → BS → BS} : ∀ (n : Nat) (s : BS),s.1.length = N → (∀ t s,t < n → s.1.length = N → Stp s (f t s)) → Stp s (foldN f n s)
 | 0,s,_,_ => .refl s
 | n + 1,s,hs,h => by
  have h1 := foldN_stp n s hs fun t s ht => h t s (by omega)
  exact h1.trans (h n _ (by omega) (by rw [h1.len]; exact hs))
theorem foldN_off {N : Nat} {f : Nat → BS → BS} : ∀ (n : Nat) (s : BS),s.1.length = N → (∀ t s,t < n → s.1.length = N → Stp s (f t s)) → (foldN f n s).2 = false → foldN f n s = s ∧ ∀ t,t < n → f t s = s
 | 0,s,_,_,_ => ⟨rfl,fun t ht => by omega⟩
 | n + 1,s,hs,h,h2 => by
  have h1 := foldN_stp n s hs fun t s ht => h t s (by omega)
  have e := (h n (foldN f n s) (by omega) (by rw [h1.len]; exact hs)).off h2
  have e2 : foldN f (n + 1) s = foldN f n s := e
  rw [e2] at h2
  obtain ⟨h3,h4⟩ := foldN_off n s hs (fun t s ht => h t s (by omega)) h2
  refine ⟨e2.trans h3,fun t ht => ?_⟩
  rcases Nat.lt_or_ge t n with c | c
  ·exact h4 t c
  ·obtain rfl : t = n := by omega
   rw [h3] at e
   exact e
theorem foldN_inv {σ : Type} {f : Nat → σ → σ} {Q : σ → Prop} : ∀ (n : Nat) (s : σ),(∀ t s,t < n → Q s → Q (f t s)) → Q s → Q (foldN f n s)
 | 0,s,_,hs => hs
 | n + 1,s,h,hs => h n _ (by omega) (foldN_inv n s (fun t s ht => h t s (by omega)) hs)
/-- The place of a row's truth. -/
def atR (W q d i j : Nat) : Nat := ((q * 9 + d) * W + i) * W + j
def onR (W : Nat) (L : List Bool) (q d i j : Nat) : Bool := decide (d < 9 ∧ i < W ∧ j < W) && L.getD (atR W q d i j) false
theorem atR_inj {W q d i j q' d' i' j' : Nat} (hd : d < 9) (hi : i < W) (hj : j < W) (hd' : d' < 9) (hi' : i' < W) (hj' : j' < W) (h : atR W q d i j = atR W q' d' i' j') : q = q' ∧ d = d' ∧ i = i' ∧ j = j' := by
 unfold atR at h
 have hW : 0 < W := by omega
 have key : ∀ a b x y : Nat,x < W → y < W → a * W + x = b * W + y → a = b ∧ x = y := fun a b x y hx hy e => by
  have h1 : (a * W + x) / W = a := by rw [Nat.mul_comm,Nat.mul_add_div hW,Nat.div_eq_of_lt hx,Nat.add_zero]
  have h2 : (b * W + y) / W = b := by rw [Nat.mul_comm,Nat.mul_add_div hW,Nat.div_eq_of_lt hy,Nat.add_zero]
  have : a = b := by rw [← h1,← h2,e]
  subst this
  exact ⟨rfl,by omega⟩
 obtain ⟨h1,h2⟩ := key _ _ _ _ hj hj' h
 obtain ⟨h3,h4⟩ := key _ _ _ _ hi hi' h1
 exact ⟨by omega,by omega,h4,h2⟩
theorem atR_lt {W q d i j P : Nat} (hq : q ≤ P) (hd : d < 9) (hi : i < W) (hj : j < W) : atR W q d i j < (P + 1) * 9 * W * W := by
 unfold atR
 have h1 : q * 9 + d + 1 ≤ (P + 1) * 9 := by omega
 have h2 : (q * 9 + d) * W + i + 1 ≤ (P + 1) * 9 * W := by
  have := Nat.mul_le_mul_right W h1
  rw [Nat.add_mul,Nat.one_mul] at this
  omega
 have := Nat.mul_le_mul_right W h2
 rw [Nat.add_mul,Nat.one_mul] at this
 omega
theorem onR_set {W : Nat} {L : List Bool} {q d i j : Nat} (hd : d < 9) (hi : i < W) (hj : j < W) {q' d' i' j' : Nat} : onR W (L.set (atR W q d i j) true) q' d' i' j' = true → (q' = q ∧ d' = d ∧ i' = i ∧ j' = j) ∨ onR W L q' d' i' j' = true := by
 intro h
 unfold onR at h ⊢
 simp only [Bool.and_eq_true,decide_eq_true_eq] at h ⊢
 obtain ⟨⟨h1,h2,h3⟩,h4⟩ := h
 by_cases e : atR W q d i j = atR W q' d' i' j'
 ·obtain ⟨rfl,rfl,rfl,rfl⟩ := atR_inj hd hi hj h1 h2 h3 e
  exact .inl ⟨rfl,rfl,rfl,rfl⟩
 ·right
  refine ⟨⟨h1,h2,h3⟩,?_⟩
  rw [List.getD_eq_getElem?_getD,List.getElem?_set_ne e,← List.getD_eq_getElem?_getD] at h4
  exact h4
theorem count_set : ∀ (L : List Bool) (k : Nat),L[k]? = some false → (L.set k true).count false < L.count false
 | [],k,h => by simp at h
 | b :: L,0,h => by
  simp at h; subst h
  rw [List.set_cons_zero,List.count_cons,List.count_cons]
  simp
 | b :: L,k + 1,h => by
  have := count_set L k (by simpa using h)
  rw [List.set_cons_succ,List.count_cons,List.count_cons]
  omega
section
variable (g : Gra) (w : List Int)
def cellS (q d i j k : Nat) (n : Int) (s : BS) : BS :=
 if onR (w.length + 1) s.1 q (d + 1) i k = false ∧ wholeR g w (onR (w.length + 1) s.1) n j k = true then (s.1.set (atR (w.length + 1) q (d + 1) i k) true,true) else s
def jS (q d i : Nat) (n : Int) (j : Nat) (s : BS) : BS := if onR (w.length + 1) s.1 q d i j = true then foldN (fun t => cellS g w q d i j (j + t) n) (w.length + 1 - j) s else s
def iS (q d : Nat) (n : Int) (i : Nat) (s : BS) : BS := foldN (fun t => jS g w q d i n (i + t)) (w.length + 1 - i) s
def dS (q d : Nat) (n : Int) (s : BS) : BS := foldN (iS g w q d n) (w.length + 1) s
def qS (q : Nat) (s : BS) : BS := foldN (fun d s => dS g w q d ((sideN g q).getD d 0) s) (sideN g q).length s
def passS (L : List Bool) : BS := foldN (qS g w) (g.prods.length + 1) (L,false)
variable {g w}
theorem cellS_stp {q d i j k : Nat} {n : Int} {s : BS} (hd : d + 1 < 9) (hi : i < w.length + 1) (hk : k < w.length + 1) (hL : atR (w.length + 1) q (d + 1) i k < s.1.length) : Stp s (cellS g w q d i j k n s) := by
 unfold cellS
 by_cases c : onR (w.length + 1) s.1 q (d + 1) i k = false ∧ wholeR g w (onR (w.length + 1) s.1) n j k = true
 ·rw [if_pos c]
  refine .inr ⟨List.length_set ..,count_set _ _ ?_,rfl⟩
  have h1 := c.1
  unfold onR at h1
  rw [decide_eq_true (⟨hd,hi,hk⟩ : d + 1 < 9 ∧ i < w.length + 1 ∧ k < w.length + 1),Bool.true_and,List.getD_eq_getElem?_getD,List.getElem?_eq_getElem hL] at h1
  rw [List.getElem?_eq_getElem hL]
  simpa using h1
 ·rw [if_neg c]; exact .refl s
theorem onR_mono {W : Nat} {L : List Bool} {k q d i j : Nat} (h : onR W L q d i j = true) : onR W (L.set k true) q d i j = true := by
 unfold onR at h ⊢
 simp only [Bool.and_eq_true,decide_eq_true_eq] at h ⊢
 refine ⟨h.1,?_⟩
 have h2 := h.2
 rw [List.getD_eq_getElem?_getD] at h2 ⊢
 rw [List.getElem?_set]
 split
 ·split
  ·rfl
  ·rename_i e h3
   rw [List.getElem?_eq_none (by omega)] at h2
   exact h2
 ·exact h2
/-- Right sides are no longer than eight. -/
def Narrow (g : Gra) : Prop := ∀ p ∈ g.prods,p.right.length ≤ 8
theorem side_narrow (hg : Narrow g) (q : Nat) : (sideN g q).length ≤ 8 := by
 cases q with
 | zero => simp [sideN]
 | succ q =>
  show ((Option.map Prd.right g.prods[q]?).getD []).length ≤ 8
  cases h : g.prods[q]? with
  | none => simp
  | some p => exact hg p (List.mem_of_getElem? h)
theorem bnd_lt {L : List Bool} (hL : L.length = (g.prods.length + 1) * 9 * (w.length + 1) * (w.length + 1)) {q d i j : Nat} (hq : q ≤ g.prods.length) (hd : d < 9) (hi : i < w.length + 1) (hj : j < w.length + 1) : atR (w.length + 1) q d i j < L.length := by
 rw [hL]; exact atR_lt hq hd hi hj
theorem jS_stp {q d i j : Nat} {n : Int} {s : BS} (hq : q ≤ g.prods.length) (hd : d + 1 < 9) (hi : i < w.length + 1) (hL : s.1.length = (g.prods.length + 1) * 9 * (w.length + 1) * (w.length + 1)) : Stp s (jS g w q d i n j s) := by
 unfold jS
 split
 ·exact foldN_stp _ _ hL fun t s ht hs => cellS_stp hd hi (by omega) (bnd_lt hs hq hd hi (by omega))
 ·exact .refl s
theorem iS_stp {q d i : Nat} {n : Int} {s : BS} (hq : q ≤ g.prods.length) (hd : d + 1 < 9) (hi : i < w.length + 1) (hL : s.1.length = (g.prods.length + 1) * 9 * (w.length + 1) * (w.length + 1)) : Stp s (iS g w q d n i s) :=
 foldN_stp _ _ hL fun t s ht hs => jS_stp hq hd hi hs
theorem dS_stp {q d : Nat} {n : Int} {s : BS} (hq : q ≤ g.prods.length) (hd : d + 1 < 9) (hL : s.1.length = (g.prods.length + 1) * 9 * (w.length + 1) * (w.length + 1)) : Stp s (dS g w q d n s) :=
 foldN_stp _ _ hL fun t s ht hs => iS_stp hq hd ht hs
theorem qS_stp (hg : Narrow g) {q : Nat} {s : BS} (hq : q ≤ g.prods.length) (hL : s.1.length = (g.prods.length + 1) * 9 * (w.length + 1) * (w.length + 1)) : Stp s (qS g w q s) :=
 foldN_stp _ _ hL fun t s ht hs => dS_stp hq (by have := side_narrow hg q; omega) hs
theorem passS_stp (hg : Narrow g) {L : List Bool} (hL : L.length = (g.prods.length + 1) * 9 * (w.length + 1) * (w.length + 1)) : Stp (L,false) (passS g w L) :=
 foldN_stp _ _ hL fun t s ht hs => qS_stp hg (by omega) hs
theorem pass_closed (hg : Narrow g) {L : List Bool} (hL : L.length = (g.prods.length + 1) * 9 * (w.length + 1) * (w.length + 1)) (h0 : ∀ q i,q ≤ g.prods.length → i ≤ w.length → onR (w.length + 1) L q 0 i i = true) (h : (passS g w L).2 = false) :
  (passS g w L).1 = L ∧ ClosedR g w (onR (w.length + 1) L) := by
 obtain ⟨e,h1⟩ := foldN_off _ (L,false) hL (fun t s ht hs => qS_stp hg (by omega) hs) h
 refine ⟨congrArg Prod.fst e,h0,fun q d i j k n hq hn hij hjk hk ho hw => ?_⟩
 have hd : d < (sideN g q).length := (List.getElem?_eq_some_iff.1 hn).1
 have hd8 := side_narrow hg q
 have e1 := h1 q (by omega)
 obtain ⟨_,h2⟩ := foldN_off _ (L,false) hL (fun t s ht hs => dS_stp hq (by omega) hs) (congrArg Prod.snd e1)
 have e2 := h2 d hd
 have en : (sideN g q).getD d 0 = n := by rw [List.getD_eq_getElem?_getD,hn]; rfl
 rw [en] at e2
 obtain ⟨_,h3⟩ := foldN_off _ (L,false) hL (fun t s ht hs => iS_stp hq (by omega) ht hs) (congrArg Prod.snd e2)
 have e3 := h3 i (by omega)
 obtain ⟨_,h4⟩ := foldN_off _ (L,false) hL (fun t s ht hs => jS_stp hq (by omega) (by omega) hs) (congrArg Prod.snd e3)
 have e4 := h4 (j - i) (by omega)
 rw [show i + (j - i) = j from by omega] at e4
 unfold jS at e4
 rw [if_pos ho] at e4
 obtain ⟨_,h5⟩ := foldN_off _ (L,false) hL (fun t s ht hs => cellS_stp (by omega) (by omega) (by omega) (bnd_lt hs hq (by omega) (by omega) (by omega))) (congrArg Prod.snd e4)
 have e5 := h5 (k - j) (by omega)
 rw [show j + (k - j) = k from by omega] at e5
 unfold cellS at e5
 by_cases c : onR (w.length + 1) L q (d + 1) i k = true
 ·exact c
 ·rw [if_pos ⟨by simpa using c,hw⟩] at e5
  have := congrArg Prod.snd e5
  cases this
theorem cellS_inv {q d i j k : Nat} {n : Int} {s : BS} (hq : q ≤ g.prods.length) (hd : d + 1 < 9) (hn : (sideN g q)[d]? = some n) (hi : i < w.length + 1) (hk : k < w.length + 1) (hD : Der g w ((sideN g q).take d) i j)
  (hs : SoundR g w (onR (w.length + 1) s.1)) : SoundR g w (onR (w.length + 1) (cellS g w q d i j k n s).1) := by
 unfold cellS
 split
 ·rename_i c
  intro q' d' i' k' hq' hd' ho
  rcases onR_set hd hi hk ho with ⟨rfl,rfl,rfl,rfl⟩ | h
  ·rw [List.take_add_one,hn]
   exact Der.append.2 ⟨j,hD,whole_sound hs c.2⟩
  ·exact hs q' d' i' k' hq' hd' h
 ·exact hs
theorem pass_sound (hg : Narrow g) {L : List Bool} (hs : SoundR g w (onR (w.length + 1) L)) : SoundR g w (onR (w.length + 1) (passS g w L).1) := by
 refine foldN_inv (Q := fun s : BS => SoundR g w (onR (w.length + 1) s.1)) _ _ (fun q s hq hs => ?_) hs
 have hd8 := side_narrow hg q
 refine foldN_inv (Q := fun s : BS => SoundR g w (onR (w.length + 1) s.1)) _ _ (fun d s hd hs => ?_) hs
 have hn : (sideN g q)[d]? = some ((sideN g q).getD d 0) := by rw [List.getD_eq_getElem?_getD,List.getElem?_eq_getElem hd]; rfl
 generalize (sideN g q).getD d 0 = n at hn
 refine foldN_inv (Q := fun s : BS => SoundR g w (onR (w.length + 1) s.1)) _ _ (fun i s hi hs => ?_) hs
 refine foldN_inv (Q := fun s : BS => SoundR g w (onR (w.length + 1) s.1)) _ _ (fun j s hj hs => ?_) hs
 unfold jS
 split
 ·rename_i ho
  have hD := hs q d i (i + j) (by omega) (by omega) ho
  exact foldN_inv (Q := fun s : BS => SoundR g w (onR (w.length + 1) s.1)) _ _ (fun k s hk hs => cellS_inv (by omega) (by omega) hn hi (by omega) hD hs) hs
 ·exact hs
theorem pass_mono {q0 d0 i0 j0 : Nat} {L : List Bool} (h : onR (w.length + 1) L q0 d0 i0 j0 = true) : onR (w.length + 1) (passS g w L).1 q0 d0 i0 j0 = true := by
 refine foldN_inv (Q := fun s : BS => onR (w.length + 1) s.1 q0 d0 i0 j0 = true) _ _ (fun q s hq hs => ?_) h
 refine foldN_inv (Q := fun s : BS => onR (w.length + 1) s.1 q0 d0 i0 j0 = true) _ _ (fun d s hd hs => ?_) hs
 refine foldN_inv (Q := fun s : BS => onR (w.length + 1) s.1 q0 d0 i0 j0 = true) _ _ (fun i s hi hs => ?_) hs
 refine foldN_inv (Q := fun s : BS => onR (w.length + 1) s.1 q0 d0 i0 j0 = true) _ _ (fun j s hj hs => ?_) hs
 unfold jS
 split
 ·refine foldN_inv (Q := fun s : BS => onR (w.length + 1) s.1 q0 d0 i0 j0 = true) _ _ (fun k s hk hs => ?_) hs
  unfold cellS
  split
  ·exact onR_mono hs
  ·exact hs
 ·exact hs
/-- The chart at first. -/
def iniR (g : Gra) (w : List Int) (a : Nat) : List Bool := foldN (fun q L => foldN (fun i L => L.set (atR (w.length + 1) q 0 i i) true) (w.length + 1) L) a (List.replicate ((g.prods.length + 1) * 9 * (w.length + 1) * (w.length + 1)) false)
def iniQ (g : Gra) (w : List Int) (q : Nat) (L : List Bool) (i : Nat) : List Bool := foldN (fun i L => L.set (atR (w.length + 1) q 0 i i) true) i L
theorem iniR_len (a : Nat) : (iniR g w a).length = (g.prods.length + 1) * 9 * (w.length + 1) * (w.length + 1) := by
 refine foldN_inv (Q := fun L : List Bool => L.length = (g.prods.length + 1) * 9 * (w.length + 1) * (w.length + 1)) _ _ (fun q L hq hs => ?_) (List.length_replicate ..)
 exact foldN_inv (Q := fun L : List Bool => L.length = (g.prods.length + 1) * 9 * (w.length + 1) * (w.length + 1)) _ _ (fun q L hq hs => by rw [List.length_set]; exact hs) hs
theorem iniR_sound : SoundR g w (onR (w.length + 1) (iniR g w (g.prods.length + 1))) := by
 refine foldN_inv (Q := fun L : List Bool => SoundR g w (onR (w.length + 1) L)) _ _ (fun q L hq hs => ?_) ?_
 ·refine foldN_inv (Q := fun L : List Bool => SoundR g w (onR (w.length + 1) L)) _ _ (fun i L hi hs => ?_) hs
  intro q' d' i' k' hq' hd' ho
  rcases onR_set (by omega) hi hi ho with ⟨rfl,rfl,rfl,rfl⟩ | h
  ·rw [List.take_zero]
   exact .nil _ (by omega)
  ·exact hs q' d' i' k' hq' hd' h
 ·intro q d i k _ _ h
  unfold onR at h
  simp only [Bool.and_eq_true] at h
  have h2 := h.2
  rw [List.getD_eq_getElem?_getD,List.getElem?_replicate] at h2
  split at h2 <;> cases h2
theorem onR_at {W : Nat} {L : List Bool} {q d i j : Nat} (hd : d < 9) (hi : i < W) (hj : j < W) (hL : atR W q d i j < L.length) : onR W (L.set (atR W q d i j) true) q d i j = true := by
 unfold onR
 rw [decide_eq_true (⟨hd,hi,hj⟩ : d < 9 ∧ i < W ∧ j < W),Bool.true_and,List.getD_eq_getElem?_getD,List.getElem?_set_self hL]
 rfl
theorem iniR_on : ∀ q i,q ≤ g.prods.length → i ≤ w.length → onR (w.length + 1) (iniR g w (g.prods.length + 1)) q 0 i i = true := by
 intro q i hq hi
 have hlen : ∀ a,(iniR g w a).length = (g.prods.length + 1) * 9 * (w.length + 1) * (w.length + 1) := iniR_len
 have pres : ∀ t' (L : List Bool),onR (w.length + 1) L q 0 i i = true → onR (w.length + 1) (iniQ g w t' L (w.length + 1)) q 0 i i = true := fun t' L h =>
  foldN_inv (Q := fun L : List Bool => onR (w.length + 1) L q 0 i i = true) _ _ (fun _ L _ hs => onR_mono hs) h
 have step : ∀ a,q < a → a ≤ g.prods.length + 1 → onR (w.length + 1) (iniR g w a) q 0 i i = true := by
  intro a
  induction a with
  | zero => intro h; omega
  | succ a ih =>
   intro h1 h2
   show onR (w.length + 1) (iniQ g w a (iniR g w a) (w.length + 1)) q 0 i i = true
   rcases Nat.lt_or_ge q a with c | c
   ·exact pres a _ (ih c (by omega))
   ·obtain rfl : q = a := by omega
    have : ∀ b,i < b → b ≤ w.length + 1 → onR (w.length + 1) (iniQ g w q (iniR g w q) b) q 0 i i = true := by
     intro b
     induction b with
     | zero => intro h; omega
     | succ b ihb =>
      intro h3 h4
      show onR (w.length + 1) ((iniQ g w q (iniR g w q) b).set (atR (w.length + 1) q 0 b b) true) q 0 i i = true
      rcases Nat.lt_or_ge i b with c2 | c2
      ·exact onR_mono (ihb c2 (by omega))
      ·obtain rfl : i = b := by omega
       refine onR_at (by omega) (by omega) (by omega) ?_
       refine bnd_lt ?_ hq (by omega) (by omega) (by omega)
       exact foldN_inv (Q := fun L : List Bool => L.length = (g.prods.length + 1) * 9 * (w.length + 1) * (w.length + 1)) _ _ (fun _ L _ hs => by rw [List.length_set]; exact hs) (hlen q)
    exact this _ (by omega) (Nat.le_refl _)
 exact step _ (by omega) (Nat.le_refl _)
/-- Rounds until nothing comes. -/
def runS (g : Gra) (w : List Int) : Nat → List Bool → List Bool
 | 0,L => L
 | f + 1,L => if (passS g w L).2 = true then runS g w f (passS g w L).1 else (passS g w L).1
def lackS (L : List Bool) : Nat := L.count false
theorem pass_lack (hg : Narrow g) {L : List Bool} (hL : L.length = (g.prods.length + 1) * 9 * (w.length + 1) * (w.length + 1)) (h : (passS g w L).2 = true) : lackS (passS g w L).1 < lackS L ∧ (passS g w L).1.length = L.length := by
 rcases passS_stp hg hL with e | ⟨h1,h2,_⟩
 ·rw [e] at h; cases h
 ·exact ⟨h2,h1⟩
theorem runS_fuel (hg : Narrow g) : ∀ (f f' : Nat) (L : List Bool),L.length = (g.prods.length + 1) * 9 * (w.length + 1) * (w.length + 1) → lackS L < f → lackS L < f' → runS g w f L = runS g w f' L
 | 0,_,_,_,h,_ => by omega
 | _,0,_,_,_,h => by omega
 | f + 1,f' + 1,L,hL,h,h' => by
  unfold runS
  split
  ·rename_i c
   obtain ⟨h1,h2⟩ := pass_lack hg hL c
   exact runS_fuel hg f f' _ (by omega) (by omega) (by omega)
  ·rfl
/-- The chart at last. -/
def lastS (g : Gra) (w : List Int) (L : List Bool) : List Bool := runS g w (lackS L + 1) L
theorem lastS_on (hg : Narrow g) {L : List Bool} (hL : L.length = (g.prods.length + 1) * 9 * (w.length + 1) * (w.length + 1)) (h : (passS g w L).2 = true) : lastS g w L = lastS g w (passS g w L).1 := by
 obtain ⟨h1,h2⟩ := pass_lack hg hL h
 unfold lastS
 rw [runS,if_pos h]
 exact runS_fuel hg _ _ _ (by omega) h1 (by omega)
theorem lastS_off {L : List Bool} (h : (passS g w L).2 = false) : lastS g w L = (passS g w L).1 := by
 unfold lastS
 rw [runS,if_neg (by rw [h]; simp)]
def chartS (g : Gra) (w : List Int) : List Bool := lastS g w (iniR g w (g.prods.length + 1))
theorem lastS_iff (hg : Narrow g) : ∀ (k : Nat) (L : List Bool),lackS L ≤ k → L.length = (g.prods.length + 1) * 9 * (w.length + 1) * (w.length + 1) → SoundR g w (onR (w.length + 1) L) → (∀ q i,q ≤ g.prods.length → i ≤ w.length → onR (w.length + 1) L q 0 i i = true) →
  (onR (w.length + 1) (lastS g w L) 0 1 0 w.length = true ↔ Der g w [g.start] 0 w.length) ∧ (lastS g w L).length = (g.prods.length + 1) * 9 * (w.length + 1) * (w.length + 1) := by
 intro k
 induction k with
 | zero =>
  intro L hk hL hS h0
  cases h : (passS g w L).2 with
  | false =>
   obtain ⟨e,hC⟩ := pass_closed hg hL h0 h
   rw [lastS_off h,e]
   exact ⟨doc_iff hS hC,hL⟩
  | true =>
   have := (pass_lack hg hL h).1
   omega
 | succ k ih =>
  intro L hk hL hS h0
  cases h : (passS g w L).2 with
  | false =>
   obtain ⟨e,hC⟩ := pass_closed hg hL h0 h
   rw [lastS_off h,e]
   exact ⟨doc_iff hS hC,hL⟩
  | true =>
   obtain ⟨h1,h2⟩ := pass_lack hg hL h
   rw [lastS_on hg hL h]
   exact ih _ (by omega) (by omega) (pass_sound hg hS) fun q i hq hi => pass_mono (h0 q i hq hi)
theorem chartS_iff (hg : Narrow g) : (onR (w.length + 1) (chartS g w) 0 1 0 w.length = true ↔ Der g w [g.start] 0 w.length) ∧ (chartS g w).length = (g.prods.length + 1) * 9 * (w.length + 1) * (w.length + 1) :=
 lastS_iff hg _ _ (Nat.le_refl _) (iniR_len _) iniR_sound iniR_on
end
end Go.Abs
