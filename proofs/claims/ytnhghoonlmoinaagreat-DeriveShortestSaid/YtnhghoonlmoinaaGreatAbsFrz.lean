/- A call of what asks for a frozen list, with a list that lies in a block of ours: the block is ours no more. -/
import Derived.Test.YtnhghoonlmoinaaGreatAbsZ
import Derived.Test.YtnhghoonlmoinaaGreatAbsGo
import Derived.Test.YtnhghoonlmoinaaGreatAbsW
namespace Go.Abs
variable [Kn]
set_option linter.unusedSectionVars false
set_option linter.unusedVariables false
set_option linter.unusedSimpArgs false
end Go.Abs
/- What a run gives back, frozen to the bottom: pieces of a greater run, each reckoned by itself. -/
namespace Go.Abs
variable [Kn]
set_option linter.unusedSectionVars false
set_option linter.unusedVariables false
set_option linter.unusedSimpArgs false
def eqFL (f : FV → FV → Bool) : List FV → List FV → Bool
 | [],[] => true
 | x :: l,y :: m => f x y && eqFL f l m
 | _,_ => false
def eqRL (f : FV → FV → Bool) : List (List FV) → List (List FV) → Bool
 | [],[] => true
 | x :: l,y :: m => eqFL f x y && eqRL f l m
 | _,_ => false
/-- The second says no more: a nil slice is an empty one. -/
def leFV : Nat → FV → FV → Bool
 | 0,x,y => eqFV 8 x y
 | n + 1,.nils,.lst _ [] => true
 | n + 1,.lst e xs,.lst e' ys => Nat.beq e e' && eqRL (leFV n) xs ys
 | n + 1,x,y => eqFV 8 x y
theorem eqFL_get {f : FV → FV → Bool} : ∀ {l m : List FV},eqFL f l m = true → l.length = m.length ∧ ∀ (i : Nat) (x y : FV),l[i]? = some x → m[i]? = some y → f x y = true
 | [],[],_ => ⟨rfl,fun i x y h => by simp at h⟩
 | x :: l,y :: m,h => by
  simp only [eqFL,Bool.and_eq_true] at h
  obtain ⟨h1,h2⟩ := eqFL_get h.2
  refine ⟨by simp [h1],fun i a b ha hb => ?_⟩
  cases i with
  | zero => simp at ha hb; subst ha; subst hb; exact h.1
  | succ i => exact h2 i a b (by simpa using ha) (by simpa using hb)
 | [],_ :: _,h => by simp [eqFL] at h
 | _ :: _,[],h => by simp [eqFL] at h
theorem eqRL_get {f : FV → FV → Bool} : ∀ {l m : List (List FV)},eqRL f l m = true → l.length = m.length ∧ ∀ (i : Nat) (x y : List FV),l[i]? = some x → m[i]? = some y → eqFL f x y = true
 | [],[],_ => ⟨rfl,fun i x y h => by simp at h⟩
 | x :: l,y :: m,h => by
  simp only [eqRL,Bool.and_eq_true] at h
  obtain ⟨h1,h2⟩ := eqRL_get h.2
  refine ⟨by simp [h1],fun i a b ha hb => ?_⟩
  cases i with
  | zero => simp at ha hb; subst ha; subst hb; exact h.1
  | succ i => exact h2 i a b (by simpa using ha) (by simpa using hb)
 | [],_ :: _,h => by simp [eqRL] at h
 | _ :: _,[],h => by simp [eqRL] at h
theorem leFV_rel {w : World} {S : Nat → Prop} : ∀ (n : Nat) (x y : FV) (v : Value),leFV n x y = true → FRel w S v x → FRel w S v y
 | 0,x,y,v,h,hv => by
  rw [leFV] at h
  rw [← eqFV_ok 8 x y h]
  exact hv
 | n + 1,x,y,v,h,hv => by
  unfold leFV at h
  split at h
  ·omega
  ·rename_i k
   cases hv
   exact .lst _ _ _ _ _ (fun _ _ => Go.undef) ⟨0,0,none⟩ (by simp) (Nat.le_refl _) (fun i row hrow => by simp at hrow) (fun h => by omega) (fun h => by omega) (fun i j hi => by omega) (fun i j row x hrow => by simp at hrow)
  ·rename_i hn
   injection hn with hn
   subst hn
   simp only [Bool.and_eq_true] at h
   obtain rfl := Nat.eq_of_beq_eq_true h.1
   obtain ⟨hl,hg⟩ := eqRL_get h.2
   cases hv with
   | lst a k c es xs u ad hn hcp hes ha hs hc hr =>
    refine .lst a k c _ _ u ad (by omega) hcp (fun i row hrow => ?_) ha hs hc (fun i j row x hrow hx => ?_)
    ·have hi : i < _ := (List.getElem?_eq_some_iff.1 hrow).1
     have h1 := hg i _ row (List.getElem?_eq_getElem (by omega)) hrow
     rw [← (eqFL_get h1).1]
     exact hes i _ (List.getElem?_eq_getElem (by omega))
    ·have hi : i < _ := (List.getElem?_eq_some_iff.1 hrow).1
     have e1 := List.getElem?_eq_getElem (l := (_ : List (List FV))) (show i < _ by exact hl ▸ hi)
     have h1 := hg i _ row e1 hrow
     have hlen := (eqFL_get h1).1
     have hj : j < row.length := (List.getElem?_eq_some_iff.1 hx).1
     have e2 := List.getElem?_eq_getElem (l := (_ : List FV)) (show j < _ by exact hlen ▸ hj)
     exact leFV_rel n _ x _ ((eqFL_get h1).2 j _ x e2 hx) (hr i j _ _ e1 e2)
  ·rename_i hn _ _
   injection hn with hn
   exact (eqFV_ok 8 _ _ h) ▸ hv
def eqAL (f : AV → AV → Bool) : List AV → List AV → Bool
 | [],[] => true
 | x :: l,y :: m => f x y && eqAL f l m
 | _,_ => false
theorem eqAL_get {f : AV → AV → Bool} : ∀ {l m : List AV},eqAL f l m = true → l.length = m.length ∧ ∀ (i : Nat) (x y : AV),l[i]? = some x → m[i]? = some y → f x y = true
 | [],[],_ => ⟨rfl,fun i x y h => by simp at h⟩
 | x :: l,y :: m,h => by
  simp only [eqAL,Bool.and_eq_true] at h
  obtain ⟨h1,h2⟩ := eqAL_get h.2
  refine ⟨by simp [h1],fun i a b ha hb => ?_⟩
  cases i with
  | zero => simp at ha hb; subst ha; subst hb; exact h.1
  | succ i => exact h2 i a b (by simpa using ha) (by simpa using hb)
 | [],_ :: _,h => by simp [eqAL] at h
 | _ :: _,[],h => by simp [eqAL] at h
def leAV : Nat → AV → AV → Bool
 | n + 1,.fv x,.fv y => leFV 8 x y
 | n + 1,.agg xs,.agg ys => eqAL (leAV n) xs ys
 | n + 1,.tuple xs,.tuple ys => eqAL (leAV n) xs ys
 | _,_,_ => false
theorem leAV_rel {w : World} {S : Nat → Prop} {m : List Loc} : ∀ (n : Nat) (x y : AV) (v : Value),leAV n x y = true → VRel w S m v x → VRel w S m v y
 | 0,x,y,v,h,hv => by simp [leAV] at h
 | n + 1,x,y,v,h,hv => by
  unfold leAV at h
  split at h
  ·cases hv with
   | fv _ _ hf => exact .fv _ _ (leFV_rel 8 _ _ _ h hf)
  ·rename_i n2 xs ys hn
   injection hn with hn
   subst hn
   obtain ⟨hl,hg⟩ := eqAL_get h
   cases hv with
   | agg vs _ hs hc =>
    refine .agg vs _ (by omega) (fun i u b hu hb => ?_)
    have hi : i < _ := (List.getElem?_eq_some_iff.1 hb).1
    have e1 := List.getElem?_eq_getElem (l := xs) (show i < xs.length by omega)
    exact leAV_rel n _ b u (hg i _ b e1 hb) (hc i u _ hu e1)
  ·rename_i n2 xs ys hn
   injection hn with hn
   subst hn
   obtain ⟨hl,hg⟩ := eqAL_get h
   cases hv with
   | tuple vs _ hs hc =>
    refine .tuple vs _ (by omega) (fun i u b hu hb => ?_)
    have hi : i < _ := (List.getElem?_eq_some_iff.1 hb).1
    have e1 := List.getElem?_eq_getElem (l := xs) (show i < xs.length by omega)
    exact leAV_rel n _ b u (hg i _ b e1 hb) (hc i u _ hu e1)
  ·cases h
def deepOut (h : List Blk) : AV → Option AV
 | .tuple vs => (subL (deepA 8 h) vs).map .tuple
 | v => deepA 8 h v
theorem subL_get2 {f : AV → Option AV} : ∀ {l m : List AV},subL f l = some m → l.length = m.length ∧ ∀ (i : Nat) (y : AV),m[i]? = some y → ∃ x,l[i]? = some x ∧ f x = some y
 | [],m,h => by simp only [subL,Option.some.injEq] at h; subst h; exact ⟨rfl,fun i y hy => by simp at hy⟩
 | x :: l,m,h => by
  simp only [subL] at h
  cases hx : f x with
  | none => rw [hx] at h; simp at h
  | some a =>
   cases hl : subL f l with
   | none => rw [hx,hl] at h; simp at h
   | some r =>
    rw [hx,hl] at h
    simp at h
    subst h
    obtain ⟨h1,h2⟩ := subL_get2 hl
    refine ⟨by simp [h1],fun i y hy => ?_⟩
    cases i with
    | zero => simp at hy; subst hy; exact ⟨x,rfl,hx⟩
    | succ i =>
     obtain ⟨z,hz,e⟩ := h2 i y (by simpa using hy)
     exact ⟨z,by simpa using hz,e⟩
theorem deepOut_sound {w : World} {S : Nat → Prop} {m : List Loc} {h : List Blk} (hh : HRel w S m h) {v : Value} {y x : AV} (hd : deepOut h y = some x) (hv : VRel w S m v y) : VRel w (Deep S m h) [] v x := by
 have hh' : HRel w S m (⟨[],h,[]⟩ : St).h := hh
 unfold deepOut at hd
 split at hd
 ·rename_i vs
  rw [Option.map_eq_some_iff] at hd
  obtain ⟨ws,h1,rfl⟩ := hd
  obtain ⟨hl,hg⟩ := subL_get2 h1
  cases hv with
  | tuple us cs hs hc =>
   refine .tuple us ws (by omega) (fun i u b hu hb => ?_)
   obtain ⟨z,hz,e⟩ := hg i b hb
   exact deepA_sound hh' 8 u z b e (hc i u z hu hz)
 ·exact deepA_sound hh' 8 v y x hd hv
theorem ok_deep {P : Program} {f : FuncId} {args : List AV} {y x z : AV} {h' : List Blk} (hok : Ok P f args [] (.ret y) h') (hd : deepOut h' y = some x) (hle : leAV 4 x z = true) : Ok P f args [] (.ret z) [] := by
 refine ⟨hok.1,fun w S m cargs hG hh hl => ?_⟩
 refine Calls.mono (hok.2 w S m cargs hG hh hl) fun e w' hq => ?_
 obtain ⟨S',m',h1,h2,h3⟩ := hq
 have hm0 : m = [] := List.eq_nil_of_length_eq_zero hh.len
 subst hm0
 refine ⟨Deep S' m' h',[],⟨rfl,fun i l b hi => by simp at hi,fun i j bi bj b o o' _ hi => by simp at hi,fun i bi b o hi => by simp at hi,fun b hb => ?_,fun i b o hi => by simp at hi⟩,?_,?_⟩
 ·rcases hb with hb | ⟨i,o,k,hm,_,_⟩
  ·exact h1.low b hb
  ·exact h1.lowm i b o hm
 ·cases e with
  | returned v => exact leAV_rel 4 x z v hle (deepOut_sound h1 hd h2)
  | _ => exact h2.elim
 ·refine ⟨h3.size,h3.os,h3.tape,h3.output,h3.same,h3.frozen,h3.shape,fun b hb => .inl (h3.up b hb),fun b hb => ?_,fun i b o hi => by simp at hi,fun _ _ => rfl,h3.drawn⟩
  rcases hb with hb | ⟨i,o,k,hm,_,_⟩
  ·exact h3.down b hb
  ·rcases h3.locs i b o hm with ⟨j,o',hj⟩ | h
   ·simp at hj
   ·exact .inr (.inr h)
/-- Does the run come to that, frozen? -/
noncomputable def goDeep (P : Program) (ext : List (FuncId × Ext)) (hook : List (FuncId × Hook)) (lf n : Nat) (f : FuncId) (args : List AV) (z : AV) : Bool := match goFn P ext hook lf n f args [] with
 | some (.ret y,h') => match deepOut h' y with
  | some x => leAV 4 x z
  | none => false
 | _ => false
theorem goDeep_ok {P : Program} {ext : List (FuncId × Ext)} {hook : List (FuncId × Hook)} {lf n : Nat} {f : FuncId} {args : List AV} {z : AV} (hr : ∀ o h',goFn P ext hook lf n f args [] = some (o,h') → Ok P f args [] o h') (e : goDeep P ext hook lf n f args z = true) : Ok P f args [] (.ret z) [] := by
 unfold goDeep at e
 split at e
 ·rename_i y h' hg
  split at e
  ·rename_i x hx
   exact ok_deep (hr _ _ hg) hx e
  ·cases e
 ·cases e
end Go.Abs
