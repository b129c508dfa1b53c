/- A drawn region in which loud operations come in any order, each order by itself. -/
import Derived.Test.YtnhghoonlmoinaaGreatAbsU
namespace Go.Abs
variable [Kn]
set_option linter.unusedSectionVars false
set_option linter.unusedVariables false
set_option linter.unusedSimpArgs false
section
variable {P : Program} {n0 : Nat} {ops : Array Oper}
theorem bO_mono {α : Type} {x : Option α} {k k' : α → Prop} (h : ∀ a,k a → k' a) : bO x k → bO x k' := by
 cases x with
 | none => exact id
 | some a => exact h a
theorem bB_mono {x : AV} {k k' : Bool → Prop} (h : ∀ a,k a → k' a) : bB x k → bB x k' := by
 unfold bB
 split
 ·exact h _
 ·exact fun ⟨a,b⟩ => ⟨h _ a,h _ b⟩
 ·exact id
theorem gd_mono {o : Oper} {t : List AV} {y y' n n' : Prop} (h1 : y → y') (h2 : n → n') : gd ops o t y n → gd ops o t y' n' := by
 unfold gd
 split
 ·exact h1
 ·exact bO_mono fun g h => by
   split at h
   ·rename_i e; rw [if_pos e]; exact h1 h
   ·rename_i e; rw [if_neg e]; exact h2 h
theorem awpCall_mono {hs : Held} {i : Nat} {st : St} {f : FuncId} {args : List AV} {K K' X X' : AV → St → Prop} (hK : ∀ v s,K v s → K' v s) (hX : ∀ v s,X v s → X' v s) : awpCall P hs i st f args K X → awpCall P hs i st f args K' X' := by
 unfold awpCall
 rintro ⟨W,o,st',h1,h2,h3⟩
 refine ⟨W,o,st',h1,h2,?_⟩
 cases o with
 | ret v => exact hK _ _ h3
 | pan v => exact hX _ _ h3
theorem awpOp_mono {hs : Held} {i : Nat} {o : Oper} {st : St} {K K' X X' : AV → St → Prop} (hK : ∀ v s,K v s → K' v s) (hX : ∀ v s,X v s → X' v s) : awpOp P hs i o st K X → awpOp P hs i o st K' X' := by
 unfold awpOp
 split
 ·exact bO_mono fun cv => bB_mono fun t => bO_mono fun x => bO_mono fun y h => by
   split at h
   ·rename_i e; rw [if_pos e]; exact hK _ _ h
   ·rename_i e; rw [if_neg e]; exact hK _ _ h
 ·exact bO_mono fun v h => by
   split at h
   ·exact hX _ _ h
   ·exact h.elim
 ·split
  ·split
   ·exact hK _ _
   ·exact id
  ·exact id
 ·exact bO_mono fun x => awpCall_mono hK hX
 ·split
  ·exact hK _ _
  ·split
   ·exact hK _ _
   ·exact bO_mono fun x h => ⟨h.1,hK _ _ h.2⟩
/-- A quiet step. -/
def quS (P : Program) (ops : Array Oper) (i : Nat) (o : Oper) (hs : Held) (st : St) (K : Held → St → Prop) : Prop := gd ops o st.t
 (match o.op with
  | .pick c a b => bO (ev st.t c) fun cv => bB cv fun t => bO (ev st.t a) fun x => bO (ev st.t b) fun y => if t then K hs (st.put o.dst x) else K hs (st.put o.dst y)
  | _ => match pureA P st.t o with
   | some v => K hs (st.put o.dst v)
   | none => bO (readA P st.t st.h o) fun (v,id) => K (match id with
     | some k => (k,behind ops i) :: hs
     | none => hs) (st.put o.dst v))
 (K hs (st.put o.dst .undef))
theorem quS_mono {i : Nat} {o : Oper} {hs : Held} {st : St} {K K' : Held → St → Prop} (h : ∀ a s,K a s → K' a s) : quS P ops i o hs st K → quS P ops i o hs st K' := by
 unfold quS
 refine gd_mono ?_ (h _ _)
 split
 ·exact bO_mono fun cv => bB_mono fun t => bO_mono fun x => bO_mono fun y hh => by
   split at hh
   ·rename_i e; rw [if_pos e]; exact h _ _ hh
   ·rename_i e; rw [if_neg e]; exact h _ _ hh
 ·split
  ·exact h _ _
  ·exact bO_mono fun x => h _ _
variable {Q Q' : AEx → St → Prop}
theorem draw_q {i : Nat} {o : Oper} {rest : List (Nat × Bool)} {hs : Held} {st : St} (ho : ops[i]? = some o) : awpDraw P ops Q ((i,true) :: rest) hs st = quS P ops i o hs st (fun a s => awpDraw P ops Q rest a s) := by
 simp only [awpDraw,ho,if_true]
 rfl
theorem draw_l {i : Nat} {o : Oper} {rest : List (Nat × Bool)} {hs : Held} {st : St} (ho : ops[i]? = some o) : awpDraw P ops Q ((i,false) :: rest) hs st = gd ops o st.t
  (awpOp P hs i o st (fun v s => awpDraw P ops Q rest (hs.drop i) (s.put o.dst v)) (fun v s => Q (.pan v) (forget ops s))) (awpDraw P ops Q rest (hs.drop i) (st.put o.dst .undef)) := by
 simp only [awpDraw,ho,Bool.false_eq_true,if_false]
theorem draw_none {i : Nat} {q : Bool} {rest : List (Nat × Bool)} {hs : Held} {st : St} (ho : ops[i]? = none) : awpDraw P ops Q ((i,q) :: rest) hs st = False := by
 simp only [awpDraw,ho]
theorem tree_e {n : Nat} {listed : Array Bool} {hs : Held} {st : St} (hr : Region.ready .any ops listed = []) : awpTree P ops Q (n + 1) listed hs st = Q .normal st := by
 rw [awpTree,if_pos hr]
theorem tree_q {n i : Nat} {o : Oper} {listed : Array Bool} {hs : Held} {st : St} (hr : ¬ Region.ready .any ops listed = []) (hn : nextOp ops listed = some (i,true)) (ho : ops[i]? = some o) :
  awpTree P ops Q (n + 1) listed hs st = quS P ops i o hs st (fun a s => awpTree P ops Q n (listed.setIfInBounds i true) a s) := by
 rw [awpTree,if_neg hr]
 simp only [hn,ho]
 rfl
theorem tree_l {n : Nat} {listed : Array Bool} {hs : Held} {st : St} (hr : ¬ Region.ready .any ops listed = []) (hn : ∀ i,nextOp ops listed ≠ some (i,true)) (hl : loudAll ops (Region.ready .any ops listed) = true)
  (h : ∀ i ∈ Region.ready .any ops listed,∃ o,ops[i]? = some o ∧ gd ops o st.t
   (awpOp P hs i o st (fun v s => awpTree P ops Q n (listed.setIfInBounds i true) (hs.drop i) (s.put o.dst v)) (fun v s => Q (.pan v) (forget ops s)))
   (awpTree P ops Q n (listed.setIfInBounds i true) (hs.drop i) (st.put o.dst .undef))) : awpTree P ops Q (n + 1) listed hs st := by
 rw [awpTree,if_neg hr]
 have h' : ∀ i ∈ Region.ready .any ops listed,(match ops[i]? with
   | none => False
   | some o => gd ops o st.t
    (awpOp P hs i o st (fun v s => awpTree P ops Q n (listed.setIfInBounds i true) (hs.drop i) (s.put o.dst v)) (fun v s => Q (.pan v) (forget ops s)))
    (awpTree P ops Q n (listed.setIfInBounds i true) (hs.drop i) (st.put o.dst .undef))) := fun i hi => by
  obtain ⟨o,ho,h2⟩ := h i hi
  simp only [ho]
  exact h2
 split
 ·rename_i i e
  exact absurd e (hn i)
 ·exact ⟨hl,h'⟩
/-- Orders with more than one fork, of two operations each. -/
inductive Ord3 where
 | lin (l : List (Nat × Bool))
 | fork (l : List (Nat × Bool)) (i : Nat) (t : Ord3) (j : Nat) (u : Ord3)
def Ord3.cons (x : Nat × Bool) : Ord3 → Ord3
 | .lin l => .lin (x :: l)
 | .fork l i t j u => .fork (x :: l) i t j u
def onN (k : St → Prop) (Q : AEx → St → Prop) : AEx → St → Prop
 | .normal,s => k s
 | e,s => Q e s
theorem tree_mono (hQ : ∀ e s,Q e s → Q' e s) : ∀ (n : Nat) (listed : Array Bool) (hs : Held) (st : St),awpTree P ops Q n listed hs st → awpTree P ops Q' n listed hs st
 | 0,listed,hs,st,h => by
  rw [awpTree] at h ⊢
  exact ⟨h.1,hQ _ _ h.2⟩
 | n + 1,listed,hs,st,h => by
  by_cases hr : Region.ready .any ops listed = []
  ·rw [tree_e hr] at h ⊢
   exact hQ _ _ h
  ·cases hn : nextOp ops listed with
   | none =>
    rw [awpTree,if_neg hr] at h
    simp only [hn] at h
    refine tree_l hr (fun i e => by rw [hn] at e; cases e) h.1 (fun i hi => ?_)
    have h2 := h.2 i hi
    cases ho : ops[i]? with
    | none => simp only [ho] at h2
    | some o =>
     simp only [ho] at h2
     exact ⟨o,rfl,gd_mono (awpOp_mono (fun v s => tree_mono hQ n _ _ _) (fun v s => hQ _ _)) (tree_mono hQ n _ _ _) h2⟩
   | some x =>
    obtain ⟨i,q⟩ := x
    cases q with
    | true =>
     cases ho : ops[i]? with
     | none =>
      rw [awpTree,if_neg hr] at h
      simp only [hn,ho] at h
     | some o =>
      rw [tree_q hr hn ho] at h ⊢
      exact quS_mono (fun a s => tree_mono hQ n _ _ _) h
    | false =>
     rw [awpTree,if_neg hr] at h
     simp only [hn] at h
     refine tree_l hr (fun j e => by rw [hn] at e; cases e) h.1 (fun j hj => ?_)
     have h2 := h.2 j hj
     cases ho : ops[j]? with
     | none => simp only [ho] at h2
     | some o =>
      simp only [ho] at h2
      exact ⟨o,rfl,gd_mono (awpOp_mono (fun v s => tree_mono hQ n _ _ _) (fun v s => hQ _ _)) (tree_mono hQ n _ _ _) h2⟩
end
end Go.Abs
/- A drawn region in which up to three loud operations come in any order. -/
namespace Go.Abs
variable [Kn]
set_option linter.unusedSectionVars false
set_option linter.unusedVariables false
set_option linter.unusedSimpArgs false
section
variable {P : Program} {n0 : Nat} {ops : Array Oper}
variable {Q Q' : AEx → St → Prop}
/-- Orders with more than one fork, of two operations each. -/
inductive Ord4 where
 | lin (l : List (Nat × Bool))
 | fork (l : List (Nat × Bool)) (i : Nat) (t : Ord4) (j : Nat) (u : Ord4)
 | fork3 (l : List (Nat × Bool)) (i : Nat) (t : Ord4) (j : Nat) (u : Ord4) (k : Nat) (v : Ord4)
def Ord4.cons (x : Nat × Bool) : Ord4 → Ord4
 | .lin l => .lin (x :: l)
 | .fork l i t j u => .fork (x :: l) i t j u
 | .fork3 l i t j u k v => .fork3 (x :: l) i t j u k v
def notLoad (o : Oper) : Bool := match o.op with
 | .load .. => false
 | _ => true
def ord4Of (ops : Array Oper) : Nat → Array Bool → Option Ord4
 | 0,listed => match Region.ready .any ops listed with
  | [] => some (.lin [])
  | _ => none
 | n + 1,listed => match Region.ready .any ops listed with
  | [] => some (.lin [])
  | r => match nextOp ops listed with
   | some (i,q) => (ord4Of ops n (listed.setIfInBounds i true)).map (Ord4.cons (i,q))
   | none => match r with
    | [i,j] => if loudAll ops [i,j] then (match ord4Of ops n (listed.setIfInBounds i true),ord4Of ops n (listed.setIfInBounds j true) with
     | some t,some u => some (.fork [] i t j u)
     | _,_ => none) else none
    | [i,j,k] => if loudAll ops [i,j,k] then (match ord4Of ops n (listed.setIfInBounds i true),ord4Of ops n (listed.setIfInBounds j true),ord4Of ops n (listed.setIfInBounds k true) with
     | some t,some u,some v => some (.fork3 [] i t j u k v)
     | _,_,_ => none) else none
    | _ => none
end
end Go.Abs
/- A drawn region in which up to three loud operations come in any order, behind reads of any kind. -/
namespace Go.Abs
variable [Kn]
set_option linter.unusedSectionVars false
set_option linter.unusedVariables false
set_option linter.unusedSimpArgs false
section
variable {P : Program} {n0 : Nat} {ops : Array Oper}
variable {Q Q' : AEx → St → Prop}
/-- All that is held was read by one of the region's own reads. -/
def heldIn (ops : Array Oper) (hs : Held) : Prop := ∀ p ∈ hs,∃ i,((ops[i]?).map notLoad) = some false ∧ p.2 = behind ops i
theorem heldIn_nil : heldIn ops [] := fun p h => by cases h
theorem heldIn_drop {hs : Held} (h : heldIn ops hs) (i : Nat) : heldIn ops (hs.drop i) := fun p hp => h p (List.mem_filter.1 hp).1
theorem quS_held {i : Nat} {o : Oper} {hs : Held} {st : St} {K : Held → St → Prop} (ho : ops[i]? = some o) (hh : heldIn ops hs) (h : quS P ops i o hs st K) : quS P ops i o hs st (fun a s => heldIn ops a ∧ K a s) := by
 unfold quS at h ⊢
 refine gd_mono (fun h => ?_) (fun h => ⟨hh,h⟩) h
 split at h
 ·rename_i c a b e
  exact bO_mono (fun cv => bB_mono fun t => bO_mono fun x => bO_mono fun y hq => by
   split at hq
   ·rename_i e; rw [if_pos e]; exact ⟨hh,hq⟩
   ·rename_i e; rw [if_neg e]; exact ⟨hh,hq⟩) h
 ·split at h
  ·exact ⟨hh,h⟩
  ·refine bO_mono' h fun p hp hk => ?_
   obtain ⟨v,id⟩ := p
   refine ⟨?_,hk⟩
   cases id with
   | none => exact hh
   | some k =>
    intro q hq
    rcases List.mem_cons.1 hq with rfl | hq
    ·refine ⟨i,?_,rfl⟩
     rw [ho]
     simp only [Option.map_some,Option.some.injEq]
     unfold readA at hp
     unfold notLoad
     split at hp
     ·rename_i e; rw [e]
     ·cases hp
    ·exact hh q hq
where
 bO_mono' {α : Type} {x : Option α} {k k' : α → Prop} (h : bO x k) (hm : ∀ a,x = some a → k a → k' a) : bO x k' := by
  cases x with
  | none => exact h
  | some a => exact hm a rfl h
def ord5G (P : Program) (ops : Array Oper) (Q : AEx → St → Prop) : Ord4 → Held → St → Prop
 | .lin l,hs,st => nxt P ops Q (.draw l hs) st
 | .fork l i t j u,hs,st => nxt P ops (onN (fun s => ∀ hs,heldIn ops hs → nxt P ops (onN (fun s => ord5G P ops Q t (hs.drop i) s) Q) (.draw [(i,false)] hs) s ∧ nxt P ops (onN (fun s => ord5G P ops Q u (hs.drop j) s) Q) (.draw [(j,false)] hs) s) Q) (.draw l hs) st
 | .fork3 l i t j u k v,hs,st => nxt P ops (onN (fun s => ∀ hs,heldIn ops hs → nxt P ops (onN (fun s => ord5G P ops Q t (hs.drop i) s) Q) (.draw [(i,false)] hs) s ∧ nxt P ops (onN (fun s => ord5G P ops Q u (hs.drop j) s) Q) (.draw [(j,false)] hs) s ∧ nxt P ops (onN (fun s => ord5G P ops Q v (hs.drop k) s) Q) (.draw [(k,false)] hs) s) Q) (.draw l hs) st
theorem ord5G_cons_q {i : Nat} {o : Oper} (ho : ops[i]? = some o) (t : Ord4) (hs : Held) (st : St) (h : ord5G P ops Q (t.cons (i,true)) hs st) : quS P ops i o hs st (fun a s => ord5G P ops Q t a s) := by
 cases t with
 | lin l =>
  have h : awpDraw P ops Q ((i,true) :: l) hs st := h
  rwa [draw_q ho] at h
 | fork l a t b u =>
  have h : awpDraw P ops _ ((i,true) :: l) hs st := h
  rwa [draw_q ho] at h
 | fork3 l a t b u k v =>
  have h : awpDraw P ops _ ((i,true) :: l) hs st := h
  rwa [draw_q ho] at h
theorem ord5G_cons_l {i : Nat} {o : Oper} (ho : ops[i]? = some o) (t : Ord4) (hs : Held) (st : St) (h : ord5G P ops Q (t.cons (i,false)) hs st) : gd ops o st.t
  (awpOp P hs i o st (fun v s => ord5G P ops Q t (hs.drop i) (s.put o.dst v)) (fun v s => Q (.pan v) (forget ops s))) (ord5G P ops Q t (hs.drop i) (st.put o.dst .undef)) := by
 cases t with
 | lin l =>
  have h : awpDraw P ops Q ((i,false) :: l) hs st := h
  rwa [draw_l ho] at h
 | fork l a t b u =>
  have h : awpDraw P ops _ ((i,false) :: l) hs st := h
  rwa [draw_l ho] at h
 | fork3 l a t b u k v =>
  have h : awpDraw P ops _ ((i,false) :: l) hs st := h
  rwa [draw_l ho] at h
theorem ord5G_none {i : Nat} {q : Bool} (ho : ops[i]? = none) (t : Ord4) (hs : Held) (st : St) (h : ord5G P ops Q (t.cons (i,q)) hs st) : False := by
 cases t with
 | lin l =>
  have h : awpDraw P ops Q ((i,q) :: l) hs st := h
  rwa [draw_none ho] at h
 | fork l a t b u =>
  have h : awpDraw P ops _ ((i,q) :: l) hs st := h
  rwa [draw_none ho] at h
 | fork3 l a t b u k v =>
  have h : awpDraw P ops _ ((i,q) :: l) hs st := h
  rwa [draw_none ho] at h
theorem ord5Of_tree : ∀ (n : Nat) (listed : Array Bool) (t : Ord4) (hs : Held) (st : St),heldIn ops hs → ord4Of ops n listed = some t → ord5G P ops Q t hs st → awpTree P ops Q n listed hs st
 | 0,listed,t,hs,st,hh,h,hd => by
  unfold ord4Of at h
  split at h
  ·rename_i hr
   cases h
   rw [awpTree]
   exact ⟨hr,hd⟩
  ·cases h
 | n + 1,listed,t,hs,st,hh,h,hd => by
  unfold ord4Of at h
  split at h
  ·rename_i hr
   cases h
   rw [tree_e hr]
   exact hd
  ·rename_i hr
   split at h
   ·rename_i i q hn
    rw [Option.map_eq_some_iff] at h
    obtain ⟨t',h1,rfl⟩ := h
    cases ho : ops[i]? with
    | none => exact (ord5G_none ho t' hs st hd).elim
    | some o =>
     cases q with
     | true =>
      rw [tree_q hr hn ho]
      exact quS_mono (fun a s h => ord5Of_tree n _ t' a s h.1 h1 h.2) (quS_held ho hh (ord5G_cons_q ho t' hs st hd))
     | false =>
      have hone : Region.ready .any ops listed = [i] ∧ ((ops[i]?).map quiet).getD true = false := by
       unfold nextOp at hn
       simp only at hn
       split at hn
       ·cases hn
       ·split at hn
        ·rename_i j hj
         split at hn
         ·cases hn
         ·rename_i hq
          simp only [Option.some.injEq,Prod.mk.injEq] at hn
          obtain ⟨rfl,_⟩ := hn
          exact ⟨hj,by simpa using hq⟩
        ·cases hn
      refine tree_l hr (fun j e => by rw [hn] at e; cases e) (by rw [hone.1]; simp [loudAll,hone.2]) (fun j hj => ?_)
      rw [hone.1] at hj
      simp only [List.mem_singleton] at hj
      subst hj
      exact ⟨o,ho,gd_mono (awpOp_mono (fun v s => ord5Of_tree n _ t' _ _ (heldIn_drop hh _) h1) (fun _ _ h => h)) (ord5Of_tree n _ t' _ _ (heldIn_drop hh _) h1) (ord5G_cons_l ho t' hs st hd)⟩
   ·rename_i hn
    split at h
    ·rename_i i j hij
     split at h
     ·rename_i hl
      split at h
      ·rename_i t' u' h1 h2
       cases h
       have hd : ∀ hs,heldIn ops hs → nxt P ops (onN (fun s => ord5G P ops Q t' (hs.drop i) s) Q) (.draw [(i,false)] hs) st ∧ nxt P ops (onN (fun s => ord5G P ops Q u' (hs.drop j) s) Q) (.draw [(j,false)] hs) st := hd
       obtain ⟨hA,hB⟩ := hd hs hh
       refine tree_l hr (fun k e => by rw [hn] at e; cases e) (by rw [hij]; exact hl) (fun k hk => ?_)
       rw [hij] at hk
       simp only [List.mem_cons,List.not_mem_nil,or_false] at hk
       rcases hk with rfl | rfl
       ·have h3 : awpDraw P ops (onN (fun s => ord5G P ops Q t' (hs.drop k) s) Q) [(k,false)] hs st := hA
        cases ho : ops[k]? with
        | none => rw [draw_none ho] at h3; exact h3.elim
        | some o =>
         rw [draw_l ho] at h3
         exact ⟨o,rfl,gd_mono (awpOp_mono (fun v s h => ord5Of_tree n _ t' _ _ (heldIn_drop hh _) h1 h) (fun _ _ h => h)) (fun h => ord5Of_tree n _ t' _ _ (heldIn_drop hh _) h1 h) h3⟩
       ·have h3 : awpDraw P ops (onN (fun s => ord5G P ops Q u' (hs.drop k) s) Q) [(k,false)] hs st := hB
        cases ho : ops[k]? with
        | none => rw [draw_none ho] at h3; exact h3.elim
        | some o =>
         rw [draw_l ho] at h3
         exact ⟨o,rfl,gd_mono (awpOp_mono (fun v s h => ord5Of_tree n _ u' _ _ (heldIn_drop hh _) h2 h) (fun _ _ h => h)) (fun h => ord5Of_tree n _ u' _ _ (heldIn_drop hh _) h2 h) h3⟩
      ·cases h
     ·cases h
    ·rename_i i j k hij
     split at h
     ·rename_i hl
      split at h
      ·rename_i t' u' v' h1 h2 h4
       cases h
       have hd : ∀ hs,heldIn ops hs → nxt P ops (onN (fun s => ord5G P ops Q t' (hs.drop i) s) Q) (.draw [(i,false)] hs) st ∧ nxt P ops (onN (fun s => ord5G P ops Q u' (hs.drop j) s) Q) (.draw [(j,false)] hs) st ∧ nxt P ops (onN (fun s => ord5G P ops Q v' (hs.drop k) s) Q) (.draw [(k,false)] hs) st := hd
       obtain ⟨hA,hB,hC⟩ := hd hs hh
       refine tree_l hr (fun k e => by rw [hn] at e; cases e) (by rw [hij]; exact hl) (fun k hk => ?_)
       rw [hij] at hk
       simp only [List.mem_cons,List.not_mem_nil,or_false] at hk
       rcases hk with rfl | rfl | rfl
       ·have h3 : awpDraw P ops (onN (fun s => ord5G P ops Q t' (hs.drop k) s) Q) [(k,false)] hs st := hA
        cases ho : ops[k]? with
        | none => rw [draw_none ho] at h3; exact h3.elim
        | some o =>
         rw [draw_l ho] at h3
         exact ⟨o,rfl,gd_mono (awpOp_mono (fun v s h => ord5Of_tree n _ t' _ _ (heldIn_drop hh _) h1 h) (fun _ _ h => h)) (fun h => ord5Of_tree n _ t' _ _ (heldIn_drop hh _) h1 h) h3⟩
       ·have h3 : awpDraw P ops (onN (fun s => ord5G P ops Q u' (hs.drop k) s) Q) [(k,false)] hs st := hB
        cases ho : ops[k]? with
        | none => rw [draw_none ho] at h3; exact h3.elim
        | some o =>
         rw [draw_l ho] at h3
         exact ⟨o,rfl,gd_mono (awpOp_mono (fun v s h => ord5Of_tree n _ u' _ _ (heldIn_drop hh _) h2 h) (fun _ _ h => h)) (fun h => ord5Of_tree n _ u' _ _ (heldIn_drop hh _) h2 h) h3⟩
       ·have h3 : awpDraw P ops (onN (fun s => ord5G P ops Q v' (hs.drop k) s) Q) [(k,false)] hs st := hC
        cases ho : ops[k]? with
        | none => rw [draw_none ho] at h3; exact h3.elim
        | some o =>
         rw [draw_l ho] at h3
         exact ⟨o,rfl,gd_mono (awpOp_mono (fun v s h => ord5Of_tree n _ v' _ _ (heldIn_drop hh _) h4 h) (fun _ _ h => h)) (fun h => ord5Of_tree n _ v' _ _ (heldIn_drop hh _) h4 h) h3⟩
      ·cases h
     ·cases h
    ·cases h
end
end Go.Abs
/- A drawn region that reads first, and then does two things in either order: what was read lay there before. -/
namespace Go.Abs
variable [Kn]
set_option linter.unusedSectionVars false
set_option linter.unusedVariables false
set_option linter.unusedSimpArgs false
section
variable {P : Program} {n0 : Nat} {ops : Array Oper}
variable {Q Q' : AEx → St → Prop}
/-- All that is held lies below. -/
def heldLt (n : Nat) (hs : Held) : Prop := ∀ p ∈ hs,p.1 < n
theorem heldLt_nil (n : Nat) : heldLt n [] := fun p h => by cases h
theorem heldLt_drop {n : Nat} {hs : Held} (h : heldLt n hs) (i : Nat) : heldLt n (hs.drop i) := fun p hp => h p (List.mem_filter.1 hp).1
/-- A block above all that was read. -/
theorem heldLt_ok {n : Nat} {hs : Held} (h : heldLt n hs) (j k : Nat) (hk : n ≤ k) : hs.ok j [k] = true := by
 unfold Held.ok
 rw [List.all_eq_true]
 intro p hp
 have h1 := h p hp
 obtain ⟨a,deps⟩ := p
 have h2 : a ≠ k := by simp only at h1; omega
 simp [h2]
theorem ldA_lt {i : TI} {h : List Blk} {p v : AV} {k : Nat} (hl : ldA P i h p = some v) (hk : idOf p = some k) : k < h.length := by
 unfold ldA at hl
 split at hl
 ·rename_i id es r off
  simp only [idOf,Option.some.injEq] at hk
  subst hk
  split at hl
  ·rename_i hx; exact (List.getElem?_eq_some_iff.1 hx).1
  ·rename_i hx; exact (List.getElem?_eq_some_iff.1 hx).1
  ·cases hl
 ·simp [idOf] at hk
 ·simp [idOf] at hk
 ·cases hl
theorem quS_lt {i : Nat} {o : Oper} {hs : Held} {st : St} {K : Held → St → Prop} (ho : ops[i]? = some o) (hh : heldIn ops hs) (hl : heldLt st.h.length hs) (h : quS P ops i o hs st K) :
  quS P ops i o hs st (fun a s => heldIn ops a ∧ heldLt s.h.length a ∧ K a s) := by
 have h := quS_held ho hh h
 unfold quS at h ⊢
 refine gd_mono (fun h => ?_) (fun h => ⟨h.1,by rw [put_h]; exact hl,h.2⟩) h
 split at h
 ·rename_i c a b e
  exact bO_mono (fun cv => bB_mono fun t => bO_mono fun x => bO_mono fun y hq => by
   split at hq
   ·rename_i e; rw [if_pos e]; exact ⟨hq.1,by rw [put_h]; exact hl,hq.2⟩
   ·rename_i e; rw [if_neg e]; exact ⟨hq.1,by rw [put_h]; exact hl,hq.2⟩) h
 ·split at h
  ·exact ⟨h.1,by rw [put_h]; exact hl,h.2⟩
  ·refine bO_mono' h fun p hp hk => ?_
   obtain ⟨v,id⟩ := p
   refine ⟨hk.1,?_,hk.2⟩
   rw [put_h]
   cases id with
   | none => exact hl
   | some k =>
    intro q hq
    rcases List.mem_cons.1 hq with rfl | hq
    ·simp only
     unfold readA at hp
     split at hp
     ·simp only [Option.bind_eq_some_iff,Option.map_eq_some_iff] at hp
      obtain ⟨ti,_,pv,_,w,hw,e⟩ := hp
      simp only [Prod.mk.injEq] at e
      exact ldA_lt hw e.2
     ·cases hp
    ·exact hl q hq
where
 bO_mono' {α : Type} {x : Option α} {k k' : α → Prop} (h : bO x k) (hm : ∀ a,x = some a → k a → k' a) : bO x k' := by
  cases x with
  | none => exact h
  | some a => exact hm a rfl h
end
end Go.Abs
/- A drawn region that reads first, and then runs two chains in any order. -/
namespace Go.Abs
variable [Kn]
set_option linter.unusedSectionVars false
set_option linter.unusedVariables false
set_option linter.unusedSimpArgs false
section
variable {P : Program} {n0 : Nat} {ops : Array Oper}
variable {Q Q' : AEx → St → Prop}
/-- As ord5G; the reads are known to be of blocks that stood at the first fork. -/
def ord7G (P : Program) (ops : Array Oper) (Q : AEx → St → Prop) (b : Nat) : Ord4 → Held → St → Prop
 | .lin l,hs,st => nxt P ops Q (.draw l hs) st
 | .fork l i t j u,hs,st => l = [] ∧ ∀ hs,heldIn ops hs → heldLt b hs → nxt P ops (onN (fun s => ord7G P ops Q b t (hs.drop i) s) Q) (.draw [(i,false)] hs) st ∧ nxt P ops (onN (fun s => ord7G P ops Q b u (hs.drop j) s) Q) (.draw [(j,false)] hs) st
 | _,_,_ => False
theorem ord7Of_tree {b : Nat} : ∀ (n : Nat) (listed : Array Bool) (t : Ord4) (hs : Held) (st : St),heldIn ops hs → heldLt b hs → ord4Of ops n listed = some t → ord7G P ops Q b t hs st → awpTree P ops Q n listed hs st
 | n,listed,.lin l,hs,st,hh,hl,h,hd => ord5Of_tree n listed (.lin l) hs st hh h hd
 | n,listed,.fork3 ..,hs,st,hh,hl,h,hd => hd.elim
 | 0,listed,.fork l i t' j u',hs,st,hh,hl,h,hd => by
  unfold ord4Of at h
  split at h
  ·cases h
  ·cases h
 | n + 1,listed,.fork l i0 t0 j0 u0,hs,st,hh,hl,h,hd => by
  obtain ⟨rfl,hd⟩ := hd
  unfold ord4Of at h
  split at h
  ·cases h
  ·rename_i hr
   split at h
   ·rw [Option.map_eq_some_iff] at h
    obtain ⟨t',h1,h2⟩ := h
    cases t' <;> simp [Ord4.cons] at h2
   ·rename_i hn
    split at h
    ·rename_i i j hij
     split at h
     ·rename_i hl2
      split at h
      ·rename_i t' u' h1 h2
       cases h
       obtain ⟨hA,hB⟩ := hd hs hh hl
       refine tree_l hr (fun k e => by rw [hn] at e; cases e) (by rw [hij]; exact hl2) (fun k hk => ?_)
       rw [hij] at hk
       simp only [List.mem_cons,List.not_mem_nil,or_false] at hk
       rcases hk with rfl | rfl
       ·have h3 : awpDraw P ops (onN (fun s => ord7G P ops Q b t0 (hs.drop k) s) Q) [(k,false)] hs st := hA
        cases ho : ops[k]? with
        | none => rw [draw_none ho] at h3; exact h3.elim
        | some o =>
         rw [draw_l ho] at h3
         exact ⟨o,rfl,gd_mono (awpOp_mono (fun v s h => ord7Of_tree n _ t0 _ _ (heldIn_drop hh _) (heldLt_drop hl _) h1 h) (fun _ _ h => h)) (fun h => ord7Of_tree n _ t0 _ _ (heldIn_drop hh _) (heldLt_drop hl _) h1 h) h3⟩
       ·have h3 : awpDraw P ops (onN (fun s => ord7G P ops Q b u0 (hs.drop k) s) Q) [(k,false)] hs st := hB
        cases ho : ops[k]? with
        | none => rw [draw_none ho] at h3; exact h3.elim
        | some o =>
         rw [draw_l ho] at h3
         exact ⟨o,rfl,gd_mono (awpOp_mono (fun v s h => ord7Of_tree n _ u0 _ _ (heldIn_drop hh _) (heldLt_drop hl _) h2 h) (fun _ _ h => h)) (fun h => ord7Of_tree n _ u0 _ _ (heldIn_drop hh _) (heldLt_drop hl _) h2 h) h3⟩
      ·cases h
     ·cases h
    ·split at h
     ·split at h
      ·cases h
      ·cases h
     ·cases h
    ·cases h
def ord8G (P : Program) (ops : Array Oper) (Q : AEx → St → Prop) : Ord4 → Held → St → Prop
 | .fork l i t j u,hs,st => (l.all (·.2)) = true ∧ nxt P ops (onN (fun s => ∀ hs b,b = s.h.length → heldIn ops hs → heldLt b hs → nxt P ops (onN (fun s => ord7G P ops Q b t (hs.drop i) s) Q) (.draw [(i,false)] hs) s ∧ nxt P ops (onN (fun s => ord7G P ops Q b u (hs.drop j) s) Q) (.draw [(j,false)] hs) s) Q) (.draw l hs) st
 | _,_,_ => False
theorem ord8G_cons_q {i : Nat} {o : Oper} (ho : ops[i]? = some o) (t : Ord4) (hs : Held) (st : St) (h : ord8G P ops Q (t.cons (i,true)) hs st) : quS P ops i o hs st (fun a s => ord8G P ops Q t a s) := by
 cases t with
 | fork l a t b u =>
  obtain ⟨hq,h⟩ := h
  have h : awpDraw P ops _ ((i,true) :: l) hs st := h
  rw [draw_q ho] at h
  simp only [List.all_cons,Bool.true_and] at hq
  exact quS_mono (fun a s h => ⟨hq,h⟩) h
 | _ => exact h.elim
theorem ord8Of_tree : ∀ (n : Nat) (listed : Array Bool) (t : Ord4) (hs : Held) (st : St),heldIn ops hs → heldLt st.h.length hs → ord4Of ops n listed = some t → ord8G P ops Q t hs st → awpTree P ops Q n listed hs st
 | 0,listed,t,hs,st,hh,hl,h,hd => by
  unfold ord4Of at h
  split at h
  ·cases h
   exact hd.elim
  ·cases h
 | n + 1,listed,t,hs,st,hh,hl,h,hd => by
  unfold ord4Of at h
  split at h
  ·cases h
   exact hd.elim
  ·rename_i hr
   split at h
   ·rename_i i q hn
    rw [Option.map_eq_some_iff] at h
    obtain ⟨t',h1,rfl⟩ := h
    cases ho : ops[i]? with
    | none =>
     cases t' with
     | fork l a t b u =>
      have h3 : awpDraw P ops _ ((i,q) :: l) hs st := hd.2
      rw [draw_none ho] at h3
      exact h3.elim
     | _ => exact hd.elim
    | some o =>
     cases q with
     | true =>
      rw [tree_q hr hn ho]
      exact quS_mono (fun a s h => ord8Of_tree n _ t' a s h.1 h.2.1 h1 h.2.2) (quS_lt ho hh hl (ord8G_cons_q ho t' hs st hd))
     | false =>
      cases t' with
      | fork l a t b u =>
       have := hd.1
       simp at this
      | _ => exact hd.elim
   ·rename_i hn
    split at h
    ·rename_i i j hij
     split at h
     ·rename_i hl2
      split at h
      ·rename_i t' u' h1 h2
       cases h
       have hd : ∀ hs b,b = st.h.length → heldIn ops hs → heldLt b hs → nxt P ops (onN (fun s => ord7G P ops Q b t' (hs.drop i) s) Q) (.draw [(i,false)] hs) st ∧ nxt P ops (onN (fun s => ord7G P ops Q b u' (hs.drop j) s) Q) (.draw [(j,false)] hs) st := hd.2
       obtain ⟨hA,hB⟩ := hd hs _ rfl hh hl
       refine tree_l hr (fun k e => by rw [hn] at e; cases e) (by rw [hij]; exact hl2) (fun k hk => ?_)
       rw [hij] at hk
       simp only [List.mem_cons,List.not_mem_nil,or_false] at hk
       rcases hk with rfl | rfl
       ·have h3 : awpDraw P ops (onN (fun s => ord7G P ops Q st.h.length t' (hs.drop k) s) Q) [(k,false)] hs st := hA
        cases ho : ops[k]? with
        | none => rw [draw_none ho] at h3; exact h3.elim
        | some o =>
         rw [draw_l ho] at h3
         exact ⟨o,rfl,gd_mono (awpOp_mono (fun v s h => ord7Of_tree n _ t' _ _ (heldIn_drop hh _) (heldLt_drop hl _) h1 h) (fun _ _ h => h)) (fun h => ord7Of_tree n _ t' _ _ (heldIn_drop hh _) (heldLt_drop hl _) h1 h) h3⟩
       ·have h3 : awpDraw P ops (onN (fun s => ord7G P ops Q st.h.length u' (hs.drop k) s) Q) [(k,false)] hs st := hB
        cases ho : ops[k]? with
        | none => rw [draw_none ho] at h3; exact h3.elim
        | some o =>
         rw [draw_l ho] at h3
         exact ⟨o,rfl,gd_mono (awpOp_mono (fun v s h => ord7Of_tree n _ u' _ _ (heldIn_drop hh _) (heldLt_drop hl _) h2 h) (fun _ _ h => h)) (fun h => ord7Of_tree n _ u' _ _ (heldIn_drop hh _) (heldLt_drop hl _) h2 h) h3⟩
      ·cases h
     ·cases h
    ·split at h
     ·split at h
      ·cases h
       exact hd.elim
      ·cases h
     ·cases h
    ·cases h
theorem awp_forks7 {id : Nat} {st : St} {t : Ord4} (hn : sched ops = none) (hns : Region.noSelect ops = true) (hf : ord4Of ops ops.size (Array.replicate ops.size false) = some t) (S : St)
  (h : ord8G P ops (fun e s' => e = .normal ∧ Le n0 s' S) t [] st) (hQ : Q .normal S) : awp P n0 (.region id ops true) Q st := by
 show (if true then (match sched ops with
  | some l => awpDraw P ops Q l [] st
  | none => Region.noSelect ops = true ∧ awpTree P ops (leQ n0 Q) ops.size (Array.replicate ops.size false) [] st) else _)
 rw [hn]
 exact ⟨hns,tree_mono (fun e s' h => by
  obtain ⟨rfl,hle⟩ := h
  exact ⟨S,hle,hQ⟩) _ _ _ _ (ord8Of_tree _ _ t _ _ heldIn_nil (heldLt_nil _) hf h)⟩
end
end Go.Abs
