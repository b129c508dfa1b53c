/- Saying less of a state: blocks renamed, dropped, frozen; slots forgotten. -/
import Derived.Test.YtnhghoonlmoinaaGreatAbsM
namespace Go.Abs
variable [Kn]
set_option linter.unusedSectionVars false
set_option linter.unusedVariables false
set_option linter.unusedSimpArgs false
/-- What becomes of a block's number: another one; or its rows, frozen. -/
inductive Sb where
 | to (id : Nat)
 | froz (es : Nat) (rows : List (List FV))
def subL (f : AV → Option AV) : List AV → Option (List AV)
 | [] => some []
 | x :: l => match f x,subL f l with
  | some y,some ys => some (y :: ys)
  | _,_ => none
def subA : Nat → (Nat → Option Sb) → AV → Option AV
 | 0,_,_ => none
 | n + 1,σ,v => match v with
  | .fv x => some (.fv x)
  | .undef => some .undef
  | .any => some .any
  | .anyb => some .anyb
  | .fptr r => some (.fptr r)
  | .gptr g off => some (.gptr g off)
  | .ref id es off len => match σ id with
   | some (.to j) => some (.ref j es off len)
   | some (.froz es' rows) => if es' = es ∧ off + len ≤ rows.length then some (.fv (.lst es ((rows.drop off).take len))) else none
   | none => none
  | .ptr id es r off => match σ id with
   | some (.to j) => some (.ptr j es r off)
   | some (.froz es' rows) => if es' = es then (rows[r]?).map fun row => .fptr (row.drop off) else none
   | none => none
  | .mp id => match σ id with
   | some (.to j) => some (.mp j)
   | _ => none
  | .agg cs => (subL (subA n σ) cs).map .agg
  | .tuple cs => (subL (subA n σ) cs).map .tuple
  | .func f cs => (subL (subA n σ) cs).map (.func f)
  | .iface t x => (subA n σ x).map (.iface t)
def subAny (σ : Nat → Option Sb) (v : AV) : AV := (subA 8 σ v).getD .any
def subBlk (σ : Nat → Option Sb) : Blk → Blk
 | .box cs => .box (cs.map (subAny σ))
 | .map es => .map (es.map fun p => (p.1,subAny σ p.2))
 | b => b
def idx (i : Nat) : List Nat → Option Nat
 | [] => none
 | k :: l => if k = i then some 0 else (idx i l).map (· + 1)
def mkSub (keep frz : List Nat) (h : List Blk) (id : Nat) : Option Sb :=
 match idx id keep with
 | some j => some (.to j)
 | none => if frz.contains id then (match h[id]? with
  | some (.plain es rows) => some (.froz es rows)
  | _ => none) else none
def subSt (keep frz : List Nat) (st : St) : St :=
 let σ := mkSub keep frz st.h
 { t := st.t.map (subAny σ),h := keep.map fun i => subBlk σ (st.h.getD i .dead),d := st.d.map fun (f,as,cs) => (f,as.map (subAny σ),cs.map (subAny σ)) }
section
variable {P : Program} {w0 : World} {S0 : Nat → Prop} {m0 : List Loc} {w : World} {S S' : Nat → Prop} {m m' : List Loc} {a : Act} {st : St}
/-- What a renaming must keep to. -/
structure SigOk (w : World) (m : List Loc) (S' : Nat → Prop) (m' : List Loc) (σ : Nat → Option Sb) : Prop where
 to : ∀ (id j b o : Nat),σ id = some (.to j) → m[id]? = some (some (b,o)) → m'[j]? = some (some (b,o))
 len : ∀ (id es : Nat) (rows : List (List FV)),σ id = some (.froz es rows) → ∀ (r : Nat) (row : List FV),rows[r]? = some row → row.length = es
 froz : ∀ (id es : Nat) (rows : List (List FV)) (b o : Nat),σ id = some (.froz es rows) → m[id]? = some (some (b,o)) → S' b ∧
  ∀ (r j : Nat) (row : List FV) (x : FV),rows[r]? = some row → row[j]? = some x → ∃ u,w.cell? ⟨b,o + r * es + j,none⟩ = some u ∧ FRel w S' u x
theorem subL_get {f : AV → Option AV} : ∀ {xs ys : List AV},subL f xs = some ys → xs.length = ys.length ∧ ∀ (i : Nat) (y : AV),ys[i]? = some y → ∃ x,xs[i]? = some x ∧ f x = some y
 | [],ys,h => by simp [subL] at h; subst h; exact ⟨rfl,fun i y hy => by simp at hy⟩
 | x :: l,ys,h => by
  simp only [subL] at h
  split at h <;> simp at h
  rename_i y ys' h1 h2
  subst h
  obtain ⟨e,ih⟩ := subL_get h2
  refine ⟨by simp [e],fun i z hz => ?_⟩
  cases i with
  | zero => simp at hz; subst hz; exact ⟨x,rfl,h1⟩
  | succ i => exact ih i z (by simpa using hz)
theorem sub_rel (hS : ∀ b,S b → S' b) {σ : Nat → Option Sb} (hσ : SigOk w m S' m' σ) : ∀ (n : Nat) (v : Value) (x y : AV),VRel w S m v x → subA n σ x = some y → VRel w S' m' v y
 | 0,v,x,y,hv,h => by simp [subA] at h
 | n + 1,v,x,y,hv,h => by
  have list : ∀ (vs : Array Value) (cs ys : List AV),vs.size = cs.length → (∀ (i : Nat) (v : Value) (x : AV),vs[i]? = some v → cs[i]? = some x → VRel w S m v x) → subL (subA n σ) cs = some ys →
    vs.size = ys.length ∧ ∀ (i : Nat) (v : Value) (x : AV),vs[i]? = some v → ys[i]? = some x → VRel w S' m' v x := by
   intro vs cs ys hn hr hs
   obtain ⟨e,hg⟩ := subL_get hs
   refine ⟨by omega,fun i v z hv hz => ?_⟩
   obtain ⟨x,hx,hf⟩ := hg i z hz
   exact sub_rel hS hσ n v x z (hr i v x hv hx) hf
  cases hv with
  | fv _ _ hf => simp [subA] at h; subst h; exact .fv _ _ (hf.stab hS (fun _ _ _ => rfl))
  | undef => simp [subA] at h; subst h; exact .undef
  | any => simp [subA] at h; subst h; exact .any _
  | anyb b => simp [subA] at h; subst h; exact .anyb b
  | gptr g off => simp [subA] at h; subst h; exact .gptr g off
  | agg vs cs hn hr =>
   simp only [subA,Option.map_eq_some_iff] at h
   obtain ⟨ys,hs,rfl⟩ := h
   obtain ⟨h1,h2⟩ := list vs cs ys hn hr hs
   exact .agg vs ys h1 h2
  | tuple vs cs hn hr =>
   simp only [subA,Option.map_eq_some_iff] at h
   obtain ⟨ys,hs,rfl⟩ := h
   obtain ⟨h1,h2⟩ := list vs cs ys hn hr hs
   exact .tuple vs ys h1 h2
  | func f vs cs hn hr =>
   simp only [subA,Option.map_eq_some_iff] at h
   obtain ⟨ys,hs,rfl⟩ := h
   obtain ⟨h1,h2⟩ := list vs cs ys hn hr hs
   exact .func f vs ys h1 h2
  | iface t u x hu =>
   simp only [subA,Option.map_eq_some_iff] at h
   obtain ⟨z,hs,rfl⟩ := h
   exact .iface t u z (sub_rel hS hσ n u x z hu hs)
  | fptr ad row u hs hc hr =>
   simp [subA] at h; subst h
   exact .fptr ad row u (hS _ hs) hc (fun j x hx => (hr j x hx).stab hS (fun _ _ _ => rfl))
  | mp id b hm =>
   simp only [subA] at h
   split at h <;> simp at h
   rename_i j hj
   subst h
   exact .mp j b (hσ.to _ _ _ _ hj hm)
  | ptr id es r off b o hm =>
   simp only [subA] at h
   split at h
   ·rename_i j hj
    simp at h; subst h
    exact .ptr j es r off b o (hσ.to _ _ _ _ hj hm)
   ·rename_i es' rows hj
    split at h
    case isFalse => cases h
    rename_i he; subst he
    simp only [Option.map_eq_some_iff] at h
    obtain ⟨row,hrow,rfl⟩ := h
    obtain ⟨h1,h2⟩ := hσ.froz _ _ _ _ _ hj hm
    have hcell : ∀ j,j < (row.drop off).length → ∃ u,w.cell? ((⟨b,o + r * es' + off,none⟩ : Addr).add j) = some u ∧ ∀ x,(row.drop off)[j]? = some x → FRel w S' u x := fun j hj => by
     simp at hj
     obtain ⟨u,hu,hf⟩ := h2 r (off + j) row (row[off + j]'(by omega)) hrow (by simp)
     refine ⟨u,?_,fun x hx => ?_⟩
     ·rw [add_at,show o + r * es' + off + j = o + r * es' + (off + j) from by omega]; exact hu
     ·simp only [List.getElem?_drop] at hx
      have hlt : off + j < row.length := by omega
      rw [List.getElem?_eq_getElem hlt] at hx
      simp at hx; subst hx; exact hf
    refine .fptr _ _ (fun j => (w.cell? ((⟨b,o + r * es' + off,none⟩ : Addr).add j)).getD Go.undef) h1 (fun j hj => ?_) (fun j x hx => ?_)
    ·obtain ⟨u,hu,_⟩ := hcell j hj
     simp [hu]
    ·obtain ⟨u,hu,hf⟩ := hcell j (List.getElem?_eq_some_iff.1 hx).1
     simpa [hu] using hf x hx
   ·cases h
  | ref id es off len b o c hm hl hcap =>
   simp only [subA] at h
   split at h
   ·rename_i j hj
    simp at h; subst h
    exact .ref j es off len b o c (hσ.to _ _ _ _ hj hm) hl hcap
   ·rename_i es' rows hj
    split at h
    case isFalse => cases h
    rename_i he
    obtain ⟨rfl,hle⟩ := he
    simp only [Option.some.injEq] at h; subst h
    obtain ⟨h1,h2⟩ := hσ.froz _ _ _ _ _ hj hm
    have hlen := hσ.len _ _ _ hj
    have hget : ∀ (i : Nat) (row : List FV),((rows.drop off).take len)[i]? = some row → i < len ∧ rows[off + i]? = some row := fun i row hrow => by
     rw [List.getElem?_take] at hrow
     split at hrow
     ·rename_i hi; rw [List.getElem?_drop] at hrow; exact ⟨hi,hrow⟩
     ·cases hrow
    have hcell : ∀ i j,i < len → j < es' → ∃ u,w.cell? ((⟨b,o + off * es',none⟩ : Addr).add (i * es' + j)) = some u ∧ ∀ row x,rows[off + i]? = some row → row[j]? = some x → FRel w S' u x := fun i j hi hj => by
     have hrl := hlen (off + i) (rows[off + i]'(by omega)) (by simp)
     obtain ⟨u,hu,hf⟩ := h2 (off + i) j (rows[off + i]'(by omega)) ((rows[off + i]'(by omega))[j]'(by omega)) (by simp) (by simp)
     refine ⟨u,?_,fun row x hrow hx => ?_⟩
     ·rw [add_at,show o + off * es' + (i * es' + j) = o + (off + i) * es' + j from by rw [Nat.add_mul]; omega]; exact hu
     ·have hlt : off + i < rows.length := by omega
      rw [List.getElem?_eq_getElem hlt] at hrow
      simp at hrow; subst hrow
      have hlt2 : j < rows[off + i].length := by omega
      rw [List.getElem?_eq_getElem hlt2] at hx
      simp at hx; subst hx; exact hf
    refine .fv _ _ (.lst _ _ _ _ _ (fun i j => (w.cell? ((⟨b,o + off * es',none⟩ : Addr).add (i * es' + j))).getD Go.undef) ⟨b,o + off * es',none⟩ (by simp; omega) hl (fun i row hrow => hlen _ _ (hget i row hrow).2)
     (fun _ => rfl) (fun _ => h1) (fun i j hi hj => ?_) (fun i j row x hrow hx => ?_))
    ·obtain ⟨u,hu,_⟩ := hcell i j hi hj
     simp [hu]
    ·obtain ⟨hi,hrow'⟩ := hget i row hrow
     have hj : j < es' := by rw [← hlen _ _ hrow']; exact (List.getElem?_eq_some_iff.1 hx).1
     obtain ⟨u,hu,hf⟩ := hcell i j hi hj
     simpa [hu] using hf row x hrow' hx
   ·cases h
  | refz id es off A =>
   simp only [subA] at h
   split at h
   ·rename_i j hj
    simp at h; subst h
    exact .refz j es off A
   ·rename_i es' rows hj
    split at h
    case isFalse => cases h
    rename_i he
    simp only [Option.some.injEq] at h; subst h
    refine .fv _ _ (.lst _ _ _ _ _ (fun _ _ => Go.undef) ⟨0,0,none⟩ (by simp) (Nat.le_refl _) (fun i row hrow => by simp at hrow) (fun h => by omega) (fun h => by omega) (fun i j hi => by omega) (fun i j row x hrow => by simp at hrow))
   ·cases h
theorem subAny_rel (hS : ∀ b,S b → S' b) {σ : Nat → Option Sb} (hσ : SigOk w m S' m' σ) {v : Value} {x : AV} (h : VRel w S m v x) : VRel w S' m' v (subAny σ x) := by
 unfold subAny
 cases hs : subA 8 σ x with
 | none => exact .any v
 | some y => exact sub_rel hS hσ 8 v x y h hs
theorem subAny_lrel (hS : ∀ b,S b → S' b) {σ : Nat → Option Sb} (hσ : SigOk w m S' m' σ) {vs : List Value} {xs : List AV} (h : LRel w S m vs xs) : LRel w S' m' vs (xs.map (subAny σ)) :=
 ⟨by simpa using h.1,fun i v x hv hx => by
  simp only [List.getElem?_map,Option.map_eq_some_iff] at hx
  obtain ⟨y,hy,rfl⟩ := hx
  exact subAny_rel hS hσ (h.2 i v y hv hy)⟩
theorem idx_spec : ∀ {l : List Nat} {i j : Nat},idx i l = some j → l[j]? = some i
 | [],i,j,h => by simp [idx] at h
 | k :: l,i,j,h => by
  simp only [idx] at h
  split at h
  ·rename_i e; simp at h; subst h; subst e; rfl
  ·simp only [Option.map_eq_some_iff] at h
   obtain ⟨j',hj,rfl⟩ := h
   simpa using idx_spec hj
theorem nodup_inj : ∀ {l : List Nat} {i k k' : Nat},l.Nodup → l[k]? = some i → l[k']? = some i → k = k'
 | [],i,k,k',_,h,_ => by simp at h
 | x :: l,i,k,k',hn,h1,h2 => by
  obtain ⟨hx,hl⟩ := List.nodup_cons.1 hn
  cases k with
  | zero =>
   cases k' with
   | zero => rfl
   | succ k' => simp at h1 h2; subst h1; exact absurd (List.mem_of_getElem? h2) hx
  | succ k =>
   cases k' with
   | zero => simp at h1 h2; subst h2; exact absurd (List.mem_of_getElem? h1) hx
   | succ k' => simp at h1 h2; rw [nodup_inj hl h1 h2]
/-- The new state's frame of reference. -/
theorem sub_state {keep frz : List Nat} (hh : HRel w S m st.h) (hnd : keep.Nodup) (hlt : ∀ i ∈ keep,i < st.h.length) (hdis : ∀ i ∈ frz,i ∉ keep) (hfl : ∀ i ∈ frz,∃ es rows,st.h[i]? = some (.plain es rows)) :
  ∃ S' m',(∀ b,S b → S' b) ∧ (∀ b,S' b → S b ∨ ∃ i o,i ∈ frz ∧ m[i]? = some (some (b,o))) ∧ (m' = keep.map fun i => (m.getD i none)) ∧ SigOk w m S' m' (mkSub keep frz st.h) ∧
   HRel w S' m' (keep.map fun i => subBlk (mkSub keep frz st.h) (st.h.getD i .dead)) := by
 let S' : Nat → Prop := fun b => S b ∨ ∃ i o,i ∈ frz ∧ m[i]? = some (some (b,o))
 let m' : List Loc := keep.map fun i => (m.getD i none)
 have hS : ∀ b,S b → S' b := fun b h => .inl h
 have hget : ∀ (k : Nat) (l : Loc),m'[k]? = some l → ∃ i,keep[k]? = some i ∧ m[i]? = some l := fun k l hk => by
  simp only [m',List.getElem?_map,Option.map_eq_some_iff] at hk
  obtain ⟨i,hi,rfl⟩ := hk
  have : i < m.length := by rw [hh.len]; exact hlt i (List.mem_of_getElem? hi)
  exact ⟨i,hi,by simp [List.getD_eq_getElem?_getD,this]⟩
 have hfroz : ∀ (id es : Nat) (rows : List (List FV)),mkSub keep frz st.h id = some (.froz es rows) → id ∈ frz ∧ st.h[id]? = some (.plain es rows) := fun id es rows h => by
  unfold mkSub at h
  split at h
  ·simp at h
  ·split at h
   case isFalse => cases h
   rename_i hc
   split at h <;> simp at h
   rename_i es' rows' he
   obtain ⟨rfl,rfl⟩ := h
   exact ⟨by simpa using hc,he⟩
 have hσ : SigOk w m S' m' (mkSub keep frz st.h) := by
  refine ⟨fun id j b o h hm => ?_,fun id es rows h r row hrow => ?_,fun id es rows b o h hm => ?_⟩
  ·unfold mkSub at h
   split at h
   ·rename_i j' hj
    simp at h; subst h
    have hk := idx_spec hj
    have : id < m.length := (List.getElem?_eq_some_iff.1 hm).1
    simp only [m',List.getElem?_map,hk,Option.map_some,Option.some.injEq]
    simp [List.getD_eq_getElem?_getD,hm]
   ·split at h
    ·split at h <;> simp at h
    ·cases h
  ·obtain ⟨_,hp⟩ := hfroz id es rows h
   have hml : id < m.length := by rw [hh.len]; exact (List.getElem?_eq_some_iff.1 hp).1
   exact (hh.blk id m[id] _ (by simp) hp).1 r row hrow
  ·obtain ⟨hf,hp⟩ := hfroz id es rows h
   obtain ⟨_,arr,T,ha,hc⟩ := hh.blk id _ _ hm hp
   refine ⟨.inr ⟨id,o,hf,hm⟩,fun r j row x hrow hx => ?_⟩
   obtain ⟨u,hu,hr⟩ := hc r j row x hrow hx
   exact ⟨u,by simp [World.cell?,ha,hu],hr.stab hS (fun _ _ _ => rfl)⟩
 have hlive : ∀ (k : Nat) (b : Blk),(keep.map fun i => subBlk (mkSub keep frz st.h) (st.h.getD i .dead))[k]? = some b → ∃ i,keep[k]? = some i ∧ st.h[i]? = some (st.h.getD i .dead) ∧ b = subBlk (mkSub keep frz st.h) (st.h.getD i .dead) ∧
   b.live = (st.h.getD i .dead).live := fun k b hb => by
  simp only [List.getElem?_map,Option.map_eq_some_iff] at hb
  obtain ⟨i,hi,rfl⟩ := hb
  have hil := hlt i (List.mem_of_getElem? hi)
  refine ⟨i,hi,by simp [List.getD_eq_getElem?_getD,hil],rfl,?_⟩
  cases st.h.getD i .dead <;> rfl
 refine ⟨S',m',hS,fun b h => h,rfl,hσ,by simp [m'],fun k l b hk hb => ?_,fun k k' b1 b2 b o1 o2 hne h1 h2 l1 l2 m1 m2 => ?_,fun k b1 b o1 h1 l1 m1 => ?_,fun b hb => ?_,fun k b o1 m1 => ?_⟩
 ·obtain ⟨i,hi,hmi⟩ := hget k l hk
  obtain ⟨i',hi',hb',rfl,_⟩ := hlive k b hb
  rw [hi] at hi'; simp at hi'; subst hi'
  have h0 := hh.blk i l _ hmi hb'
  cases hx : st.h.getD i .dead with
  | dead => trivial
  | plain es rows =>
   rw [hx] at h0
   obtain ⟨h1,h2⟩ := h0
   refine ⟨h1,?_⟩
   cases l with
   | none => exact h2
   | some bo =>
    obtain ⟨arr,T,ha,hc⟩ := h2
    refine ⟨arr,T,ha,fun r j row x hrow hx => ?_⟩
    obtain ⟨u,hu,hf⟩ := hc r j row x hrow hx
    exact ⟨u,hu,hf.stab hS (fun _ _ _ => rfl)⟩
  | box cs =>
   rw [hx] at h0
   obtain ⟨b,o,arr,T,rfl,ha,hc⟩ := h0
   refine ⟨b,o,arr,T,rfl,ha,fun j x hx => ?_⟩
   simp only [List.getElem?_map,Option.map_eq_some_iff] at hx
   obtain ⟨y,hy,rfl⟩ := hx
   obtain ⟨u,hu,hv⟩ := hc j y hy
   exact ⟨u,hu,subAny_rel hS hσ hv⟩
  | map es =>
   rw [hx] at h0
   obtain ⟨b,arr,clk,rfl,ha,hz,g1,g2,hr⟩ := h0
   refine ⟨b,arr,clk,rfl,ha,by simpa using hz,g1,g2,fun i e p he hp => ?_⟩
   simp only [List.getElem?_map,Option.map_eq_some_iff] at hp
   obtain ⟨p',hp',rfl⟩ := hp
   exact ⟨(hr i e p' he hp').1.stab hS (fun _ _ _ => rfl),subAny_rel hS hσ (hr i e p' he hp').2⟩
 ·obtain ⟨i1,hi1,hm1⟩ := hget k _ m1
  obtain ⟨i2,hi2,hm2⟩ := hget k' _ m2
  obtain ⟨j1,hj1,hb1,rfl,e1⟩ := hlive k b1 h1
  obtain ⟨j2,hj2,hb2,rfl,e2⟩ := hlive k' b2 h2
  rw [hi1] at hj1; simp at hj1; subst hj1
  rw [hi2] at hj2; simp at hj2; subst hj2
  refine hh.inj i1 i2 _ _ b o1 o2 (fun e => hne ?_) hb1 hb2 (by rw [← e1]; exact l1) (by rw [← e2]; exact l2) hm1 hm2
  subst e
  exact nodup_inj hnd hi1 hi2
 ·obtain ⟨i1,hi1,hm1⟩ := hget k _ m1
  obtain ⟨j1,hj1,hb1,rfl,e1⟩ := hlive k b1 h1
  rw [hi1] at hj1; simp at hj1; subst hj1
  rintro (hs | ⟨i,o,hif,hmi⟩)
  ·exact hh.out i1 _ b o1 hb1 (by rw [← e1]; exact l1) hm1 hs
  ·obtain ⟨es,rows,hp⟩ := hfl i hif
   exact hh.inj i i1 _ _ b o o1 (fun e => hdis i hif (by rw [e]; exact List.mem_of_getElem? hi1)) hp hb1 rfl (by rw [← e1]; exact l1) hmi hm1
 ·rcases hb with hb | ⟨i,o,_,hmi⟩
  ·exact hh.low b hb
  ·exact hh.lowm i b o hmi
 ·obtain ⟨i1,_,hm1⟩ := hget k _ m1
  exact hh.lowm i1 b o1 hm1
theorem Fr.sub {keep frz : List Nat} (h : Fr w0 S0 m0 w S m) (hS : ∀ b,S b → S' b) (hS2 : ∀ b,S' b → S b ∨ ∃ i o,i ∈ frz ∧ m[i]? = some (some (b,o))) (hm' : m' = keep.map fun i => (m.getD i none))
  (hpre : keep.take m0.length = List.range m0.length) : Fr w0 S0 m0 w S' m' where
 size := h.size
 os := h.os
 tape := h.tape
 output := h.output
 drawn := h.drawn
 same := h.same
 frozen := h.frozen
 shape := h.shape
 up := fun b hb => hS b (h.up b hb)
 down := fun b hb => by
  rcases hS2 b hb with h1 | ⟨i,o,_,hm⟩
  ·exact h.down b h1
  ·exact .inr (h.locs i b o hm)
 locs := fun k b o hk => by
  subst hm'
  simp only [List.getElem?_map,Option.map_eq_some_iff] at hk
  obtain ⟨i,_,hi⟩ := hk
  refine h.locs i b o ?_
  rw [List.getD_eq_getElem?_getD] at hi
  cases hm : m[i]? with
  | none => simp [hm] at hi
  | some l => simp [hm] at hi; rw [hi]
 pre := fun i hi => by
  have hk : keep[i]? = some i := by
   have : (keep.take m0.length)[i]? = some i := by rw [hpre]; simp [hi]
   rw [List.getElem?_take] at this
   simpa [hi] using this
  subst hm'
  have hl := h.len
  have := h.pre i hi
  simp only [List.getElem?_map,hk,Option.map_some]
  rw [List.getD_eq_getElem?_getD,this]
  simp [hi]
theorem le_sub {n0 : Nat} {st : St} (keep frz : List Nat) (hpre : keep.take n0 = List.range n0) (hnd : keep.Nodup) (hlt : ∀ i ∈ keep,i < st.h.length) (hdis : ∀ i ∈ frz,i ∉ keep)
  (hfl : ∀ i ∈ frz,∃ es rows,st.h[i]? = some (.plain es rows)) : Le n0 st (subSt keep frz st) := by
 intro w0 S0 m0 w S m a hn hr
 obtain ⟨S',m',hS,hS2,hm',hσ,hh⟩ := sub_state hr.heap hnd hlt hdis hfl
 refine ⟨S',m',hh,subAny_lrel hS hσ hr.tmps,⟨by simpa [subSt] using hr.defs.1,fun i df x hd hx => ?_⟩,hr.fr.sub hS hS2 hm' (by rw [hn]; exact hpre)⟩
 simp only [subSt,List.getElem?_map,Option.map_eq_some_iff] at hx
 obtain ⟨y,hy,rfl⟩ := hx
 obtain ⟨caps,e,h1,h2⟩ := hr.defs.2 i df y hd hy
 exact ⟨caps,e,subAny_lrel hS hσ h1,subAny_lrel hS hσ h2⟩
theorem Le.refl (n0 : Nat) (st : St) : Le n0 st st := fun w0 S0 m0 w S m a _ hr => ⟨S,m,hr⟩
theorem Le.trans {n0 : Nat} {s1 s2 s3 : St} (h1 : Le n0 s1 s2) (h2 : Le n0 s2 s3) : Le n0 s1 s3 := fun w0 S0 m0 w S m a hn hr => by
 obtain ⟨S1,m1,hr1⟩ := h1 w0 S0 m0 w S m a hn hr
 exact h2 w0 S0 m0 w S1 m1 a hn hr1
/-- A nil slice becomes a row of the call's own. -/
theorem le_virt {n0 : Nat} {st : St} (i es : Nat) (hi : st.t[i]? = some (.fv .nils)) : Le n0 st { st with t := st.t.set i (.ref st.h.length es 0 0),h := st.h ++ [.plain es []] } := by
 intro w0 S0 m0 w S m a hn hr
 have hmv := Move.virt (S := S) (w := w) hr.heap.lowm
 have hh := hr.heap.virt (.plain es []) ⟨by simp,rfl⟩
 have hr2 := hr.move hmv hh
 refine ⟨S,m ++ [none],hr2.heap,⟨by simpa using hr2.tmps.1,fun j v x hv hx => ?_⟩,hr2.defs,hr2.fr⟩
 rw [List.getElem?_set] at hx
 split at hx
 ·rename_i e; subst e
  split at hx <;> simp at hx
  subst hx
  have := (hr.tmps.2 i v _ hv hi).nils_inv
  subst this
  exact .refz _ _ _ _
 ·exact hr2.tmps.2 j v x hv hx
/-! ### Calls -/
def resSem (tmps : Array Value) : ResultVar → Sem Value
 | .tmp t => pure (tmps.getD t Go.undef)
 | .cell c T => do
  let ad ← asAddr (tmps.getD c Go.undef)
  loadVar T ad
theorem results_eq (fn : Func) (tmps : Array Value) : results fn tmps = (do let vs ← fn.results.mapM (resSem tmps); pure (if h : vs.size = 1 then vs[0] else .tuple vs)) := by
 unfold results
 congr 1
theorem vals_rel (hG : GOk P w0 S0) (h : RelSM w0 S0 m0 w S m a st) (r : ResultVar) (x : AV) (hx : resA P st r = some x) :
  ∃ v,(resSem a.tmps r).run P w = .ok v w ∧ VRel w S m v x := by
 cases r with
 | tmp t => simp [resA] at hx; subst hx; exact ⟨_,rfl,h.tmps.get t⟩
 | cell c T =>
  simp only [resA,Option.bind_eq_some_iff] at hx
  obtain ⟨i,hi,hl⟩ := hx
  obtain ⟨ad,u,h1,h2,h3,_⟩ := ld_sound (hG.fr h.fr) h.heap hi (h.tmps.get c) hl
  refine ⟨u,?_,h2⟩
  simp [resSem,h1,asAddr,h3 w rfl]
theorem results_rel (hG : GOk P w0 S0) (h : RelSM w0 S0 m0 w S m a st) : ∀ (rs : List ResultVar) (xs : List AV),resAs P st rs = some xs →
  ∃ vs,(rs.mapM (resSem a.tmps)).run P w = .ok vs w ∧ LRel w S m vs xs
 | [],xs,hx => by simp [resAs] at hx; subst hx; exact ⟨[],rfl,rfl,fun i v x hv => by simp at hv⟩
 | r :: rs,xs,hx => by
  simp only [resAs] at hx
  split at hx <;> simp at hx
  rename_i x xs' h1 h2
  subst hx
  obtain ⟨v,hv,hr⟩ := vals_rel hG h r x h1
  obtain ⟨vs,hvs,hrs⟩ := results_rel hG h rs xs' h2
  refine ⟨v :: vs,?_,by simpa using hrs.1,fun i u y hu hy => ?_⟩
  ·simp only [List.mapM_cons,Sem.run_bind,hv,Result.andThen_ok,hvs,Sem.run_pure]
  ·cases i with
   | zero => simp at hu hy; subst hu; subst hy; exact hr
   | succ i => exact hrs.2 i u y (by simpa using hu) (by simpa using hy)
theorem pack_rel {vs : List Value} {xs : List AV} (h : LRel w S m vs xs) : VRel w S m (if h : vs.toArray.size = 1 then vs.toArray[0] else .tuple vs.toArray) (pack xs) := by
 have hl := h.1
 match vs,xs,hl with
 | [],[],_ => exact .tuple _ _ rfl (fun i v x hv => by simp at hv)
 | [v],[x],_ => exact h.2 0 v x rfl rfl
 | v :: v2 :: vs,x :: x2 :: xs,hl =>
  simp only [List.size_toArray,List.length_cons,Nat.add_eq_right,Nat.add_eq_zero_iff,Nat.succ_ne_self,and_false,dite_false,pack]
  exact .tuple _ _ (by simpa using hl) (fun i u y hu hy => h.2 i u y (by simpa using hu) hy)
/-- What a body gives back, and what is said of it. -/
def outOk (n0 : Nat) (o : AOut) (v : AV) (h h' : List Blk) : Prop := match o with
 | .ret x => Le n0 { t := [v],h := h,d := [] } { t := [x],h := h',d := [] }
 | .pan _ => False
/-- What a body must come to: its results, in a state in which nothing is put off. -/
def retA (P : Program) (fn : Func) (n0 : Nat) (o : AOut) (h' : List Blk) : AEx → St → Prop
 | .normal,st | .ret,st => st.d = [] ∧ ∃ vs,resAs P st fn.results.toList = some vs ∧ outOk n0 o (pack vs) st.h h'
 | .pan v,st => st.d = [] ∧ match o with
  | .ret _ => False
  | .pan x => Le n0 { t := [v],h := st.h,d := [] } { t := [x],h := h',d := [] }
 | _,_ => False
theorem start_rel {fn : Func} {args : List AV} {h : List Blk} (ht : args.length ≤ fn.ntmps) {w : World} {S : Nat → Prop} {m : List Loc} {cargs : List Value} (hh : HRel w S m h) (hl : LRel w S m cargs args) :
  RelSM w S m w S m { tmps := cargs.toArray ++ Array.replicate (fn.ntmps - cargs.toArray.size) Go.undef,defers := [] } { t := args ++ List.replicate (fn.ntmps - args.length) .undef,h := h,d := [] } := by
 have hsz : cargs.toArray.size = args.length := by simpa using hl.1
 refine ⟨hh,⟨by simp [hl.1],fun i v x hv hx => ?_⟩,⟨rfl,fun i df x hd => by simp at hd⟩,Fr.refl w S m⟩
 rw [hsz] at hv
 simp only [Array.toList_append,Array.toList_replicate] at hv
 rw [List.getElem?_append] at hv hx
 simp only [hl.1] at hv
 split at hv
 ·rename_i hlt; simp only [hlt,if_true] at hx; exact hl.2 i v x hv hx
 ·rename_i hlt
  simp only [hlt,if_false] at hx
  by_cases hc : i - args.length < fn.ntmps - args.length
  ·simp [hc] at hv hx
   subst hv; subst hx
   exact .undef
  ·simp [hc] at hv
/-- What is given back, said less of. -/
theorem fin_rel {n0 : Nat} {h' : List Blk} (hlen : m0.length = n0) (hr : RelSM w0 S0 m0 w S m a st) {v : Value} {x y : AV} (hv : VRel w S m v x) (hle : Le n0 { t := [x],h := st.h,d := [] } { t := [y],h := h',d := [] }) :
  ∃ S' m',HRel w S' m' h' ∧ VRel w S' m' v y ∧ Fr w0 S0 m0 w S' m' := by
 obtain ⟨S2,m2,hr2⟩ := hle w0 S0 m0 w S m { tmps := #[v],defers := [] } hlen ⟨hr.heap,⟨rfl,fun i u z hu hz => by
  cases i with
  | zero => simp at hu hz; subst hu; subst hz; exact hv
  | succ i => simp at hu⟩,⟨rfl,fun i df x hd => by simp at hd⟩,hr.fr⟩
 exact ⟨S2,m2,hr2.heap,hr2.tmps.2 0 v y (by simp) rfl,hr2.fr⟩
/-- Results. -/
theorem res_rel (hG : GOk P w0 S0) (hr : RelSM w0 S0 m0 w S m a st) {fn : Func} {n0 : Nat} {o : AOut} {h' : List Blk} (hlen : m0.length = n0) {vs : List AV} (hvs : resAs P st fn.results.toList = some vs) (ho : outOk n0 o (pack vs) st.h h') :
  ∃ v,(results fn a.tmps).run P w = .ok v w ∧ ∃ S' m',HRel w S' m' h' ∧ ORel w S' m' (.returned v) o ∧ Fr w0 S0 m0 w S' m' := by
 obtain ⟨us,hus,hrel⟩ := results_rel hG hr _ _ hvs
 cases o with
 | pan x => exact ho.elim
 | ret x =>
  obtain ⟨S',m',h1,h2,h3⟩ := fin_rel hlen hr (pack_rel hrel) ho
  refine ⟨_,?_,S',m',h1,h2,h3⟩
  rw [results_eq,Sem.run_bind,Array.mapM_eq_mapM_toList,Sem.run_map,hus]
  rfl
theorem body_wp (hmix : P.follows .mixedOrders = true) {fn : Func} {c : Code} {args : List AV} {h : List Blk} {o : AOut} {h' : List Blk} (ht : args.length ≤ fn.ntmps)
  (hw : awp P h.length c (retA P fn h.length o h') { t := args ++ List.replicate (fn.ntmps - args.length) .undef,h := h,d := [] })
  {w : World} {S : Nat → Prop} {m : List Loc} {cargs : List Value} (hG : GOk P w S) (hh : HRel w S m h) (hl : LRel w S m cargs args) :
  c.wp P (bodyPost P fn fun e w' => ∃ S' m',HRel w' S' m' h' ∧ ORel w' S' m' e o ∧ Fr w S m w' S' m') { tmps := cargs.toArray ++ Array.replicate (fn.ntmps - cargs.toArray.size) Go.undef,defers := [] } w := by
 have hlen : m.length = h.length := hh.len
 refine wp_mono (awp_sound hmix c _ _ w S m w S m _ hG (by rw [hlen]; exact hw) (start_rel ht hh hl)) fun e a' w' hq => ?_
 obtain ⟨S1,m1,ae,st',he,hr',hq'⟩ := hq
 have hdl := hr'.defs.1
 have good : (st'.d = [] ∧ ∃ vs,resAs P st' fn.results.toList = some vs ∧ outOk h.length o (pack vs) st'.h h') → a'.defers = [] ∧ ∃ v,(results fn a'.tmps).run P w' = .ok v w' ∧ ∃ S' m',HRel w' S' m' h' ∧ ORel w' S' m' (.returned v) o ∧ Fr w S m w' S' m' := by
  rintro ⟨hd,vs,hvs,ho⟩
  rw [hd] at hdl
  exact ⟨List.eq_nil_of_length_eq_zero (by simpa using hdl),res_rel hG hr' hlen hvs ho⟩
 cases e <;> cases ae <;> simp only [ExRel] at he
 case normal.normal => exact good hq'
 case ret.ret => exact good hq'
 case exit.exit => exact hq'.elim
 case panic.pan v =>
  obtain ⟨hd,ho⟩ := hq'
  obtain ⟨u,rfl,hu⟩ := he
  rw [hd] at hdl
  cases o with
  | ret x => exact ho.elim
  | pan x =>
   obtain ⟨S',m',h1,h2,h3⟩ := fin_rel hlen hr' hu ho
   exact ⟨List.eq_nil_of_length_eq_zero (by simpa using hdl),S',m',h1,⟨u,rfl,h2⟩,h3⟩
theorem ok_intro (hmix : P.follows .mixedOrders = true) {f : FuncId} {fn : Func} {c : Code} (hf : P.funcs[f]? = some fn) (hn : (fn.name == "runtime.NumGoroutine") = false) (hb : fn.body = some c)
  {args : List AV} {h : List Blk} {o : AOut} {h' : List Blk} (ht : args.length ≤ fn.ntmps)
  (hw : awp P h.length c (retA P fn h.length o h') { t := args ++ List.replicate (fn.ntmps - args.length) .undef,h := h,d := [] }) : Ok P f args h o h' :=
 ⟨⟨fn,hf,hn,by rw [hb]; rfl⟩,fun w S m cargs hG hh hl => calls_of_wp hf hb (body_wp hmix ht hw hG hh hl)⟩
end
end Go.Abs
/- Calls: from a contract to what a call does in a state. -/
namespace Go.Abs
variable [Kn]
set_option linter.unusedSectionVars false
set_option linter.unusedVariables false
set_option linter.unusedSimpArgs false
def AOut.sub (σ : Nat → Option Sb) : AOut → AOut
 | .ret v => .ret (subAny σ v)
 | .pan v => .pan (subAny σ v)
/-- The blocks lent go back to their places; the new ones come last. -/
def putBack : List Nat → List Blk → List Blk → List Blk
 | i :: keep,b :: h',h => putBack keep h' (h.set i b)
 | [],h',h => h ++ h'
 | _,[],h => h
/-- Where a callee's block lies in the caller. -/
def back (keep : List Nat) (n k : Nat) : Nat := if k < keep.length then keep.getD k 0 else n + (k - keep.length)
def backSub (keep : List Nat) (n k : Nat) : Option Sb := some (.to (back keep n k))
/-- The numbers are frozen where they lie. -/
def frzSub (frz : List Nat) (h : List Blk) (id : Nat) : Option Sb :=
 if frz.contains id then (match h[id]? with
  | some (.plain es rows) => some (.froz es rows)
  | _ => none) else some (.to id)
def killAll : List Nat → List Blk → List Blk
 | [],h => h
 | i :: l,h => killAll l (h.set i .dead)
def freezeSt (frz : List Nat) (st : St) : St :=
 let σ := frzSub frz st.h
 { t := st.t.map (subAny σ),h := killAll frz (st.h.map (subBlk σ)),d := st.d.map fun (f,as,cs) => (f,as.map (subAny σ),cs.map (subAny σ)) }
def flatF : FV → Bool
 | .bool _ | .int .. | .str _ | .nils | .nil _ => true
 | _ => false
def flatA : AV → Bool
 | .fv x => flatF x
 | .undef | .any | .anyb => true
 | .iface _ (.fv x) => flatF x
 | .agg cs | .tuple cs => cs.all fun c => match c with
  | .fv x => flatF x
  | .undef | .any => true
  | .iface _ (.fv x) => flatF x
  | _ => false
 | _ => false
def AOut.flat : AOut → Bool
 | .ret v => flatA v
 | .pan v => flatA v
section
variable {P : Program} {w0 : World} {S0 : Nat → Prop} {m0 m1 m2 : List Loc} {w w' : World} {S S' : Nat → Prop} {m m' : List Loc} {a : Act} {st : St}
theorem FRel.flat {v : Value} {x : FV} (hx : flatF x = true) (h : FRel w S v x) : FRel w' S' v x := by
 cases h <;> simp [flatF] at hx
 ·exact .bool _
 ·exact .int _ _
 ·exact .str _
 ·exact .nils
 ·rename_i h; exact .nil _ h
theorem VRel.flat {v : Value} {x : AV} (hx : flatA x = true) (h : VRel w S m v x) : VRel w' S' m' v x := by
 have one : ∀ (v : Value) (x : AV),(match x with
  | .fv x => flatF x
  | .undef | .any => true
  | .iface _ (.fv x) => flatF x
  | _ => false) = true → VRel w S m v x → VRel w' S' m' v x := by
  intro v x hx h
  cases h <;> try simp at hx
  ·rename_i h; exact .fv _ _ (h.flat hx)
  ·exact .undef
  ·exact .any _
  ·rename_i t u y hu
   cases y <;> simp at hx
   cases hu with
   | fv _ _ h => exact .iface _ _ _ (.fv _ _ (h.flat hx))
 cases h with
 | fv _ _ h => exact .fv _ _ (h.flat hx)
 | undef => exact .undef
 | any => exact .any _
 | anyb b => exact .anyb b
 | agg vs cs hn hr =>
  simp only [flatA,List.all_eq_true] at hx
  exact .agg vs cs hn fun i v x hv hxx => one v x (hx x (List.mem_of_getElem? hxx)) (hr i v x hv hxx)
 | tuple vs cs hn hr =>
  simp only [flatA,List.all_eq_true] at hx
  exact .tuple vs cs hn fun i v x hv hxx => one v x (hx x (List.mem_of_getElem? hxx)) (hr i v x hv hxx)
 | iface t u x hu => exact one _ (.iface t x) (by cases x <;> simp [flatA] at hx ⊢; exact hx) (.iface t u x hu)
 | _ => simp [flatA] at hx
theorem ORel.flat {e : Ending} {o : AOut} (hx : o.flat = true) (h : ORel w S m e o) : ORel w' S' m' e o := by
 cases o <;> cases e <;> simp only [ORel] at h ⊢
 ·exact h.flat hx
 ·obtain ⟨v,rfl,hv⟩ := h
  exact ⟨v,rfl,hv.flat hx⟩
theorem BRel.sub (hS : ∀ b,S b → S' b) {σ : Nat → Option Sb} (hσ : SigOk w m S' m' σ) {l : Loc} {b : Blk} (h : BRel w S m l b) : BRel w S' m' l (subBlk σ b) := by
 cases b with
 | dead => trivial
 | plain es rows =>
  obtain ⟨h1,h2⟩ := h
  refine ⟨h1,?_⟩
  cases l with
  | none => exact h2
  | some bo =>
   obtain ⟨arr,T,ha,hc⟩ := h2
   refine ⟨arr,T,ha,fun r j row x hrow hx => ?_⟩
   obtain ⟨u,hu,hf⟩ := hc r j row x hrow hx
   exact ⟨u,hu,hf.stab hS (fun _ _ _ => rfl)⟩
 | box cs =>
  obtain ⟨b,o,arr,T,rfl,ha,hc⟩ := h
  refine ⟨b,o,arr,T,rfl,ha,fun j x hx => ?_⟩
  simp only [List.getElem?_map,Option.map_eq_some_iff] at hx
  obtain ⟨y,hy,rfl⟩ := hx
  obtain ⟨u,hu,hv⟩ := hc j y hy
  exact ⟨u,hu,subAny_rel hS hσ hv⟩
 | map es =>
  obtain ⟨b,arr,clk,rfl,ha,hz,g1,g2,hr⟩ := h
  refine ⟨b,arr,clk,rfl,ha,by simpa using hz,g1,g2,fun i e p he hp => ?_⟩
  simp only [List.getElem?_map,Option.map_eq_some_iff] at hp
  obtain ⟨p',hp',rfl⟩ := hp
  exact ⟨(hr i e p' he hp').1.stab hS (fun _ _ _ => rfl),subAny_rel hS hσ (hr i e p' he hp').2⟩
theorem subBlk_live (σ : Nat → Option Sb) (b : Blk) : (subBlk σ b).live = b.live := by cases b <;> rfl
theorem ORel.sub (hS : ∀ b,S b → S' b) {σ : Nat → Option Sb} (hσ : SigOk w m S' m' σ) {e : Ending} {o : AOut} (h : ORel w S m e o) : ORel w S' m' e (o.sub σ) := by
 cases o <;> cases e <;> simp only [ORel,AOut.sub] at h ⊢
 ·exact subAny_rel hS hσ h
 ·obtain ⟨v,rfl,hv⟩ := h
  exact ⟨v,rfl,subAny_rel hS hσ hv⟩
theorem putBack_get : ∀ (keep : List Nat) (h' h : List Blk),keep.Nodup → (∀ i ∈ keep,i < h.length) → keep.length ≤ h'.length →
  (putBack keep h' h).length = h.length + (h'.length - keep.length) ∧ ∀ (i : Nat) (b : Blk),(putBack keep h' h)[i]? = some b →
   (∃ k,h'[k]? = some b ∧ i = back keep h.length k) ∨ (i ∉ keep ∧ h[i]? = some b)
 | [],h',h,_,_,_ => by
  refine ⟨by simp [putBack],fun i b hb => ?_⟩
  simp only [putBack] at hb
  rw [List.getElem?_append] at hb
  split at hb
  ·exact .inr ⟨by simp,hb⟩
  ·rename_i hlt
   exact .inl ⟨i - h.length,hb,by simp [back]; omega⟩
 | k :: keep,[],h,_,_,hl => by simp at hl
 | k :: keep,c :: h',h,hnd,hlt,hl => by
  obtain ⟨hk,hnd'⟩ := List.nodup_cons.1 hnd
  obtain ⟨e,ih⟩ := putBack_get keep h' (h.set k c) hnd' (fun i hi => by simpa using hlt i (List.mem_cons_of_mem _ hi)) (by simpa using hl)
  refine ⟨by simp only [putBack,e,List.length_set,List.length_cons]; omega,fun i b hb => ?_⟩
  simp only [putBack] at hb
  rcases ih i b hb with ⟨j,hj,rfl⟩ | ⟨hi,hg⟩
  ·refine .inl ⟨j + 1,by simpa using hj,?_⟩
   simp only [back,List.length_set,List.length_cons,Nat.add_lt_add_iff_right,List.getD_cons_succ]
   split <;> omega
  ·rw [List.getElem?_set] at hg
   split at hg
   ·rename_i e; subst e
    have := hlt k (by simp)
    simp only [this,if_true,Option.some.injEq] at hg
    subst hg
    exact .inl ⟨0,rfl,by simp [back]⟩
   ·rename_i hne
    exact .inr ⟨by simp only [List.mem_cons,not_or]; exact ⟨fun e => hne e.symm,hi⟩,hg⟩
theorem putBack_old : ∀ (keep : List Nat) (h' h : List Blk) (i : Nat),i ∉ keep → i < h.length → (putBack keep h' h)[i]? = h[i]?
 | [],h',h,i,_,hl => by simp only [putBack]; rw [List.getElem?_append_left hl]
 | k :: keep,[],h,i,_,hl => by simp [putBack]
 | k :: keep,c :: h',h,i,hi,hl => by
  simp only [List.mem_cons,not_or] at hi
  simp only [putBack]
  rw [putBack_old keep h' (h.set k c) i hi.2 (by simpa using hl),List.getElem?_set_ne (fun e => hi.1 e.symm)]
/-- A call that is lent some blocks. -/
theorem call_lent {f : FuncId} {args args' : List AV} {hb h' : List Blk} {o : AOut} (keep : List Nat) (hok : Ok P f args' hb o h')
  (ha : args.map (subAny (mkSub keep [] st.h)) = args') (hh : keep.map (fun i => subBlk (mkSub keep [] st.h) (st.h.getD i .dead)) = hb)
  (hnd : keep.Nodup) (hlive : ∀ i ∈ keep,(st.h.getD i .dead).live = true) :
  CallRel P f args st keep (o.sub (backSub keep st.h.length)) { st with h := putBack keep (h'.map (subBlk (backSub keep st.h.length))) st.h } := by
 have hlt : ∀ i ∈ keep,i < st.h.length := fun i hi => by
  have := hlive i hi
  rcases Nat.lt_or_ge i st.h.length with h1 | h1
  ·exact h1
  ·simp [List.getD_eq_getElem?_getD,List.getElem?_eq_none h1,Blk.live] at this
 subst ha; subst hh
 refine ⟨fun i hi hlen => putBack_old _ _ _ _ hi hlen,fun w0 S0 m0 w S m a cargs hG hr hargs => .inl ⟨hok.1,?_⟩⟩
 obtain ⟨S1,m1,hS,hS2,hm1,hσ,hh1⟩ := sub_state (frz := []) hr.heap hnd hlt (fun i hi => by simp at hi) (fun i hi => by simp at hi)
 have hSS : ∀ b,S1 b → S b := fun b hb => by
  rcases hS2 b hb with h1 | ⟨i,o,hi,_⟩
  ·exact h1
  ·simp at hi
 refine Calls.mono (hok.2 w S1 m1 cargs ((hG.fr hr.fr).mono hS) hh1 (subAny_lrel hS hσ hargs)) fun e w' hq => ?_
 obtain ⟨S2,m2,hh2,ho2,hf⟩ := hq
 have hml : m.length = st.h.length := hr.heap.len
 have hm1l : m1.length = keep.length := by rw [hm1]; simp
 have hm2l : m2.length = h'.length := hh2.len
 have hle : keep.length ≤ h'.length := by rw [← hm1l,← hm2l]; exact hf.len
 have hm1get : ∀ (k i : Nat),keep[k]? = some i → m1[k]? = some (m.getD i none) := fun k i hk => by rw [hm1]; simp [hk]
 have own1 : ∀ b,Owned m1 b → ∃ i ∈ keep,∃ o,m[i]? = some (some (b,o)) := by
  rintro b ⟨k,o,hk⟩
  rw [hm1] at hk
  simp only [List.getElem?_map,Option.map_eq_some_iff] at hk
  obtain ⟨i,hi,he⟩ := hk
  refine ⟨i,List.mem_of_getElem? hi,o,?_⟩
  rw [List.getD_eq_getElem?_getD] at he
  cases hm : m[i]? with
  | none => simp [hm] at he
  | some l => simp [hm] at he; rw [he]
 have own : ∀ b,Owned m1 b → Owned m b := fun b hb => by
  obtain ⟨i,_,o,h⟩ := own1 b hb
  exact ⟨i,o,h⟩
 have notown : ∀ (i b o : Nat) (k : Blk),i ∉ keep → m[i]? = some (some (b,o)) → st.h[i]? = some k → k.live = true → ¬ Owned m1 b := by
  intro i b o k hi hm hk hl hown
  obtain ⟨j,hj,o',hmj⟩ := own1 b hown
  have hjl := hlive j hj
  have hjlt := hlt j hj
  exact hr.heap.inj i j k (st.h.getD j .dead) b o o' (fun e => hi (e ▸ hj)) hk (by simp [List.getD_eq_getElem?_getD,hjlt]) hl hjl hm hmj
 let m' : List Loc := m ++ m2.drop keep.length
 have hsub : Sub m m' := Sub.append _ _
 have hpre : ∀ (k : Nat) (l : Loc),m2[k]? = some l → m'[back keep st.h.length k]? = some l := fun k l hk => by
  unfold back
  split
  ·rename_i hlt'
   have hkk : keep[k]? = some (keep.getD k 0) := by simp [List.getD_eq_getElem?_getD,hlt']
   have h1 := hm1get k _ hkk
   have h2 := hf.pre k (by rw [hm1l]; exact hlt')
   rw [hk,h1,Option.some.injEq] at h2
   have hlt2 := hlt _ (List.mem_of_getElem? hkk)
   have : keep.getD k 0 < m.length := by omega
   simp only [m']
   rw [List.getElem?_append_left this]
   rw [h2]
   simp only [List.getD_eq_getElem?_getD] at this ⊢
   simp [this]
  ·rename_i hge
   simp only [m']
   rw [List.getElem?_append_right (by omega),List.getElem?_drop]
   rw [← hk]; congr 1; omega
 have hmv : Move w S m w' S2 m' := by
  refine ⟨hf.size,hf.os,hf.tape,hf.output,hf.drawn,fun b hb ho => hf.same b hb (fun h => ho (own b h)),fun b hs hb => hf.frozen b (hS b hs) hb,hf.shape,fun b hs => hf.up b (hS b hs),fun b hs => ?_,fun i b o hi => ?_,fun i hi => ?_⟩
  ·rcases hf.down b hs with h1 | h1 | h1
   ·exact .inl (hSS b h1)
   ·exact .inr (.inl (own b h1))
   ·exact .inr (.inr h1)
  ·simp only [m'] at hi
   rw [List.getElem?_append] at hi
   split at hi
   ·exact .inl ⟨i,o,hi⟩
   ·rw [List.getElem?_drop] at hi
    rcases hf.locs _ b o hi with h1 | h1
    ·exact .inl (own b h1)
    ·exact .inr h1
  ·simp only [m']; rw [List.getElem?_append_left hi]
 have hτ : SigOk w' m2 S2 m' (backSub keep st.h.length) := by
  refine ⟨fun id j b o h hm => ?_,fun id es rows h => by simp [backSub] at h,fun id es rows b o h => by simp [backSub] at h⟩
  simp only [backSub,Option.some.injEq,Sb.to.injEq] at h
  subst h
  exact hpre id _ hm
 have hsame : ∀ (i b o : Nat) (k : Blk),i ∉ keep → m[i]? = some (some (b,o)) → st.h[i]? = some k → k.live = true → w'.heap[b]? = w.heap[b]? :=
  fun i b o k hi hm hk hl => hf.same b (hr.heap.lowm i b o hm) (notown i b o k hi hm hk hl)
 obtain ⟨hlen,hget⟩ := putBack_get keep (h'.map (subBlk (backSub keep st.h.length))) st.h hnd hlt (by simpa using hle)
 have hget : ∀ (i : Nat) (x : Blk) (l : Loc),(putBack keep (h'.map (subBlk (backSub keep st.h.length))) st.h)[i]? = some x → m'[i]? = some l →
   (∃ k y,h'[k]? = some y ∧ m2[k]? = some l ∧ x = subBlk (backSub keep st.h.length) y ∧ i = back keep st.h.length k) ∨ (i ∉ keep ∧ st.h[i]? = some x ∧ m[i]? = some l) := fun i x l hx hl => by
  rcases hget i x hx with ⟨k,hk,rfl⟩ | ⟨hi,hg⟩
  ·simp only [List.getElem?_map,Option.map_eq_some_iff] at hk
   obtain ⟨y,hy,rfl⟩ := hk
   have hkl : k < m2.length := by rw [hm2l]; exact (List.getElem?_eq_some_iff.1 hy).1
   have := hpre k m2[k] (by simp)
   rw [this] at hl
   exact .inl ⟨k,y,hy,by rw [← hl]; simp,rfl,rfl⟩
  ·have : i < m.length := by rw [hml]; exact (List.getElem?_eq_some_iff.1 hg).1
   rw [hmv.pre i this] at hl
   exact .inr ⟨hi,hg,hl⟩
 have hheap : HRel w' S2 m' (putBack keep (h'.map (subBlk (backSub keep st.h.length))) st.h) := by
  refine ⟨by rw [hlen]; simp [m',hml,hm2l],fun i l x hl hx => ?_,fun i j bi bj b o o' hne hi hj li lj mi mj => ?_,fun i bi b o hi li mi => ?_,hh2.low,fun i b o hi => ?_⟩
  ·rcases hget i x l hx hl with ⟨k,y,hy,hk,rfl,rfl⟩ | ⟨hi,hg,hml'⟩
   ·exact (hh2.blk k l y hk hy).sub (fun _ h => h) hτ
   ·have hb := hr.heap.blk i l x hml' hg
    cases hlv : x.live with
    | false => cases x <;> simp [Blk.live] at hlv; trivial
    | true => exact hb.move hmv hr.heap.lowm (fun b o e => by subst e; exact hsame i b o x hi hml' hg hlv)
  ·rcases hget i bi _ hi mi with ⟨k,y,hy,hk,rfl,rfl⟩ | ⟨hin,hg,hm1'⟩ <;> rcases hget j bj _ hj mj with ⟨k',y',hy',hk',rfl,rfl⟩ | ⟨hin',hg',hm2'⟩
   ·exact hh2.inj k k' y y' b o o' (fun e => hne (by rw [e])) hy hy' (by rw [← subBlk_live]; exact li) (by rw [← subBlk_live]; exact lj) hk hk'
   ·rcases hf.locs k b o hk with h1 | h1
    ·exact notown j b o' bj hin' hm2' hg' lj h1
    ·have := hr.heap.lowm j b o' hm2'; omega
   ·rcases hf.locs k' b o' hk' with h1 | h1
    ·exact notown i b o bi hin hm1' hg li h1
    ·have := hr.heap.lowm i b o hm1'; omega
   ·exact hr.heap.inj i j bi bj b o o' hne hg hg' li lj hm1' hm2'
  ·rcases hget i bi _ hi mi with ⟨k,y,hy,hk,rfl,rfl⟩ | ⟨hin,hg,hm1'⟩
   ·exact hh2.out k y b o hy (by rw [← subBlk_live]; exact li) hk
   ·intro hs
    rcases hf.down b hs with h1 | h1 | h1
    ·exact hr.heap.out i bi b o hg li hm1' (hSS b h1)
    ·exact notown i b o bi hin hm1' hg li h1
    ·have := hr.heap.lowm i b o hm1'; omega
  ·rcases hmv.locs i b o hi with ⟨j,o',hj⟩ | h1
   ·have := hr.heap.lowm j b o' hj
    have := hf.size
    omega
   ·simp only [m'] at hi
    rw [List.getElem?_append] at hi
    split at hi
    ·have := hr.heap.lowm _ _ _ hi; omega
    ·rw [List.getElem?_drop] at hi
     exact hh2.lowm _ b o hi
 exact ⟨S2,m',hr.move hmv hheap,ho2.sub (fun _ h => h) hτ,fun i b o k hi hm hk hl => hsame i b o k hi hm hk hl⟩
/-- A call that may read some blocks, and gives back no memory. -/
theorem call_look {f : FuncId} {args args' : List AV} {h' : List Blk} {o : AOut} (frz : List Nat) (hok : Ok P f args' [] o h')
  (ha : args.map (subAny (mkSub [] frz st.h)) = args') (hfl : ∀ i ∈ frz,∃ es rows,st.h[i]? = some (.plain es rows)) (ho : o.flat = true) :
  CallRel P f args st [] o st := by
 subst ha
 refine ⟨fun i _ _ => rfl,fun w0 S0 m0 w S m a cargs hG hr hargs => .inl ⟨hok.1,?_⟩⟩
 obtain ⟨S1,m1,hS,hS2,hm1,hσ,hh1⟩ := sub_state (keep := []) hr.heap List.nodup_nil (fun i hi => by simp at hi) (fun i hi => by simp) hfl
 simp only [List.map_nil] at hm1 hh1
 subst hm1
 refine Calls.mono (hok.2 w S1 [] cargs ((hG.fr hr.fr).mono hS) hh1 (subAny_lrel hS hσ hargs)) fun e w' hq => ?_
 obtain ⟨S2,m2,hh2,ho2,hf⟩ := hq
 have hsame : ∀ b,b < w.heap.size → w'.heap[b]? = w.heap[b]? := fun b hb => hf.same b hb (fun ⟨i,o,h⟩ => by simp at h)
 have hmv : Move w S m w' S m := ⟨hf.size,hf.os,hf.tape,hf.output,hf.drawn,fun b hb _ => hsame b hb,fun b _ hb => hsame b hb,fun b hb => SameShape.of_eq (hsame b hb),fun _ h => h,fun _ h => .inl h,fun i b o h => .inl ⟨i,o,h⟩,fun _ _ => rfl⟩
 have hheap : HRel w' S m st.h := by
  refine ⟨hr.heap.len,fun i l x hl hx => ?_,hr.heap.inj,hr.heap.out,fun b hb => Nat.lt_of_lt_of_le (hr.heap.low b hb) hf.size,fun i b o h => Nat.lt_of_lt_of_le (hr.heap.lowm i b o h) hf.size⟩
  exact (hr.heap.blk i l x hl hx).move hmv hr.heap.lowm (fun b o e => by subst e; exact hsame b (hr.heap.lowm i b o hl))
 exact ⟨S,m,hr.move hmv hheap,ho2.flat ho,fun i b o k _ hm _ _ => hsame b (hr.heap.lowm i b o hm)⟩
/-- A call whose arguments and outcome know of no block. -/
theorem call_pure {f : FuncId} {args : List AV} {o : AOut} (hok : Ok P f args [] o []) (ha : ∀ σ,args.map (subAny σ) = args) (ho : ∀ σ,o.sub σ = o) : CallRel P f args st [] o st := by
 have h := call_lent (st := st) (args := args) (args' := args) [] hok (ha _) rfl List.nodup_nil (fun i hi => by simp at hi)
 rw [ho] at h
 simpa [putBack] using h
/-- What holds of arguments of which more is known holds of these. -/
theorem ok_args {f : FuncId} {args args' : List AV} {h h' : List Blk} {o : AOut} (hok : Ok P f args' h o h') (hl : ∀ w S m vs,LRel w S m vs args → LRel w S m vs args') : Ok P f args h o h' :=
 ⟨hok.1,fun w S m cargs hG hh ha => hok.2 w S m cargs hG hh (hl _ _ _ _ ha)⟩
theorem nils_lst {v : Value} (es : Nat) (h : VRel w S m v (.fv .nils)) : VRel w S m v (.fv (.lst es [])) := by
 obtain rfl := h.nils_inv
 exact .fv _ _ (.lst _ _ _ _ _ (fun _ _ => Go.undef) ⟨0,0,none⟩ (by simp) (Nat.le_refl _) (fun i row hrow => by simp at hrow) (fun h => by omega) (fun h => by omega) (fun i j hi => by omega) (fun i j row x hrow => by simp at hrow))
theorem killAll_get : ∀ (l : List Nat) (h : List Blk),(killAll l h).length = h.length ∧ ∀ (i : Nat) (b : Blk),(killAll l h)[i]? = some b → b = .dead ∨ (i ∉ l ∧ h[i]? = some b)
 | [],h => ⟨rfl,fun i b hb => .inr ⟨by simp,hb⟩⟩
 | k :: l,h => by
  obtain ⟨e,ih⟩ := killAll_get l (h.set k .dead)
  refine ⟨by simp only [killAll,e,List.length_set],fun i b hb => ?_⟩
  rcases ih i b hb with h1 | ⟨hi,hg⟩
  ·exact .inl h1
  ·rw [List.getElem?_set] at hg
   split at hg
   ·split at hg <;> simp at hg
    exact .inl hg.symm
   ·rename_i hne
    exact .inr ⟨by simp only [List.mem_cons,not_or]; exact ⟨fun e => hne e.symm,hi⟩,hg⟩
/-- Blocks are frozen. -/
theorem freeze_rel {frz : List Nat} (hfl : ∀ i ∈ frz,∃ es rows,st.h[i]? = some (.plain es rows)) (hr : RelSM w0 S0 m0 w S m a st) :
  ∃ S',(∀ b,S b → S' b) ∧ SigOk w m S' m (frzSub frz st.h) ∧ RelSM w0 S0 m0 w S' m a (freezeSt frz st) := by
 let S' : Nat → Prop := fun b => S b ∨ ∃ i o,i ∈ frz ∧ m[i]? = some (some (b,o))
 have hS : ∀ b,S b → S' b := fun b h => .inl h
 have hfroz : ∀ (id es : Nat) (rows : List (List FV)),frzSub frz st.h id = some (.froz es rows) → id ∈ frz ∧ st.h[id]? = some (.plain es rows) := fun id es rows h => by
  unfold frzSub at h
  split at h
  ·rename_i hc
   split at h <;> simp at h
   rename_i es' rows' he
   obtain ⟨rfl,rfl⟩ := h
   exact ⟨by simpa using hc,he⟩
  ·simp at h
 have hσ : SigOk w m S' m (frzSub frz st.h) := by
  refine ⟨fun id j b o h hm => ?_,fun id es rows h r row hrow => ?_,fun id es rows b o h hm => ?_⟩
  ·unfold frzSub at h
   split at h
   ·split at h <;> simp at h
   ·simp at h; subst h; exact hm
  ·obtain ⟨_,hp⟩ := hfroz id es rows h
   have hml : id < m.length := by rw [hr.heap.len]; exact (List.getElem?_eq_some_iff.1 hp).1
   exact (hr.heap.blk id m[id] _ (by simp) hp).1 r row hrow
  ·obtain ⟨hf,hp⟩ := hfroz id es rows h
   obtain ⟨_,arr,T,ha,hc⟩ := hr.heap.blk id _ _ hm hp
   refine ⟨.inr ⟨id,o,hf,hm⟩,fun r j row x hrow hx => ?_⟩
   obtain ⟨u,hu,hr⟩ := hc r j row x hrow hx
   exact ⟨u,by simp [World.cell?,ha,hu],hr.stab hS (fun _ _ _ => rfl)⟩
 obtain ⟨hlen,hget⟩ := killAll_get frz (st.h.map (subBlk (frzSub frz st.h)))
 have hget : ∀ (i : Nat) (x : Blk),(killAll frz (st.h.map (subBlk (frzSub frz st.h))))[i]? = some x → x = .dead ∨ (i ∉ frz ∧ ∃ y,st.h[i]? = some y ∧ x = subBlk (frzSub frz st.h) y) := fun i x hx => by
  rcases hget i x hx with h1 | ⟨h1,h2⟩
  ·exact .inl h1
  ·simp only [List.getElem?_map,Option.map_eq_some_iff] at h2
   obtain ⟨y,hy,rfl⟩ := h2
   exact .inr ⟨h1,y,hy,rfl⟩
 refine ⟨S',hS,hσ,⟨⟨?_,fun i l x hl hx => ?_,fun i j bi bj b o o' hne hi hj li lj mi mj => ?_,fun i bi b o hi li mi => ?_,fun b hb => ?_,hr.heap.lowm⟩,subAny_lrel hS hσ hr.tmps,⟨by simpa [freezeSt] using hr.defs.1,fun i df x hd hx => ?_⟩,?_⟩⟩
 ·simp only [freezeSt,hlen,List.length_map]; exact hr.heap.len
 ·rcases hget i x hx with rfl | ⟨_,y,hy,rfl⟩
  ·trivial
  ·exact (hr.heap.blk i l y hl hy).sub hS hσ
 ·rcases hget i bi hi with rfl | ⟨_,y,hy,rfl⟩
  ·simp [Blk.live] at li
  rcases hget j bj hj with rfl | ⟨_,y',hy',rfl⟩
  ·simp [Blk.live] at lj
  exact hr.heap.inj i j y y' b o o' hne hy hy' (by rw [← subBlk_live]; exact li) (by rw [← subBlk_live]; exact lj) mi mj
 ·rcases hget i bi hi with rfl | ⟨hn,y,hy,rfl⟩
  ·simp [Blk.live] at li
  rw [subBlk_live] at li
  rintro (hs | ⟨j,o',hj,hmj⟩)
  ·exact hr.heap.out i y b o hy li mi hs
  ·obtain ⟨es,rows,hp⟩ := hfl j hj
   exact hr.heap.inj i j y _ b o o' (fun e => hn (e ▸ hj)) hy hp li rfl mi hmj
 ·rcases hb with hb | ⟨i,o,_,hmi⟩
  ·exact hr.heap.low b hb
  ·exact hr.heap.lowm i b o hmi
 ·simp only [freezeSt,List.getElem?_map,Option.map_eq_some_iff] at hx
  obtain ⟨y,hy,rfl⟩ := hx
  obtain ⟨caps,e,h1,h2⟩ := hr.defs.2 i df y hd hy
  exact ⟨caps,e,subAny_lrel hS hσ h1,subAny_lrel hS hσ h2⟩
 ·have h := hr.fr
  exact ⟨h.size,h.os,h.tape,h.output,h.same,h.frozen,h.shape,fun b hb => hS b (h.up b hb),fun b hb => by
   rcases hb with h1 | ⟨i,o,_,hm⟩
   ·exact h.down b h1
   ·exact .inr (h.locs i b o hm),h.locs,h.pre,h.drawn⟩
/-- A call before which blocks are frozen. -/
theorem call_freeze {f : FuncId} {args args' : List AV} {W : List Nat} {o : AOut} {st1 st' : St} (frz : List Nat) (hfl : ∀ i ∈ frz,∃ es rows,st.h[i]? = some (.plain es rows))
  (ha : args.map (subAny (frzSub frz st.h)) = args') (hs : freezeSt frz st = st1) (hc : CallRel P f args' st1 W o st') (W' : List Nat) (hsub : ∀ i ∈ W,i ∈ W') (hfr : ∀ i ∈ frz,i ∈ W')
  (hsame : ∀ i,i ∉ W' → i < st.h.length → st1.h[i]? = st.h[i]?) : CallRel P f args st W' o st' := by
 subst ha; subst hs
 obtain ⟨h2,h3⟩ := hc
 have hlen : (freezeSt frz st).h.length = st.h.length := by simp [freezeSt,(killAll_get frz _).1]
 refine ⟨fun i hi hl => by rw [h2 i (fun h => hi (hsub i h)) (by rw [hlen]; exact hl),hsame i hi hl],fun w0 S0 m0 w S m a cargs hG hr hargs => ?_⟩
 obtain ⟨S',hS,hσ,hr'⟩ := freeze_rel hfl hr
 refine Runs.mono (h3 w0 S0 m0 w S' m a cargs hG hr' (subAny_lrel hS hσ hargs)) fun e w' hq => ?_
 obtain ⟨S2,m2,hr2,ho,hk⟩ := hq
 refine ⟨S2,m2,hr2,ho,fun i b o k hi hm hk' hl => ?_⟩
 have hlt : i < st.h.length := (List.getElem?_eq_some_iff.1 hk').1
 exact hk i b o k (fun h => hi (hsub i h)) hm (by rw [hsame i hi hlt]; exact hk') hl
end
end Go.Abs
