/- A nil slice that lies in rows is an empty one. -/
import Derived.Test.YtnhghoonlmoinaaGreatAbsZ
import Derived.Test.YtnhghoonlmoinaaGreatTopA
namespace Go.Abs
variable [Kn]
set_option linter.unusedSectionVars false
set_option linter.unusedVariables false
set_option linter.unusedSimpArgs false
def fixNil (k : Nat) : FV → FV
 | .nils => .lst k []
 | .bool b => .bool b
 | .int i n => .int i n
 | .str s => .str s
 | .nil v => .nil v
 | .lst es xs => .lst es xs
theorem fixNil_rel {w : World} {S : Nat → Prop} {v : Value} {x : FV} (k : Nat) (h : FRel w S v x) : FRel w S v (fixNil k x) := by
 cases h with
 | nils => exact .lst _ _ _ _ _ (fun _ _ => Go.undef) ⟨0,0,none⟩ (by simp) (Nat.le_refl _) (fun i row hrow => by simp at hrow) (fun h => by omega) (fun h => by omega) (fun i j hi => by omega) (fun i j row x hrow => by simp at hrow)
 | bool b => exact .bool b
 | int i n => exact .int i n
 | str s => exact .str s
 | nil v h => exact .nil v h
 | lst a n c es xs u ad hn hcp hes ha hs hc hr => exact .lst a n c es xs u ad hn hcp hes ha hs hc hr
theorem le_nilrows {n0 : Nat} {st : St} (i es k : Nat) (rows : List (List FV)) (hi : st.h[i]? = some (.plain es rows)) : Le n0 st { st with h := st.h.set i (.plain es (rows.map fun r => r.map (fixNil k))) } := by
 intro w0 S0 m0 w S m a hn hr
 have hlt : i < st.h.length := (List.getElem?_eq_some_iff.1 hi).1
 have get : ∀ (j : Nat) (b : Blk),(st.h.set i (.plain es (rows.map fun r => r.map (fixNil k))))[j]? = some b → (j = i ∧ b = .plain es (rows.map fun r => r.map (fixNil k))) ∨ (j ≠ i ∧ st.h[j]? = some b) := fun j b hk => by
  rw [List.getElem?_set] at hk
  split at hk
  ·rename_i e
   simp only [hlt,if_true,Option.some.injEq] at hk
   exact .inl ⟨e.symm,hk.symm⟩
  ·rename_i e
   exact .inr ⟨fun h => e h.symm,hk⟩
 refine ⟨S,m,⟨by simpa using hr.heap.len,fun j l b hm hb => ?_,fun k j bi bj b o o' hne hk hj li lj mi mj => ?_,fun k bi b o hk li mi => ?_,hr.heap.low,hr.heap.lowm⟩,hr.tmps,hr.defs,hr.fr⟩
 ·rcases get j b hb with ⟨rfl,rfl⟩ | ⟨_,hb'⟩
  ·have hb := hr.heap.blk j l _ hm hi
   obtain ⟨h1,h2⟩ := hb
   refine ⟨fun r row hrow => ?_,?_⟩
   ·rw [List.getElem?_map] at hrow
    cases hx : rows[r]? with
    | none => rw [hx] at hrow; simp at hrow
    | some row0 => rw [hx] at hrow; simp at hrow; subst hrow; rw [List.length_map]; exact h1 r row0 hx
   ·cases l with
    | none => simp only at h2; subst h2; rfl
    | some bo =>
     obtain ⟨b,o⟩ := bo
     obtain ⟨arr,T,ha,hc⟩ := h2
     refine ⟨arr,T,ha,fun r j row x hrow hx => ?_⟩
     rw [List.getElem?_map] at hrow
     cases hx0 : rows[r]? with
     | none => rw [hx0] at hrow; simp at hrow
     | some row0 =>
      rw [hx0] at hrow; simp at hrow; subst hrow
      rw [List.getElem?_map] at hx
      cases hx1 : row0[j]? with
      | none => rw [hx1] at hx; simp at hx
      | some x0 =>
       rw [hx1] at hx; simp at hx; subst hx
       obtain ⟨u,hu,hv⟩ := hc r j row0 x0 hx0 hx1
       exact ⟨u,hu,fixNil_rel k hv⟩
  ·exact hr.heap.blk j l b hm hb'
 ·rcases get k bi hk with ⟨rfl,rfl⟩ | ⟨_,hk'⟩ <;> rcases get j bj hj with ⟨rfl,rfl⟩ | ⟨_,hj'⟩
  ·exact hne rfl
  ·exact hr.heap.inj k j _ bj b o o' hne hi hj' rfl lj mi mj
  ·exact hr.heap.inj k j bi _ b o o' hne hk' hi li rfl mi mj
  ·exact hr.heap.inj k j bi bj b o o' hne hk' hj' li lj mi mj
 ·rcases get k bi hk with ⟨rfl,rfl⟩ | ⟨_,hk'⟩
  ·exact hr.heap.out k _ b o hi rfl mi
  ·exact hr.heap.out k bi b o hk' li mi
end Go.Abs
/- Productions, one behind the other: the text that they make. -/
namespace Go.Abs
set_option linter.unusedVariables false
set_option linter.unusedSimpArgs false
set_option linter.unusedSectionVars false
variable [Kn]
theorem le_tn {n0 : Nat} (k : Nat) (x : AV) (h : List Blk) : Le n0 ⟨[.tuple [.fv .nils,x]],h,[]⟩ ⟨[.tuple [.fv (.lst k []),x]],h,[]⟩ := by
 intro w0 S0 m0 w S m a hn hr
 refine ⟨S,m,hr.heap,⟨hr.tmps.1,fun j v y hv hy => ?_⟩,hr.defs,hr.fr⟩
 cases j with
 | succ j => simp at hy
 | zero =>
  simp at hy; subst hy
  have h0 := hr.tmps.2 0 v _ hv rfl
  cases h0 with
  | tuple vs cs hs hc =>
   refine .tuple vs _ (by simpa using hs) (fun i u z hu hz => ?_)
   cases i with
   | zero => simp at hz; subst hz; exact nils_lst k (hc 0 u _ hu rfl)
   | succ i => exact hc (i + 1) u z hu (by simpa using hz)
/-! ### How great a grammar is -/
def Rul.heavyB (r : Rul) : Bool := decide (30 < r.re.length) || decide (40 < r.name.length)
def Gra.heavyB (g : Gra) : Bool := decide (14 < g.prods.length) || decide (10 < g.rules.length) || decide (8 < g.nonts.length) || decide (20 < g.levels.length) ||
 g.rules.any Rul.heavyB || g.nonts.any (fun s => decide (40 < s.length)) || g.prods.any fun p => decide (8 < p.right.length)
theorem heavy_of {g : Gra} (h : (decide (14 < g.prods.length) || decide (10 < g.rules.length) || decide (8 < g.nonts.length) || decide (20 < g.levels.length)) = true) : g.heavyB = true := by
 unfold Gra.heavyB
 rw [h]; rfl
theorem small_heavy {g : Gra} (h : g.heavyB = false) : Small g 100 ∧ ∀ p ∈ g.prods,p.right.length ≤ 8 := by
 simp only [Gra.heavyB,Bool.or_eq_false_iff,decide_eq_false_iff_not,Nat.not_lt,List.any_eq_false,decide_eq_true_eq,Rul.heavyB,Bool.or_eq_true,not_or] at h
 obtain ⟨⟨⟨⟨⟨⟨h1,h2⟩,h3⟩,h4⟩,h5⟩,h6⟩,h7⟩ := h
 exact ⟨⟨by omega,by omega,by omega,by omega,fun r hr => by have := h5 r hr; omega,fun s hs => by have := h6 s hs; omega,fun p hp => by have := h7 p hp; omega⟩,fun p hp => h7 p hp⟩
end Go.Abs
