/- The pure operations: what the abstract machine says, the model does, in any world. -/
import Derived.Test.YtnhghoonlmoinaaGreatAbsC
namespace Go.Abs
variable [Kn]
set_option linter.unusedSectionVars false
set_option linter.unusedVariables false
set_option linter.unusedSimpArgs false
section
variable {P : Program} {w : World} {S : Nat → Prop} {m : List Loc}
theorem VRel.int_inv {v : Value} {k : IntKind} {n : Int} (h : VRel w S m v (.fv (.int k n))) : v = .int k n := by
 cases h with | fv _ _ hf => cases hf; rfl
theorem VRel.bool_inv {v : Value} {b : Bool} (h : VRel w S m v (.fv (.bool b))) : v = .bool b := by
 cases h with | fv _ _ hf => cases hf; rfl
theorem VRel.str_inv {v : Value} {s : List UInt8} (h : VRel w S m v (.fv (.str s))) : v = .string ⟨s.toArray⟩ := by
 cases h with | fv _ _ hf => cases hf; rfl
theorem VRel.nils_inv {v : Value} (h : VRel w S m v (.fv .nils)) : v = .slice none 0 0 := by
 cases h with | fv _ _ hf => cases hf; rfl
theorem VRel.nil_inv {v u : Value} (h : VRel w S m v (.fv (.nil u))) : v = u := by
 cases h with | fv _ _ hf => cases hf; rfl
theorem VRel.agg_inv {v : Value} {cs : List AV} (h : VRel w S m v (.agg cs)) : ∃ vs,v = .agg vs ∧ LRel w S m vs.toList cs := by
 cases h with | agg vs _ hn hr => exact ⟨vs,rfl,by simpa using hn,fun i v x hv hx => hr i v x (by simpa using hv) hx⟩
theorem VRel.bool_mk (b : Bool) : VRel w S m (.bool b) (.fv (.bool b)) := .fv _ _ (.bool b)
theorem VRel.int_mk (k : IntKind) (n : Int) : VRel w S m (.int k n) (.fv (.int k n)) := .fv _ _ (.int k n)
theorem VRel.str_mk (s : List UInt8) : VRel w S m (.string ⟨s.toArray⟩) (.fv (.str s)) := .fv _ _ (.str s)
theorem eqA_sound {T : TypeId} {one : Bool} {x y : AV} {va vb : Value} {b : Bool} (h : eqA P T one x y = some b) (hx : VRel w S m va x) (hy : VRel w S m vb y) :
  (∀ w',(Op.equal T va vb).run P w' = .ok b w') ∧
  (va = .nilIface → vb = .nilIface → one = true) ∧ (∀ a c,va = .agg a → vb = .agg c → P.eqGuardType P.depth T = false) ∧
  (∀ k n,va ≠ .int k n) ∧ (∀ s,va ≠ .string s) ∧ (∀ k n,va ≠ .float k n) ∧ (∀ k a b,va ≠ .complex k a b) := by
 unfold eqA at h
 split at h
 ·cases h
 rename_i i hi
 obtain ⟨desc,size,bytes,zero⟩ := i
 have hu := fun w' => ti_under hi w'
 simp only at h hu
 split at h
 ·rename_i a c
  obtain rfl := hx.bool_inv
  obtain rfl := hy.bool_inv
  simp only [Option.some.injEq] at h; subst h
  refine ⟨fun w' => run_equalIn_bool w' 9999 T a c (tiOf_spec hi).1,?_⟩
  simp
 ·obtain rfl := hy.nils_inv
  unfold nilS at h
  split at h <;> simp only [Option.some.injEq,reduceCtorEq] at h <;> subst h
  ·obtain rfl := hx.nils_inv
   refine ⟨fun w' => ?_,by simp⟩
   have key : ∀ d,(Op.equalIn (d + 1) T (.slice none 0 0) (.slice none 0 0)).run P w' = .ok true w' := fun d => by simp [Op.equalIn,hu]
   exact key 9999
  ·cases hx with
   | fv _ _ hf =>
    cases hf with
    | lst a n c es xs u ad hn hcp hes ha =>
     have : a = some ad := ha (by rw [← hn]; simp)
     subst this
     refine ⟨fun w' => ?_,by simp⟩
     have key : ∀ d,(Op.equalIn (d + 1) T (.slice (some ad) n c) (.slice none 0 0)).run P w' = .ok false w' := fun d => by simp [Op.equalIn,hu]
     exact key 9999
  ·cases hx with
   | ref _ _ _ _ b o c hm hl hc =>
    refine ⟨fun w' => ?_,by simp⟩
    have key : ∀ d (ad : Addr) n,(Op.equalIn (d + 1) T (.slice (some ad) n c) (.slice none 0 0)).run P w' = .ok false w' := fun d ad n => by simp [Op.equalIn,hu]
    exact key 9999 _ _
 ·obtain rfl := hy.nil_inv
  unfold nilP at h
  split at h <;> simp only [Option.some.injEq,reduceCtorEq] at h <;> subst h
  ·obtain rfl := hx.nil_inv
   refine ⟨fun w' => ?_,by simp⟩
   have key : ∀ d,(Op.equalIn (d + 1) T (.pointer none) (.pointer none)).run P w' = .ok true w' := fun d => by simp [Op.equalIn,hu]
   exact key 9999
  ·cases hx
   refine ⟨fun w' => ?_,by simp⟩
   have key : ∀ d a,(Op.equalIn (d + 1) T (.pointer (some a)) (.pointer none)).run P w' = .ok false w' := fun d a => by simp [Op.equalIn,hu]
   exact key 9999 _
  ·cases hx
   refine ⟨fun w' => ?_,by simp⟩
   have key : ∀ d a,(Op.equalIn (d + 1) T (.pointer (some a)) (.pointer none)).run P w' = .ok false w' := fun d a => by simp [Op.equalIn,hu]
   exact key 9999 _
 ·obtain rfl := hy.nil_inv
  unfold nilM at h
  split at h <;> simp only [Option.some.injEq,reduceCtorEq] at h <;> subst h
  ·obtain rfl := hx.nil_inv
   refine ⟨fun w' => ?_,by simp⟩
   have key : ∀ d,(Op.equalIn (d + 1) T (.map none) (.map none)).run P w' = .ok true w' := fun d => by simp [Op.equalIn,hu]
   exact key 9999
  ·cases hx
   refine ⟨fun w' => ?_,by simp⟩
   have key : ∀ d a,(Op.equalIn (d + 1) T (.map (some a)) (.map none)).run P w' = .ok false w' := fun d a => by simp [Op.equalIn,hu]
   exact key 9999 _
 ·obtain rfl := hy.nil_inv
  unfold nilF at h
  split at h <;> simp only [Option.some.injEq,reduceCtorEq] at h <;> subst h
  ·obtain rfl := hx.nil_inv
   refine ⟨fun w' => ?_,by simp⟩
   have key : ∀ d,(Op.equalIn (d + 1) T .nilFunc .nilFunc).run P w' = .ok true w' := fun d => by simp [Op.equalIn,hu]
   exact key 9999
  ·cases hx
   refine ⟨fun w' => ?_,by simp⟩
   have key : ∀ d f a c,(Op.equalIn (d + 1) T (.func f a c) .nilFunc).run P w' = .ok false w' := fun d f a c => by simp [Op.equalIn,hu]
   exact key 9999 _ _ _
 ·obtain rfl := hy.nil_inv
  split at h
  case isFalse => cases h
  rename_i hone
  unfold nilI at h
  split at h <;> simp only [Option.some.injEq,reduceCtorEq] at h <;> subst h
  ·obtain rfl := hx.nil_inv
   refine ⟨fun w' => ?_,by simp [hone]⟩
   have key : ∀ d,(Op.equalIn (d + 1) T .nilIface .nilIface).run P w' = .ok true w' := fun d => by simp [Op.equalIn,hu]
   exact key 9999
  ·cases hx
   refine ⟨fun w' => ?_,by simp⟩
   have key : ∀ d t v,(Op.equalIn (d + 1) T (.iface t v) .nilIface).run P w' = .ok false w' := fun d t v => by simp [Op.equalIn,hu]
   exact key 9999 _ _
 ·split at h
  case h_2 => cases h
  rename_i c r s hc hr hs
  split at h
  case isFalse => cases h
  rename_i hcf
  simp only [Option.some.injEq] at h; subst h
  simp only [Bool.and_eq_true] at hcf
  obtain ⟨vs,rfl,hvs⟩ := hx.agg_inv
  obtain ⟨us,rfl,hus⟩ := hy.agg_inv
  unfold aggTy at hc
  split at hc
  ·cases hc
  rename_i hg
  simp only [Bool.not_eq_true] at hg
  obtain ⟨l1,r1⟩ := toFs_rel hvs hr
  obtain ⟨l2,r2⟩ := toFs_rel hus hs
  have e1 := rows_conc l1 r1 hcf.1.2
  have e2 := rows_conc l2 r2 hcf.2
  refine ⟨fun w' => ?_,by simp [hg]⟩
  exact (EqTy.of_cts (P := P) 20 9980 T c hc) w' _ r s (.agg vs) (.agg us) hi hcf.1.2 hcf.2 (.inl ⟨hcf.1.1,vs,rfl,e1⟩) (.inl ⟨hcf.1.1,us,rfl,e2⟩)
 ·cases h
theorem run_eqGuard {op : BinOp} {T : TypeId} {x y : Operand} {va vb : Value} (h1 : va = .nilIface → vb = .nilIface → (isC x || isC y) = true)
  (h2 : ∀ a c,va = .agg a → vb = .agg c → P.eqGuardType P.depth T = false) (w' : World) : (eqGuard op T x y va vb).run P w' = .ok () w' := by
 unfold eqGuard
 cases op
 case eql | neq =>
  simp only [Bool.not_true,Bool.false_eq_true,if_false]
  split
  ·have := h1 rfl rfl
   cases x <;> cases y <;> first | rfl | exact absurd this Bool.false_ne_true
  ·have := h2 _ _ rfl rfl
   simp [this]
  ·rfl
 all_goals rfl
theorem intBits_run {op : BinOp} {k : IntKind} {a b r : Int} (h : intBits op k a b = some r) (w' : World) : (Op.intBits op k a b).run P w' = .ok (.int k r) w' := by
 unfold intBits at h
 cases op <;> simp only [Option.some.injEq,reduceCtorEq] at h <;> subst h <;> rfl
theorem intA_sound {op : BinOp} {k : IntKind} {a b : Int} {T : TypeId} {r : FV} (hs : isShift op = false) (h : intA op k a b = some r) :
  ∃ v,(∀ w',(binOp op T (.int k a) (.int k b)).run P w' = .ok v w') ∧ VRel w S m v (.fv r) := by
 cases op <;> simp only [intA,Option.some.injEq,reduceCtorEq,Option.map_eq_some_iff] at h <;> first
  | (subst h; exact ⟨_,fun w' => by simp [binOp,Op.intArith],VRel.int_mk ..⟩)
  | (subst h; exact ⟨_,fun w' => by simp [binOp,Op.intCmp],VRel.bool_mk _⟩)
  | (obtain ⟨z,hz,rfl⟩ := h; exact ⟨_,fun w' => by simp only [binOp,ne_eq,not_true_eq_false,if_false]; exact intBits_run hz w',VRel.int_mk ..⟩)
  | (split at h <;> simp only [Option.some.injEq,reduceCtorEq] at h; subst h; rename_i hb; exact ⟨_,fun w' => by simp [binOp,Op.intDiv,hb],VRel.int_mk ..⟩)
  | (simp [isShift] at hs)
theorem shiftA_sound {op : BinOp} {k k' : IntKind} {a b : Int} {T : TypeId} {r : FV} (h : shiftA op k a b = some r) :
  ∃ v,(∀ w',(binOp op T (.int k a) (.int k' b)).run P w' = .ok v w') ∧ VRel w S m v (.fv r) := by
 unfold shiftA at h
 split at h
 ·cases h
 rename_i hb
 cases op <;> simp only [Option.some.injEq,reduceCtorEq] at h <;> subst h <;>
  exact ⟨_,fun w' => by simp [binOp,Op.shift,hb],VRel.int_mk ..⟩
theorem strA_sound {op : BinOp} {a b : List UInt8} {T : TypeId} {r : FV} (h : strA op a b = some r) :
  ∃ v,(∀ w',(binOp op T (.string ⟨a.toArray⟩) (.string ⟨b.toArray⟩)).run P w' = .ok v w') ∧ VRel w S m v (.fv r) := by
 cases op <;> simp only [strA,Option.some.injEq,reduceCtorEq] at h
 case add =>
  split at h <;> simp only [Option.some.injEq,reduceCtorEq] at h
  subst h
  rename_i hl
  refine ⟨.string ⟨(a ++ b).toArray⟩,fun w' => ?_,VRel.str_mk _⟩
  have h1 : ¬ ((((⟨a.toArray⟩ : ByteArray).size + (⟨b.toArray⟩ : ByteArray).size : Nat) : Int) > IntKind.i64.max) := by
   have : IntKind.i64.max = 9223372036854775807 := by decide
   rw [this]
   simp only [ByteArray.size,List.size_toArray]
   omega
  simp only [binOp,Op.stringOp,h1,if_false,Sem.run_pure]
  congr 2
 all_goals (subst h; exact ⟨_,fun w' => by simp [binOp,Op.stringOp,ByteArray.toList_eq],VRel.bool_mk _⟩)
theorem bB_inv {v : Value} {x : AV} {k : Bool → Prop} (h : bB x k) (hv : VRel w S m v x) : ∃ b,v = .bool b ∧ k b := by
 unfold bB at h
 split at h
 ·exact ⟨_,hv.bool_inv,h⟩
 ·cases hv with
  | anyb b => cases b with
   | false => exact ⟨_,rfl,h.2⟩
   | true => exact ⟨_,rfl,h.1⟩
 ·exact h.elim
theorem unk_sound {op : BinOp} {T : TypeId} {x y : Operand} {a b : AV} {va vb : Value} (hu : unk P T a b = true) (ho : isEq op = true) (hx : VRel w S m va a) (hy : VRel w S m vb b) :
  ∃ v,(∀ w',(do eqGuard op T x y va vb; binOp op T va vb : Sem Value).run P w' = .ok v w') ∧ VRel w S m v .anyb := by
 unfold unk at hu
 split at hu
 case h_2 => cases hu
 rename_i e _ _ _ hT
 have hun := fun w' => ti_under hT w'
 obtain rfl := hy.nils_inv
 have hs : ∃ p n c,va = .slice p n c := by
  split at hu
  ·cases hx with
   | fv _ _ hf => cases hf with
    | lst p n c => exact ⟨p,n,c,rfl⟩
  ·cases hx with
   | ref => exact ⟨_,_,_,rfl⟩
   | refz => exact ⟨_,_,_,rfl⟩
  ·cases hu
 obtain ⟨p,n,c,rfl⟩ := hs
 have key : ∃ r,∀ w' d,(Op.equalIn (d + 1) T (.slice p n c) (.slice none 0 0)).run P w' = .ok r w' := by
  cases p with
  | none => exact ⟨true,fun w' d => by simp [Op.equalIn,hun]⟩
  | some p => exact ⟨false,fun w' d => by simp [Op.equalIn,hun]⟩
 obtain ⟨r,hr⟩ := key
 have hg : ∀ w',(eqGuard op T x y (.slice p n c) (.slice none 0 0)).run P w' = .ok () w' := fun w' => run_eqGuard (by simp) (by simp) w'
 have heq : ∀ w',(Op.equal T (.slice p n c) (.slice none 0 0)).run P w' = .ok r w' := fun w' => hr w' 9999
 cases op <;> simp [isEq] at ho
 ·exact ⟨.bool r,fun w' => by simp [hg,binOp,heq],.anyb r⟩
 ·exact ⟨.bool !r,fun w' => by simp [hg,binOp,heq],.anyb _⟩
theorem binA_sound {op : BinOp} {T : TypeId} {x y : Operand} {a b r : AV} {va vb : Value} (h : binA P op T (isC x || isC y) a b = some r) (hx : VRel w S m va a) (hy : VRel w S m vb b) :
  ∃ v,(∀ w',(do eqGuard op T x y va vb; binOp op T va vb : Sem Value).run P w' = .ok v w') ∧ VRel w S m v r := by
 unfold binA at h
 split at h
 ·rename_i k n k' n'
  obtain rfl := hx.int_inv
  obtain rfl := hy.int_inv
  have hg : ∀ w',(eqGuard op T x y (.int k n) (.int k' n')).run P w' = .ok () w' := fun w' => run_eqGuard (by simp) (by simp) w'
  split at h
  ·simp only [Option.map_eq_some_iff] at h
   obtain ⟨z,hz,rfl⟩ := h
   obtain ⟨v,h1,h2⟩ := shiftA_sound (P := P) (w := w) (S := S) (m := m) (k' := k') (T := T) hz
   exact ⟨v,fun w' => by simp [hg,h1],h2⟩
  ·rename_i hs
   split at h
   case isFalse => cases h
   rename_i hk; subst hk
   simp only [Option.map_eq_some_iff] at h
   obtain ⟨z,hz,rfl⟩ := h
   obtain ⟨v,h1,h2⟩ := intA_sound (P := P) (w := w) (S := S) (m := m) (T := T) (by simpa using hs) hz
   exact ⟨v,fun w' => by simp [hg,h1],h2⟩
 ·rename_i s t
  obtain rfl := hx.str_inv
  obtain rfl := hy.str_inv
  have hg : ∀ w',(eqGuard op T x y (.string ⟨s.toArray⟩) (.string ⟨t.toArray⟩)).run P w' = .ok () w' := fun w' => run_eqGuard (by simp) (by simp) w'
  simp only [Option.map_eq_some_iff] at h
  obtain ⟨z,hz,rfl⟩ := h
  obtain ⟨v,h1,h2⟩ := strA_sound (P := P) (w := w) (S := S) (m := m) (T := T) hz
  exact ⟨v,fun w' => by simp [hg,h1],h2⟩
 ·split at h
  rotate_left
  ·split at h
   case isFalse => cases h
   rename_i hu
   simp only [Option.some.injEq] at h; subst h
   simp only [Bool.and_eq_true] at hu
   obtain ⟨hu,ho⟩ := hu
   exact unk_sound hu ho hx hy
  rename_i e he
  have hn := h
  obtain ⟨h1,h2,h3,h4,h5,h6,h7⟩ := eqA_sound he hx hy
  have hg : ∀ w',(eqGuard op T x y va vb).run P w' = .ok () w' := fun w' => run_eqGuard h2 h3 w'
  cases op <;> simp only [negB,Option.some.injEq,reduceCtorEq] at hn <;> subst hn
  ·refine ⟨.bool e,fun w' => ?_,VRel.bool_mk _⟩
   simp only [Sem.run_bind,hg,Result.andThen_ok]
   unfold binOp
   split <;> simp_all
  ·refine ⟨.bool !e,fun w' => ?_,VRel.bool_mk _⟩
   simp only [Sem.run_bind,hg,Result.andThen_ok]
   unfold binOp
   split <;> simp_all
theorem unA_sound {op : UnOp} {x r : AV} {v : Value} (h : unA op x = some r) (hx : VRel w S m v x) : ∃ u,(∀ w',(Op.unary op v).run P w' = .ok u w') ∧ VRel w S m u r := by
 unfold unA at h
 split at h
 ·obtain rfl := hx.int_inv
  simp only [Option.some.injEq] at h; subst h
  exact ⟨_,fun w' => rfl,VRel.int_mk ..⟩
 ·obtain rfl := hx.int_inv
  simp only [Option.map_eq_some_iff] at h
  obtain ⟨z,hz,rfl⟩ := h
  exact ⟨_,fun w' => intBits_run hz w',VRel.int_mk ..⟩
 ·obtain rfl := hx.bool_inv
  simp only [Option.some.injEq] at h; subst h
  exact ⟨_,fun w' => rfl,VRel.bool_mk _⟩
 ·cases h
end
end Go.Abs
/- The pure operations, one and all. -/
namespace Go.Abs
variable [Kn]
set_option linter.unusedSectionVars false
set_option linter.unusedVariables false
set_option linter.unusedSimpArgs false
theorem add_add (a : Addr) (p q : Nat) : (a.add p).add q = a.add (p + q) := by
 unfold Addr.add
 by_cases hp : p = 0 <;> by_cases hq : q = 0 <;> simp_all
 all_goals omega
theorem add_at (b o n : Nat) : (⟨b,o,none⟩ : Addr).add n = ⟨b,o + n,none⟩ := by
 unfold Addr.add; split <;> simp_all
section
variable {P : Program} {w : World} {S : Nat → Prop} {m : List Loc}
theorem solid_nilCheck {v : Value} {x : AV} (h : solid x = true) (hx : VRel w S m v x) {o : Oper} {ρ : Operand → Value} {y : Operand} (ho : o.op = .nilCheck y) (hv : ρ y = v) (w' : World) :
  (execOp ρ o).run P w' = .ok (.value v) w' := by
 unfold execOp
 rw [ho]
 simp only [hv]
 cases hx <;> simp [solid] at h
 ·rename_i hf
  cases hf <;> simp at h
  rfl
 all_goals rfl
theorem asI_inv {x : AV} {v : Value} {n : Int} (h : asI x = some n) (hx : VRel w S m v x) : ∃ k,v = .int k n := by
 unfold asI at h
 split at h <;> simp at h
 subst h
 exact ⟨_,hx.int_inv⟩
theorem asN_inv {x : AV} {v : Value} {n : Nat} (h : asN x = some n) (hx : VRel w S m v x) : ∃ k i,v = .int k i ∧ 0 ≤ i ∧ i.toNat = n := by
 unfold asN at h
 simp only [Option.bind_eq_some_iff] at h
 obtain ⟨i,hi,h⟩ := h
 split at h <;> simp at h
 obtain ⟨k,rfl⟩ := asI_inv hi hx
 exact ⟨k,i,rfl,by assumption,h⟩
theorem run_sliceBound_ok {k : IntKind} {i : Int} {n y : Nat} (h0 : 0 ≤ i) (hn : i.toNat = n) (hy : n ≤ y) (code : BoundsCode) (w' : World) : (Instr.sliceBound (.int k i) y code).run P w' = .ok n w' := by
 unfold Instr.sliceBound
 have : 0 ≤ i ∧ i ≤ (y : Int) := ⟨h0,by omega⟩
 simp [asIntOf,this,hn]
theorem LRel.drop {vs : List Value} {xs : List AV} (h : LRel w S m vs xs) (n : Nat) : LRel w S m (vs.drop n) (xs.drop n) :=
 ⟨by simp [h.1],fun i v x hv hx => h.2 (n + i) v x (by simpa using hv) (by simpa using hx)⟩
theorem LRel.take {vs : List Value} {xs : List AV} (h : LRel w S m vs xs) (n : Nat) : LRel w S m (vs.take n) (xs.take n) :=
 ⟨by simp [h.1],fun i v x hv hx => by
  rw [List.getElem?_take] at hv hx
  split at hv
  ·rename_i hi; simp [hi] at hx; exact h.2 i v x hv hx
  ·cases hv⟩
theorem LRel.toAgg {vs : Array Value} {xs : List AV} (h : LRel w S m vs.toList xs) : VRel w S m (.agg vs) (.agg xs) :=
 .agg vs xs (by simpa using h.1) (fun i v x hv hx => h.2 i v x (by simpa using hv) hx)
theorem partA_sound {T : TypeId} {i : TI} (hi : tiOf P T = some i) {cs : Array Value} {xs : List AV} {off : Nat} {r : AV} (hc : LRel w S m cs.toList xs) (h : partA i xs off = some r) :
  ∃ v,(∀ w',(part T cs off).run P w' = .ok v w') ∧ VRel w S m v r := by
 unfold partA at h
 unfold part
 cases ha : i.isAgg with
 | true =>
  simp only [ha,if_true] at h
  split at h <;> simp at h
  subst h
  refine ⟨.agg (cs.extract off (off + i.size)),fun w' => by simp only [Sem.run_bind,ti_isAgg hi w',ha,Result.andThen_ok,if_true,ti_size hi w',Sem.run_pure],LRel.toAgg ?_⟩
  rw [Array.toList_extract,List.extract_eq_take_drop]
  rw [show off + i.size - off = i.size from by omega]
  exact (hc.drop off).take i.size
 | false =>
  simp only [ha,Bool.false_eq_true,if_false] at h
  have hlt : off < cs.size := by
   have := (List.getElem?_eq_some_iff.1 h).1
   have := hc.1; simp at this; omega
  refine ⟨cs[off],fun w' => ?_,hc.2 off _ r (by simp [hlt]) h⟩
  simp [ti_isAgg hi w',ha,hlt]
theorem addrA_sound {v : Value} {x r : AV} {n : Nat} (h : addrA x n = some r) (hx : VRel w S m v x) : ∃ a,v = .pointer (some a) ∧ VRel w S m (.pointer (some (a.add n))) r := by
 unfold addrA at h
 split at h <;> simp at h <;> subst h
 ·rename_i id es r off
  cases hx with
  | ptr id es r off b o hm =>
   refine ⟨_,rfl,?_⟩
   rw [add_at]
   have := VRel.ptr (w := w) (S := S) id es r (off + n) b o hm
   rwa [← Nat.add_assoc] at this
 ·cases hx with
  | fptr ad row u hs hc hr =>
   refine ⟨ad,rfl,.fptr _ _ (fun j => u (n + j)) (by rw [add_block]; exact hs) (fun j hj => ?_) (fun j y hy => hr (n + j) y (by simpa using hy))⟩
   rw [add_add]
   exact hc (n + j) (by simp at hj; omega)
 ·cases hx with
  | gptr =>
   refine ⟨_,rfl,?_⟩
   rw [add_at]
   exact .gptr _ _
theorem idxAddrA_sound {T : TypeId} {x r : AV} {v vi : Value} {k : IntKind} {n : Int} (h : idxAddrA P T x n = some r) (hx : VRel w S m v x) :
  ∃ u,(∀ w',(Instr.indexAt T v (.int k n)).run P w' = .ok u w') ∧ VRel w S m u r := by
 unfold idxAddrA at h
 split at h
 ·rename_i e _ _ _ hT
  split at h
  case h_2 => cases h
  rename_i ie hie
  split at h
  ·rename_i es xs
   split at h
   case isFalse => cases h
   rename_i hc
   simp only [Option.map_eq_some_iff] at h
   obtain ⟨row,hrow,rfl⟩ := h
   obtain ⟨hsz,h0⟩ := hc
   cases hx with
   | fv _ _ hf =>
    cases hf with
    | lst a len c es xs u ad hn hcp hes ha hs hcell hr =>
     have hlt : n.toNat < xs.length := (List.getElem?_eq_some_iff.1 hrow).1
     have ha' := ha (by omega)
     subst ha'
     refine ⟨.pointer (some (ad.add (n.toNat * ie.size))),fun w' => ?_,?_⟩
     ·have : 0 ≤ n ∧ n < (len : Int) := ⟨h0,by omega⟩
      simp [Instr.indexAt,asIntOf,ti_under hT,this,ti_size hie]
     ·rw [hsz]
      refine .fptr _ row (fun j => u n.toNat j) (by rw [add_block]; exact hs (by omega)) (fun j hj => ?_) (fun j y hy => hr n.toNat j row y hrow hy)
      rw [add_add]
      exact hcell n.toNat j (by omega) (by rw [← hes _ _ hrow]; exact hj)
  ·rename_i id es off len
   split at h <;> simp at h
   subst h
   rename_i hc
   obtain ⟨hsz,h0,h1⟩ := hc
   cases hx with
   | ref id es off len b o c hm hl hcap =>
    refine ⟨.pointer (some ((⟨b,o + off * es,none⟩ : Addr).add (n.toNat * ie.size))),fun w' => ?_,?_⟩
    ·have : 0 ≤ n ∧ n < (len : Int) := ⟨h0,h1⟩
     simp [Instr.indexAt,asIntOf,ti_under hT,this,ti_size hie]
    ·rw [add_at,hsz]
     have := VRel.ptr (w := w) (S := S) id es (off + n.toNat) 0 b o hm
     rw [Nat.add_mul,Nat.add_zero,← Nat.add_assoc] at this
     exact this
   | refz => omega
  ·cases h
 ·rename_i len e _ _ _ hT
  split at h
  case h_2 => cases h
  rename_i ie hie
  split at h
  case isFalse => cases h
  rename_i hc
  obtain ⟨a,rfl,hr⟩ := addrA_sound h hx
  refine ⟨_,fun w' => ?_,hr⟩
  have : 0 ≤ n ∧ n < (len : Int) := hc
  simp [Instr.indexAt,asIntOf,ti_under hT,this,ti_size hie,Instr.sureAddr]
 ·cases h
theorem idxA_sound {T : TypeId} {x r : AV} {v : Value} {k : IntKind} {n : Int} (h : idxA P T x n = some r) (hx : VRel w S m v x) :
  ∃ u,(∀ w',(Instr.index T v (.int k n)).run P w' = .ok u w') ∧ VRel w S m u r := by
 unfold idxA at h
 split at h
 ·rename_i hT
  split at h
  case h_2 => cases h
  rename_i s
  split at h
  case isFalse => cases h
  rename_i h0
  simp only [Option.map_eq_some_iff] at h
  obtain ⟨b,hb,rfl⟩ := h
  obtain rfl := hx.str_inv
  refine ⟨.int .u8 b.toNat,fun w' => ?_,VRel.int_mk ..⟩
  have hlt : n.toNat < s.length := (List.getElem?_eq_some_iff.1 hb).1
  have hb' : s[n.toNat]'hlt = b := (List.getElem?_eq_some_iff.1 hb).2
  have : (⟨s.toArray⟩ : ByteArray)[n.toNat]? = some b := by
   have hsz : n.toNat < (⟨s.toArray⟩ : ByteArray).size := by simpa [ByteArray.size] using hlt
   have e := getElem?_pos (⟨s.toArray⟩ : ByteArray) n.toNat hsz
   rw [e,← hb']
   rfl
  simp [Instr.index,asIntOf,ti_under hT,h0,this]
 ·rename_i len e _ _ _ hT
  split at h
  case h_2 => cases h
  rename_i ie cs hie
  split at h
  case isFalse => cases h
  rename_i hc
  obtain ⟨vs,rfl,hvs⟩ := hx.agg_inv
  obtain ⟨u,h1,h2⟩ := partA_sound hie hvs h
  refine ⟨u,fun w' => ?_,h2⟩
  have : 0 ≤ n ∧ n < (len : Int) := hc
  simp [Instr.index,asIntOf,ti_under hT,this,ti_size hie,h1]
 ·cases h
theorem convA_sound {s d : TypeId} {x r : AV} {v : Value} (h : convA P s d x = some r) (hx : VRel w S m v x) :
  ∃ u,(∀ w',(convert s d v).run P w' = .ok u w') ∧ VRel w S m u r := by
 unfold convA at h
 split at h
 ·rename_i is k _ _ _ k' n hs hd
  simp at h; subst h
  obtain rfl := hx.int_inv
  refine ⟨.int k (k.wrap n),fun w' => ?_,VRel.int_mk ..⟩
  simp only [convert,Sem.run_bind,ti_under hs,ti_under hd,Result.andThen_ok]
  cases is.desc <;> rfl
 ·rename_i t hs hd
  simp at h; subst h
  obtain rfl := hx.str_inv
  refine ⟨_,fun w' => ?_,VRel.str_mk _⟩
  simp [convert,ti_under hs,ti_under hd]
 ·rename_i k n hs hd
  simp at h; subst h
  obtain rfl := hx.int_inv
  refine ⟨.string (Utf8.encode n),fun w' => ?_,?_⟩
  ·simp [convert,ti_under hs,ti_under hd,Conv.intToString]
  ·exact VRel.str_mk (w := w) (S := S) (m := m) (Utf8.encode n).data.toList
 ·cases h
theorem lenA_sound {x : AV} {v : Value} {n : Nat} (h : lenA x = some n) (hx : VRel w S m v x) : (∃ s,v = .string s ∧ s.size = n) ∨ (∃ a c,v = .slice a n c) := by
 unfold lenA at h
 split at h <;> simp at h
 ·subst h; obtain rfl := hx.str_inv; exact .inl ⟨_,rfl,by simp [ByteArray.size]⟩
 ·subst h
  cases hx with
  | fv _ _ hf => cases hf with | lst a n c es xs u ad hn => subst hn; exact .inr ⟨a,c,rfl⟩
 ·subst h; obtain rfl := hx.nils_inv; exact .inr ⟨none,0,rfl⟩
 ·subst h
  cases hx with
  | ref => exact .inr ⟨_,_,rfl⟩
  | refz => exact .inr ⟨_,_,rfl⟩
end
end Go.Abs
