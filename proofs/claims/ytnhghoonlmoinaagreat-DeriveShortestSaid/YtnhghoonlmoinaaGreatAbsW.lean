/- Deferred calls, and recover. -/
import Derived.Test.YtnhghoonlmoinaaGreatAbsS
import Derived.Recover
import Derived.Laws.LoneSync
import Derived.Lib.Bytealg
import Derived.Test.YtnhghoonlmoinaaGreatAbsZ
import Derived.Test.YtnhghoonlmoinaaGreatAbsU
namespace Go.Abs
variable [Kn]
set_option linter.unusedSectionVars false
set_option linter.unusedVariables false
set_option linter.unusedSimpArgs false
/-- How a frame is being left. -/
inductive AMode where
 | ret
 | pan (v : AV) (recovered : Bool)
inductive MRel (w : World) (S : Nat → Prop) (m : List Loc) : FrameMode → AMode → Prop
 | ret : MRel w S m .returning .ret
 | pan (u : Value) (v : AV) (r : Bool) (h : VRel w S m u v) : MRel w S m (.panicking [{ v := u,recovered := r }]) (.pan v r)
def settleA : AMode → AMode
 | .pan _ true => .ret
 | u => u
/-- What recover gives, and how the frame is left then. -/
def recA : AMode → AV × AMode
 | .ret => (.fv (.nil .nilIface),.ret)
 | .pan v false => (v,.pan v true)
 | .pan v true => (.fv (.nil .nilIface),.pan v true)
section
variable {P : Program} {w0 : World} {S0 : Nat → Prop} {m0 : List Loc} {w : World} {S : Nat → Prop} {m : List Loc} {a : Act} {st : St}
theorem MRel.settle {u : FrameMode} {x : AMode} (h : MRel w S m u x) : MRel w S m (settle u) (settleA x) := by
 cases h with
 | ret => exact .ret
 | pan u v r h =>
  cases r with
  | true => exact .ret
  | false => exact .pan u v false h
theorem MRel.fr {w' : World} {S' : Nat → Prop} {m' : List Loc} {u : FrameMode} {x : AMode} (h : MRel w S m u x) (hf : Fr w S m w' S' m') (hlow : ∀ (i b o : Nat),m[i]? = some (some (b,o)) → b < w.heap.size) : MRel w' S' m' u x := by
 cases h with
 | ret => exact .ret
 | pan u v r h => exact .pan u v r (h.move (Move.of_fr hf) hlow)
theorem MRel.run {u : FrameMode} {x : AMode} (h : MRel w S m u x) : u ≠ .run := by
 cases h <;> simp
/-- The contract of a deferred call: it returns. -/
def OkD (P : Program) (f : FuncId) (args : List AV) (u : AMode) (h : List Blk) (u' : AMode) (h' : List Blk) : Prop :=
 Enter P f ∧ ∀ w S m cargs mode,GOk P w S → HRel w S m h → LRel w S m cargs args → MRel w S m mode u →
  CallsD P f cargs.toArray mode w fun e mode' w' => (∃ v,e = .returned v) ∧ ∃ S' m',HRel w' S' m' h' ∧ MRel w' S' m' mode' u' ∧ Fr w S m w' S' m'
theorem okd_plain (hmix : P.follows .mixedOrders = true) {f : FuncId} {fn : Func} {c : Code} (hf : P.funcs[f]? = some fn) (hn : (fn.name == "runtime.NumGoroutine") = false) (hb : fn.body = some c)
  {args : List AV} {h : List Blk} {x : AV} {h' : List Blk} (ht : args.length ≤ fn.ntmps)
  (hw : awp P h.length c (retA P fn h.length (.ret x) h') { t := args ++ List.replicate (fn.ntmps - args.length) .undef,h := h,d := [] }) (u : AMode) : OkD P f args u h u h' :=
 ⟨⟨fn,hf,hn,by rw [hb]; rfl⟩,fun w S m cargs mode hG hh hl hm => (callsD_of_wp hf hb (body_wp hmix ht hw hG hh hl)).mono fun e u' w' ⟨hu,S',m',h1,h2,h3⟩ => by
  subst hu
  refine ⟨?_,S',m',h1,hm.fr h3 hh.lowm,h3⟩
  cases e with
  | returned v => exact ⟨v,rfl⟩
  | panicked c => exact h2.elim
  | outgrown => exact h2.elim⟩
theorem opsS_sound (hG : GOk P w0 S0) (ops : Array Oper) (Q : AEx → St → Prop) (cs : List Frame) (QS : Exit → Act → List Frame → World → Prop) (hQ : ∀ e a w,QC w0 S0 m0 Q e a w → QS e a cs w) :
  ∀ (l : List Nat) (st : St) (w : World) (S : Nat → Prop) (m : List Loc) (a : Act),RelSM w0 S0 m0 w S m a st → awpOps P ops Q l st → wpOpsS P ops QS l a cs w
 | [],st,w,S,m,a,hr,h => hQ _ _ _ ⟨S,m,.normal,st,trivial,hr,h⟩
 | i :: rest,st,w,S,m,a,hr,h => by
  simp only [awpOps] at h
  simp only [wpOpsS]
  cases ho : ops[i]? with
  | none =>
   simp only [ho] at h ⊢
   exact opsS_sound hG ops Q cs QS hQ rest st w S m a hr h
  | some o =>
   simp only [ho] at h ⊢
   rcases gd_sound hr h with ⟨hw,h1⟩ | ⟨hw,h1⟩
   ·simp only [hw,if_true]
    have := Oper.wp_mono2 (next' := fun a' w' => wpOpsS P ops QS rest a' cs w') (Q' := fun e a' w' => QS e a' cs w') (op_sound hG hr h1 o.dst rfl) (fun a' w' hn => by
     obtain ⟨S',m',v,s,hk,hr',_⟩ := hn
     exact opsS_sound hG ops Q cs QS hQ rest _ w' S' m' a' hr' hk) (fun c a' w' hq => by
     obtain ⟨S',m',v,s,u,he,hv,hx,hr'⟩ := hq
     injection he with he
     subst he
     exact hQ _ _ _ ⟨S',m',.pan v,_,⟨u,rfl,hv⟩,hr'.forget ops,hx⟩) (fun hq => by
     obtain ⟨a',w',S',m',v,s,u,he,_⟩ := hq
     cases he)
    unfold Oper.wp at this
    split
    ·rename_i w' hrun
     rw [hrun] at this
     exact this.elim
    ·exact this
   ·simp only [hw,Bool.false_eq_true,if_false]
    exact opsS_sound hG ops Q cs QS hQ rest _ w S m _ (hr.put .undef o.dst) h1
theorem okd_rec (hmix : P.follows .mixedOrders = true) {f : FuncId} {fn : Func} {id : Nat} {ops : Array Oper} {rest : Code} (hf : P.funcs[f]? = some fn) (hn : (fn.name == "runtime.NumGoroutine") = false) (hb : fn.body = some (.seq (.region id ops false) rest))
  {r : Oper} (ho : ops[0]? = some r) (hro : r.op = .call { callee := .builtin .recover,args := #[],argTypes := #[] }) (hg : r.guard = none)
  {args : List AV} {h : List Blk} {x : AV} {h' : List Blk} {u : AMode} (ht : args.length ≤ fn.ntmps)
  (hw : awpOps P ops (AEx.then (awp P h.length rest (retA P fn h.length (.ret x) h')) (retA P fn h.length (.ret x) h')) (List.range ops.size).tail
   (({ t := args ++ List.replicate (fn.ntmps - args.length) .undef,h := h,d := [] } : St).put r.dst (recA u).1)) : OkD P f args u h (recA u).2 h' := by
 refine ⟨⟨fn,hf,hn,by rw [hb]; rfl⟩,fun w S m cargs mode hG hh hl hm => callsD_of_wpS hf hb fun c₀ cs hc₀ => ?_⟩
 have hlen : m.length = h.length := hh.len
 have h0 : 0 < ops.size := (Array.getElem?_eq_some_iff.1 ho).1
 have hrange : List.range ops.size = 0 :: (List.range ops.size).tail := by
  cases hs : ops.size with
  | zero => omega
  | succ n => simp [List.range_succ_eq_map]
 have hrun : ∀ a : Act,(execOp a.eval r).run P w = .ok .recover w := fun a => by
  simp [execOp,hro,resolve,invoke,builtin]
 have hwant : ∀ y,Region.wanted r y = true := fun y => by simp [Region.wanted,hg]
 -- what recover gives
 obtain ⟨rv,mode2,hrv,hm2,hrec⟩ : ∃ rv mode2,VRel w S m rv (recA u).1 ∧ MRel w S m mode2 (recA u).2 ∧
   ((recoverD (c₀ :: cs) = some (rv,{ c₀ with mode := mode2 } :: cs)) ∨ (recoverD (c₀ :: cs) = none ∧ rv = .nilIface ∧ mode2 = c₀.mode)) := by
  subst hc₀
  generalize hmo : c₀.mode = mode at hm
  cases hm with
  | ret => exact ⟨.nilIface,.returning,.fv _ _ (.nil _ rfl),.ret,.inr ⟨by simp [recoverD,hmo],rfl,rfl⟩⟩
  | pan uu v rr hv =>
   cases rr with
   | true => exact ⟨.nilIface,_,.fv _ _ (.nil _ rfl),.pan uu v true hv,.inr ⟨by simp [recoverD,hmo],rfl,rfl⟩⟩
   | false => exact ⟨uu,_,hv,.pan uu v true hv,.inl (by simp [recoverD,hmo])⟩
 have hcs : ∃ cs',cs' = { c₀ with mode := mode2 } :: cs ∧ ∀ (ops : Array Oper) (QS : Exit → Act → List Frame → World → Prop) (l : List Nat) (a : Act),wpOpsS P ops QS l (a.put r.dst rv) cs' w →
   (match recoverD (c₀ :: cs) with
    | some (v,cs') => wpOpsS P ops QS l (a.put r.dst v) cs' w
    | none => wpOpsS P ops QS l (a.put r.dst .nilIface) (c₀ :: cs) w) := by
  refine ⟨_,rfl,fun ops QS l a h => ?_⟩
  rcases hrec with h1 | ⟨h1,rfl,rfl⟩
  ·rw [h1]; exact h
  ·rw [h1]; exact h
 obtain ⟨cs',hcs',hgo⟩ := hcs
 have fin : ∀ (e : Exit) (a' : Act) (w' : World),QC w S m (retA P fn h.length (.ret x) h') e a' w' → bodyPostS P fn c₀ cs (fun e mode' w' => (∃ v,e = .returned v) ∧ ∃ S' m',HRel w' S' m' h' ∧ MRel w' S' m' mode' (recA u).2 ∧ Fr w S m w' S' m') e a' cs' w' := fun e a' w' hq => by
  obtain ⟨S1,m1,ae,st',he,hr',hq'⟩ := hq
  have hdl := hr'.defs.1
  have good : (st'.d = [] ∧ ∃ vs,resAs P st' fn.results.toList = some vs ∧ outOk h.length (.ret x) (pack vs) st'.h h') → a'.defers = [] ∧ ∃ u',cs' = { c₀ with mode := u' } :: cs ∧ ∃ v,(results fn a'.tmps).run P w' = .ok v w' ∧
    (∃ v',Ending.returned v = .returned v') ∧ ∃ S' m',HRel w' S' m' h' ∧ MRel w' S' m' u' (recA u).2 ∧ Fr w S m w' S' m' := by
   rintro ⟨hd,vs,hvs,ho⟩
   rw [hd] at hdl
   obtain ⟨v,hv,S',m',g1,g2,g3⟩ := res_rel hG hr' hlen hvs ho
   exact ⟨List.eq_nil_of_length_eq_zero (by simpa using hdl),mode2,hcs',v,hv,⟨v,rfl⟩,S',m',g1,hm2.fr g3 hh.lowm,g3⟩
  cases e <;> cases ae <;> simp only [ExRel] at he
  case normal.normal => exact good hq'
  case ret.ret => exact good hq'
  case exit.exit => exact hq'.elim
  case panic.pan v => exact hq'.2.elim
 refine wpS_seq (wpS_region ?_)
 rw [hrange]
 simp only [wpOpsS,ho,hwant,if_true,hrun]
 refine hgo _ _ _ _ ?_
 have hr0 := start_rel (fn := fn) ht hh hl
 refine opsS_sound hG ops _ cs' _ (fun e a' w' hq => ?_) _ _ w S m _ (hr0.put hrv r.dst) hw
 obtain ⟨S1,m1,ae,st',he,hr',hq'⟩ := hq
 cases e <;> cases ae <;> simp only [ExRel] at he
 case normal.normal => exact wpS_of_wp (wp_mono (awp_sound hmix rest _ st' w S m w' S1 m1 a' hG (by rw [hlen]; exact hq') hr') fin)
 case ret.ret => exact fin .ret a' w' ⟨S1,m1,.ret,st',trivial,hr',hq'⟩
 case exit.exit => exact fin (.exit _) a' w' ⟨S1,m1,.exit _,st',he,hr',hq'⟩
 case panic.pan => exact fin (.panic _) a' w' ⟨S1,m1,.pan _,st',he,hr',hq'⟩
/-- What is put off is done, the last first. -/
def LeaveA (P : Program) (rs : List ResultVar) (n0 : Nat) (o : AOut) (h' : List Blk) (t : List AV) : List (FuncId × List AV × List AV) → AMode → List Blk → Prop
 | [],.ret,h => ∃ vs,resAs P ⟨t,h,[]⟩ rs = some vs ∧ outOk n0 o (pack vs) h h'
 | [],.pan v false,h => match o with
  | .ret _ => False
  | .pan x => Le n0 ⟨[v],h,[]⟩ ⟨[x],h',[]⟩
 | [],.pan _ true,_ => False
 | (f,as,cs) :: ds,u,h => ∃ u' h2,OkD P f (as ++ cs) u h u' h2 ∧ LeaveA P rs n0 o h' t ds (settleA u') h2
theorem leaves_sound {fn : Func} {rs : List ResultVar} (hrs : fn.results.toList = rs) {n0 : Nat} {o : AOut} {h' : List Blk} (hG : GOk P w0 S0) (hn0 : m0.length = n0) {t : List AV} :
  ∀ (dsA : List (FuncId × List AV × List AV)) (w : World) (S : Nat → Prop) (m : List Loc) (ds : List Deferred) (u : FrameMode) (x : AMode) (h : List Blk) (tmps : Array Value),RelSM w0 S0 m0 w S m { tmps := tmps,defers := ds } ⟨t,h,dsA⟩ → MRel w S m u x →
   LeaveA P rs n0 o h' t dsA x h → Leaves P fn tmps (fun e w' => ∃ S' m',HRel w' S' m' h' ∧ ORel w' S' m' e o ∧ Fr w0 S0 m0 w' S' m') ds u w
 | [],w,S,m,ds,u,x,h,tmps,hr,hm,hl => by
  subst hrs
  have hd : ds = [] := List.eq_nil_of_length_eq_zero (by simpa using hr.defs.1)
  subst hd
  have hr0 : RelSM w0 S0 m0 w S m { tmps := tmps,defers := [] } ⟨t,h,[]⟩ := hr
  cases hm with
  | ret =>
   obtain ⟨vs,hvs,ho⟩ := hl
   exact res_rel hG hr0 hn0 hvs ho
  | pan uu v r hv =>
   cases r with
   | true => exact hl.elim
   | false =>
    cases o with
    | ret x => exact hl.elim
    | pan x =>
     obtain ⟨S',m',h1,h2,h3⟩ := fin_rel hn0 hr0 hv hl
     exact ⟨S',m',h1,⟨uu,rfl,h2⟩,h3⟩
 | (f,as,cs) :: dsA,w,S,m,ds,u,x,h,tmps,hr,hm,hl => by
  obtain ⟨u',h2,⟨hent,hok⟩,hrest⟩ := hl
  cases ds with
  | nil => have := hr.defs.1; simp at this
  | cons df ds =>
   obtain ⟨caps,htar,ha,hc⟩ := hr.defs.2 0 df (f,as,cs) rfl rfl
   simp only at ha hc htar
   have hargs : LRel w S m (df.args.toList ++ caps.toList) (as ++ cs) := LRel.append ha hc
   have hinv : (invoke df.target df.args).run P w = .ok (.enter f (df.args.toList ++ caps.toList).toArray) w := by
    have e : (df.args ++ caps) = (df.args.toList ++ caps.toList).toArray := by apply Array.ext'; simp
    rw [htar]
    simp only [invoke,e]
    exact enter_run hent _ w
   refine ⟨hm.run,_,_,f,_,htar,hinv,(hok w S m _ u (hG.fr hr.fr) hr.heap hargs hm).mono fun e mode' w' hq => ?_⟩
   obtain ⟨⟨v,rfl⟩,S',m',hh,hm',hf⟩ := hq
   have hr' : RelSM w0 S0 m0 w' S' m' { tmps := tmps,defers := df :: ds } ⟨t,h2,(f,as,cs) :: dsA⟩ := hr.move (Move.of_fr hf) hh
   refine leaves_sound hrs hG hn0 dsA w' S' m' ds _ _ h2 tmps ⟨hr'.heap,hr'.tmps,⟨by simpa using hr'.defs.1,fun i d x hd hx => hr'.defs.2 (i + 1) d x (by simpa using hd) (by simpa using hx)⟩,hr'.fr⟩ hm'.settle hrest
def retD (P : Program) (rs : List ResultVar) (n0 : Nat) (o : AOut) (h' : List Blk) : AEx → St → Prop
 | .normal,st | .ret,st => LeaveA P rs n0 o h' st.t st.d .ret st.h
 | .pan v,st => LeaveA P rs n0 o h' st.t st.d (.pan v false) st.h
 | .exit _,_ => False
theorem ok_intro_d (hmix : P.follows .mixedOrders = true) {f : FuncId} {fn : Func} {c : Code} (hf : P.funcs[f]? = some fn) (hn : (fn.name == "runtime.NumGoroutine") = false) (hb : fn.body = some c)
  {args : List AV} {h : List Blk} {o : AOut} {h' : List Blk} (ht : args.length ≤ fn.ntmps)
  (hw : awp P h.length c (retD P fn.results.toList h.length o h') { t := args ++ List.replicate (fn.ntmps - args.length) .undef,h := h,d := [] }) : Ok P f args h o h' := by
 refine ⟨⟨fn,hf,hn,by rw [hb]; rfl⟩,fun w S m cargs hG hh hl => calls_of_wp_defers hf hb ?_⟩
 have hlen : m.length = h.length := hh.len
 refine wp_mono (awp_sound hmix c _ _ w S m w S m _ hG (by rw [hlen]; exact hw) (start_rel ht hh hl)) fun e a' w' hq => ?_
 obtain ⟨S1,m1,ae,st',he,hr',hq'⟩ := hq
 cases e <;> cases ae <;> simp only [ExRel] at he
 case normal.normal => exact leaves_sound rfl hG hlen st'.d w' S1 m1 a'.defers _ _ st'.h a'.tmps hr' .ret hq'
 case ret.ret => exact leaves_sound rfl hG hlen st'.d w' S1 m1 a'.defers _ _ st'.h a'.tmps hr' .ret hq'
 case exit.exit => exact hq'.elim
 case panic.pan v =>
  obtain ⟨u,rfl,hu⟩ := he
  exact leaves_sound rfl hG hlen st'.d w' S1 m1 a'.defers _ _ st'.h a'.tmps hr' (.pan u v false hu) hq'
end
end Go.Abs
/- Calls of the model's own functions: atomics of one goroutine, marks, strings. -/
namespace Go.Abs
variable [Kn]
set_option linter.unusedSectionVars false
set_option linter.unusedVariables false
set_option linter.unusedSimpArgs false
inductive Ext where
 | load (k : IntKind)
 | store
 | cas (k : IntKind)
 | add (k : IntKind)
 | nop0
 | nop1
 | idxByte
def setA (h : List Blk) (v : AV) : AV → Option (List Blk × Nat)
 | .ptr id es r off => match h[id]? with
  | some (.box cs) => if r * es + off < cs.length then some (h.set id (.box (cs.set (r * es + off) v)),id) else none
  | _ => none
 | _ => none
def idxB (c : Nat) : List UInt8 → Nat → Int
 | [],_ => -1
 | b :: l,i => if b.toNat = c then i else idxB c l (i + 1)
def extF (h : List Blk) : Ext → List AV → Option (AV × List Blk × List Nat)
 | .load k,[p] => match cellA h p with
  | some (.fv (.int k' n)) => if k = k' then some (.fv (.int k n),h,[]) else none
  | _ => none
 | .store,[p,.fv (.int k y)] => (setA h (.fv (.int k y)) p).map fun (h',id) => (.tuple [],h',[id])
 | .cas k,[p,.fv (.int k1 o),.fv (.int k2 y)] => match cellA h p with
  | some (.fv (.int k' n)) => if k = k' ∧ k1 = k ∧ k2 = k then (if n = o then (setA h (.fv (.int k y)) p).map fun (h',id) => (.fv (.bool true),h',[id]) else some (.fv (.bool false),h,[])) else none
  | _ => none
 | .add k,[p,.fv (.int k1 y)] => match cellA h p with
  | some (.fv (.int k' n)) => if k = k' ∧ k1 = k then (setA h (.fv (.int k (k.wrap (n + y)))) p).map fun (h',id) => (.fv (.int k (k.wrap (n + y))),h',[id]) else none
  | _ => none
 | .nop0,[] => some (.tuple [],h,[])
 | .nop1,[.ptr _ _ _ _] => some (.tuple [],h,[])
 | .idxByte,[.fv (.str s),.fv (.int .u8 c)] => if 0 ≤ c ∧ c < 256 then some (.fv (.int .i64 (idxB c.toNat s 0)),h,[]) else none
 | _,_ => none
def Ext.impl : Ext → (Array Value → Sem Value) → Prop
 | .load k,e => e = Extern.Atomic.loadT (.int k)
 | .store,e => e = Extern.Atomic.storeT
 | .cas k,e => e = Extern.Atomic.casT (.int k)
 | .add k,e => e = Extern.Atomic.update (Op.intArith .add) k true
 | .nop0,e => ∃ m : Mark,e = fun _ => do mark m; pure Extern.Race.none_
 | .nop1,e => ∃ m : Addr → Mark,e = Extern.Race.marked m
 | .idxByte,e => e = Extern.BytealgIndexByte.indexByte
def ExtOk (P : Program) (f : FuncId) (x : Ext) : Prop := ∃ fn e, P.funcs[f]? = some fn ∧ (fn.name == "runtime.NumGoroutine") = false ∧ fn.body.isNone = true ∧ Extern.findNext fn = none ∧ Extern.find fn = some e ∧ x.impl e
section
variable {P : Program} {w0 : World} {S0 : Nat → Prop} {m0 : List Loc} {w : World} {S : Nat → Prop} {m : List Loc} {a : Act} {st : St}
theorem setA_sound (hr : RelSM w0 S0 m0 w S m a st) {p v : AV} {pv u : Value} (hp : VRel w S m pv p) (hv : VRel w S m u v) {h' : List Blk} {id : Nat} (h : setA st.h v p = some (h',id)) :
  ∃ ad u0,pv = .pointer (some ad) ∧ w.cell? ad = some u0 ∧ w.frozen? ad = false ∧ RelSM w0 S0 m0 (w.setCell ad u) S m a { st with h := h' } ∧
   (∀ (i b o' : Nat) (k : Blk),i ∉ [id] → m[i]? = some (some (b,o')) → st.h[i]? = some k → k.live = true → (w.setCell ad u).heap[b]? = w.heap[b]?) ∧ ∀ i,i ∉ [id] → i < st.h.length → h'[i]? = st.h[i]? := by
 unfold setA at h
 split at h
 case h_2 => cases h
 rename_i id' es r off
 generalize hpp : AV.ptr id' es r off = pp at hp
 cases hp <;> simp at hpp
 rename_i b ob hm
 obtain ⟨rfl,rfl,rfl,rfl⟩ := hpp
 generalize hid : st.h[id']? = k at h
 split at h
 case h_2 => cases h
 rename_i cs
 split at h <;> simp at h
 rename_i hlt
 obtain ⟨rfl,rfl⟩ := h
 obtain ⟨b',o',arr,U,hloc,hb,hcell⟩ := hr.heap.blk id' _ _ hm hid
 simp at hloc
 obtain ⟨rfl,rfl⟩ := hloc
 obtain ⟨u0,hu0,_⟩ := hcell (r * es + off) cs[r * es + off] (by simp)
 rw [← Nat.add_assoc] at hu0
 have hroom : ob + r * es + off < arr.size := (Array.getElem?_eq_some_iff.1 hu0).1
 have hset : w.setCell ⟨b,ob + r * es + off,none⟩ u = wcells w b (putCells arr (ob + r * es + off) [u]) U (0,0) := by
  have := setCells_eq [u] w b (ob + r * es + off) arr U hb
  simpa [World.setCells] using this
 have hw := wcells_wrote (fr' := (0,0)) hb (putCells_size [u] arr (ob + r * es + off))
 have hmv := hw.move hr.heap hm hid rfl
 refine ⟨_,u0,rfl,by simp [World.cell?,hb,hu0],by simp [World.frozen?,hb],?_⟩
 rw [hset]
 refine ⟨hr.wrote hw hm hid rfl ?_,fun j b' o' k hj hmj hk hlv => ?_,fun j hj _ => by rw [List.getElem?_set_ne (Ne.symm (by simpa using hj))]⟩
 ·refine ⟨b,ob,_,U,rfl,wcells_at (Array.getElem?_eq_some_iff.1 hb).1,fun j x1 hx1 => ?_⟩
  rw [putCells_get _ _ _ _ (by simp only [List.length_singleton]; omega)]
  rw [List.getElem?_set] at hx1
  simp only [List.length_singleton]
  split at hx1
  ·rename_i e
   subst e
   simp at hx1
   subst hx1
   have hc' : ob + r * es + off ≤ ob + (r * es + off) ∧ ob + (r * es + off) < ob + r * es + off + 1 := by omega
   simp only [hc',and_self,if_true]
   refine ⟨u,?_,hv.move hmv hr.heap.lowm⟩
   rw [show ob + (r * es + off) - (ob + r * es + off) = 0 from by omega]
   rfl
  ·rename_i hne
   have hc' : ¬ (ob + r * es + off ≤ ob + j ∧ ob + j < ob + r * es + off + 1) := by omega
   simp only [hc',if_false]
   obtain ⟨v1,hv1,hf⟩ := hcell j x1 hx1
   exact ⟨v1,hv1,hf.move hmv hr.heap.lowm⟩
 ·refine hw.other b' (fun e => ?_)
  subst e
  exact hr.heap.inj j id' k _ b' o' ob (by simpa using hj) hk hid hlv rfl hmj hm
theorem idxB_eq (c : Nat) (hc : c < 256) : ∀ (s : List UInt8) (i : Nat),(Lib.indexByte s c.toUInt8 = -1 ∨ 0 ≤ Lib.indexByte s c.toUInt8) ∧ idxB c s i = if Lib.indexByte s c.toUInt8 = -1 then -1 else i + Lib.indexByte s c.toUInt8
 | [],i => ⟨.inl rfl,rfl⟩
 | b :: l,i => by
  have hb : (b.toNat = c) ↔ (b == c.toUInt8) = true := by
   rw [beq_iff_eq]
   constructor
   ·rintro rfl; simp
   ·rintro rfl; simp; omega
  obtain ⟨h1,h2⟩ := idxB_eq c hc l (i + 1)
  simp only [idxB,Lib.indexByte]
  by_cases h : b.toNat = c
  ·simp [h,hb.1 h]
  ·have hn : (b == c.toUInt8) = false := by simpa using fun e => h (hb.2 (by simpa using e))
   simp only [h,if_false,hn,Bool.false_eq_true,h2]
   generalize Lib.indexByte l c.toUInt8 = q at *
   by_cases he : q = -1
   ·simp [he]
   ·have h0 : 0 ≤ q := h1.resolve_left he
    have hne : ¬ (q + 1 = -1) := by omega
    simp [he,hne]
    omega
theorem callRel_ext {f : FuncId} {args : List AV} {v : AV} {h' : List Blk} {W : List Nat} (hsame : ∀ i,i ∉ W → i < st.h.length → h'[i]? = st.h[i]?)
  (h : ∀ w0 S0 m0 w S m a cargs,RelSM w0 S0 m0 w S m a st → LRel w S m cargs args → ∃ u w',(callFunc f cargs.toArray).run P w = .ok (.value u) w' ∧ RelSM w0 S0 m0 w' S m a { st with h := h' } ∧ VRel w' S m u v ∧
   ∀ (i b o : Nat) (k : Blk),i ∉ W → m[i]? = some (some (b,o)) → st.h[i]? = some k → k.live = true → w'.heap[b]? = w.heap[b]?) : CallRel P f args st W (.ret v) { st with h := h' } :=
 ⟨hsame,fun w0 S0 m0 w S m a cargs _ hr hl => by
  obtain ⟨u,w',h1,h2,h3,h4⟩ := h w0 S0 m0 w S m a cargs hr hl
  exact .inr ⟨u,w',h1,S,m,h2,h3,h4⟩⟩
theorem lrel1 {cargs : List Value} {x : AV} (h : LRel w S m cargs [x]) : ∃ u,cargs = [u] ∧ VRel w S m u x := by
 match cargs,h.1 with
 | [u],_ => exact ⟨u,rfl,h.2 0 u x rfl rfl⟩
theorem lrel2 {cargs : List Value} {x y : AV} (h : LRel w S m cargs [x,y]) : ∃ u v,cargs = [u,v] ∧ VRel w S m u x ∧ VRel w S m v y := by
 match cargs,h.1 with
 | [u,v],_ => exact ⟨u,v,rfl,h.2 0 u x rfl rfl,h.2 1 v y rfl rfl⟩
theorem lrel3 {cargs : List Value} {x y z : AV} (h : LRel w S m cargs [x,y,z]) : ∃ u v t,cargs = [u,v,t] ∧ VRel w S m u x ∧ VRel w S m v y ∧ VRel w S m t z := by
 match cargs,h.1 with
 | [u,v,t],_ => exact ⟨u,v,t,rfl,h.2 0 u x rfl rfl,h.2 1 v y rfl rfl,h.2 2 t z rfl rfl⟩
theorem ext_call {f : FuncId} {x : Ext} (hx : ExtOk P f x) {args : List AV} {v : AV} {h' : List Blk} {W : List Nat} (h : extF st.h x args = some (v,h',W)) : CallRel P f args st W (.ret v) { st with h := h' } := by
 obtain ⟨fn,e,hf,hn,hb,hnx,he,himp⟩ := hx
 unfold extF at h
 split at h
 ·rename_i k p
  split at h
  case h_2 => cases h
  rename_i k' n hc
  split at h <;> simp at h
  rename_i hk
  subst hk
  obtain ⟨rfl,rfl,rfl⟩ := h
  simp only [Ext.impl] at himp
  subst himp
  refine callRel_ext (fun _ _ _ => rfl) fun w0 S0 m0 w S m a cargs hr hl => ?_
  obtain ⟨u,rfl,hu⟩ := lrel1 hl
  obtain ⟨ad,u',rfl,h1,h2,h3⟩ := cellA_sound hr.heap hu hc
  obtain rfl := h3.int_inv
  exact ⟨_,w,run_call_load hf hn hb hnx k he h1,hr,.int_mk _ _,fun _ _ _ _ _ _ _ _ => rfl⟩
 ·rename_i p k y
  simp only [Option.map_eq_some_iff,Prod.mk.injEq,Prod.exists] at h
  obtain ⟨h1,id,hs,rfl,rfl,rfl⟩ := h
  simp only [Ext.impl] at himp
  subst himp
  have hsame : ∀ i,i ∉ [id] → i < st.h.length → h1[i]? = st.h[i]? := by
   unfold setA at hs
   split at hs
   case h_2 => cases hs
   split at hs
   case h_2 => cases hs
   split at hs <;> simp at hs
   obtain ⟨rfl,rfl⟩ := hs
   exact fun i hi _ => by rw [List.getElem?_set_ne (Ne.symm (by simpa using hi))]
  refine callRel_ext hsame fun w0 S0 m0 w S m a cargs hr hl => ?_
  obtain ⟨u,v,rfl,hu,hv⟩ := lrel2 hl
  obtain rfl := hv.int_inv
  obtain ⟨ad,u0,rfl,g1,g2,g3,g4,_⟩ := setA_sound hr hu (.int_mk k y) hs
  exact ⟨_,_,run_call_store hf hn hb hnx he g1 g2,g3,.tuple _ _ rfl (fun i v x hv => by simp at hv),g4⟩
 ·rename_i k p k1 o' k2 y
  split at h
  case h_2 => cases h
  rename_i k' n hc
  split at h
  case isFalse => cases h
  rename_i hk
  obtain ⟨rfl,rfl,rfl⟩ := hk
  simp only [Ext.impl] at himp
  subst himp
  split at h
  ·rename_i hno
   subst hno
   simp only [Option.map_eq_some_iff,Prod.mk.injEq,Prod.exists] at h
   obtain ⟨h1,id,hs,rfl,rfl,rfl⟩ := h
   have hsame : ∀ i,i ∉ [id] → i < st.h.length → h1[i]? = st.h[i]? := by
    unfold setA at hs
    split at hs
    case h_2 => cases hs
    split at hs
    case h_2 => cases hs
    split at hs <;> simp at hs
    obtain ⟨rfl,rfl⟩ := hs
    exact fun i hi _ => by rw [List.getElem?_set_ne (Ne.symm (by simpa using hi))]
   refine callRel_ext hsame fun w0 S0 m0 w S m a cargs hr hl => ?_
   obtain ⟨u,v,t,rfl,hu,hv,ht⟩ := lrel3 hl
   obtain rfl := hv.int_inv
   obtain rfl := ht.int_inv
   obtain ⟨ad',u',hu',c1,c2,c3⟩ := cellA_sound hr.heap hu hc
   obtain rfl := c3.int_inv
   obtain ⟨ad,u0,rfl,g1,g2,g3,g4,_⟩ := setA_sound hr hu (.int_mk k2 y) hs
   simp at hu'
   subst hu'
   exact ⟨_,_,run_call_cas_hit hf hn hb hnx k2 he c1 c2,g3,.bool_mk _,g4⟩
  ·rename_i hno
   simp only [Option.some.injEq,Prod.mk.injEq] at h
   obtain ⟨rfl,rfl,rfl⟩ := h
   refine callRel_ext (fun _ _ _ => rfl) fun w0 S0 m0 w S m a cargs hr hl => ?_
   obtain ⟨u,v,t,rfl,hu,hv,ht⟩ := lrel3 hl
   obtain rfl := hv.int_inv
   obtain rfl := ht.int_inv
   obtain ⟨ad',u',rfl,c1,c2,c3⟩ := cellA_sound hr.heap hu hc
   obtain rfl := c3.int_inv
   exact ⟨_,w,run_call_cas_miss hf hn hb hnx k2 he c1 c2 hno,hr,.bool_mk _,fun _ _ _ _ _ _ _ _ => rfl⟩
 ·rename_i k p k1 y
  split at h
  case h_2 => cases h
  rename_i k' n hc
  split at h
  case isFalse => cases h
  rename_i hk
  obtain ⟨rfl,rfl⟩ := hk
  simp only [Ext.impl] at himp
  subst himp
  simp only [Option.map_eq_some_iff,Prod.mk.injEq,Prod.exists] at h
  obtain ⟨h1,id,hs,rfl,rfl,rfl⟩ := h
  have hsame : ∀ i,i ∉ [id] → i < st.h.length → h1[i]? = st.h[i]? := by
   unfold setA at hs
   split at hs
   case h_2 => cases hs
   split at hs
   case h_2 => cases hs
   split at hs <;> simp at hs
   obtain ⟨rfl,rfl⟩ := hs
   exact fun i hi _ => by rw [List.getElem?_set_ne (Ne.symm (by simpa using hi))]
  refine callRel_ext hsame fun w0 S0 m0 w S m a cargs hr hl => ?_
  obtain ⟨u,v,rfl,hu,hv⟩ := lrel2 hl
  obtain rfl := hv.int_inv
  obtain ⟨ad',u',hu',c1,c2,c3⟩ := cellA_sound hr.heap hu hc
  obtain rfl := c3.int_inv
  obtain ⟨ad,u0,rfl,g1,g2,g3,g4,_⟩ := setA_sound hr hu (.int_mk k1 (k1.wrap (n + y))) hs
  simp at hu'
  subst hu'
  exact ⟨_,_,run_call_add hf hn hb hnx k1 he c1 c2 rfl,g3,.int_mk _ _,g4⟩
 ·simp only [Option.some.injEq,Prod.mk.injEq] at h
  obtain ⟨rfl,rfl,rfl⟩ := h
  obtain ⟨mk,rfl⟩ := himp
  refine callRel_ext (fun _ _ _ => rfl) fun w0 S0 m0 w S m a cargs hr hl => ?_
  have : cargs = [] := List.eq_nil_of_length_eq_zero (by simpa using hl.1)
  subst this
  exact ⟨_,w,run_call_mark0 hf hn hb hnx mk he w,hr,.tuple _ _ rfl (fun i v x hv => by simp at hv),fun _ _ _ _ _ _ _ _ => rfl⟩
 ·simp only [Option.some.injEq,Prod.mk.injEq] at h
  obtain ⟨rfl,rfl,rfl⟩ := h
  obtain ⟨mk,rfl⟩ := himp
  refine callRel_ext (fun _ _ _ => rfl) fun w0 S0 m0 w S m a cargs hr hl => ?_
  obtain ⟨u,rfl,hu⟩ := lrel1 hl
  cases hu
  exact ⟨_,w,run_call_marked hf hn hb hnx mk he _ w,hr,.tuple _ _ rfl (fun i v x hv => by simp at hv),fun _ _ _ _ _ _ _ _ => rfl⟩
 ·rename_i s c
  split at h <;> simp at h
  rename_i hc
  obtain ⟨rfl,rfl,rfl⟩ := h
  simp only [Ext.impl] at himp
  subst himp
  refine callRel_ext (fun _ _ _ => rfl) fun w0 S0 m0 w S m a cargs hr hl => ?_
  obtain ⟨u,v,rfl,hu,hv⟩ := lrel2 hl
  obtain rfl := hu.str_inv
  obtain rfl := hv.int_inv
  refine ⟨_,w,?_,hr,.int_mk _ _,fun _ _ _ _ _ _ _ _ => rfl⟩
  rw [run_callFunc_extern hf hn hb hnx he,Lib.run_indexByteString]
  obtain ⟨h1,h2⟩ := idxB_eq c.toNat (by omega) s 0
  have : idxB c.toNat s 0 = Lib.indexByte s c.toNat.toUInt8 := by
   rw [h2]
   split
   ·rename_i e; exact e.symm
   ·simp
  rw [this]
  rfl
 ·cases h
end
end Go.Abs
/- A call that only looks: all that it is handed stands frozen, to the bottom. -/
namespace Go.Abs
variable [Kn]
set_option linter.unusedSectionVars false
set_option linter.unusedVariables false
set_option linter.unusedSimpArgs false
def deepL (f : AV → Option FV) : List AV → Option (List FV)
 | [] => some []
 | x :: l => match f x,deepL f l with
  | some y,some ys => some (y :: ys)
  | _,_ => none
def deepF : Nat → List Blk → AV → Option FV
 | 0,_,_ => none
 | n + 1,h,v => match v with
  | .fv x => some x
  | .ref id es off 0 => some (.lst es [])
  | .ref id es off (k + 1) => match refCells h id es off (k + 1) with
   | some ys => match deepL (deepF n h) ys with
    | some xs => some (.lst es (chunk es (k + 1) xs))
    | none => none
   | none => none
  | _ => none
/-- The cells behind a place. -/
def behindA (h : List Blk) (id es r off : Nat) : Option (List AV) := match h[id]? with
 | some (.plain es' rows) => if es' = es then (match rows[r]? with
  | some row => some ((row.map .fv).drop off)
  | none => none) else none
 | some (.box cs) => some (cs.drop (r * es + off))
 | _ => none
def deepA : Nat → List Blk → AV → Option AV
 | 0,_,_ => none
 | n + 1,h,v => match v with
  | .ptr id es r off => match behindA h id es r off with
   | some cs => match deepL (deepF n h) cs with
    | some row => match row with
     | [] => none
     | x :: l => some (.fptr (x :: l))
    | none => none
   | none => none
  | .fptr row => some (.fptr row)
  | .gptr g o => some (.gptr g o)
  | .agg cs => (subL (deepA n h) cs).map .agg
  | .func f cs => (subL (deepA n h) cs).map (.func f)
  | v => match deepF n h v with
   | some x => some (.fv x)
   | none => none
def deepAs (h : List Blk) : List AV → Option (List AV)
 | [] => some []
 | x :: l => match deepA 8 h x,deepAs h l with
  | some y,some ys => some (y :: ys)
  | _,_ => none
section
variable {P : Program} {w0 : World} {S0 : Nat → Prop} {m0 : List Loc} {w : World} {S : Nat → Prop} {m : List Loc} {a : Act} {st : St}
/-- What was frozen, and all live blocks. -/
def Deep (S : Nat → Prop) (m : List Loc) (h : List Blk) (b : Nat) : Prop := S b ∨ ∃ (i o : Nat) (k : Blk),m[i]? = some (some (b,o)) ∧ h[i]? = some k ∧ k.live = true
theorem deepL_get {f : AV → Option FV} : ∀ {xs : List AV} {ys : List FV},deepL f xs = some ys → xs.length = ys.length ∧ ∀ (i : Nat) (y : FV),ys[i]? = some y → ∃ x,xs[i]? = some x ∧ f x = some y
 | [],ys,h => by simp only [deepL,Option.some.injEq] at h; subst h; exact ⟨rfl,fun i y hy => by simp at hy⟩
 | x :: xs,ys,h => by
  unfold deepL at h
  split at h
  ·rename_i y ys' h1 h2
   cases h
   obtain ⟨e,ih⟩ := deepL_get h2
   refine ⟨by simp [e],fun i z hz => ?_⟩
   cases i with
   | zero => simp at hz; subst hz; exact ⟨x,rfl,h1⟩
   | succ i => exact ih i z (by simpa using hz)
  ·cases h
theorem deepF_sound (hh : HRel w S m st.h) : ∀ (n : Nat) (v : Value) (y : AV) (x : FV),deepF n st.h y = some x → VRel w S m v y → FRel w (Deep S m st.h) v x
 | 0,_,_,_,h,_ => by simp [deepF] at h
 | n + 1,v,y,x,h,hv => by
  have hS : ∀ b,S b → Deep S m st.h b := fun b h => .inl h
  unfold deepF at h
  split at h
  ·rename_i z
   cases h
   cases hv with
   | fv _ _ hf => exact hf.stab hS (fun _ _ _ => rfl)
  ·rename_i id es off
   cases h
   have hl : ∀ (a : Option Addr) (c : Nat),FRel w (Deep S m st.h) (.slice a 0 c) (.lst es []) := fun a c =>
    .lst a 0 c es [] (fun _ _ => Go.undef) ⟨0,0,none⟩ rfl (Nat.zero_le _) (fun i row hr => by simp at hr) (fun h => by omega) (fun h => by omega) (fun i j hi => by omega) (fun i j row x hr => by simp at hr)
   cases hv with
   | ref _ _ _ _ b o c hm hle hc => exact hl _ _
   | refz _ _ _ a => exact hl _ _
  ·rename_i id es off k
   split at h
   ·rename_i ys hys
    split at h
    ·rename_i xs hxs
     cases h
     cases hv with
     | ref _ _ _ _ b o c hm hle hc =>
      obtain ⟨arr,U,blk,hb,hblk,hlive,hlen,hcell⟩ := refCells_sound hh hm hys
      obtain ⟨e1,hget⟩ := deepL_get hxs
      have hrow : ∀ (i : Nat) (row : List FV),(chunk es (k + 1) xs)[i]? = some row → i < k + 1 ∧ row = (xs.drop (i * es)).take es := fun i row hr => by
       rw [chunk_get] at hr
       split at hr
       ·rename_i hlt; cases hr; exact ⟨hlt,rfl⟩
       ·cases hr
      have hbound : ∀ i,i < k + 1 → i * es + es ≤ (k + 1) * es := fun i hi => by
       have : (i + 1) * es ≤ (k + 1) * es := Nat.mul_le_mul_right _ hi
       rw [Nat.succ_mul] at this
       exact this
      refine .lst _ _ _ _ _ (fun i j => (arr[o + off * es + (i * es + j)]?).getD Go.undef) ⟨b,o + off * es,none⟩ ?_ hle (fun i row hr => ?_) (fun _ => rfl) (fun _ => .inr ⟨id,o,blk,hm,hblk,hlive⟩) (fun i j hi hj => ?_) (fun i j row x hr hx => ?_)
      ·have : ∀ n (l : List FV),(chunk es n l).length = n := by
        intro n
        induction n with
        | zero => intro l; rfl
        | succ n ih => intro l; simp [chunk,ih]
       exact this _ _
      ·obtain ⟨hi,rfl⟩ := hrow i row hr
       have := hbound i hi
       rw [List.length_take,List.length_drop]
       omega
      ·have h1 := hbound i hi
       have hk : i * es + j < ys.length := by rw [hlen]; omega
       obtain ⟨u,hu,_⟩ := hcell (i * es + j) ys[i * es + j] (List.getElem?_eq_getElem hk)
       rw [add_at]
       simp only [World.cell?,hb,hu]
       rfl
      ·obtain ⟨hi,rfl⟩ := hrow i row hr
       rw [List.getElem?_take] at hx
       split at hx
       ·rename_i hj
        rw [List.getElem?_drop] at hx
        obtain ⟨z,hz,hfz⟩ := hget _ _ hx
        obtain ⟨u,hu,hvu⟩ := hcell _ _ hz
        rw [hu]
        exact deepF_sound hh n u z x hfz hvu
       ·cases hx
    ·cases h
   ·cases h
  ·cases h
theorem behindA_sound (hh : HRel w S m st.h) {id es r off b o : Nat} (hm : m[id]? = some (some (b,o))) {cs : List AV} (h : behindA st.h id es r off = some cs) :
  ∃ arr U k,w.heap[b]? = some (.cells arr U (0,0)) ∧ st.h[id]? = some k ∧ k.live = true ∧ ∀ (j : Nat) (x : AV),cs[j]? = some x → ∃ u,arr[o + r * es + off + j]? = some u ∧ VRel w S m u x := by
 unfold behindA at h
 split at h
 ·rename_i es' rows hid
  split at h
  ·rename_i he
   subst he
   split at h
   ·rename_i row hrow
    cases h
    obtain ⟨hes,arr,U,hb,hcell⟩ := hh.blk id _ _ hm hid
    refine ⟨arr,U,_,hb,hid,rfl,fun j x hx => ?_⟩
    rw [List.getElem?_drop] at hx
    simp only [List.getElem?_map,Option.map_eq_some_iff] at hx
    obtain ⟨y,hy,rfl⟩ := hx
    obtain ⟨u,hu,hf⟩ := hcell r (off + j) row y hrow hy
    exact ⟨u,by rw [← hu]; congr 1; omega,.fv _ _ hf⟩
   ·cases h
  ·cases h
 ·rename_i cs' hid
  cases h
  obtain ⟨b',o',arr,U,hloc,hb,hcell⟩ := hh.blk id _ _ hm hid
  simp at hloc
  obtain ⟨rfl,rfl⟩ := hloc
  refine ⟨arr,U,_,hb,hid,rfl,fun j x hx => ?_⟩
  rw [List.getElem?_drop] at hx
  obtain ⟨u,hu,hv⟩ := hcell _ x hx
  exact ⟨u,by rw [← hu]; congr 1; omega,hv⟩
 ·cases h
theorem deepA_sound (hh : HRel w S m st.h) : ∀ (n : Nat) (v : Value) (y x : AV),deepA n st.h y = some x → VRel w S m v y → VRel w (Deep S m st.h) [] v x
 | 0,_,_,_,h,_ => by simp [deepA] at h
 | n + 1,v,y,x,h,hv => by
  have hS : ∀ b,S b → Deep S m st.h b := fun b h => .inl h
  unfold deepA at h
  split at h
  ·rename_i id es r off
   split at h
   ·rename_i cs hcs
    split at h
    ·rename_i row hrow
     split at h
     ·cases h
     ·rename_i x0 l
      cases h
      cases hv with
      | ptr _ _ _ _ b o hm =>
       obtain ⟨arr,U,blk,hb,hblk,hlive,hcell⟩ := behindA_sound hh hm hcs
       obtain ⟨e1,hget⟩ := deepL_get hrow
       refine .fptr _ _ (fun j => (arr[o + r * es + off + j]?).getD Go.undef) (.inr ⟨id,o,blk,hm,hblk,hlive⟩) (fun j hj => ?_) (fun j x hx => ?_)
       ·obtain ⟨z,hz,_⟩ := hget j _ (List.getElem?_eq_getElem hj)
        obtain ⟨u,hu,_⟩ := hcell j z hz
        rw [add_at]
        simp only [World.cell?,hb,hu]
        rfl
       ·obtain ⟨z,hz,hfz⟩ := hget j x hx
        obtain ⟨u,hu,hvu⟩ := hcell j z hz
        rw [hu]
        exact deepF_sound hh n u z x hfz hvu
    ·cases h
   ·cases h
  ·cases h
   cases hv with
   | fptr ad row u hs hc hr => exact .fptr ad _ u (hS _ hs) hc (fun j x hx => (hr j x hx).stab hS (fun _ _ _ => rfl))
  ·cases h
   cases hv with
   | gptr g1 off1 => exact .gptr _ _
  ·rename_i cs
   rw [Option.map_eq_some_iff] at h
   obtain ⟨ys,hys,rfl⟩ := h
   obtain ⟨e1,hget⟩ := subL_get hys
   cases hv with
   | agg vs _ hn hr =>
    refine .agg vs ys (by rw [hn,e1]) (fun i v x hv hx => ?_)
    obtain ⟨z,hz,hfz⟩ := hget i x hx
    exact deepA_sound hh n v z x hfz (hr i v z hv hz)
  ·rename_i f cs
   rw [Option.map_eq_some_iff] at h
   obtain ⟨ys,hys,rfl⟩ := h
   obtain ⟨e1,hget⟩ := subL_get hys
   cases hv with
   | func _ vs _ hn hr =>
    refine .func f vs ys (by rw [hn,e1]) (fun i v x hv hx => ?_)
    obtain ⟨z,hz,hfz⟩ := hget i x hx
    exact deepA_sound hh n v z x hfz (hr i v z hv hz)
  ·split at h
   ·rename_i z hz
    cases h
    exact .fv _ _ (deepF_sound hh n v _ z hz hv)
   ·cases h
theorem deepAs_sound (hh : HRel w S m st.h) : ∀ {vs : List Value} {ys xs : List AV},deepAs st.h ys = some xs → LRel w S m vs ys → LRel w (Deep S m st.h) [] vs xs
 | vs,[],xs,h,hl => by
  simp only [deepAs,Option.some.injEq] at h
  subst h
  exact ⟨hl.1,fun i v x hv hx => by simp at hx⟩
 | vs,y :: ys,xs,h,hl => by
  unfold deepAs at h
  split at h
  ·rename_i x xs' h1 h2
   cases h
   cases vs with
   | nil => have := hl.1; simp at this
   | cons v vs =>
    have ih := deepAs_sound (vs := vs) hh h2 ⟨by simpa using hl.1,fun i v x hv hx => hl.2 (i + 1) v x (by simpa using hv) (by simpa using hx)⟩
    refine ⟨by simpa using ih.1,fun i u z hu hz => ?_⟩
    cases i with
    | zero => simp at hu hz; subst hu; subst hz; exact deepA_sound hh 8 v y x h1 (hl.2 0 v y rfl rfl)
    | succ i => exact ih.2 i u z (by simpa using hu) (by simpa using hz)
  ·cases h
/-- A call that only looks. -/
theorem call_deep {f : FuncId} {args args' : List AV} {h' : List Blk} {o : AOut} (hok : Ok P f args' [] o h') (ha : deepAs st.h args = some args') (ho : o.flat = true) : CallRel P f args st [] o st := by
 refine ⟨fun i _ _ => rfl,fun w0 S0 m0 w S m a cargs hG hr hargs => .inl ⟨hok.1,?_⟩⟩
 have hS : ∀ b,S b → Deep S m st.h b := fun b h => .inl h
 have hlow : ∀ b,Deep S m st.h b → b < w.heap.size := fun b hb => by
  rcases hb with h1 | ⟨i,o,k,h1,_,_⟩
  ·exact hr.heap.low b h1
  ·exact hr.heap.lowm i b o h1
 have hh1 : HRel w (Deep S m st.h) [] [] := ⟨rfl,fun i l b hi => by simp at hi,fun i j bi bj b o o' _ hi => by simp at hi,fun i bi b o hi => by simp at hi,hlow,fun i b o hi => by simp at hi⟩
 refine Calls.mono (hok.2 w _ [] cargs ((hG.fr hr.fr).mono hS) hh1 (deepAs_sound hr.heap ha hargs)) fun e w' hq => ?_
 obtain ⟨S2,m2,hh2,ho2,hf⟩ := hq
 have hsame : ∀ b,b < w.heap.size → w'.heap[b]? = w.heap[b]? := fun b hb => hf.same b hb (fun ⟨i,o,h⟩ => by simp at h)
 have hmv : Move w S m w' S m := ⟨hf.size,hf.os,hf.tape,hf.output,hf.drawn,fun b hb _ => hsame b hb,fun b _ hb => hsame b hb,fun b hb => SameShape.of_eq (hsame b hb),fun _ h => h,fun _ h => .inl h,fun i b o h => .inl ⟨i,o,h⟩,fun _ _ => rfl⟩
 have hheap : HRel w' S m st.h := by
  refine ⟨hr.heap.len,fun i l x hl hx => ?_,hr.heap.inj,hr.heap.out,fun b hb => Nat.lt_of_lt_of_le (hr.heap.low b hb) hf.size,fun i b o h => Nat.lt_of_lt_of_le (hr.heap.lowm i b o h) hf.size⟩
  exact (hr.heap.blk i l x hl hx).move hmv hr.heap.lowm (fun b o e => by subst e; exact hsame b (hr.heap.lowm i b o hl))
 exact ⟨S,m,hr.move hmv hheap,ho2.flat ho,fun i b o k _ hm _ _ => hsame b (hr.heap.lowm i b o hm)⟩
end
end Go.Abs
/- A nil slice in a cell becomes a row of the call's own; a slice that is only looked at, as a frozen one. -/
namespace Go.Abs
variable [Kn]
set_option linter.unusedSectionVars false
set_option linter.unusedVariables false
set_option linter.unusedSimpArgs false
section
variable {P : Program} {w : World} {S : Nat → Prop} {m : List Loc}
theorem HRel.virt_box {h : List Blk} (hr : HRel w S m h) {k es j : Nat} {cs : List AV} (hk : h[k]? = some (.box cs)) (hj : cs[j]? = some (.fv .nils)) :
  HRel w S (m ++ [none]) ((h ++ [Blk.plain es []]).set k (.box (cs.set j (.ref h.length es 0 0)))) := by
 have hh := hr.virt (.plain es []) ⟨by simp,rfl⟩
 have hlt : k < h.length := (List.getElem?_eq_some_iff.1 hk).1
 have hk2 : (h ++ [Blk.plain es []])[k]? = some (.box cs) := by rw [List.getElem?_append_left hlt]; exact hk
 have get : ∀ (i : Nat) (b : Blk),((h ++ [Blk.plain es []]).set k (.box (cs.set j (.ref h.length es 0 0))))[i]? = some b → (i = k ∧ b = .box (cs.set j (.ref h.length es 0 0))) ∨ (i ≠ k ∧ (h ++ [Blk.plain es []])[i]? = some b) := fun i b hi => by
  rw [List.getElem?_set] at hi
  split at hi
  ·rename_i e
   have : k < (h ++ [Blk.plain es []]).length := by simp; omega
   simp only [this,if_true,Option.some.injEq] at hi
   exact .inl ⟨e.symm,hi.symm⟩
  ·rename_i e
   exact .inr ⟨fun h => e h.symm,hi⟩
 refine ⟨by simpa using hh.len,fun i l b hm hb => ?_,fun i i' bi bj b o o' hne hi hj' li lj mi mj => ?_,fun i bi b o hi li mi => ?_,hh.low,hh.lowm⟩
 ·rcases get i b hb with ⟨rfl,rfl⟩ | ⟨_,hb'⟩
  ·obtain ⟨b,o,arr,T,rfl,ha,hc⟩ := hh.blk i l _ hm hk2
   refine ⟨b,o,arr,T,rfl,ha,fun i x hx => ?_⟩
   rw [List.getElem?_set] at hx
   split at hx
   ·rename_i e; subst e
    split at hx <;> simp at hx
    subst hx
    obtain ⟨u,hu,hv⟩ := hc j _ hj
    refine ⟨u,hu,?_⟩
    have := hv.nils_inv
    subst this
    exact .refz _ _ _ _
   ·exact hc i x hx
  ·exact hh.blk i l b hm hb'
 ·rcases get i bi hi with ⟨rfl,rfl⟩ | ⟨_,hi'⟩ <;> rcases get i' bj hj' with ⟨rfl,rfl⟩ | ⟨_,hj2⟩
  ·exact hne rfl
  ·exact hh.inj i i' _ bj b o o' hne hk2 hj2 rfl lj mi mj
  ·exact hh.inj i i' bi _ b o o' hne hi' hk2 li rfl mi mj
  ·exact hh.inj i i' bi bj b o o' hne hi' hj2 li lj mi mj
 ·rcases get i bi hi with ⟨rfl,rfl⟩ | ⟨_,hi'⟩
  ·exact hh.out i _ b o hk2 rfl mi
  ·exact hh.out i bi b o hi' li mi
theorem le_virt_box {n0 : Nat} {st : St} (k es j : Nat) (cs : List AV) (hk : st.h[k]? = some (.box cs)) (hj : cs[j]? = some (.fv .nils)) :
  Le n0 st { st with h := (st.h ++ [Blk.plain es []]).set k (.box (cs.set j (.ref st.h.length es 0 0))) } := by
 intro w0 S0 m0 w S m a hn hr
 have hmv := Move.virt (S := S) (w := w) hr.heap.lowm
 have hh := hr.heap.virt (.plain es []) ⟨by simp,rfl⟩
 have hr2 := hr.move hmv hh
 exact ⟨S,m ++ [none],hr.heap.virt_box hk hj,hr2.tmps,hr2.defs,hr2.fr⟩
end
theorem deepL_fv (n : Nat) (h : List Blk) : ∀ r : List FV,deepL (deepF (n + 1) h) (r.map .fv) = some r
 | [] => rfl
 | x :: r => by
  have ih := deepL_fv n h r
  have e : deepF (n + 1) h (.fv x) = some x := rfl
  rw [List.map_cons,deepL,e,ih]
theorem deepF_ref {n : Nat} {h : List Blk} {id es off k : Nat} {rows : List (List FV)} (hb : h[id]? = some (.plain es rows)) (hl : off + k ≤ rows.length) (hr : ∀ r ∈ rows,r.length = es) :
  deepF (n + 2) h (.ref id es off k) = some (.lst es ((rows.drop off).take k)) := by
 cases k with
 | zero => simp [deepF]
 | succ k =>
  have hlen : ((rows.drop off).take (k + 1)).length = k + 1 := by rw [List.length_take,List.length_drop]; omega
  have hc := chunk_flatten es ((rows.drop off).take (k + 1)) (fun r h => hr r (List.mem_of_mem_drop (List.mem_of_mem_take h)))
  rw [hlen] at hc
  have e : refCells h id es off (k + 1) = some (((rows.drop off).take (k + 1)).flatten.map .fv) := by
   unfold refCells
   rw [hb]
   simp only
   rw [if_pos (by simpa using hl)]
   rfl
  show (match refCells h id es off (k + 1) with
   | some ys => match deepL (deepF (n + 1) h) ys with
    | some xs => some (FV.lst es (chunk es (k + 1) xs))
    | none => none
   | none => none) = _
  rw [e]
  simp only [deepL_fv,hc]
end Go.Abs
/- A call of a function that lays nothing open: blocks that it is given are frozen ahead of it. -/
namespace Go.Abs
variable [Kn]
set_option linter.unusedSectionVars false
set_option linter.unusedVariables false
set_option linter.unusedSimpArgs false
section
variable {P : Program} {st : St}
def isRows : Option Blk → Bool
 | some (.plain _ _) => true
 | _ => false
theorem rows_of {h : List Blk} : ∀ {frz : List Nat},(frz.all fun i => isRows h[i]?) = true → ∀ i ∈ frz,∃ es rows,h[i]? = some (.plain es rows) := by
 intro frz hf i hi
 have h1 := List.all_eq_true.1 hf i hi
 cases hx : h[i]? with
 | none => rw [hx] at h1; cases h1
 | some b =>
  rw [hx] at h1
  cases b with
  | plain es rows => exact ⟨es,rows,rfl⟩
  | _ => cases h1
theorem le_eqwk {n0 : Nat} {t t' : List AV} {h h' : List Blk} {d : List (FuncId × List AV × List AV)} (hh : h = h') (hw : wk t t') : Le n0 ⟨t,h,d⟩ ⟨t',h',d⟩ := by
 subst hh
 exact le_wk hw
/-- Blocks are picked, others frozen, slots forgotten. -/
theorem le_pkfz {n0 : Nat} (keep frz : List Nat) {t t' : List AV} {h h' : List Blk} (hpre : keep.take n0 = List.range n0) (hnd : keep.Nodup) (hlt : ∀ i ∈ keep,i < h.length) (hdis : ∀ i ∈ frz,i ∉ keep)
  (hfl : (frz.all fun i => isRows h[i]?) = true) (hh : keep.map (fun i => subBlk (mkSub keep frz h) (h.getD i .dead)) = h') (hw : wk (t.map (subAny (mkSub keep frz h))) t') : Le n0 ⟨t,h,[]⟩ ⟨t',h',[]⟩ := by
 subst hh
 refine Le.trans (le_to keep frz hpre hnd hlt hdis (rows_of hfl) rfl) ?_
 simp only [subSt,List.map_nil]
 exact le_wk hw
end
end Go.Abs
