/- The weakest precondition step by step: equations that a rewriter may use. -/
import Derived.Test.YtnhghoonlmoinaaGreatAbsO
namespace Go.Abs
variable [Kn]
set_option linter.unusedSectionVars false
set_option linter.unusedVariables false
set_option linter.unusedSimpArgs false
inductive Cont where
 | ops (l : List Nat)
 | draw (l : List (Nat × Bool)) (hs : Held)
def nxt (P : Program) (ops : Array Oper) (Q : AEx → St → Prop) : Cont → St → Prop
 | .ops l,st => awpOps P ops Q l st
 | .draw l hs,st => awpDraw P ops Q l hs st
def mkO (op : Op) (dst : Option Tmp) : Oper := { dst := dst, op := op, type := 0, pos := "", after := #[], guard := none }
def opK (P : Program) (ops : Array Oper) (Q : AEx → St → Prop) (op : Op) (hs : Held) (i : Nat) (d : Option Tmp) (c : Cont) (st : St) : Prop :=
 awpOp P hs i (mkO op d) st (fun v s => nxt P ops Q c (s.put d v)) (fun v s => Q (.pan v) (forget ops s))
/-- A quiet operation of a drawn region. -/
def quK (P : Program) (ops : Array Oper) (Q : AEx → St → Prop) (op : Op) (i : Nat) (d : Option Tmp) (l : List (Nat × Bool)) (hs : Held) (st : St) : Prop :=
 match op with
 | .pick c a b => bO (ev st.t c) fun cv => bB cv fun t => bO (ev st.t a) fun x => bO (ev st.t b) fun y =>
   if t then awpDraw P ops Q l hs (st.put d x) else awpDraw P ops Q l hs (st.put d y)
 | op => match pureA P st.t (mkO op d) with
  | some v => awpDraw P ops Q l hs (st.put d v)
  | none => bO (readA P st.t st.h (mkO op d)) fun (v,id) => awpDraw P ops Q l (match id with
    | some k => (k,behind ops i) :: hs
    | none => hs) (st.put d v)
def stepAt (P : Program) (ops : Array Oper) (Q : AEx → St → Prop) (oo : Option Oper) (hs : Held) (i : Nat) (c : Cont) (st : St) : Prop := match oo with
 | none => False
 | some o => gd ops o st.t (opK P ops Q o.op hs i o.dst c st) (nxt P ops Q c (st.put o.dst .undef))
def stepQ (P : Program) (ops : Array Oper) (Q : AEx → St → Prop) (oo : Option Oper) (i : Nat) (l : List (Nat × Bool)) (hs : Held) (st : St) : Prop := match oo with
 | none => False
 | some o => gd ops o st.t (quK P ops Q o.op i o.dst l hs st) (awpDraw P ops Q l hs (st.put o.dst .undef))
def putK (P : Program) (ops : Array Oper) (Q : AEx → St → Prop) (r : Option AV) (d : Option Tmp) (c : Cont) (st : St) : Prop := bO r fun v => nxt P ops Q c (st.put d v)
def readK (P : Program) (ops : Array Oper) (Q : AEx → St → Prop) (r : Option (AV × Option Nat)) (i : Nat) (d : Option Tmp) (l : List (Nat × Bool)) (hs : Held) (st : St) : Prop :=
 bO r fun (v,id) => awpDraw P ops Q l (match id with
    | some k => (k,behind ops i) :: hs
    | none => hs) (st.put d v)
def effK (P : Program) (ops : Array Oper) (Q : AEx → St → Prop) (r : Option (AV × List Blk × List Nat)) (hs : Held) (i : Nat) (d : Option Tmp) (c : Cont) (st : St) : Prop :=
 bO r fun (v,h',W) => hs.ok i W = true ∧ nxt P ops Q c ({ st with h := h' }.put d v)
def callK (P : Program) (ops : Array Oper) (Q : AEx → St → Prop) (f : FuncId) (args : List AV) (hs : Held) (i : Nat) (d : Option Tmp) (c : Cont) (st : St) : Prop :=
 awpCall P hs i st f args (fun v s => nxt P ops Q c (s.put d v)) (fun v s => Q (.pan v) (forget ops s))
def pickK (P : Program) (ops : Array Oper) (Q : AEx → St → Prop) (cv a b : Option AV) (d : Option Tmp) (c : Cont) (st : St) : Prop :=
 bO cv fun cv => bB cv fun t => bO a fun x => bO b fun y => if t then nxt P ops Q c (st.put d x) else nxt P ops Q c (st.put d y)
def condK (P : Program) (n0 : Nat) (v : Option AV) (a b : Code) (Q : AEx → St → Prop) (st : St) : Prop :=
 bO v fun v => bB v fun t => if t then awp P n0 a Q st else awp P n0 b Q st
section
variable {P : Program} {ops : Array Oper} {Q : AEx → St → Prop} {n0 : Nat} {st : St}
/-- What comes behind the first part of a sequence. -/
def thenC (P : Program) (n0 : Nat) (b : Code) (Q : AEx → St → Prop) : AEx → St → Prop := AEx.then (awp P n0 b Q) Q
theorem awp_seq (a b : Code) : awp P n0 (.seq a b) Q st = awp P n0 a (thenC P n0 b Q) st := rfl
theorem thenC_normal (b : Code) (s : St) : thenC P n0 b Q .normal s = awp P n0 b Q s := rfl
theorem thenC_ret (b : Code) (s : St) : thenC P n0 b Q .ret s = Q .ret s := rfl
theorem thenC_exit (b : Code) (i : Nat) (s : St) : thenC P n0 b Q (.exit i) s = Q (.exit i) s := rfl
theorem thenC_pan (b : Code) (v : AV) (s : St) : thenC P n0 b Q (.pan v) s = Q (.pan v) s := rfl
theorem awp_skip : awp P n0 .skip Q st = Q .normal st := rfl
theorem awp_ret : awp P n0 .ret Q st = Q .ret st := rfl
theorem awp_exit (id : Nat) : awp P n0 (.exit id) Q st = Q (.exit id) st := rfl
theorem awp_label (x : Nat) : awp P n0 (.label x) Q st = Q .normal st := rfl
theorem awp_block (id : Nat) (c : Code) : awp P n0 (.block id c) Q st = awp P n0 c (AEx.inBlock id Q) st := rfl
theorem awp_cond (c : Operand) (a b : Code) : awp P n0 (.cond c a b) Q st = condK P n0 (ev st.t c) a b Q st := rfl
theorem awp_reg (id : Nat) (ops : Array Oper) : awp P n0 (.region id ops false) Q st = nxt P ops Q (.ops (List.range ops.size)) st := rfl
theorem awp_draw {l : List (Nat × Bool)} (id : Nat) (ops : Array Oper) (h : sched ops = some l) : awp P n0 (.region id ops true) Q st = nxt P ops Q (.draw l []) st := by
 show (if true then (match sched ops with
  | some l => awpDraw P ops Q l [] st
  | none => _) else _) = _
 rw [h]; rfl
theorem then_normal (n : St → Prop) (Q : AEx → St → Prop) (s : St) : AEx.then n Q .normal s = n s := rfl
theorem then_ret (n : St → Prop) (Q : AEx → St → Prop) (s : St) : AEx.then n Q .ret s = Q .ret s := rfl
theorem then_exit (n : St → Prop) (Q : AEx → St → Prop) (i : Nat) (s : St) : AEx.then n Q (.exit i) s = Q (.exit i) s := rfl
theorem then_pan (n : St → Prop) (Q : AEx → St → Prop) (v : AV) (s : St) : AEx.then n Q (.pan v) s = Q (.pan v) s := rfl
theorem inBlock_normal (id : Nat) (Q : AEx → St → Prop) (s : St) : AEx.inBlock id Q .normal s = Q .normal s := rfl
theorem inBlock_ret (id : Nat) (Q : AEx → St → Prop) (s : St) : AEx.inBlock id Q .ret s = Q .ret s := rfl
theorem inBlock_pan (id : Nat) (Q : AEx → St → Prop) (v : AV) (s : St) : AEx.inBlock id Q (.pan v) s = Q (.pan v) s := rfl
theorem inBlock_exit (id i : Nat) (Q : AEx → St → Prop) (s : St) : AEx.inBlock id Q (.exit i) s = if i = id then Q .normal s else Q (.exit i) s := rfl
theorem condK_bool (b : Bool) (x y : Code) : condK P n0 (some (.fv (.bool b))) x y Q st = if b = true then awp P n0 x Q st else awp P n0 y Q st := rfl
theorem condK_any (x y : Code) : condK P n0 (some .anyb) x y Q st = (awp P n0 x Q st ∧ awp P n0 y Q st) := by simp [condK,bO,bB]
theorem nxt_nil : nxt P ops Q (.ops []) st = Q .normal st := rfl
theorem nxt_dnil (hs : Held) : nxt P ops Q (.draw [] hs) st = Q .normal st := rfl
theorem awpOp_mk (hs : Held) (i : Nat) (o : Oper) (K X : AV → St → Prop) (d : Option Tmp) : awpOp P hs i o st K X = awpOp P hs i (mkO o.op d) st K X := by
 cases o; rfl
theorem nxt_cons {o : Oper} (i : Nat) (l : List Nat) (h : ops[i]? = some o) : nxt P ops Q (.ops (i :: l)) st = stepAt P ops Q (some o) [] i (.ops l) st := by
 show awpOps P ops Q (i :: l) st = _
 simp only [awpOps,h,stepAt,opK]
 rw [← awpOp_mk]
 rfl
theorem nxt_at (i : Nat) (l : List Nat) : nxt P ops Q (.ops (i :: l)) st = (match ops[i]? with
  | some o => stepAt P ops Q (some o) [] i (.ops l) st
  | none => nxt P ops Q (.ops l) st) := by
 cases h : ops[i]? with
 | none =>
  show awpOps P ops Q (i :: l) st = _
  simp only [awpOps,h]; rfl
 | some o => exact nxt_cons i l h
theorem nxt_draw (i : Nat) (l : List (Nat × Bool)) (hs : Held) : nxt P ops Q (.draw ((i,false) :: l) hs) st = stepAt P ops Q ops[i]? hs i (.draw l (hs.drop i)) st := by
 show awpDraw P ops Q ((i,false) :: l) hs st = _
 cases h : ops[i]? with
 | none => simp only [awpDraw,h,stepAt]
 | some o =>
  simp only [awpDraw,h,stepAt,opK]
  rw [← awpOp_mk]
  rfl
theorem nxt_quiet (i : Nat) (l : List (Nat × Bool)) (hs : Held) : nxt P ops Q (.draw ((i,true) :: l) hs) st = stepQ P ops Q ops[i]? i l hs st := by
 show awpDraw P ops Q ((i,true) :: l) hs st = _
 cases h : ops[i]? with
 | none => simp only [awpDraw,h,stepQ]
 | some o =>
  simp only [awpDraw,h,stepQ,if_true]
  congr 1
  obtain ⟨_,op,_,_,_,_⟩ := o
  cases op <;> rfl
theorem stepAt_plain (d : Option Tmp) (op : Op) (T : TypeId) (p : String) (af : Array Edge) (hs : Held) (i : Nat) (c : Cont) :
  stepAt P ops Q (some { dst := d,op := op,type := T,pos := p,after := af,guard := none }) hs i c st = opK P ops Q op hs i d c st := rfl
theorem stepQ_plain (d : Option Tmp) (op : Op) (T : TypeId) (p : String) (af : Array Edge) (i : Nat) (l : List (Nat × Bool)) (hs : Held) :
  stepQ P ops Q (some { dst := d,op := op,type := T,pos := p,after := af,guard := none }) i l hs st = quK P ops Q op i d l hs st := rfl
/-- Operations under a guard. -/
def guardK (P : Program) (ops : Array Oper) (Q : AEx → St → Prop) (g : Option (Option Bool)) (w : Bool) (op : Op) (hs : Held) (i : Nat) (d : Option Tmp) (c : Cont) (st : St) : Prop :=
 bO g fun g => if g = some w then opK P ops Q op hs i d c st else nxt P ops Q c (st.put d .undef)
def guardQ (P : Program) (ops : Array Oper) (Q : AEx → St → Prop) (g : Option (Option Bool)) (w : Bool) (op : Op) (i : Nat) (d : Option Tmp) (l : List (Nat × Bool)) (hs : Held) (st : St) : Prop :=
 bO g fun g => if g = some w then quK P ops Q op i d l hs st else nxt P ops Q (.draw l hs) (st.put d .undef)
theorem stepAt_guard (d : Option Tmp) (op : Op) (T : TypeId) (p : String) (af : Array Edge) (j : Nat) (w : Bool) (hs : Held) (i : Nat) (c : Cont) :
  stepAt P ops Q (some { dst := d,op := op,type := T,pos := p,after := af,guard := some (j,w) }) hs i c st = guardK P ops Q (gval ops st.t j) w op hs i d c st := rfl
theorem stepQ_guard (d : Option Tmp) (op : Op) (T : TypeId) (p : String) (af : Array Edge) (j : Nat) (w : Bool) (i : Nat) (l : List (Nat × Bool)) (hs : Held) :
  stepQ P ops Q (some { dst := d,op := op,type := T,pos := p,after := af,guard := some (j,w) }) i l hs st = guardQ P ops Q (gval ops st.t j) w op i d l hs st := rfl
theorem guardK_yes (b w : Bool) (op : Op) (hs : Held) (i : Nat) (d : Option Tmp) (c : Cont) :
  guardK P ops Q (some (some b)) w op hs i d c st = if b = w then opK P ops Q op hs i d c st else nxt P ops Q c (st.put d .undef) := by
 simp only [guardK,bO,Option.some.injEq]
theorem guardK_no (w : Bool) (op : Op) (hs : Held) (i : Nat) (d : Option Tmp) (c : Cont) :
  guardK P ops Q (some none) w op hs i d c st = nxt P ops Q c (st.put d .undef) := by
 simp [guardK,bO]
theorem guardQ_yes (b w : Bool) (op : Op) (i : Nat) (d : Option Tmp) (l : List (Nat × Bool)) (hs : Held) :
  guardQ P ops Q (some (some b)) w op i d l hs st = if b = w then quK P ops Q op i d l hs st else nxt P ops Q (.draw l hs) (st.put d .undef) := by
 simp only [guardQ,bO,Option.some.injEq]
theorem guardQ_no (w : Bool) (op : Op) (i : Nat) (d : Option Tmp) (l : List (Nat × Bool)) (hs : Held) :
  guardQ P ops Q (some none) w op i d l hs st = nxt P ops Q (.draw l hs) (st.put d .undef) := by
 simp [guardQ,bO]
/-- A slot's value as a guard. -/
def gv (x : AV) : Option (Option Bool) := match x with
 | .fv (.bool b) => some (some b)
 | .undef => some none
 | _ => none
def gvO (t : List AV) : Option Oper → Option (Option Bool)
 | some { dst := some d,.. } => gv (t.getD d .any)
 | _ => some none
theorem gval_eq (t : List AV) (j : Nat) : gval ops t j = gvO t ops[j]? := by
 unfold gval gvO gv
 cases ops[j]? with
 | none => rfl
 | some o =>
  obtain ⟨d,_,_,_,_,_⟩ := o
  cases d <;> rfl
theorem gvO_some (t : List AV) (d : Nat) (op : Op) (T : TypeId) (p : String) (af : Array Edge) (g : Option (Nat × Bool)) :
  gvO t (some { dst := some d,op := op,type := T,pos := p,after := af,guard := g }) = gv (t.getD d .any) := rfl
theorem gv_bool (b : Bool) : gv (.fv (.bool b)) = some (some b) := rfl
theorem gv_undef : gv .undef = some none := rfl
theorem putK_some (v : AV) (d : Option Tmp) (c : Cont) : putK P ops Q (some v) d c st = nxt P ops Q c (st.put d v) := rfl
theorem readK_at (v : AV) (k i : Nat) (d : Option Tmp) (l : List (Nat × Bool)) (hs : Held) : readK P ops Q (some (v,some k)) i d l hs st = nxt P ops Q (.draw l ((k,behind ops i) :: hs)) (st.put d v) := rfl
theorem readK_no (v : AV) (i : Nat) (d : Option Tmp) (l : List (Nat × Bool)) (hs : Held) : readK P ops Q (some (v,none)) i d l hs st = nxt P ops Q (.draw l hs) (st.put d v) := rfl
theorem effK_some (v : AV) (h' : List Blk) (W : List Nat) (hs : Held) (i : Nat) (d : Option Tmp) (c : Cont) : effK P ops Q (some (v,h',W)) hs i d c st = (hs.ok i W = true ∧ nxt P ops Q c ({ st with h := h' }.put d v)) := rfl
theorem ok_none (i : Nat) (W : List Nat) : Held.ok [] i W = true := rfl
theorem ok_nil (hs : Held) (i : Nat) : Held.ok hs i [] = true := by simp [Held.ok]
theorem pickK_some (t : Bool) (a b : AV) (d : Option Tmp) (c : Cont) : pickK P ops Q (some (.fv (.bool t))) (some a) (some b) d c st = if t = true then nxt P ops Q c (st.put d a) else nxt P ops Q c (st.put d b) := rfl
theorem pickK_any (a b : AV) (d : Option Tmp) (c : Cont) : pickK P ops Q (some .anyb) (some a) (some b) d c st = (nxt P ops Q c (st.put d a) ∧ nxt P ops Q c (st.put d b)) := by simp [pickK,bO,bB]
theorem put_some (t : List AV) (h : List Blk) (df : List (FuncId × List AV × List AV)) (d : Nat) (v : AV) : St.put ⟨t,h,df⟩ (some d) v = ⟨t.set d v,h,df⟩ := rfl
theorem put_none (st : St) (v : AV) : st.put none v = st := rfl
/-! ### Operations -/
theorem opK_of_pure {op : Op} {hs : Held} {i : Nat} {d : Option Tmp} {c : Cont} {r : Option AV} (h : ∀ st : St,awpOp P hs i (mkO op d) st = fun K X => match pureA P st.t (mkO op d) with
   | some v => K v st
   | none => match readA P st.t st.h (mkO op d) with
    | some (v,_) => K v st
    | none => bO (effA P st.t st.h (mkO op d)) fun (v,h',W) => hs.ok i W = true ∧ K v { st with h := h' })
  (hr : readA P st.t st.h (mkO op d) = none) (he : effA P st.t st.h (mkO op d) = none) (hp : pureA P st.t (mkO op d) = r) : opK P ops Q op hs i d c st = putK P ops Q r d c st := by
 unfold opK putK
 rw [h]
 simp only [hr,he,hp]
 cases r <;> rfl
theorem quK_of_pure {op : Op} {i : Nat} {d : Option Tmp} {l : List (Nat × Bool)} {hs : Held} {r : Option AV} (h : ∀ st : St,quK P ops Q op i d l hs st = match pureA P st.t (mkO op d) with
   | some v => awpDraw P ops Q l hs (st.put d v)
   | none => bO (readA P st.t st.h (mkO op d)) fun (v,id) => awpDraw P ops Q l (match id with
    | some k => (k,behind ops i) :: hs
    | none => hs) (st.put d v))
  (hr : readA P st.t st.h (mkO op d) = none) (hp : pureA P st.t (mkO op d) = r) : quK P ops Q op i d l hs st = putK P ops Q r d (.draw l hs) st := by
 rw [h]
 unfold putK
 simp only [hr,hp]
 cases r <;> rfl
variable (hs : Held) (i : Nat) (d : Option Tmp) (c : Cont) (l : List (Nat × Bool))
def bin2 (P : Program) (op : BinOp) (T : TypeId) (one : Bool) : Option AV → Option AV → Option AV
 | some a,some b => binA P op T one a b
 | _,_ => none
theorem bin2_some (op : BinOp) (T : TypeId) (one : Bool) (a b : AV) : bin2 P op T one (some a) (some b) = binA P op T one a b := rfl
def map1 (f : AV → Option AV) : Option AV → Option AV
 | some a => f a
 | none => none
theorem map1_some (f : AV → Option AV) (a : AV) : map1 f (some a) = f a := rfl
def ia2 (f : AV → Int → Option AV) : Option AV → Option AV → Option AV
 | some x,some (.fv (.int _ n)) => f x n
 | _,_ => none
theorem ia2_some (f : AV → Int → Option AV) (x : AV) (k : IntKind) (n : Int) : ia2 f (some x) (some (.fv (.int k n))) = f x n := rfl
theorem opK_move (x : Operand) : opK P ops Q (.move x) hs i d c st = putK P ops Q (ev st.t x) d c st := opK_of_pure (fun _ => rfl) rfl rfl rfl
theorem opK_assign (x : Operand) : opK P ops Q (.assign x) hs i d c st = putK P ops Q (ev st.t x) d c st := opK_of_pure (fun _ => rfl) rfl rfl rfl
theorem pure_bin (op : BinOp) (T T' : TypeId) (x y : Operand) (t : List AV) : pureA P t (mkO (.binOp op T x y T') d) = bin2 P op T (isC x || isC y) (ev t x) (ev t y) := by
 show (ev t x).bind _ = _
 cases ev t x <;> cases ev t y <;> rfl
theorem opK_bin (op : BinOp) (T T' : TypeId) (x y : Operand) : opK P ops Q (.binOp op T x y T') hs i d c st = putK P ops Q (bin2 P op T (isC x || isC y) (ev st.t x) (ev st.t y)) d c st :=
 opK_of_pure (fun _ => rfl) rfl rfl (pure_bin d op T T' x y st.t)
theorem opK_un (op : UnOp) (T : TypeId) (x : Operand) : opK P ops Q (.unOp op T x) hs i d c st = putK P ops Q (map1 (unA op) (ev st.t x)) d c st :=
 opK_of_pure (fun _ => rfl) rfl rfl (by show (ev st.t x).bind _ = _; cases ev st.t x <;> rfl)
/-- A value, or else what an operation leaves. -/
def cvK (P : Program) (ops : Array Oper) (Q : AEx → St → Prop) (r : Option AV) (e : Option (AV × List Blk × List Nat)) (hs : Held) (i : Nat) (d : Option Tmp) (c : Cont) (st : St) : Prop := match r with
 | some v => putK P ops Q (some v) d c st
 | none => effK P ops Q e hs i d c st
theorem cvK_some (v : AV) (e : Option (AV × List Blk × List Nat)) : cvK P ops Q (some v) e hs i d c st = putK P ops Q (some v) d c st := rfl
theorem opK_convert (s t : TypeId) (x : Operand) : opK P ops Q (.convert s t x) hs i d c st = cvK P ops Q (map1 (convA P s t) (ev st.t x)) (effA P st.t st.h (mkO (.convert s t x) d)) hs i d c st := by
 have e : pureA P st.t (mkO (.convert s t x) d) = map1 (convA P s t) (ev st.t x) := by show (ev st.t x).bind _ = _; cases ev st.t x <;> rfl
 rw [← e]
 unfold opK cvK putK effK
 have h : awpOp P hs i (mkO (.convert s t x) d) st = fun K X => match pureA P st.t (mkO (.convert s t x) d) with
   | some v => K v st
   | none => match readA P st.t st.h (mkO (.convert s t x) d) with
    | some (v,_) => K v st
    | none => bO (effA P st.t st.h (mkO (.convert s t x) d)) fun (v,h',W) => hs.ok i W = true ∧ K v { st with h := h' } := rfl
 have hr : readA P st.t st.h (mkO (.convert s t x) d) = none := rfl
 rw [h]
 simp only [hr]
 cases pureA P st.t (mkO (.convert s t x) d) <;> rfl
theorem pure_idxAddr (T : TypeId) (x y : Operand) (t : List AV) : pureA P t (mkO (.indexAddr T x y) d) = ia2 (idxAddrA P T) (ev t x) (ev t y) := by
 show (ev t x).bind _ = _
 cases ev t x with
 | none => rfl
 | some a => cases h : ev t y with
  | none => rfl
  | some b => cases b <;> try rfl
              rename_i z; cases z <;> rfl
theorem opK_idxAddr (T : TypeId) (x y : Operand) : opK P ops Q (.indexAddr T x y) hs i d c st = putK P ops Q (ia2 (idxAddrA P T) (ev st.t x) (ev st.t y)) d c st :=
 opK_of_pure (fun _ => rfl) rfl rfl (pure_idxAddr d T x y st.t)
theorem pure_idx (T : TypeId) (x y : Operand) (t : List AV) : pureA P t (mkO (.index T x y) d) = ia2 (idxA P T) (ev t x) (ev t y) := by
 show (ev t x).bind _ = _
 cases ev t x with
 | none => rfl
 | some a => cases h : ev t y with
  | none => rfl
  | some b => cases b <;> try rfl
              rename_i z; cases z <;> rfl
theorem opK_idx (T : TypeId) (x y : Operand) : opK P ops Q (.index T x y) hs i d c st = putK P ops Q (ia2 (idxA P T) (ev st.t x) (ev st.t y)) d c st :=
 opK_of_pure (fun _ => rfl) rfl rfl (pure_idx d T x y st.t)
theorem quK_move (x : Operand) : quK P ops Q (.move x) i d l hs st = putK P ops Q (ev st.t x) d (.draw l hs) st := quK_of_pure (fun _ => rfl) rfl rfl
theorem quK_assign (x : Operand) : quK P ops Q (.assign x) i d l hs st = putK P ops Q (ev st.t x) d (.draw l hs) st := quK_of_pure (fun _ => rfl) rfl rfl
theorem quK_bin (op : BinOp) (T T' : TypeId) (x y : Operand) : quK P ops Q (.binOp op T x y T') i d l hs st = putK P ops Q (bin2 P op T (isC x || isC y) (ev st.t x) (ev st.t y)) d (.draw l hs) st :=
 quK_of_pure (fun _ => rfl) rfl (pure_bin d op T T' x y st.t)
theorem quK_un (op : UnOp) (T : TypeId) (x : Operand) : quK P ops Q (.unOp op T x) i d l hs st = putK P ops Q (map1 (unA op) (ev st.t x)) d (.draw l hs) st :=
 quK_of_pure (fun _ => rfl) rfl (by show (ev st.t x).bind _ = _; cases ev st.t x <;> rfl)
theorem quK_convert (s t : TypeId) (x : Operand) : quK P ops Q (.convert s t x) i d l hs st = putK P ops Q (map1 (convA P s t) (ev st.t x)) d (.draw l hs) st :=
 quK_of_pure (fun _ => rfl) rfl (by show (ev st.t x).bind _ = _; cases ev st.t x <;> rfl)
theorem quK_idxAddr (T : TypeId) (x y : Operand) : quK P ops Q (.indexAddr T x y) i d l hs st = putK P ops Q (ia2 (idxAddrA P T) (ev st.t x) (ev st.t y)) d (.draw l hs) st :=
 quK_of_pure (fun _ => rfl) rfl (pure_idxAddr d T x y st.t)
theorem quK_idx (T : TypeId) (x y : Operand) : quK P ops Q (.index T x y) i d l hs st = putK P ops Q (ia2 (idxA P T) (ev st.t x) (ev st.t y)) d (.draw l hs) st :=
 quK_of_pure (fun _ => rfl) rfl (pure_idx d T x y st.t)
/-- What `len` gives. -/
def lenK (P : Program) (T : TypeId) (v : AV) : Option AV := match tiOf P T with
   | some { desc := .slice _,.. } => match v with
    | .fv (.str _) => none
    | v => (lenA v).map fun (n : Nat) => .fv (.int .i64 (n : Int))
   | some { desc := .string,.. } => match v with
    | .fv (.str s) => some (.fv (.int .i64 s.length))
    | _ => none
   | _ => none
theorem pure_len (x : Operand) (T : TypeId) (t : List AV) : pureA P t (mkO (.call { callee := .builtin .len,args := #[x],argTypes := #[T] }) d) = map1 (lenK P T) (ev t x) := by
 show (match evs t [x],[T] with
  | some [v],[T] => lenK P T v
  | _,_ => none) = _
 unfold evs
 cases ev t x <;> rfl
theorem opK_len (x : Operand) (T : TypeId) : opK P ops Q (.call { callee := .builtin .len,args := #[x],argTypes := #[T] }) hs i d c st = putK P ops Q (map1 (lenK P T) (ev st.t x)) d c st :=
 opK_of_pure (fun _ => rfl) rfl rfl (pure_len d x T st.t)
theorem quK_len (x : Operand) (T : TypeId) : quK P ops Q (.call { callee := .builtin .len,args := #[x],argTypes := #[T] }) i d l hs st = putK P ops Q (map1 (lenK P T) (ev st.t x)) d (.draw l hs) st :=
 quK_of_pure (fun _ => rfl) rfl (pure_len d x T st.t)
def ldK (P : Program) (T : TypeId) (h : List Blk) (p : AV) : Option (AV × Option Nat) := (tiOf P T).bind fun i => (ldA P i h p).map fun v => (v,idOf p)
def ld1 (P : Program) (T : TypeId) (h : List Blk) : Option AV → Option (AV × Option Nat)
 | some p => ldK P T h p
 | none => none
theorem ld1_some (T : TypeId) (h : List Blk) (p : AV) : ld1 P T h (some p) = ldK P T h p := rfl
theorem read_load (T : TypeId) (x : Operand) (t : List AV) (h : List Blk) : readA P t h (mkO (.load T x) d) = ld1 P T h (ev t x) := by
 show (tiOf P T).bind _ = _
 cases ev t x <;> cases h : tiOf P T <;> simp [ld1,ldK,h]
theorem opK_load (T : TypeId) (x : Operand) : opK P ops Q (.load T x) hs i d c st = putK P ops Q ((ld1 P T st.h (ev st.t x)).map Prod.fst) d c st := by
 show (match readA P st.t st.h (mkO (.load T x) d) with
  | some (v,_) => nxt P ops Q c (st.put d v)
  | none => bO (effA P st.t st.h (mkO (.load T x) d)) _) = _
 rw [read_load]
 cases ld1 P T st.h (ev st.t x) <;> rfl
theorem quK_load (T : TypeId) (x : Operand) : quK P ops Q (.load T x) i d l hs st = readK P ops Q (ld1 P T st.h (ev st.t x)) i d l hs st := by
 show bO (readA P st.t st.h (mkO (.load T x) d)) _ = _
 rw [read_load]
 rfl
theorem opK_pick (x a b : Operand) : opK P ops Q (.pick x a b) hs i d c st = pickK P ops Q (ev st.t x) (ev st.t a) (ev st.t b) d c st := rfl
theorem quK_pick (x a b : Operand) : quK P ops Q (.pick x a b) i d l hs st = pickK P ops Q (ev st.t x) (ev st.t a) (ev st.t b) d (.draw l hs) st := rfl
def call2 (P : Program) (ops : Array Oper) (Q : AEx → St → Prop) (f : Option AV) (args : Option (List AV)) (hs : Held) (i : Nat) (d : Option Tmp) (c : Cont) (st : St) : Prop := match f,args with
 | some (.func fid caps),some as => callK P ops Q fid (as ++ caps) hs i d c st
 | _,_ => False
theorem call2_some (f : FuncId) (caps as : List AV) : call2 P ops Q (some (.func f caps)) (some as) hs i d c st = callK P ops Q f (as ++ caps) hs i d c st := rfl
theorem opK_call (f : Operand) (args : Array Operand) (ts : Array TypeId) : opK P ops Q (.call { callee := .value f,args := args,argTypes := ts }) hs i d c st = call2 P ops Q (ev st.t f) (evs st.t args.toList) hs i d c st := by
 show bO (match ev st.t f,evs st.t args.toList with
  | some (.func fid caps),some as => some (fid,as ++ caps)
  | _,_ => none) _ = _
 unfold call2
 generalize ev st.t f = u
 generalize evs st.t args.toList = vs
 cases u with
 | none => cases vs <;> rfl
 | some v => cases v <;> cases vs <;> rfl
theorem evs_nil (t : List AV) : evs t [] = some [] := rfl
def cons2 : Option AV → Option (List AV) → Option (List AV)
 | some a,some as => some (a :: as)
 | _,_ => none
theorem evs_cons (t : List AV) (x : Operand) (l : List Operand) : evs t (x :: l) = cons2 (ev t x) (evs t l) := by
 show (match ev t x,evs t l with
 | some a,some as => some (a :: as)
 | _,_ => none) = _
 cases ev t x <;> cases evs t l <;> rfl
theorem cons2_some (a : AV) (as : List AV) : cons2 (some a) (some as) = some (a :: as) := rfl
theorem ev_tmp (t : List AV) (k : Nat) : ev t (.tmp k) = some (t.getD k .any) := rfl
theorem ev_const (t : List AV) (v : Value) : ev t (.const v) = ofValue v := rfl
theorem ev_func (t : List AV) (f : FuncId) : ev t (.func f) = some (.func f []) := rfl
theorem callK_ret {f : FuncId} {args : List AV} {W : List Nat} {v : AV} {st' : St} (h : CallRel P f args st W (.ret v) st') (hk : hs.ok i W = true) (hn : nxt P ops Q c (st'.put d v)) :
  callK P ops Q f args hs i d c st := ⟨W,.ret v,st',h,hk,hn⟩
/-! ### Effects -/
theorem opK_of_eff {op : Op} {r : Option (AV × List Blk × List Nat)} (h : ∀ st : St,awpOp P hs i (mkO op d) st = fun K X => match pureA P st.t (mkO op d) with
   | some v => K v st
   | none => match readA P st.t st.h (mkO op d) with
    | some (v,_) => K v st
    | none => bO (effA P st.t st.h (mkO op d)) fun (v,h',W) => hs.ok i W = true ∧ K v { st with h := h' })
  (hp : pureA P st.t (mkO op d) = none) (hr : readA P st.t st.h (mkO op d) = none) (he : effA P st.t st.h (mkO op d) = r) : opK P ops Q op hs i d c st = effK P ops Q r hs i d c st := by
 unfold opK effK
 rw [h]
 simp only [hr,he,hp]
theorem opK_alloc (T : TypeId) : opK P ops Q (.alloc T) hs i d c st = effK P ops Q (effA P st.t st.h (mkO (.alloc T) d)) hs i d c st := opK_of_eff hs i d c (fun _ => rfl) rfl rfl rfl
theorem opK_box (T : TypeId) (x : Operand) : opK P ops Q (.box T x) hs i d c st = effK P ops Q (effA P st.t st.h (mkO (.box T x) d)) hs i d c st := opK_of_eff hs i d c (fun _ => rfl) rfl rfl rfl
theorem opK_build (T : TypeId) (ps : Array (Nat × Operand)) : opK P ops Q (.build T ps) hs i d c st = effK P ops Q (effA P st.t st.h (mkO (.build T ps) d)) hs i d c st := opK_of_eff hs i d c (fun _ => rfl) rfl rfl rfl
theorem opK_buildSlice (T : TypeId) (n : Nat) (ps : Array (Nat × Operand)) : opK P ops Q (.buildSlice T n ps) hs i d c st = effK P ops Q (effA P st.t st.h (mkO (.buildSlice T n ps) d)) hs i d c st := opK_of_eff hs i d c (fun _ => rfl) rfl rfl rfl
theorem opK_store (T : TypeId) (x y : Operand) : opK P ops Q (.store T x y) hs i d c st = effK P ops Q (effA P st.t st.h (mkO (.store T x y) d)) hs i d c st := opK_of_eff hs i d c (fun _ => rfl) rfl rfl rfl
theorem opK_makeSlice (T : TypeId) (x y : Operand) : opK P ops Q (.makeSlice T x y) hs i d c st = effK P ops Q (effA P st.t st.h (mkO (.makeSlice T x y) d)) hs i d c st := opK_of_eff hs i d c (fun _ => rfl) rfl rfl rfl
theorem opK_append (args : Array Operand) (ts : Array TypeId) : opK P ops Q (.call { callee := .builtin .append,args := args,argTypes := ts }) hs i d c st = effK P ops Q (effA P st.t st.h (mkO (.call { callee := .builtin .append,args := args,argTypes := ts }) d)) hs i d c st := opK_of_eff hs i d c (fun _ => rfl) rfl rfl rfl
end
/-! ### Numbers and texts -/
section
variable {P : Program} (T : TypeId) (one : Bool) (k : IntKind) (x y : Int)
theorem bin_add : binA P .add T one (.fv (.int k x)) (.fv (.int k y)) = some (.fv (.int k (k.wrap (x + y)))) := by simp [binA,isShift,intA]
theorem bin_sub : binA P .sub T one (.fv (.int k x)) (.fv (.int k y)) = some (.fv (.int k (k.wrap (x - y)))) := by simp [binA,isShift,intA]
theorem bin_mul : binA P .mul T one (.fv (.int k x)) (.fv (.int k y)) = some (.fv (.int k (k.wrap (x * y)))) := by simp [binA,isShift,intA]
theorem bin_eql : binA P .eql T one (.fv (.int k x)) (.fv (.int k y)) = some (.fv (.bool (decide (x = y)))) := by simp [binA,isShift,intA]; rfl
theorem bin_neq : binA P .neq T one (.fv (.int k x)) (.fv (.int k y)) = some (.fv (.bool (decide (x ≠ y)))) := by simp [binA,isShift,intA]; rfl
theorem bin_lss : binA P .lss T one (.fv (.int k x)) (.fv (.int k y)) = some (.fv (.bool (decide (x < y)))) := by simp [binA,isShift,intA]
theorem bin_leq : binA P .leq T one (.fv (.int k x)) (.fv (.int k y)) = some (.fv (.bool (decide (x ≤ y)))) := by simp [binA,isShift,intA]
theorem bin_gtr : binA P .gtr T one (.fv (.int k x)) (.fv (.int k y)) = some (.fv (.bool (decide (y < x)))) := by simp [binA,isShift,intA]
theorem bin_geq : binA P .geq T one (.fv (.int k x)) (.fv (.int k y)) = some (.fv (.bool (decide (y ≤ x)))) := by simp [binA,isShift,intA]
theorem un_not (b : Bool) : unA .not (.fv (.bool b)) = some (.fv (.bool !b)) := rfl
theorem un_neg : unA .neg (.fv (.int k x)) = some (.fv (.int k (k.wrap (0 - x)))) := rfl
/-- Where an element of a slice lies. -/
theorem idx_lst {ti ie : TI} {e : TypeId} (h : tiOf P T = some ti) (he : ti.desc = .slice e) (hie : tiOf P e = some ie) (es : Nat) (hes : ie.size = es) (xs : List (List FV)) (i : Int) (row : List FV) (hr : xs[i.toNat]? = some row) (hi : 0 ≤ i) :
  idxAddrA P T (.fv (.lst es xs)) i = some (.fptr row) := by
 obtain ⟨dd,a,b,z⟩ := ti
 simp only at he; subst he
 simp [idxAddrA,h,hie,hes,hi,hr]
theorem idx_ref {ti ie : TI} {e : TypeId} (h : tiOf P T = some ti) (he : ti.desc = .slice e) (hie : tiOf P e = some ie) (id es off n : Nat) (hes : ie.size = es) (i : Int) (hi : 0 ≤ i) (hn : i < n) :
  idxAddrA P T (.ref id es off n) i = some (.ptr id es (off + i.toNat) 0) := by
 obtain ⟨dd,a,b,z⟩ := ti
 simp only at he; subst he
 simp [idxAddrA,h,hie,hes,hi,hn]
/-- A scalar is loaded. -/
theorem ld_fptr {ti : TI} (h : tiOf P T = some ti) (ha : ti.isAgg = false) (hp : List Blk) (x : FV) (l : List FV) : ldK P T hp (.fptr (x :: l)) = some (.fv x,none) := by
 simp [ldK,h,ldA,partA,ha,idOf]
theorem ld_ptr {ti : TI} (h : tiOf P T = some ti) (ha : ti.isAgg = false) (hp : List Blk) (id es r off : Nat) (rows : List (List FV)) (row : List FV) (x : FV) (hb : hp[id]? = some (.plain es rows)) (hr : rows[r]? = some row) (hx : row[off]? = some x) :
  ldK P T hp (.ptr id es r off) = some (.fv x,some id) := by
 simp [ldK,h,ldA,partA,ha,idOf,hb,hr,hx]
theorem len_lst {ti : TI} {e : TypeId} (h : tiOf P T = some ti) (he : ti.desc = .slice e) (es : Nat) (xs : List (List FV)) : lenK P T (.fv (.lst es xs)) = some (.fv (.int .i64 (xs.length : Int))) := by
 obtain ⟨dd,a,b,z⟩ := ti
 simp only at he; subst he
 simp [lenK,h,lenA]
theorem len_ref {ti : TI} {e : TypeId} (h : tiOf P T = some ti) (he : ti.desc = .slice e) (id es off n : Nat) : lenK P T (.ref id es off n) = some (.fv (.int .i64 (n : Int))) := by
 obtain ⟨dd,a,b,z⟩ := ti
 simp only at he; subst he
 simp [lenK,h,lenA]
end
end Go.Abs
/- Returning and looping. -/
namespace Go.Abs
variable [Kn]
set_option linter.unusedSectionVars false
set_option linter.unusedVariables false
set_option linter.unusedSimpArgs false
section
variable {P : Program} {Q : AEx → St → Prop} {n0 : Nat} {st : St}
/-! ### Returning -/
def retR (P : Program) (rs : List ResultVar) (n0 : Nat) (o : AOut) (h' : List Blk) : AEx → St → Prop
 | .normal,st | .ret,st => st.d = [] ∧ ∃ vs,resAs P st rs = some vs ∧ outOk n0 o (pack vs) st.h h'
 | .pan v,st => st.d = [] ∧ match o with
  | .ret _ => False
  | .pan x => Le n0 { t := [v],h := st.h,d := [] } { t := [x],h := h',d := [] }
 | _,_ => False
theorem ok_start (hmix : P.follows .mixedOrders = true) {f : FuncId} {fn : Func} {c : Code} (hf : P.funcs[f]? = some fn) (hn : (fn.name == "runtime.NumGoroutine") = false) (hb : fn.body = some c) {nt : Nat} (hnt : fn.ntmps = nt)
  {rs : List ResultVar} (hrs : fn.results.toList = rs) {args : List AV} {h : List Blk} {o : AOut} {h' : List Blk} {n0 k : Nat} (hn0 : h.length = n0) (ht : args.length + k = nt) {t0 : List AV} (htt : args ++ List.replicate k .undef = t0)
  (hw : awp P n0 c (retR P rs n0 o h') ⟨t0,h,[]⟩) : Ok P f args h o h' := by
 subst hnt; subst hrs; subst hn0; subst htt
 refine ok_intro hmix hf hn hb (by omega) ?_
 have hk : fn.ntmps - args.length = k := by omega
 rw [hk]
 have e : retA P fn h.length o h' = retR P fn.results.toList h.length o h' := by
  funext e st
  cases e <;> rfl
 rw [e]
 exact hw
def finK (n0 : Nat) (vs : Option (List AV)) (o : AOut) (h h' : List Blk) : Prop := bO vs fun vs => outOk n0 o (pack vs) h h'
theorem retR_ret (rs : List ResultVar) (o : AOut) (h' : List Blk) (t : List AV) (h : List Blk) : retR P rs n0 o h' .ret ⟨t,h,[]⟩ = finK n0 (resAs P ⟨t,h,[]⟩ rs) o h h' := by
 simp only [retR,finK,true_and]
 cases resAs P ⟨t,h,[]⟩ rs <;> simp [bO]
theorem retR_normal (rs : List ResultVar) (o : AOut) (h' : List Blk) (t : List AV) (h : List Blk) : retR P rs n0 o h' .normal ⟨t,h,[]⟩ = finK n0 (resAs P ⟨t,h,[]⟩ rs) o h h' := retR_ret rs o h' t h
theorem retR_pan (rs : List ResultVar) (v x : AV) (h' : List Blk) (t : List AV) (h : List Blk) : retR P rs n0 (.pan x) h' (.pan v) ⟨t,h,[]⟩ = Le n0 { t := [v],h := h,d := [] } { t := [x],h := h',d := [] } := by
 simp [retR]
theorem resAs_nil : resAs P st [] = some [] := rfl
theorem resAs_cons (r : ResultVar) (l : List ResultVar) : resAs P st (r :: l) = cons2 (resA P st r) (resAs P st l) := by
 show (match resA P st r,resAs P st l with
 | some a,some as => some (a :: as)
 | _,_ => none) = _
 cases resA P st r <;> cases resAs P st l <;> rfl
theorem resA_tmp (k : Nat) : resA P st (.tmp k) = some (st.t.getD k .any) := rfl
theorem resA_cell (k : Nat) (T : TypeId) : resA P st (.cell k T) = (ldK P T st.h (st.t.getD k .any)).map Prod.fst := by
 show (tiOf P T).bind _ = _
 unfold ldK
 cases tiOf P T <;> simp
 rename_i i
 generalize ldA P i st.h _ = z
 cases z <;> rfl
theorem fin_one (v x : AV) (h h' : List Blk) : finK n0 (some [v]) (.ret x) h h' = Le n0 { t := [v],h := h,d := [] } { t := [x],h := h',d := [] } := rfl
theorem fin_none (x : AV) (h h' : List Blk) : finK n0 (some []) (.ret x) h h' = Le n0 { t := [.tuple []],h := h,d := [] } { t := [x],h := h',d := [] } := rfl
theorem fin_two (v u x : AV) (l : List AV) (h h' : List Blk) : finK n0 (some (v :: u :: l)) (.ret x) h h' = Le n0 { t := [.tuple (v :: u :: l)],h := h,d := [] } { t := [x],h := h',d := [] } := rfl
/-! ### Saying less -/
theorem le_to (keep frz : List Nat) {st st' : St} (hpre : keep.take n0 = List.range n0) (hnd : keep.Nodup) (hlt : ∀ i ∈ keep,i < st.h.length) (hdis : ∀ i ∈ frz,i ∉ keep)
  (hfl : ∀ i ∈ frz,∃ es rows,st.h[i]? = some (.plain es rows)) (he : subSt keep frz st = st') : Le n0 st st' := he ▸ le_sub keep frz hpre hnd hlt hdis hfl
theorem le_flat {v : AV} {h : List Blk} (hv : flatA v = true) : Le 0 { t := [v],h := h,d := [] } { t := [v],h := [],d := [] } := by
 intro w0 S0 m0 w S m a hn hr
 obtain ⟨S',m',hr'⟩ := le_sub (n0 := 0) (st := { t := [v],h := h,d := [] }) [] [] rfl List.nodup_nil (fun i hi => by simp at hi) (fun i hi => by simp at hi) (fun i hi => by simp at hi) w0 S0 m0 w S m a hn hr
 refine ⟨S',m',hr'.heap,⟨by simpa [subSt] using hr'.tmps.1,fun i u x hu hx => ?_⟩,hr'.defs,hr'.fr⟩
 cases i with
 | zero => simp at hx; subst hx; exact (hr.tmps.2 0 u v hu rfl).flat hv
 | succ i => simp at hx
theorem le_lst {id es off len : Nat} {h : List Blk} {rows xs : List (List FV)} (hb : h[id]? = some (.plain es rows)) (hl : off + len ≤ rows.length) (hx : (rows.drop off).take len = xs) :
  Le 0 { t := [.ref id es off len],h := h,d := [] } { t := [.fv (.lst es xs)],h := [],d := [] } := by
 subst hx
 refine le_to [] [id] rfl List.nodup_nil (fun i hi => by simp at hi) (fun i _ hi => by simp at hi) (fun i hi => by simp at hi; subst hi; exact ⟨es,rows,hb⟩) ?_
 simp [subSt,subAny,subA,mkSub,idx,hb,hl]
/-- Slots are forgotten. -/
def wk : List AV → List AV → Prop
 | [],[] => True
 | x :: t,y :: t' => (y = x ∨ y = .any) ∧ wk t t'
 | _,_ => False
theorem wk_get : ∀ {t t' : List AV},wk t t' → t.length = t'.length ∧ ∀ (i : Nat) (y : AV),t'[i]? = some y → t[i]? = some y ∨ y = .any
 | [],[],_ => ⟨rfl,fun i y h => by simp at h⟩
 | x :: t,y :: t',h => by
  obtain ⟨h1,h2⟩ := h
  obtain ⟨e,ih⟩ := wk_get h2
  refine ⟨by simp [e],fun i z hz => ?_⟩
  cases i with
  | zero => simp at hz; subst hz; rcases h1 with h1 | h1 <;> simp [h1]
  | succ i => exact ih i z (by simpa using hz)
 | [],_ :: _,h => h.elim
 | _ :: _,[],h => h.elim
theorem le_wk {t t' : List AV} {h : List Blk} {d : List (FuncId × List AV × List AV)} (hw : wk t t') : Le n0 ⟨t,h,d⟩ ⟨t',h,d⟩ := fun w0 S0 m0 w S m a _ hr => by
 obtain ⟨e,hg⟩ := wk_get hw
 refine ⟨S,m,hr.heap,⟨by rw [← e]; exact hr.tmps.1,fun i v y hv hy => ?_⟩,hr.defs,hr.fr⟩
 rcases hg i y hy with h1 | h1
 ·exact hr.tmps.2 i v y hv h1
 ·subst h1; exact .any v
/-! ### Loops -/
theorem awp_loop (c : Code) : awp P n0 (.loop c) Q st = LoopOk n0 (awp P n0 c) Q st := rfl
theorem least (p : Nat → Prop) (h : ∃ n,p n) : ∃ n,p n ∧ ∀ k,p k → n ≤ k := by
 obtain ⟨n,hn⟩ := h
 induction n using Nat.strongRecOn with
 | _ n ih =>
  by_cases hc : ∃ k,k < n ∧ p k
  ·obtain ⟨k,hk,hp⟩ := hc
   exact ih k hk hp
  ·exact ⟨n,hn,fun k hp => Nat.le_of_not_lt fun hlt => hc ⟨k,hlt,hp⟩⟩
open Classical in
noncomputable def rank {α : Type} (S : α → St) (pre : α → Prop) (μ : α → Nat) (s : St) : Nat :=
 if h : ∃ n,∃ a,pre a ∧ S a = s ∧ μ a = n then (least _ h).choose else 0
def headOf {α : Type} (S : α → St) (pre : α → Prop) (s : St) : Prop := ∃ a,pre a ∧ S a = s
theorem rank_le {α : Type} {S : α → St} {pre : α → Prop} {μ : α → Nat} {a : α} (h : pre a) : rank S pre μ (S a) ≤ μ a := by
 have hx : ∃ n,∃ b,pre b ∧ S b = S a ∧ μ b = n := ⟨_,a,h,rfl,rfl⟩
 rw [rank,dif_pos hx]
 exact (least _ hx).choose_spec.2 _ ⟨a,h,rfl,rfl⟩
theorem rank_at {α : Type} {S : α → St} {pre : α → Prop} {μ : α → Nat} {s : St} (h : headOf S pre s) : ∃ a,pre a ∧ S a = s ∧ μ a = rank S pre μ s := by
 obtain ⟨a,h1,h2⟩ := h
 have hx : ∃ n,∃ b,pre b ∧ S b = s ∧ μ b = n := ⟨_,a,h1,h2,rfl⟩
 rw [rank,dif_pos hx]
 exact (least _ hx).choose_spec.1
/-- A round is over: the loop's head again, further on. -/
def backK {α : Type} (n0 : Nat) (S : α → St) (pre : α → Prop) (μ : α → Nat) (s : St) (s1 : St) : Prop := ∃ s2,Le n0 s1 s2 ∧ headOf S pre s2 ∧ rank S pre μ s2 < rank S pre μ s
theorem back_intro {α : Type} {S : α → St} {pre : α → Prop} {μ : α → Nat} {s s1 : St} {n : Nat} (hn : n = rank S pre μ s) (a : α) (hle : Le n0 s1 (S a)) (hp : pre a) (hlt : μ a < n) : backK n0 S pre μ s s1 :=
 ⟨S a,hle,⟨a,hp,rfl⟩,by rw [← hn]; exact Nat.lt_of_le_of_lt (rank_le hp) hlt⟩
theorem loop_rule {α : Type} (S : α → St) (pre : α → Prop) (μ : α → Nat) {c : Code} (a0 : α) (h0 : Le n0 st (S a0)) (p0 : pre a0)
  (step : ∀ a,pre a → ∀ s,μ a = rank S pre μ s → awp P n0 c (AEx.then (backK n0 S pre μ s) Q) (S a)) : LoopOk n0 (awp P n0 c) Q st := by
 refine ⟨headOf S pre,rank S pre μ,⟨S a0,h0,a0,p0,rfl⟩,fun s hs => ?_⟩
 obtain ⟨a,h1,h2,h3⟩ := rank_at (μ := μ) hs
 have := step a h1 s h3
 rw [h2] at this
 exact this
end
end Go.Abs
