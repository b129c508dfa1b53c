/- The same runs with slots in a tree: what the kernel is to reckon. -/
import Derived.Test.YtnhghoonlmoinaaGreatAbsRun
namespace Go.Abs
variable [Kn]
set_option linter.unusedSectionVars false
set_option linter.unusedVariables false
set_option linter.unusedSimpArgs false
/-! ### Slots -/
inductive Tr where
 | leaf
 | node (v : AV) (l r : Tr)
noncomputable def Tr.get (t : Tr) : Nat → AV := @Tr.rec (fun _ => Nat → AV) (fun _ => .undef) (fun v _ _ il ir i => @Nat.rec (fun _ => AV) v (fun j _ => @Bool.rec (fun _ => AV) (il (Nat.div j 2)) (ir (Nat.div j 2)) (Nat.beq (Nat.mod j 2) 1)) i) t
noncomputable def Tr.set (t : Tr) : Nat → AV → Tr :=
 @Tr.rec (fun _ => Nat → AV → Tr) (fun _ _ => .leaf)
  (fun x l r il ir i v => @Nat.rec (fun _ => Tr) (.node v l r) (fun j _ => @Bool.rec (fun _ => Tr) (.node x (il (Nat.div j 2) v) r) (.node x l (ir (Nat.div j 2) v)) (Nat.beq (Nat.mod j 2) 1)) i) t
/-- As many levels as are wanted. -/
def Tr.full : Nat → Tr
 | 0 => .leaf
 | n + 1 => .node .undef (Tr.full n) (Tr.full n)
theorem Tr.get_succ (v : AV) (l r : Tr) (j : Nat) : (Tr.node v l r).get (j + 1) = if j % 2 = 1 then r.get (j / 2) else l.get (j / 2) := by
 show @Bool.rec (fun _ => AV) (l.get (j / 2)) (r.get (j / 2)) (Nat.beq (j % 2) 1) = _
 by_cases h : j % 2 = 1
 ·rw [if_pos h,h]; rfl
 ·rw [if_neg h]
  have : Nat.beq (j % 2) 1 = false := by
   have : j % 2 = 0 := by omega
   rw [this]; rfl
  rw [this]
theorem Tr.set_zero (x : AV) (l r : Tr) (v : AV) : (Tr.node x l r).set 0 v = .node v l r := rfl
theorem Tr.set_succ (x : AV) (l r : Tr) (j : Nat) (v : AV) : (Tr.node x l r).set (j + 1) v = if j % 2 = 1 then .node x l (r.set (j / 2) v) else .node x (l.set (j / 2) v) r := by
 show @Bool.rec (fun _ => Tr) (Tr.node x (l.set (j / 2) v) r) (Tr.node x l (r.set (j / 2) v)) (Nat.beq (j % 2) 1) = _
 by_cases h : j % 2 = 1
 ·rw [if_pos h,h]; rfl
 ·rw [if_neg h]
  have : Nat.beq (j % 2) 1 = false := by
   have : j % 2 = 0 := by omega
   rw [this]; rfl
  rw [this]
/-- Has the tree a place for the number? -/
def Tr.room : Tr → Nat → Prop
 | .leaf,_ => False
 | .node _ l r,i => i = 0 ∨ ∃ j,i = j + 1 ∧ if j % 2 = 1 then r.room (j / 2) else l.room (j / 2)
theorem Tr.get_set : ∀ (t : Tr) (i : Nat) (v : AV) (k : Nat),t.room i → (t.set i v).get k = if k = i then v else t.get k
 | .leaf,_,_,_,h => h.elim
 | .node x l r,0,v,k,_ => by
  rw [Tr.set_zero]
  cases k with
  | zero => rfl
  | succ k => rw [Tr.get_succ,Tr.get_succ,if_neg (Nat.succ_ne_zero k)]
 | .node x l r,j + 1,v,k,h => by
  rcases h with h | ⟨j',hj,h⟩
  ·omega
  obtain rfl : j = j' := by omega
  rw [Tr.set_succ]
  by_cases hp : j % 2 = 1
  ·rw [if_pos hp] at h
   rw [if_pos hp]
   cases k with
   | zero => rw [if_neg (by omega)]; rfl
   | succ k =>
    rw [Tr.get_succ,Tr.get_succ]
    by_cases hk : k % 2 = 1
    ·rw [if_pos hk,if_pos hk,Tr.get_set r _ v _ h]
     by_cases e : k = j
     ·subst e; simp
     ·rw [if_neg (by omega),if_neg (by omega)]
    ·rw [if_neg hk,if_neg hk,if_neg (by omega)]
  ·rw [if_neg hp] at h
   rw [if_neg hp]
   cases k with
   | zero => rw [if_neg (by omega)]; rfl
   | succ k =>
    rw [Tr.get_succ,Tr.get_succ]
    by_cases hk : k % 2 = 1
    ·rw [if_pos hk,if_pos hk,if_neg (by omega)]
    ·rw [if_neg hk,if_neg hk,Tr.get_set l _ v _ h]
     by_cases e : k = j
     ·subst e; simp
     ·rw [if_neg (by omega),if_neg (by omega)]
theorem Tr.room_set : ∀ (t : Tr) (i : Nat) (v : AV) (k : Nat),t.room k → (t.set i v).room k
 | .leaf,_,_,_,h => h.elim
 | .node x l r,0,v,k,h => by rw [Tr.set_zero]; exact h
 | .node x l r,j + 1,v,k,h => by
  rw [Tr.set_succ]
  rcases h with h | ⟨j',rfl,h⟩
  ·split <;> exact .inl h
  ·split
   ·refine .inr ⟨j',rfl,?_⟩
    split
    ·rename_i hp; rw [if_pos hp] at h; exact Tr.room_set r _ v _ h
    ·rename_i hp; rw [if_neg hp] at h; exact h
   ·refine .inr ⟨j',rfl,?_⟩
    split
    ·rename_i hp; rw [if_pos hp] at h; exact h
    ·rename_i hp; rw [if_neg hp] at h; exact Tr.room_set l _ v _ h
theorem Tr.room_full : ∀ (n i : Nat),i + 1 < 2 ^ n → (Tr.full n).room i
 | 0,i,h => by simp at h
 | n + 1,0,_ => .inl rfl
 | n + 1,j + 1,h => by
  refine .inr ⟨j,rfl,?_⟩
  rw [Nat.pow_succ] at h
  have : (Tr.full n).room (j / 2) := Tr.room_full n _ (by omega)
  split <;> exact this
theorem Tr.get_full : ∀ (n i : Nat),(Tr.full n).get i = .undef
 | 0,i => rfl
 | n + 1,0 => rfl
 | n + 1,j + 1 => by
  show (Tr.node .undef (Tr.full n) (Tr.full n)).get (j + 1) = _
  rw [Tr.get_succ]
  split <;> exact Tr.get_full n _
structure FS where
 n : Nat
 tr : Tr
 h : List Blk
 d : List (FuncId × List AV × List AV)
/-- There is room for all slots. -/
def FS.ok (f : FS) : Prop := ∀ i,i < f.n → f.tr.room i
noncomputable def FS.st (f : FS) : St := ⟨(List.range f.n).map f.tr.get,f.h,f.d⟩
noncomputable def FS.g (f : FS) (i : Nat) : AV := match Nat.ble (Nat.succ i) f.n with
 | true => f.tr.get i
 | false => .any
noncomputable def FS.put (f : FS) (d : Option Tmp) (v : AV) : FS := match d with
 | none => f
 | some i => match Nat.ble (Nat.succ i) f.n with
  | true => ⟨f.n,f.tr.set i v,f.h,f.d⟩
  | false => f
def tg (t : List AV) (i : Nat) : AV := t.getD i .any
theorem FS.g_eq (f : FS) : f.g = tg f.st.t := by
 funext i
 unfold FS.g tg FS.st
 simp only [List.getD_eq_getElem?_getD,List.getElem?_map]
 split
 ·rename_i h
  have h := Nat.le_of_ble_eq_true h
  rw [List.getElem?_range (by omega)]
  rfl
 ·rename_i h
  have h : ¬ (i + 1 ≤ f.n) := fun hh => by
   have := Nat.ble_eq_true_of_le hh
   rw [show Nat.ble (Nat.succ i) f.n = true from this] at h; cases h
  rw [List.getElem?_eq_none (by rw [List.length_range]; omega)]
  rfl
theorem FS.put_st {f : FS} (hf : f.ok) (d : Option Tmp) (v : AV) : (f.put d v).st = f.st.put d v ∧ (f.put d v).ok := by
 cases d with
 | none => exact ⟨rfl,hf⟩
 | some i =>
  unfold FS.put
  simp only
  split
  ·rename_i h
   have h := Nat.le_of_ble_eq_true h
   have hr := hf i (by omega)
   refine ⟨?_,fun k hk => f.tr.room_set i v k (hf k hk)⟩
   show St.mk _ _ _ = St.mk _ _ _
   congr 1
   apply List.ext_getElem
   ·simp [FS.st]
   ·intro k h1 h2
    simp only [FS.st,List.getElem_map,List.getElem_range,List.getElem_set]
    rw [Tr.get_set _ _ _ _ hr]
    by_cases e : i = k
    ·rw [if_pos e.symm,if_pos e]
    ·rw [if_neg (fun h => e h.symm),if_neg e]
  ·rename_i h
   have h : ¬ (i + 1 ≤ f.n) := fun hh => by
    have := Nat.ble_eq_true_of_le hh
    rw [this] at h; cases h
   refine ⟨?_,hf⟩
   show f.st = St.mk _ _ _
   have hlen : f.st.t.length ≤ i := by
    show ((List.range f.n).map f.tr.get).length ≤ i
    rw [List.length_map,List.length_range]
    exact Nat.le_of_lt_succ (Nat.lt_of_not_le h)
   show St.mk f.st.t _ _ = St.mk (f.st.t.set i v) _ _
   rw [List.set_eq_of_length_le hlen]
   rfl
/-- From a list of slots. -/
noncomputable def fill : List AV → Nat → FS → FS
 | [],_,f => f
 | v :: l,i,f => fill l (i + 1) (f.put (some i) v)
theorem fill_get : ∀ (l : List AV) (i : Nat) (f : FS),f.ok → i + l.length ≤ f.n → (fill l i f).n = f.n ∧ (fill l i f).h = f.h ∧ (fill l i f).d = f.d ∧ (fill l i f).ok ∧
  ∀ k,(fill l i f).tr.get k = if i ≤ k ∧ k < i + l.length then (l[k - i]?).getD .any else f.tr.get k
 | [],i,f,hf,_ => ⟨rfl,rfl,rfl,hf,fun k => by rw [if_neg (by simp only [List.length_nil]; omega)]; rfl⟩
 | v :: l,i,f,hf,hl => by
  have hb : Nat.ble (Nat.succ i) f.n = true := Nat.ble_eq_true_of_le (by simp only [List.length_cons] at hl; omega)
  have e : f.put (some i) v = ⟨f.n,f.tr.set i v,f.h,f.d⟩ := by unfold FS.put; simp only [hb]
  have hok := (FS.put_st hf (some i) v).2
  rw [e] at hok
  obtain ⟨h1,h2,h3,h4,h5⟩ := fill_get l (i + 1) ⟨f.n,f.tr.set i v,f.h,f.d⟩ hok (by simp only [List.length_cons] at hl ⊢; omega)
  unfold fill
  rw [e]
  refine ⟨h1,h2,h3,h4,fun k => ?_⟩
  rw [h5 k]
  simp only [List.length_cons] at hl ⊢
  have hr := hf i (by omega)
  by_cases hk : k = i
  ·subst hk
   rw [if_neg (by omega),if_pos (by omega),Nat.sub_self]
   show (f.tr.set k v).get k = _
   rw [Tr.get_set _ _ _ _ hr,if_pos rfl]
   rfl
  ·by_cases hk2 : i + 1 ≤ k ∧ k < i + 1 + l.length
   ·rw [if_pos hk2,if_pos (by omega)]
    have : k - i = (k - (i + 1)) + 1 := by omega
    rw [this,List.getElem?_cons_succ]
   ·rw [if_neg hk2,if_neg (by omega)]
    show (f.tr.set i v).get k = _
    rw [Tr.get_set _ _ _ _ hr,if_neg hk]
/-- Levels enough for so many slots. -/
def levels (n : Nat) : Nat := Nat.succ (Nat.log2 (Nat.succ n))
theorem levels_ok (n i : Nat) (h : i < n) : i + 1 < 2 ^ levels n := by
 have h1 : n + 1 < 2 ^ (Nat.log2 (n + 1) + 1) := Nat.lt_log2_self
 unfold levels
 show i + 1 < 2 ^ (Nat.log2 (n + 1) + 1)
 omega
noncomputable def mkFS (n : Nat) (l : List AV) (h : List Blk) (d : List (FuncId × List AV × List AV)) : FS := fill l 0 ⟨n,Tr.full (levels n),h,d⟩
theorem mkFS_ok {n : Nat} {l : List AV} (hl : l.length ≤ n) (h : List Blk) (d : List (FuncId × List AV × List AV)) :
  (mkFS n l h d).ok ∧ (mkFS n l h d).st = ⟨l ++ List.replicate (n - l.length) .undef,h,d⟩ := by
 have h0 : (⟨n,Tr.full (levels n),h,d⟩ : FS).ok := fun i hi => Tr.room_full _ _ (levels_ok n i hi)
 obtain ⟨h1,h2,h3,h4,h5⟩ := fill_get l 0 ⟨n,Tr.full (levels n),h,d⟩ h0 (by simpa using hl)
 refine ⟨h4,?_⟩
 unfold FS.st mkFS
 rw [h1,h2,h3]
 congr 1
 apply List.ext_getElem
 ·simp; omega
 ·intro k k1 k2
  simp only [List.getElem_map,List.getElem_range]
  rw [h5 k,List.getElem_append]
  simp only [Nat.zero_le,Nat.zero_add,true_and,Nat.sub_zero]
  split
  ·rename_i hk; simp [hk]
  ·simp [Tr.get_full]
/-! ### Operands -/
def evG (g : Nat → AV) : Operand → Option AV
 | .tmp i => some (g i)
 | .const v => ofValue v
 | .func f => some (.func f [])
 | .global x => some (.gptr x 0)
def evsG (g : Nat → AV) : List Operand → Option (List AV)
 | [] => some []
 | x :: l => match evG g x,evsG g l with
  | some a,some as => some (a :: as)
  | _,_ => none
def bndG (g : Nat → AV) (d : Nat) : Option Operand → Option Nat
 | none => some d
 | some x => (evG g x).bind asN
def evpG (g : Nat → AV) : List (Nat × Operand) → Option (List (Nat × AV))
 | [] => some []
 | (i,x) :: l => match evG g x,evpG g l with
  | some a,some as => some ((i,a) :: as)
  | _,_ => none
theorem evG_eq (t : List AV) (x : Operand) : evG (tg t) x = ev t x := by cases x <;> rfl
theorem evsG_eq (t : List AV) : ∀ l : List Operand,evsG (tg t) l = evs t l
 | [] => rfl
 | x :: l => by simp only [evsG,evs,evG_eq,evsG_eq t l] <;> rfl
theorem bndG_eq (t : List AV) (d : Nat) (o : Option Operand) : bndG (tg t) d o = bnd t d o := by
 cases o with
 | none => rfl
 | some x => simp only [bndG,bnd,evG_eq]
theorem evpG_eq (t : List AV) : ∀ l : List (Nat × Operand),evpG (tg t) l = evParts t l
 | [] => rfl
 | (i,x) :: l => by simp only [evpG,evParts,evG_eq,evpG_eq t l] <;> rfl
def pg_nil (P : Program) (g : Nat → AV) (x : Operand) : Option AV := (evG g x).bind fun v => if solid v then some v else none
def pg_bin (P : Program) (g : Nat → AV) (op : BinOp) (T : TypeId) (x y : Operand) : Option AV := (evG g x).bind fun a => (evG g y).bind fun b => binA P op T (isC x || isC y) a b
def pg_un (P : Program) (g : Nat → AV) (op : UnOp) (x : Operand) : Option AV := (evG g x).bind (unA op)
def pg_cnv (P : Program) (g : Nat → AV) (s d : TypeId) (x : Operand) : Option AV := (evG g x).bind (convA P s d)
def pg_mki (P : Program) (g : Nat → AV) (T : TypeId) (x : Operand) : Option AV := match tiOf P T with
  | some { desc := .interface _,.. } => none
  | some _ => (evG g x).map (.iface T)
  | none => none
def pg_mkf (P : Program) (g : Nat → AV) (f : FuncId) (first caps : Array Operand) : Option AV := if first.size = 0 then (evsG g caps.toList).map (.func f) else none
def pg_slc (P : Program) (g : Nat → AV) (T : TypeId) (x : Operand) (lo hi : Option Operand) : Option AV := match tiOf P T with
  | some { desc := .slice e,.. } => match tiOf P e with
   | some ie => (evG g x).bind fun v => if esOk ie.size v then (lenA v).bind fun n => (bndG g 0 lo).bind fun l => (bndG g n hi).bind fun h => sliceA v l h else none
   | none => none
  | some { desc := .string,.. } => (evG g x).bind fun v => match v with
   | .fv (.str s) => (bndG g 0 lo).bind fun l => (bndG g s.length hi).bind fun h => sliceA (.fv (.str s)) l h
   | _ => none
  | _ => none
def pg_fad (P : Program) (g : Nat → AV) (S : TypeId) (x : Operand) (f : Nat) : Option AV := (fieldOf P S f).bind fun (fd,i) => if i.size = 0 then none else (evG g x).bind fun v => addrA v fd.offset
def pg_fld (P : Program) (g : Nat → AV) (S : TypeId) (x : Operand) (f : Nat) : Option AV := (fieldOf P S f).bind fun (fd,i) => (evG g x).bind fun v => match v with
  | .agg cs => partA i cs fd.offset
  | _ => none
def pg_ixa (P : Program) (g : Nat → AV) (T : TypeId) (x i : Operand) : Option AV := (evG g x).bind fun v => (evG g i).bind fun j => (asI j).bind fun n => idxAddrA P T v n
def pg_ixv (P : Program) (g : Nat → AV) (T : TypeId) (x i : Operand) : Option AV := (evG g x).bind fun v => (evG g i).bind fun j => (asI j).bind fun n => idxA P T v n
def pg_ext (P : Program) (g : Nat → AV) (x : Operand) (i : Nat) : Option AV := (evG g x).bind fun v => match v with
  | .tuple vs => vs[i]?
  | _ => none
def pg_len (P : Program) (g : Nat → AV) (as : Array Operand) (ts : Array TypeId) : Option AV := match evsG g as.toList,ts.toList with
  | some [v],[T] => match tiOf P T with
   | some { desc := .slice _,.. } => match v with
    | .fv (.str _) => none
    | v => (lenA v).map fun (n : Nat) => .fv (.int .i64 (n : Int))
   | some { desc := .string,.. } => match v with
    | .fv (.str s) => some (.fv (.int .i64 s.length))
    | _ => none
   | _ => none
  | _,_ => none
def pg_cap (P : Program) (g : Nat → AV) (as : Array Operand) (ts : Array TypeId) : Option AV := match evsG g as.toList,ts.toList with
  | some [.fv .nils],[T] => match tiOf P T with
   | some { desc := .slice _,.. } => some (.fv (.int .i64 0))
   | _ => none
  | _,_ => none
def pg_min (P : Program) (g : Nat → AV) (as : Array Operand) : Option AV := match evsG g as.toList with
  | some [.fv (.int k a),.fv (.int k' b)] => if k = k' then some (.fv (.int k (if b < a then b else a))) else none
  | _ => none
def pg_max (P : Program) (g : Nat → AV) (as : Array Operand) : Option AV := match evsG g as.toList with
  | some [.fv (.int k a),.fv (.int k' b)] => if k = k' then some (.fv (.int k (if a < b then b else a))) else none
  | _ => none
def eg_alc (P : Program) (g : Nat → AV) (h : List Blk) (T : TypeId) : Option (AV × List Blk × List Nat) := match tiOf P T with
  | some { zero := some z,.. } => some (.ptr h.length 0 0 0,h ++ [.box (z.map .fv)],[])
  | _ => none
def eg_box (P : Program) (g : Nat → AV) (h : List Blk) (x : Operand) : Option (AV × List Blk × List Nat) := (evG g x).bind fun v => (cellsA v).map fun cs => (.ptr h.length 0 0 0,h ++ [.box cs],[])
def eg_bld (P : Program) (g : Nat → AV) (h : List Blk) (T : TypeId) (ps : Array (Nat × Operand)) : Option (AV × List Blk × List Nat) := (evpG g ps.toList).bind fun parts => (buildA P T parts).map fun v => (v,h,[])
def eg_bls (P : Program) (g : Nat → AV) (h : List Blk) (T : TypeId) (n : Nat) (ps : Array (Nat × Operand)) : Option (AV × List Blk × List Nat) := match tiOf P T with
  | some { desc := .slice e,.. } => match tiOf P e with
   | some ie => match ie.zero with
    | some z => if 0 < ie.size ∧ z.length = ie.size ∧ n * ie.size ≤ 16777216 then
      (evpG g ps.toList).bind fun parts => (fillA (fun i => some (i * ie.size,ie.size)) (flatN n (z.map .fv)) parts).bind fun cs =>
       match toFs cs with
       | some fs => some (.ref h.length ie.size 0 n,h ++ [.plain ie.size (chunk ie.size n fs)],[])
       | none => if cs.all okCell then some (.ref h.length ie.size 0 n,h ++ [.box cs],[]) else none
     else none
    | none => none
   | none => none
  | _ => none
def eg_sto (P : Program) (g : Nat → AV) (h : List Blk) (T : TypeId) (x y : Operand) : Option (AV × List Blk × List Nat) := (tiOf P T).bind fun i => (evG g x).bind fun p => (evG g y).bind fun v => (stA i h p v).map fun (h',id) => (.undef,h',[id])
def eg_mks (P : Program) (g : Nat → AV) (h : List Blk) (T : TypeId) (l c : Operand) : Option (AV × List Blk × List Nat) := match tiOf P T with
  | some { desc := .slice e,.. } => match tiOf P e with
   | some ie => match ie.zero with
    | some z => (evG g l).bind fun a => (asI a).bind fun n => (evG g c).bind fun b => (asI b).bind fun k =>
      if 0 < ie.size ∧ z.length = ie.size ∧ 0 ≤ n ∧ n = k ∧ ie.bytes * n ≤ 140737488355328 ∧ n ≤ 9223372036854775807 then
       some (.ref h.length ie.size 0 n.toNat,h ++ [.plain ie.size (List.replicate n.toNat z)],[]) else none
    | none => none
   | none => none
  | _ => none
def eg_app (P : Program) (g : Nat → AV) (h : List Blk) (as : Array Operand) (ts : Array TypeId) : Option (AV × List Blk × List Nat) := match evsG g as.toList,ts.toList with
  | some [s,x],[T,U] => match tiOf P T,tiOf P U with
   | some { desc := .slice e,.. },some iu => match tiOf P e with
    | some ie => if 0 < ie.size ∧ 0 < ie.bytes ∧ ie.zero.map List.length = some ie.size then (match zerosA iu x with
      | some n => ie.zero.bind fun z => zeroA ie z h s n
      | none => if boxy h s || boxy h x then (srcCells iu ie.size h x).bind fun ys => appendB ie h s ys else (srcRows iu ie.size h x).bind fun ys => appendA ie h s ys) else none
    | none => none
   | _,_ => none
  | _,_ => none
def eg_clr (P : Program) (g : Nat → AV) (h : List Blk) (as : Array Operand) (ts : Array TypeId) : Option (AV × List Blk × List Nat) := match evsG g as.toList,ts.toList with
  | some [s],[T] => match tiOf P T with
   | some { desc := .slice e,.. } => match tiOf P e with
    | some ie => match ie.zero with
     | some z => if 0 < ie.size ∧ z.length = ie.size then clearA ie z h s else none
     | none => none
    | none => none
   | _ => none
  | _,_ => none
def eg_cpy (P : Program) (g : Nat → AV) (h : List Blk) (as : Array Operand) (ts : Array TypeId) : Option (AV × List Blk × List Nat) := match evsG g as.toList,ts.toList with
  | some [s,x],[T,U] => match tiOf P T,tiOf P U with
   | some { desc := .slice e,.. },some iu => match tiOf P e with
    | some ie => if 0 < ie.size then copyA ie iu h s x else none
    | none => none
   | _,_ => none
  | _,_ => none
def eg_ucv (P : Program) (g : Nat → AV) (h : List Blk) (s u : TypeId) (x : Operand) : Option (AV × List Blk × List Nat) := match tiOf P s,tiOf P u with
  | some { desc := .pointer e,.. },some { desc := .unsafePointer,.. } => match tiOf P e with
   | some ie => if ie.size = 0 then none else (evG g x).bind fun v => (cellA h v).map fun _ => (v,h,[])
   | none => none
  | some { desc := .slice e,size := n1,bytes := n2,zero := z },some { desc := .string,.. } => match tiOf P e with
   | some { desc := .int .u8,.. } => (evG g x).bind fun v => (srcRows ⟨.slice e,n1,n2,z⟩ 1 h v).bind fun ys => (rowsBytes ys).map fun s => (.fv (.str s),h,[])
   | _ => none
  | _,_ => none
def eg_tas (P : Program) (g : Nat → AV) (h : List Blk) (x : Operand) (A : TypeId) (ok : Bool) : Option (AV × List Blk × List Nat) := match tiOf P A with
  | some i => match i.desc with
   | .interface _ => none
   | _ => (evG g x).bind fun v => (assertA P A ok v).map fun r => (r,h,[])
  | none => none
def eg_mkm (P : Program) (g : Nat → AV) (h : List Blk)  : Option (AV × List Blk × List Nat) := some (.mp h.length,h ++ [.map []],[])
def eg_lkp (P : Program) (g : Nat → AV) (h : List Blk) (X : TypeId) (x k : Operand) (ok : Bool) : Option (AV × List Blk × List Nat) := match tiOf P X with
  | some { desc := .map K E,.. } => match tiOf P K,tiOf P E with
   | some ik,some _ => (evG g x).bind fun mv => (evG g k).bind fun kv => match kv with
    | .fv kf => if keyD ik.desc kf then (mapOf h mv).bind fun es => (findA kf es 0).bind fun r => (lookA P E ok r).map fun v => (v,h,[]) else none
    | _ => none
   | _,_ => none
  | _ => none
def eg_mup (P : Program) (g : Nat → AV) (h : List Blk) (X : TypeId) (x k y : Operand) : Option (AV × List Blk × List Nat) := match tiOf P X with
  | some { desc := .map K _,.. } => match tiOf P K with
   | some ik => (evG g x).bind fun mv => (evG g k).bind fun kv => (evG g y).bind fun v => match mv,kv with
    | .mp id,.fv kf => match h[id]? with
     | some (.map es) => if keyD ik.desc kf then (findA kf es 0).map fun r => (.undef,h.set id (.map (putE kf v es r)),[id]) else none
     | _ => none
    | _,_ => none
   | none => none
  | _ => none
theorem pg_nil_eq (P : Program) (t : List AV) (x : Operand) : pg_nil P (tg t) x = pz_nil P t x := by simp only [pg_nil,pz_nil,evG_eq,evsG_eq,bndG_eq,evpG_eq] <;> rfl
theorem pg_bin_eq (P : Program) (t : List AV) (op : BinOp) (T : TypeId) (x y : Operand) : pg_bin P (tg t) op T x y = pz_bin P t op T x y := by simp only [pg_bin,pz_bin,evG_eq,evsG_eq,bndG_eq,evpG_eq] <;> rfl
theorem pg_un_eq (P : Program) (t : List AV) (op : UnOp) (x : Operand) : pg_un P (tg t) op x = pz_un P t op x := by simp only [pg_un,pz_un,evG_eq,evsG_eq,bndG_eq,evpG_eq] <;> rfl
theorem pg_cnv_eq (P : Program) (t : List AV) (s d : TypeId) (x : Operand) : pg_cnv P (tg t) s d x = pz_cnv P t s d x := by simp only [pg_cnv,pz_cnv,evG_eq,evsG_eq,bndG_eq,evpG_eq] <;> rfl
theorem pg_mki_eq (P : Program) (t : List AV) (T : TypeId) (x : Operand) : pg_mki P (tg t) T x = pz_mki P t T x := by simp only [pg_mki,pz_mki,evG_eq,evsG_eq,bndG_eq,evpG_eq] <;> rfl
theorem pg_mkf_eq (P : Program) (t : List AV) (f : FuncId) (first caps : Array Operand) : pg_mkf P (tg t) f first caps = pz_mkf P t f first caps := by simp only [pg_mkf,pz_mkf,evG_eq,evsG_eq,bndG_eq,evpG_eq] <;> rfl
theorem pg_slc_eq (P : Program) (t : List AV) (T : TypeId) (x : Operand) (lo hi : Option Operand) : pg_slc P (tg t) T x lo hi = pz_slc P t T x lo hi := by simp only [pg_slc,pz_slc,evG_eq,evsG_eq,bndG_eq,evpG_eq] <;> rfl
theorem pg_fad_eq (P : Program) (t : List AV) (S : TypeId) (x : Operand) (f : Nat) : pg_fad P (tg t) S x f = pz_fad P t S x f := by simp only [pg_fad,pz_fad,evG_eq,evsG_eq,bndG_eq,evpG_eq] <;> rfl
theorem pg_fld_eq (P : Program) (t : List AV) (S : TypeId) (x : Operand) (f : Nat) : pg_fld P (tg t) S x f = pz_fld P t S x f := by simp only [pg_fld,pz_fld,evG_eq,evsG_eq,bndG_eq,evpG_eq] <;> rfl
theorem pg_ixa_eq (P : Program) (t : List AV) (T : TypeId) (x i : Operand) : pg_ixa P (tg t) T x i = pz_ixa P t T x i := by simp only [pg_ixa,pz_ixa,evG_eq,evsG_eq,bndG_eq,evpG_eq] <;> rfl
theorem pg_ixv_eq (P : Program) (t : List AV) (T : TypeId) (x i : Operand) : pg_ixv P (tg t) T x i = pz_ixv P t T x i := by simp only [pg_ixv,pz_ixv,evG_eq,evsG_eq,bndG_eq,evpG_eq] <;> rfl
theorem pg_ext_eq (P : Program) (t : List AV) (x : Operand) (i : Nat) : pg_ext P (tg t) x i = pz_ext P t x i := by simp only [pg_ext,pz_ext,evG_eq,evsG_eq,bndG_eq,evpG_eq] <;> rfl
theorem pg_len_eq (P : Program) (t : List AV) (as : Array Operand) (ts : Array TypeId) : pg_len P (tg t) as ts = pz_len P t as ts := by simp only [pg_len,pz_len,evG_eq,evsG_eq,bndG_eq,evpG_eq] <;> rfl
theorem pg_cap_eq (P : Program) (t : List AV) (as : Array Operand) (ts : Array TypeId) : pg_cap P (tg t) as ts = pz_cap P t as ts := by simp only [pg_cap,pz_cap,evG_eq,evsG_eq,bndG_eq,evpG_eq] <;> rfl
theorem pg_min_eq (P : Program) (t : List AV) (as : Array Operand) : pg_min P (tg t) as = pz_min P t as := by simp only [pg_min,pz_min,evG_eq,evsG_eq,bndG_eq,evpG_eq] <;> rfl
theorem pg_max_eq (P : Program) (t : List AV) (as : Array Operand) : pg_max P (tg t) as = pz_max P t as := by simp only [pg_max,pz_max,evG_eq,evsG_eq,bndG_eq,evpG_eq] <;> rfl
theorem eg_alc_eq (P : Program) (t : List AV) (h : List Blk) (T : TypeId) : eg_alc P (tg t) h T = ez_alc P t h T := by simp only [eg_alc,ez_alc,evG_eq,evsG_eq,bndG_eq,evpG_eq] <;> rfl
theorem eg_box_eq (P : Program) (t : List AV) (h : List Blk) (x : Operand) : eg_box P (tg t) h x = ez_box P t h x := by simp only [eg_box,ez_box,evG_eq,evsG_eq,bndG_eq,evpG_eq] <;> rfl
theorem eg_bld_eq (P : Program) (t : List AV) (h : List Blk) (T : TypeId) (ps : Array (Nat × Operand)) : eg_bld P (tg t) h T ps = ez_bld P t h T ps := by simp only [eg_bld,ez_bld,evG_eq,evsG_eq,bndG_eq,evpG_eq] <;> rfl
theorem eg_bls_eq (P : Program) (t : List AV) (h : List Blk) (T : TypeId) (n : Nat) (ps : Array (Nat × Operand)) : eg_bls P (tg t) h T n ps = ez_bls P t h T n ps := by simp only [eg_bls,ez_bls,evG_eq,evsG_eq,bndG_eq,evpG_eq] <;> rfl
theorem eg_sto_eq (P : Program) (t : List AV) (h : List Blk) (T : TypeId) (x y : Operand) : eg_sto P (tg t) h T x y = ez_sto P t h T x y := by simp only [eg_sto,ez_sto,evG_eq,evsG_eq,bndG_eq,evpG_eq] <;> rfl
theorem eg_mks_eq (P : Program) (t : List AV) (h : List Blk) (T : TypeId) (l c : Operand) : eg_mks P (tg t) h T l c = ez_mks P t h T l c := by simp only [eg_mks,ez_mks,evG_eq,evsG_eq,bndG_eq,evpG_eq] <;> rfl
theorem eg_app_eq (P : Program) (t : List AV) (h : List Blk) (as : Array Operand) (ts : Array TypeId) : eg_app P (tg t) h as ts = ez_app P t h as ts := by simp only [eg_app,ez_app,evG_eq,evsG_eq,bndG_eq,evpG_eq] <;> rfl
theorem eg_clr_eq (P : Program) (t : List AV) (h : List Blk) (as : Array Operand) (ts : Array TypeId) : eg_clr P (tg t) h as ts = ez_clr P t h as ts := by simp only [eg_clr,ez_clr,evG_eq,evsG_eq,bndG_eq,evpG_eq] <;> rfl
theorem eg_cpy_eq (P : Program) (t : List AV) (h : List Blk) (as : Array Operand) (ts : Array TypeId) : eg_cpy P (tg t) h as ts = ez_cpy P t h as ts := by simp only [eg_cpy,ez_cpy,evG_eq,evsG_eq,bndG_eq,evpG_eq] <;> rfl
theorem eg_ucv_eq (P : Program) (t : List AV) (h : List Blk) (s u : TypeId) (x : Operand) : eg_ucv P (tg t) h s u x = ez_ucv P t h s u x := by simp only [eg_ucv,ez_ucv,evG_eq,evsG_eq,bndG_eq,evpG_eq] <;> rfl
theorem eg_tas_eq (P : Program) (t : List AV) (h : List Blk) (x : Operand) (A : TypeId) (ok : Bool) : eg_tas P (tg t) h x A ok = ez_tas P t h x A ok := by simp only [eg_tas,ez_tas,evG_eq,evsG_eq,bndG_eq,evpG_eq] <;> rfl
theorem eg_mkm_eq (P : Program) (t : List AV) (h : List Blk)  : eg_mkm P (tg t) h  = ez_mkm P t h  := by simp only [eg_mkm,ez_mkm,evG_eq,evsG_eq,bndG_eq,evpG_eq] <;> rfl
theorem eg_lkp_eq (P : Program) (t : List AV) (h : List Blk) (X : TypeId) (x k : Operand) (ok : Bool) : eg_lkp P (tg t) h X x k ok = ez_lkp P t h X x k ok := by simp only [eg_lkp,ez_lkp,evG_eq,evsG_eq,bndG_eq,evpG_eq] <;> rfl
theorem eg_mup_eq (P : Program) (t : List AV) (h : List Blk) (X : TypeId) (x k y : Operand) : eg_mup P (tg t) h X x k y = ez_mup P t h X x k y := by simp only [eg_mup,ez_mup,evG_eq,evsG_eq,bndG_eq,evpG_eq] <;> rfl
def calleeG (g : Nat → AV) (c : Call) : Option (FuncId × List AV) := match c.callee with
 | .value f => match evG g f,evsG g c.args.toList with
  | some (.func fid caps),some as => some (fid,as ++ caps)
  | _,_ => none
 | _ => none
theorem calleeG_eq (t : List AV) (c : Call) : calleeG (tg t) c = callee t c := by
 simp only [calleeG,callee,evG_eq,evsG_eq] <;> rfl
/-! ### Runs -/
inductive GR where
 | ok (v : AV) (s : FS)
 | pan (v : AV) (s : FS)
noncomputable def GR.rr : GR → RR
 | .ok v s => .ok v s.st
 | .pan v s => .pan v s.st
def GR.fs : GR → FS
 | .ok _ s => s
 | .pan _ s => s
def gvalG (ops : Array Oper) (g : Nat → AV) (j : Nat) : Option (Option Bool) := match ops[j]? with
 | some o => match o.dst with
  | some d => match g d with
   | .fv (.bool b) => some (some b)
   | .undef => some none
   | _ => none
  | none => some none
 | none => some none
theorem gvalG_eq (ops : Array Oper) (t : List AV) (j : Nat) : gvalG ops (tg t) j = gval ops t j := rfl
def gRG (ops : Array Oper) (o : Oper) (g : Nat → AV) : Option Bool := match o.guard with
 | none => some true
 | some (j,want) => match gvalG ops g j with
  | none => none
  | some none => some false
  | some (some b) => some (match b,want with
   | true,true => true
   | false,false => true
   | _,_ => false)
theorem gRG_eq (ops : Array Oper) (o : Oper) (t : List AV) : gRG ops o (tg t) = gR ops o t := by
 simp only [gRG,gR,gvalG_eq] <;> rfl
def pickG (g : Nat → AV) (c a b : Operand) : Option AV := match evG g c with
 | some (.fv (.bool k)) => match evG g a,evG g b with
  | some x,some y => some (match k with
   | true => x
   | false => y)
  | _,_ => none
 | _ => none
theorem pickG_eq (t : List AV) (c a b : Operand) : pickG (tg t) c a b = pickR t c a b := by simp only [pickG,pickR,evG_eq] <;> rfl
def gEff (hs : Held) (i : Nat) (f : FS) : Option (AV × List Blk × List Nat) → Option GR
 | some (v,h',W) => match hs.ok i W with
  | true => some (.ok v ⟨f.n,f.tr,h',f.d⟩)
  | false => none
 | none => none
def gCal (hs : Held) (i : Nat) (f : FS) : Option (AOut × List Blk × List Nat) → Option GR
 | some (o,h',W) => match hs.ok i W with
  | true => some (match o with
   | .ret v => .ok v ⟨f.n,f.tr,h',f.d⟩
   | .pan v => .pan v ⟨f.n,f.tr,h',f.d⟩)
  | false => none
 | none => none
def gPure (f : FS) : Option AV → Option GR
 | some v => some (.ok v f)
 | none => none
def gLd (f : FS) : Option (AV × Option Nat) → Option GR
 | some (v,_) => some (.ok v f)
 | none => none
def gBoth (f : FS) (a : Option AV) (b : Option GR) : Option GR := match a with
 | some v => some (.ok v f)
 | none => b
def gPanic (f : FS) : Option AV → Option GR
 | some (.iface t y) => some (.pan (.iface t y) f)
 | _ => none
def gDefer (g : Nat → AV) (f : FS) (c : Call) : Option GR := match c.callee with
 | .value x => match evG g x,evsG g c.args.toList with
  | some (.func fid caps),some as => some (.ok .undef ⟨f.n,f.tr,f.h,(fid,as,caps) :: f.d⟩)
  | _,_ => none
 | _ => none
def gCall (P : Program) (call : CallF) (hs : Held) (i : Nat) (g : Nat → AV) (f : FS) (c : Call) : Option GR := match c with
 | ⟨.value x,as,ts⟩ => match calleeG g ⟨.value x,as,ts⟩ with
  | some (fid,args) => gCal hs i f (call (held hs) fid args f.h)
  | none => none
 | ⟨.invoke _ _,_,_⟩ => none
 | ⟨.builtin b,as,ts⟩ => match b with
  | .append => gEff hs i f (eg_app P g f.h as ts)
  | .clear => gEff hs i f (eg_clr P g f.h as ts)
  | .copy => gEff hs i f (eg_cpy P g f.h as ts)
  | .len => gPure f (pg_len P g as ts)
  | .cap => gPure f (pg_cap P g as ts)
  | .min => gPure f (pg_min P g as)
  | .max => gPure f (pg_max P g as)
  | _ => none
def gMkf (P : Program) (g : Nat → AV) (f : Fn) (first caps : Array Operand) : Option AV := match f with
 | .func f => pg_mkf P g f first caps
 | _ => none
def gSlc (P : Program) (g : Nat → AV) (T : TypeId) (x : Operand) (lo hi m : Option Operand) : Option AV := match m with
 | none => pg_slc P g T x lo hi
 | _ => none
def gMkm (P : Program) (g : Nat → AV) (h : List Blk) (r : Option Operand) : Option (AV × List Blk × List Nat) := match r with
 | none => eg_mkm P g h
 | _ => none
def gLoad (P : Program) (g : Nat → AV) (h : List Blk) (T : TypeId) (x : Operand) : Option (AV × Option Nat) := (tiOf P T).bind fun i => (evG g x).bind fun p => (ldA P i h p).map fun v => (v,idOf p)
def gOp (P : Program) (call : CallF) (hs : Held) (i : Nat) (op : Op) (g : Nat → AV) (f : FS) : Option GR := match op with
 | .pick c a b => gPure f (pickG g c a b)
 | .panic x => gPanic f (evG g x)
 | .defer c => gDefer g f c
 | .load T x => gLd f (gLoad P g f.h T x)
 | .call c => gCall P call hs i g f c
 | .move x => gPure f (evG g x)
 | .assign x => gPure f (evG g x)
 | .nilCheck x => gPure f (pg_nil P g x)
 | .binOp op T x y _ => gPure f (pg_bin P g op T x y)
 | .unOp op _ x => gPure f (pg_un P g op x)
 | .convert s d x => gBoth f (pg_cnv P g s d x) (gEff hs i f (eg_ucv P g f.h s d x))
 | .makeInterface T x => gPure f (pg_mki P g T x)
 | .makeFunc k first caps => gPure f (gMkf P g k first caps)
 | .slice T x lo hi m => gPure f (gSlc P g T x lo hi m)
 | .fieldAddr S x k => gPure f (pg_fad P g S x k)
 | .field S x k => gPure f (pg_fld P g S x k)
 | .indexAddr T x i => gPure f (pg_ixa P g T x i)
 | .index T x i => gPure f (pg_ixv P g T x i)
 | .extract x i => gPure f (pg_ext P g x i)
 | .alloc T => gEff hs i f (eg_alc P g f.h T)
 | .box _ x => gEff hs i f (eg_box P g f.h x)
 | .build T ps => gEff hs i f (eg_bld P g f.h T ps)
 | .buildSlice T n ps => gEff hs i f (eg_bls P g f.h T n ps)
 | .store T x y => gEff hs i f (eg_sto P g f.h T x y)
 | .makeSlice T l c => gEff hs i f (eg_mks P g f.h T l c)
 | .typeAssert x _ A ok => gEff hs i f (eg_tas P g f.h x A ok)
 | .makeMap _ r => gEff hs i f (gMkm P g f.h r)
 | .lookup X x k ok => gEff hs i f (eg_lkp P g f.h X x k ok)
 | .mapUpdate X x k y => gEff hs i f (eg_mup P g f.h X x k y)
 | .insert X x k y => gEff hs i f (eg_mup P g f.h X x k y)
 | _ => none
theorem gPure_eq (f : FS) (r : Option AV) : (gPure f r).map GR.rr = rPure f.st r := by cases r <;> rfl
theorem gLd_eq (f : FS) (r : Option (AV × Option Nat)) : (gLd f r).map GR.rr = rLoad f.st r := by cases r <;> rfl
theorem gEff_eq (hs : Held) (i : Nat) (f : FS) (r : Option (AV × List Blk × List Nat)) : (gEff hs i f r).map GR.rr = effR hs i f.st r := by
 cases r with
 | none => rfl
 | some p =>
  obtain ⟨v,h',W⟩ := p
  simp only [gEff,effR]
  cases hs.ok i W <;> rfl
theorem gCal_eq (hs : Held) (i : Nat) (f : FS) (r : Option (AOut × List Blk × List Nat)) : (gCal hs i f r).map GR.rr = calR hs i f.st r := by
 cases r with
 | none => rfl
 | some p =>
  obtain ⟨o,h',W⟩ := p
  simp only [gCal,calR]
  cases hs.ok i W with
  | false => rfl
  | true => cases o <;> rfl
theorem gOp_eq (P : Program) (call : CallF) (hs : Held) (i : Nat) (op : Op) (f : FS) : (gOp P call hs i op f.g f).map GR.rr = fOp P call hs i op f.st := by
 rw [f.g_eq]
 have hh : f.h = f.st.h := rfl
 cases op with
 | pick c a b => simp only [gOp,fOp,gPure_eq,pickG_eq]
 | panic x =>
  simp only [gOp,fOp,evG_eq,fPanic]
  cases ev f.st.t x with
  | none => rfl
  | some v => cases v <;> rfl
 | «defer» c =>
  obtain ⟨cl,as,ts⟩ := c
  cases cl with
  | value x =>
   simp only [gOp,fOp,gDefer,fDefer,evG_eq,evsG_eq]
   cases ev f.st.t x with
   | none => rfl
   | some v =>
    cases v <;> cases evs f.st.t as.toList <;> rfl
  | _ => rfl
 | load T x => simp only [gOp,fOp,gLd_eq,gLoad,fLoad,evG_eq,hh]
 | call c =>
  obtain ⟨cl,as,ts⟩ := c
  cases cl with
  | value x =>
   simp only [gOp,fOp,gCall,fCall,calleeG_eq]
   cases callee f.st.t ⟨.value x,as,ts⟩ with
   | none => rfl
   | some p => exact gCal_eq _ _ _ _
  | invoke r m => rfl
  | builtin b =>
   cases b with
   | append => simp only [gOp,fOp,gCall,fCall,gEff_eq,eg_app_eq,hh]
   | clear => simp only [gOp,fOp,gCall,fCall,gEff_eq,eg_clr_eq,hh]
   | copy => simp only [gOp,fOp,gCall,fCall,gEff_eq,eg_cpy_eq,hh]
   | len => simp only [gOp,fOp,gCall,fCall,gPure_eq,pg_len_eq]
   | cap => simp only [gOp,fOp,gCall,fCall,gPure_eq,pg_cap_eq]
   | min => simp only [gOp,fOp,gCall,fCall,gPure_eq,pg_min_eq]
   | max => simp only [gOp,fOp,gCall,fCall,gPure_eq,pg_max_eq]
   | _ => rfl
 | move x => simp only [gOp,fOp,gPure_eq,evG_eq]
 | assign x => simp only [gOp,fOp,gPure_eq,evG_eq]
 | nilCheck x => simp only [gOp,fOp,gPure_eq,pg_nil_eq]
 | binOp op T x y z => simp only [gOp,fOp,gPure_eq,pg_bin_eq]
 | unOp op T x => simp only [gOp,fOp,gPure_eq,pg_un_eq]
 | convert s d x =>
  simp only [gOp,fOp,pg_cnv_eq,eg_ucv_eq,hh]
  cases pz_cnv P f.st.t s d x with
  | none => exact gEff_eq _ _ _ _
  | some v => rfl
 | makeInterface T x => simp only [gOp,fOp,gPure_eq,pg_mki_eq]
 | makeFunc k first caps =>
  simp only [gOp,fOp,gPure_eq]
  cases k <;> simp only [gMkf,fMkf,pg_mkf_eq]
 | slice T x lo hi m =>
  simp only [gOp,fOp,gPure_eq]
  cases m <;> simp only [gSlc,fSlc,pg_slc_eq]
 | fieldAddr S x k => simp only [gOp,fOp,gPure_eq,pg_fad_eq]
 | field S x k => simp only [gOp,fOp,gPure_eq,pg_fld_eq]
 | indexAddr T x i => simp only [gOp,fOp,gPure_eq,pg_ixa_eq]
 | index T x i => simp only [gOp,fOp,gPure_eq,pg_ixv_eq]
 | extract x i => simp only [gOp,fOp,gPure_eq,pg_ext_eq]
 | alloc T => simp only [gOp,fOp,gEff_eq,eg_alc_eq,hh]
 | box T x => simp only [gOp,fOp,gEff_eq,eg_box_eq,hh]
 | build T ps => simp only [gOp,fOp,gEff_eq,eg_bld_eq,hh]
 | buildSlice T n ps => simp only [gOp,fOp,gEff_eq,eg_bls_eq,hh]
 | store T x y => simp only [gOp,fOp,gEff_eq,eg_sto_eq,hh]
 | makeSlice T l c => simp only [gOp,fOp,gEff_eq,eg_mks_eq,hh]
 | typeAssert x T A ok => simp only [gOp,fOp,gEff_eq,eg_tas_eq,hh]
 | makeMap T r =>
  simp only [gOp,fOp,gEff_eq]
  cases r <;> simp only [gMkm,fMkm,eg_mkm_eq,hh]
 | lookup X x k ok => simp only [gOp,fOp,gEff_eq,eg_lkp_eq,hh]
 | mapUpdate X x k y => simp only [gOp,fOp,gEff_eq,eg_mup_eq,hh]
 | insert X x k y => simp only [gOp,fOp,gEff_eq,eg_mup_eq,hh]
 | _ => rfl
theorem gEff_ok {hs : Held} {i : Nat} {f : FS} (hf : f.ok) {r : Option (AV × List Blk × List Nat)} {x : GR} (h : gEff hs i f r = some x) : x.fs.ok := by
 cases r with
 | none => simp [gEff] at h
 | some p =>
  obtain ⟨v,h',W⟩ := p
  simp only [gEff] at h
  split at h
  ·cases h; exact hf
  ·cases h
theorem gPure_ok {f : FS} (hf : f.ok) {r : Option AV} {x : GR} (h : gPure f r = some x) : x.fs.ok := by
 cases r with
 | none => simp [gPure] at h
 | some v => simp only [gPure,Option.some.injEq] at h; subst h; exact hf
theorem gCal_ok {hs : Held} {i : Nat} {f : FS} (hf : f.ok) {r : Option (AOut × List Blk × List Nat)} {x : GR} (h : gCal hs i f r = some x) : x.fs.ok := by
 cases r with
 | none => simp [gCal] at h
 | some p =>
  obtain ⟨o,h',W⟩ := p
  simp only [gCal] at h
  split at h
  ·cases h; cases o <;> exact hf
  ·cases h
theorem gOp_ok {P : Program} {call : CallF} {hs : Held} {i : Nat} {op : Op} {g : Nat → AV} {f : FS} (hf : f.ok) {x : GR} (h : gOp P call hs i op g f = some x) : x.fs.ok := by
 cases op with
 | panic y =>
  simp only [gOp] at h
  cases he : evG g y with
  | none => rw [he] at h; cases h
  | some v => rw [he] at h; cases v <;> simp only [gPanic,reduceCtorEq,Option.some.injEq] at h; subst h; exact hf
 | «defer» c =>
  obtain ⟨cl,as,ts⟩ := c
  cases cl with
  | value y =>
   simp only [gOp,gDefer] at h
   split at h
   ·cases h; exact hf
   ·cases h
  | _ => simp [gOp,gDefer] at h
 | load T y =>
  simp only [gOp] at h
  cases he : gLoad P g f.h T y with
  | none => rw [he] at h; cases h
  | some p => rw [he] at h; simp only [gLd,Option.some.injEq] at h; subst h; exact hf
 | call c =>
  obtain ⟨cl,as,ts⟩ := c
  cases cl with
  | value y =>
   simp only [gOp,gCall] at h
   split at h
   ·exact gCal_ok hf h
   ·cases h
  | invoke r m => simp [gOp,gCall] at h
  | builtin b =>
   cases b with
   | append => exact gEff_ok hf h
   | clear => exact gEff_ok hf h
   | copy => exact gEff_ok hf h
   | len => exact gPure_ok hf h
   | cap => exact gPure_ok hf h
   | min => exact gPure_ok hf h
   | max => exact gPure_ok hf h
   | _ => simp [gOp,gCall] at h
 | convert s d y =>
  simp only [gOp] at h
  cases he : pg_cnv P g s d y with
  | none => rw [he] at h; exact gEff_ok hf h
  | some v => rw [he] at h; simp only [gBoth,Option.some.injEq] at h; subst h; exact hf
 | pick c a b => exact gPure_ok hf h
 | move y => exact gPure_ok hf h
 | assign y => exact gPure_ok hf h
 | nilCheck y => exact gPure_ok hf h
 | binOp op T y z u => exact gPure_ok hf h
 | unOp op T y => exact gPure_ok hf h
 | makeInterface T y => exact gPure_ok hf h
 | makeFunc k first caps => exact gPure_ok hf h
 | slice T y lo hi m => exact gPure_ok hf h
 | fieldAddr S y k => exact gPure_ok hf h
 | field S y k => exact gPure_ok hf h
 | indexAddr T y i => exact gPure_ok hf h
 | index T y i => exact gPure_ok hf h
 | extract y i => exact gPure_ok hf h
 | alloc T => exact gEff_ok hf h
 | box T y => exact gEff_ok hf h
 | build T ps => exact gEff_ok hf h
 | buildSlice T n ps => exact gEff_ok hf h
 | store T y z => exact gEff_ok hf h
 | makeSlice T l c => exact gEff_ok hf h
 | typeAssert y T A ok => exact gEff_ok hf h
 | makeMap T r => exact gEff_ok hf h
 | lookup X y k ok => exact gEff_ok hf h
 | mapUpdate X y k z => exact gEff_ok hf h
 | insert X y k z => exact gEff_ok hf h
 | _ => simp [gOp] at h
def gPureOp (P : Program) (g : Nat → AV) : Op → Option AV
 | .move x => evG g x
 | .assign x => evG g x
 | .nilCheck x => pg_nil P g x
 | .binOp op T x y _ => pg_bin P g op T x y
 | .unOp op _ x => pg_un P g op x
 | .convert s d x => pg_cnv P g s d x
 | .makeInterface T x => pg_mki P g T x
 | .makeFunc f first caps => gMkf P g f first caps
 | .slice T x lo hi m => gSlc P g T x lo hi m
 | .fieldAddr S x f => pg_fad P g S x f
 | .field S x f => pg_fld P g S x f
 | .indexAddr T x i => pg_ixa P g T x i
 | .index T x i => pg_ixv P g T x i
 | .extract x i => pg_ext P g x i
 | .call c => match c with
  | ⟨.builtin b,as,ts⟩ => match b with
   | .len => pg_len P g as ts
   | .cap => pg_cap P g as ts
   | .min => pg_min P g as
   | .max => pg_max P g as
   | _ => none
  | _ => none
 | _ => none
theorem gPureOp_eq (P : Program) (t : List AV) (op : Op) : gPureOp P (tg t) op = fPure P t op := by
 cases op with
 | call c =>
  obtain ⟨cl,as,ts⟩ := c
  cases cl with
  | builtin b => cases b <;> simp only [gPureOp,fPure,fCallP,pg_len_eq,pg_cap_eq,pg_min_eq,pg_max_eq]
  | _ => rfl
 | makeFunc k first caps => cases k <;> simp only [gPureOp,fPure,gMkf,fMkf,pg_mkf_eq]
 | slice T x lo hi m => cases m <;> simp only [gPureOp,fPure,gSlc,fSlc,pg_slc_eq]
 | _ => simp only [gPureOp,fPure,evG_eq,pg_nil_eq,pg_bin_eq,pg_un_eq,pg_cnv_eq,pg_mki_eq,pg_fad_eq,pg_fld_eq,pg_ixa_eq,pg_ixv_eq,pg_ext_eq]
def gQuiet (P : Program) (ops : Array Oper) (i : Nat) (hs : Held) (op : Op) (g : Nat → AV) (h : List Blk) : Option (AV × Held) := match op with
 | .pick c a b => match pickG g c a b with
  | some v => some (v,hs)
  | none => none
 | .load T x => match gLoad P g h T x with
  | some (v,some k) => some (v,(k,behind ops i) :: hs)
  | some (v,none) => some (v,hs)
  | none => none
 | op => match gPureOp P g op with
  | some v => some (v,hs)
  | none => none
theorem gQuiet_eq (P : Program) (ops : Array Oper) (i : Nat) (hs : Held) (op : Op) (f : FS) : gQuiet P ops i hs op f.g f.h = fQuiet P ops i hs op f.st := by
 rw [f.g_eq]
 cases op with
 | pick c a b => simp only [gQuiet,fQuiet,pickG_eq] <;> rfl
 | load T x =>
  have : gLoad P (tg f.st.t) f.h T x = fLoad P f.st.t f.st.h T x := by
   have hh : f.h = f.st.h := rfl
   simp only [gLoad,fLoad,evG_eq,hh]
  simp only [gQuiet,fQuiet,this] <;> rfl
 | _ => simp only [gQuiet,fQuiet,gPureOp_eq] <;> rfl
noncomputable def gForget (ops : Array Oper) (f : FS) : FS := ops.toList.foldl (fun f o => f.put o.dst .any) f
theorem gForget_eq (ops : Array Oper) (f : FS) (hf : f.ok) : (gForget ops f).st = forget ops f.st ∧ (gForget ops f).ok := by
 let fo : List AV → Oper → List AV := fun t o => match o.dst with
  | some d => t.set d .any
  | none => t
 have go : ∀ (l : List Oper) (f : FS),f.ok → (l.foldl (fun f o => f.put o.dst .any) f).st = ⟨l.foldl fo f.st.t,f.st.h,f.st.d⟩ ∧ (l.foldl (fun f o => f.put o.dst .any) f).ok := by
  intro l
  induction l with
  | nil => intro f hf; exact ⟨rfl,hf⟩
  | cons o l ih =>
   intro f hf
   obtain ⟨h1,h2⟩ := FS.put_st hf o.dst .any
   obtain ⟨h3,h4⟩ := ih _ h2
   refine ⟨?_,h4⟩
   rw [List.foldl_cons,h3,h1,List.foldl_cons]
   have : (f.st.put o.dst .any).t = fo f.st.t o ∧ (f.st.put o.dst .any).h = f.st.h ∧ (f.st.put o.dst .any).d = f.st.d := by
    simp only [fo]
    cases o.dst <;> exact ⟨rfl,rfl,rfl⟩
   rw [this.1,this.2.1,this.2.2]
 exact go ops.toList f hf
noncomputable def gOps (P : Program) (call : CallF) (ops : Array Oper) : List Nat → FS → Option (REx × FS)
 | [],f => some (.normal,f)
 | i :: rest,f => match ops[i]? with
  | none => gOps P call ops rest f
  | some o => match gRG ops o f.g with
   | none => none
   | some false => gOps P call ops rest (f.put o.dst .undef)
   | some true => match gOp P call [] i o.op f.g f with
    | some (.ok v s) => gOps P call ops rest (s.put o.dst v)
    | some (.pan v s) => some (.pan v,gForget ops s)
    | none => none
noncomputable def gDraw (P : Program) (call : CallF) (ops : Array Oper) : List (Nat × Bool) → Held → FS → Option (REx × FS)
 | [],_,f => some (.normal,f)
 | (i,q) :: rest,hs,f => match ops[i]? with
  | none => none
  | some o => match gRG ops o f.g with
   | none => none
   | some false => gDraw P call ops rest (match q with
    | true => hs
    | false => hs.drop i) (f.put o.dst .undef)
   | some true => match q with
    | true => match gQuiet P ops i hs o.op f.g f.h with
     | some (v,hs') => gDraw P call ops rest hs' (f.put o.dst v)
     | none => none
    | false => match gOp P call hs i o.op f.g f with
     | some (.ok v s) => gDraw P call ops rest (hs.drop i) (s.put o.dst v)
     | some (.pan v s) => some (.pan v,gForget ops s)
     | none => none
/-- A run of trees, as one of lists. -/
def Says (x : Option (REx × FS)) (y : Option (REx × St)) : Prop := ∀ e f,x = some (e,f) → y = some (e,f.st) ∧ f.ok
theorem gOps_says {P : Program} {call : CallF} {ops : Array Oper} : ∀ (l : List Nat) (f : FS),f.ok → Says (gOps P call ops l f) (runOps P call ops l f.st)
 | [],f,hf,e,f',h => by simp only [gOps,Option.some.injEq,Prod.mk.injEq] at h; obtain ⟨rfl,rfl⟩ := h; exact ⟨rfl,hf⟩
 | i :: rest,f,hf,e,f',h => by
  unfold gOps at h
  unfold runOps
  cases ho : ops[i]? with
  | none => simp only [ho] at h ⊢; exact gOps_says rest f hf e f' h
  | some o =>
   simp only [ho] at h ⊢
   have hg : gRG ops o f.g = gR ops o f.st.t := by rw [f.g_eq,gRG_eq]
   rw [hg] at h
   cases hb : gR ops o f.st.t with
   | none => simp only [hb] at h; cases h
   | some b =>
    simp only [hb] at h ⊢
    cases b with
    | false =>
     obtain ⟨h1,h2⟩ := FS.put_st hf o.dst .undef
     simp only at h ⊢
     rw [← h1]
     exact gOps_says rest _ h2 e f' h
    | true =>
     simp only at h ⊢
     have heq := gOp_eq P call [] i o.op f
     cases hr : gOp P call [] i o.op f.g f with
     | none => simp only [hr] at h; cases h
     | some r =>
      have hok := gOp_ok hf hr
      rw [hr] at heq
      simp only [hr] at h
      rw [← heq]
      cases r with
      | ok v s =>
       simp only [Option.map_some,GR.rr] at h ⊢
       obtain ⟨h1,h2⟩ := FS.put_st hok o.dst v
       simp only [GR.fs] at h1 h2
       rw [← h1]
       exact gOps_says rest _ h2 e f' h
      | pan v s =>
       simp only [Option.some.injEq,Prod.mk.injEq] at h
       obtain ⟨rfl,rfl⟩ := h
       obtain ⟨h1,h2⟩ := gForget_eq ops s hok
       simp only [Option.map_some,GR.rr,h1]
       exact ⟨trivial,h2⟩
theorem gDraw_says {P : Program} {call : CallF} {ops : Array Oper} : ∀ (l : List (Nat × Bool)) (hs : Held) (f : FS),f.ok → Says (gDraw P call ops l hs f) (runDraw P call ops l hs f.st)
 | [],hs,f,hf,e,f',h => by simp only [gDraw,Option.some.injEq,Prod.mk.injEq] at h; obtain ⟨rfl,rfl⟩ := h; exact ⟨rfl,hf⟩
 | (i,q) :: rest,hs,f,hf,e,f',h => by
  unfold gDraw at h
  unfold runDraw
  cases ho : ops[i]? with
  | none => simp only [ho] at h; cases h
  | some o =>
   simp only [ho] at h ⊢
   have hg : gRG ops o f.g = gR ops o f.st.t := by rw [f.g_eq,gRG_eq]
   rw [hg] at h
   cases hb : gR ops o f.st.t with
   | none => simp only [hb] at h; cases h
   | some b =>
    simp only [hb] at h ⊢
    cases b with
    | false =>
     obtain ⟨h1,h2⟩ := FS.put_st hf o.dst .undef
     simp only at h ⊢
     rw [← h1]
     exact gDraw_says rest _ _ h2 e f' h
    | true =>
     cases q with
     | true =>
      simp only at h ⊢
      rw [gQuiet_eq] at h
      cases hr : fQuiet P ops i hs o.op f.st with
      | none => simp only [hr] at h; cases h
      | some p =>
       obtain ⟨v,hs'⟩ := p
       simp only [hr] at h ⊢
       obtain ⟨h1,h2⟩ := FS.put_st hf o.dst v
       rw [← h1]
       exact gDraw_says rest _ _ h2 e f' h
     | false =>
      simp only at h ⊢
      have heq := gOp_eq P call hs i o.op f
      cases hr : gOp P call hs i o.op f.g f with
      | none => simp only [hr] at h; cases h
      | some r =>
       have hok := gOp_ok hf hr
       rw [hr] at heq
       simp only [hr] at h
       rw [← heq]
       cases r with
       | ok v s =>
        simp only [Option.map_some,GR.rr] at h ⊢
        obtain ⟨h1,h2⟩ := FS.put_st hok o.dst v
        simp only [GR.fs] at h1 h2
        rw [← h1]
        exact gDraw_says rest _ _ h2 e f' h
       | pan v s =>
        simp only [Option.some.injEq,Prod.mk.injEq] at h
        obtain ⟨rfl,rfl⟩ := h
        obtain ⟨h1,h2⟩ := gForget_eq ops s hok
        simp only [Option.map_some,GR.rr,h1]
        exact ⟨trivial,h2⟩
noncomputable def gGc (n0 : Nat) (f : FS) : FS := match Nat.ble f.h.length (n0 + 48) with
 | true => f
 | false => mkFS (gc n0 f.st).t.length (gc n0 f.st).t (gc n0 f.st).h (gc n0 f.st).d
theorem gGc_eq (n0 : Nat) (f : FS) (hf : f.ok) : (gGc n0 f).st = gc n0 f.st ∧ (gGc n0 f).ok := by
 unfold gGc
 split
 ·rename_i h
  refine ⟨?_,hf⟩
  unfold gc
  show f.st = match Nat.ble f.h.length (n0 + 48) with
   | true => f.st
   | false => _
  rw [h]
 ·obtain ⟨h1,h2⟩ := mkFS_ok (n := (gc n0 f.st).t.length) (Nat.le_refl _) (gc n0 f.st).h (gc n0 f.st).d
  refine ⟨?_,h1⟩
  rw [h2]
  simp
noncomputable def gLoop (n0 : Nat) (body : FS → Option (REx × FS)) : Nat → FS → Option (REx × FS)
 | 0,_ => none
 | n + 1,f => match body f with
  | some (.normal,s) => gLoop n0 body n (gGc n0 s)
  | r => r
theorem gLoop_says {n0 : Nat} {body : FS → Option (REx × FS)} {b2 : St → Option (REx × St)} (hb : ∀ f,f.ok → Says (body f) (b2 f.st)) : ∀ (n : Nat) (f : FS),f.ok → Says (gLoop n0 body n f) (runLoop n0 b2 n f.st)
 | 0,f,hf,e,f',h => by simp [gLoop] at h
 | n + 1,f,hf,e,f',h => by
  unfold gLoop at h
  unfold runLoop
  cases hr : body f with
  | none => simp only [hr] at h; cases h
  | some p =>
   obtain ⟨e1,s⟩ := p
   obtain ⟨h1,h2⟩ := hb f hf e1 s hr
   rw [h1]
   simp only [hr] at h
   cases e1 with
   | normal =>
    simp only at h ⊢
    obtain ⟨h3,h4⟩ := gGc_eq n0 s h2
    rw [← h3]
    exact gLoop_says hb n _ h4 e f' h
   | exit i => simp only [Option.some.injEq,Prod.mk.injEq] at h; obtain ⟨rfl,rfl⟩ := h; exact ⟨rfl,h2⟩
   | ret => simp only [Option.some.injEq,Prod.mk.injEq] at h; obtain ⟨rfl,rfl⟩ := h; exact ⟨rfl,h2⟩
   | pan v => simp only [Option.some.injEq,Prod.mk.injEq] at h; obtain ⟨rfl,rfl⟩ := h; exact ⟨rfl,h2⟩
noncomputable def gCanon (n0 : Nat) (f : FS) : FS := mkFS (canon n0 f.st).t.length (canon n0 f.st).t (canon n0 f.st).h (canon n0 f.st).d
theorem gCanon_eq (n0 : Nat) (f : FS) : (gCanon n0 f).st = canon n0 f.st ∧ (gCanon n0 f).ok := by
 obtain ⟨h1,h2⟩ := mkFS_ok (n := (canon n0 f.st).t.length) (Nat.le_refl _) (canon n0 f.st).h (canon n0 f.st).d
 refine ⟨?_,h1⟩
 show (mkFS _ _ _ _).st = _
 rw [h2]
 simp
noncomputable def gJoin : List (Option (REx × FS)) → Option (REx × FS)
 | [] => none
 | [some (.normal,s)] => some (.normal,s)
 | some (.normal,s) :: l => match gJoin l with
  | some (.normal,u) => match eqSt s.st u.st with
   | true => some (.normal,u)
   | false => none
  | _ => none
 | _ => none
/-- Runs, each of which says another one. -/
inductive AllSay : List (Option (REx × FS)) → List (Option (REx × St)) → Prop
 | nil : AllSay [] []
 | cons {x : Option (REx × FS)} {y : Option (REx × St)} {l : List (Option (REx × FS))} {m : List (Option (REx × St))} (h : Says x y) (hl : AllSay l m) : AllSay (x :: l) (y :: m)
theorem allSay_map {α : Type} {p : α → Option (REx × FS)} {q : α → Option (REx × St)} (h : ∀ a,Says (p a) (q a)) : ∀ l : List α,AllSay (l.map p) (l.map q)
 | [] => .nil
 | a :: l => .cons (h a) (allSay_map h l)
theorem gJoin_says : ∀ {l : List (Option (REx × FS))} {m : List (Option (REx × St))},AllSay l m → Says (gJoin l) (join m)
 | [],[],_,e,f,h => by simp [gJoin] at h
 | [x],[y],hs,e,f,h => by
  unfold gJoin at h
  split at h
  ·cases ‹_ = []›
  ·rename_i s he
   simp only [List.cons.injEq,and_true] at he
   subst he
   cases h
   cases hs with
   | cons hx _ =>
    obtain ⟨h1,h2⟩ := hx _ _ rfl
    subst h1
    exact ⟨rfl,h2⟩
  ·rename_i s l hne he
   simp only [List.cons.injEq] at he
   obtain ⟨rfl,rfl⟩ := he
   exact absurd rfl hne
  ·cases h
 | x :: x2 :: l,y :: y2 :: m,hs,e,f,h => by
  cases hs with
  | cons hx hl =>
   unfold gJoin at h
   split at h
   ·cases ‹_ = []›
   ·rename_i s he
    simp at he
   ·rename_i s l' hne he
    simp only [List.cons.injEq] at he
    obtain ⟨rfl,rfl⟩ := he
    split at h
    ·rename_i u hj
     obtain ⟨h1,h2⟩ := gJoin_says hl _ _ hj
     obtain ⟨h3,h4⟩ := hx _ _ rfl
     subst h3
     split at h
     ·rename_i heq
      cases h
      refine ⟨?_,h2⟩
      unfold join
      simp only [h1,heq]
     ·cases h
    ·cases h
   ·cases h
noncomputable def gTree (P : Program) (call : CallF) (n0 : Nat) (ops : Array Oper) : Nat → Array Bool → Held → FS → Option (REx × FS)
 | 0,listed,_,f => match Region.ready .any ops listed with
  | [] => some (.normal,gCanon n0 f)
  | _ => none
 | n + 1,listed,hs,f => match Region.ready .any ops listed with
  | [] => some (.normal,gCanon n0 f)
  | r => match nextOp ops listed with
   | some (i,true) => match ops[i]? with
    | none => none
    | some o => match gRG ops o f.g with
     | none => none
     | some false => gTree P call n0 ops n (listed.setIfInBounds i true) hs (f.put o.dst .undef)
     | some true => match gQuiet P ops i hs o.op f.g f.h with
      | some (v,hs') => gTree P call n0 ops n (listed.setIfInBounds i true) hs' (f.put o.dst v)
      | none => none
   | _ => match loudAll ops r with
    | false => none
    | true => gJoin (r.map fun i => match ops[i]? with
     | none => none
     | some o => match gRG ops o f.g with
      | none => none
      | some false => gTree P call n0 ops n (listed.setIfInBounds i true) (hs.drop i) (f.put o.dst .undef)
      | some true => match gOp P call hs i o.op f.g f with
       | some (.ok v s) => gTree P call n0 ops n (listed.setIfInBounds i true) (hs.drop i) (s.put o.dst v)
       | _ => none)
theorem gTree_says {P : Program} {call : CallF} {n0 : Nat} {ops : Array Oper} : ∀ (n : Nat) (listed : Array Bool) (hs : Held) (f : FS),f.ok → Says (gTree P call n0 ops n listed hs f) (runTree P call n0 ops n listed hs f.st)
 | 0,listed,hs,f,hf,e,f',h => by
  unfold gTree at h
  unfold runTree
  split at h
  ·rename_i hrd
   cases h
   obtain ⟨h1,h2⟩ := gCanon_eq n0 f
   rw [h1]
   simp only [hrd]
   exact ⟨trivial,h2⟩
  ·cases h
 | n + 1,listed,hs,f,hf,e,f',h => by
  unfold gTree at h
  unfold runTree
  have hg : ∀ o : Oper,gRG ops o f.g = gR ops o f.st.t := fun o => by rw [f.g_eq,gRG_eq]
  split at h
  ·rename_i hrd
   cases h
   obtain ⟨h1,h2⟩ := gCanon_eq n0 f
   rw [h1]
   simp only [hrd]
   exact ⟨trivial,h2⟩
  ·rename_i hne
   split
   ·rename_i hrd
    exact (hne hrd).elim
   split at h
   ·rename_i i hn
    simp only [hn]
    cases ho : ops[i]? with
    | none => simp only [ho] at h; cases h
    | some o =>
     simp only [ho,hg] at h ⊢
     cases hb : gR ops o f.st.t with
     | none => simp only [hb] at h; cases h
     | some b =>
      simp only [hb] at h ⊢
      cases b with
      | false =>
       obtain ⟨h1,h2⟩ := FS.put_st hf o.dst .undef
       simp only at h ⊢
       rw [← h1]
       exact gTree_says n _ _ _ h2 e f' h
      | true =>
       simp only at h ⊢
       rw [gQuiet_eq] at h
       cases hr : fQuiet P ops i hs o.op f.st with
       | none => simp only [hr] at h; cases h
       | some p =>
        obtain ⟨v,hs'⟩ := p
        simp only [hr] at h ⊢
        obtain ⟨h1,h2⟩ := FS.put_st hf o.dst v
        rw [← h1]
        exact gTree_says n _ _ _ h2 e f' h
   ·rename_i hn
    split at h
    ·cases h
    ·rename_i hloud
     have key : Says (gJoin ((Region.ready .any ops listed).map fun i => match ops[i]? with
     | none => none
     | some o => match gRG ops o f.g with
      | none => none
      | some false => gTree P call n0 ops n (listed.setIfInBounds i true) (hs.drop i) (f.put o.dst .undef)
      | some true => match gOp P call hs i o.op f.g f with
       | some (.ok v s) => gTree P call n0 ops n (listed.setIfInBounds i true) (hs.drop i) (s.put o.dst v)
       | _ => none)) (join ((Region.ready .any ops listed).map fun i => match ops[i]? with
     | none => none
     | some o => match gR ops o f.st.t with
      | none => none
      | some false => runTree P call n0 ops n (listed.setIfInBounds i true) (hs.drop i) (f.st.put o.dst .undef)
      | some true => match fOp P call hs i o.op f.st with
       | some (.ok v s) => runTree P call n0 ops n (listed.setIfInBounds i true) (hs.drop i) (s.put o.dst v)
       | _ => none)) := by
      refine gJoin_says (allSay_map (fun i => ?_) _)
      intro e f' h
      cases ho : ops[i]? with
      | none => simp only [ho] at h; cases h
      | some o =>
       simp only [ho,hg] at h ⊢
       cases hb : gR ops o f.st.t with
       | none => simp only [hb] at h; cases h
       | some b =>
        simp only [hb] at h ⊢
        cases b with
        | false =>
         obtain ⟨h1,h2⟩ := FS.put_st hf o.dst .undef
         simp only at h ⊢
         rw [← h1]
         exact gTree_says n _ _ _ h2 e f' h
        | true =>
         simp only at h ⊢
         have heq := gOp_eq P call hs i o.op f
         cases hr : gOp P call hs i o.op f.g f with
         | none => simp only [hr] at h; cases h
         | some r =>
          have hok := gOp_ok hf hr
          rw [hr] at heq
          simp only [hr] at h
          rw [← heq]
          cases r with
          | ok v s =>
           simp only [Option.map_some,GR.rr] at h ⊢
           obtain ⟨h1,h2⟩ := FS.put_st hok o.dst v
           simp only [GR.fs] at h1 h2
           rw [← h1]
           exact gTree_says n _ _ _ h2 e f' h
          | pan v s => simp only at h; cases h
     have h2 := key e f' h
     split
     ·rename_i i3 hn'
      exact (hn _ hn').elim
     ·simp only [hloud]
      exact h2
noncomputable def treeG (P : Program) (call : CallF) (n0 : Nat) (ops : Array Oper) (f : FS) : Option (REx × FS) := match Region.noSelect ops with
 | true => gTree P call n0 ops ops.size (Array.replicate ops.size false) [] f
 | false => none
theorem treeG_says {P : Program} {call : CallF} {n0 : Nat} {ops : Array Oper} (f : FS) (hf : f.ok) : Says (treeG P call n0 ops f) (treeR P call n0 ops f.st) := by
 intro e f' h
 unfold treeG at h
 unfold treeR
 split at h
 ·rename_i hns
  simp only [hns]
  exact gTree_says _ _ _ f hf e f' h
 ·cases h
noncomputable def gCode (P : Program) (call : CallF) (lf n0 : Nat) : Code → FS → Option (REx × FS)
 | .skip,f => some (.normal,f)
 | .region _ ops draws,f => match draws with
  | true => match sched ops with
   | some l => gDraw P call ops l [] f
   | none => treeG P call n0 ops f
  | false => gOps P call ops (List.range ops.size) f
 | .seq a b,f => match gCode P call lf n0 a f with
  | some (.normal,s) => gCode P call lf n0 b s
  | r => r
 | .cond c a b,f => match evG f.g c with
  | some (.fv (.bool true)) => gCode P call lf n0 a f
  | some (.fv (.bool false)) => gCode P call lf n0 b f
  | _ => none
 | .block id c,f => match gCode P call lf n0 c f with
  | some (.exit i,s) => match Nat.beq i id with
   | true => some (.normal,s)
   | false => some (.exit i,s)
  | r => r
 | .loop c,f => gLoop n0 (gCode P call lf n0 c) lf f
 | .exit id,f => some (.exit id,f)
 | .label _,f => some (.normal,f)
 | .ret,f => some (.ret,f)
 | _,_ => none
theorem gCode_says {P : Program} {call : CallF} {lf n0 : Nat} : ∀ (c : Code) (f : FS),f.ok → Says (gCode P call lf n0 c f) (runCode P call lf n0 c f.st) := by
 intro c
 induction c with
 | skip => intro f hf e f' h; simp only [gCode,Option.some.injEq,Prod.mk.injEq] at h; obtain ⟨rfl,rfl⟩ := h; exact ⟨rfl,hf⟩
 | region id ops draws =>
  intro f hf e f' h
  cases draws with
  | true =>
   simp only [gCode] at h
   simp only [runCode]
   cases hl : sched ops with
   | none => simp only [hl] at h ⊢; exact treeG_says f hf e f' h
   | some l => simp only [hl] at h ⊢; exact gDraw_says l [] f hf e f' h
  | false =>
   simp only [gCode] at h
   simp only [runCode]
   exact gOps_says _ f hf e f' h
 | seq a b iha ihb =>
  intro f hf e f' h
  simp only [gCode] at h
  simp only [runCode]
  cases hr : gCode P call lf n0 a f with
  | none => simp only [hr] at h; cases h
  | some p =>
   obtain ⟨e1,s⟩ := p
   obtain ⟨h1,h2⟩ := iha f hf e1 s hr
   rw [h1]
   simp only [hr] at h
   cases e1 with
   | normal => exact ihb s h2 e f' h
   | exit i => simp only [Option.some.injEq,Prod.mk.injEq] at h; obtain ⟨rfl,rfl⟩ := h; exact ⟨rfl,h2⟩
   | ret => simp only [Option.some.injEq,Prod.mk.injEq] at h; obtain ⟨rfl,rfl⟩ := h; exact ⟨rfl,h2⟩
   | pan v => simp only [Option.some.injEq,Prod.mk.injEq] at h; obtain ⟨rfl,rfl⟩ := h; exact ⟨rfl,h2⟩
 | cond c a b iha ihb =>
  intro f hf e f' h
  simp only [gCode] at h
  simp only [runCode]
  have hc : evG f.g c = ev f.st.t c := by rw [f.g_eq,evG_eq]
  rw [hc] at h
  split at h
  ·rename_i e1; rw [e1]; exact iha f hf e f' h
  ·rename_i e1; rw [e1]; exact ihb f hf e f' h
  ·cases h
 | block id c ih =>
  intro f hf e f' h
  simp only [gCode] at h
  simp only [runCode]
  cases hr : gCode P call lf n0 c f with
  | none => simp only [hr] at h; cases h
  | some p =>
   obtain ⟨e1,s⟩ := p
   obtain ⟨h1,h2⟩ := ih f hf e1 s hr
   rw [h1]
   simp only [hr] at h
   cases e1 with
   | exit i =>
    simp only at h ⊢
    cases hi : Nat.beq i id with
    | true => simp only [hi,Option.some.injEq,Prod.mk.injEq] at h ⊢; obtain ⟨rfl,rfl⟩ := h; exact ⟨⟨rfl,rfl⟩,h2⟩
    | false => simp only [hi,Option.some.injEq,Prod.mk.injEq] at h ⊢; obtain ⟨rfl,rfl⟩ := h; exact ⟨⟨rfl,rfl⟩,h2⟩
   | normal => simp only [Option.some.injEq,Prod.mk.injEq] at h; obtain ⟨rfl,rfl⟩ := h; exact ⟨rfl,h2⟩
   | ret => simp only [Option.some.injEq,Prod.mk.injEq] at h; obtain ⟨rfl,rfl⟩ := h; exact ⟨rfl,h2⟩
   | pan v => simp only [Option.some.injEq,Prod.mk.injEq] at h; obtain ⟨rfl,rfl⟩ := h; exact ⟨rfl,h2⟩
 | loop c ih =>
  intro f hf e f' h
  simp only [gCode] at h
  simp only [runCode]
  exact gLoop_says ih lf f hf e f' h
 | exit id => intro f hf e f' h; simp only [gCode,Option.some.injEq,Prod.mk.injEq] at h; obtain ⟨rfl,rfl⟩ := h; exact ⟨rfl,hf⟩
 | label l => intro f hf e f' h; simp only [gCode,Option.some.injEq,Prod.mk.injEq] at h; obtain ⟨rfl,rfl⟩ := h; exact ⟨rfl,hf⟩
 | ret => intro f hf e f' h; simp only [gCode,Option.some.injEq,Prod.mk.injEq] at h; obtain ⟨rfl,rfl⟩ := h; exact ⟨rfl,hf⟩
 | _ => intro f hf e f' h; simp [gCode] at h
/-- Results, off the tree. -/
def resG (P : Program) (g : Nat → AV) (h : List Blk) : ResultVar → Option AV
 | .tmp t => some (g t)
 | .cell a T => (tiOf P T).bind fun i => ldA P i h (g a)
def ressG (P : Program) (g : Nat → AV) (h : List Blk) : List ResultVar → Option (List AV)
 | [] => some []
 | r :: l => match resG P g h r,ressG P g h l with
  | some a,some as => some (a :: as)
  | _,_ => none
theorem ressG_eq (P : Program) (t : List AV) (h : List Blk) : ∀ l,ressG P (tg t) h l = resAs P ⟨t,h,[]⟩ l
 | [] => rfl
 | r :: l => by
  have h1 : resG P (tg t) h r = resA P ⟨t,h,[]⟩ r := by cases r <;> rfl
  simp only [ressG,resAs,h1,ressG_eq P t h l]
  rfl
def finG (P : Program) (rs : List ResultVar) (n0 : Nat) (g : Nat → AV) (h : List Blk) : Option (AV × List Blk) := match ressG P g h rs with
 | some vs => finV n0 h (pack vs)
 | none => none
theorem finG_eq (P : Program) (rs : List ResultVar) (n0 : Nat) (t : List AV) (h : List Blk) : finG P rs n0 (tg t) h = finR P rs n0 t h := by
 simp only [finG,finR,ressG_eq] <;> rfl
noncomputable def plainG (P : Program) (rs : List ResultVar) (n0 : Nat) : Option (REx × FS) → Option (AV × List Blk)
 | some (.ret,f) => match f.d with
  | [] => finG P rs n0 f.g f.h
  | _ => none
 | some (.normal,f) => match f.d with
  | [] => finG P rs n0 f.g f.h
  | _ => none
 | _ => none
theorem plainG_says {P : Program} {rs : List ResultVar} {n0 : Nat} {x : Option (REx × FS)} {y : Option (REx × St)} (hs : Says x y) {r : AV × List Blk} (h : plainG P rs n0 x = some r) : plainR P rs n0 y = some r := by
 have fin : ∀ f : FS,(match f.d with
  | [] => finG P rs n0 f.g f.h
  | _ => none) = some r → f.d = [] ∧ finR P rs n0 f.st.t f.h = some r := by
  intro f h
  cases hd : f.d with
  | nil => simp only [hd] at h; rw [f.g_eq,finG_eq] at h; exact ⟨rfl,h⟩
  | cons a l => simp only [hd] at h; cases h
 cases x with
 | none => simp [plainG] at h
 | some p =>
  obtain ⟨e,f⟩ := p
  obtain ⟨h1,_⟩ := hs e f rfl
  rw [h1]
  cases e with
  | ret =>
   obtain ⟨h2,h3⟩ := fin f h
   have e1 : f.st = ⟨f.st.t,f.h,[]⟩ := by show St.mk _ _ _ = _; rw [h2]; rfl
   rw [e1]; exact h3
  | normal =>
   obtain ⟨h2,h3⟩ := fin f h
   have e1 : f.st = ⟨f.st.t,f.h,[]⟩ := by show St.mk _ _ _ = _; rw [h2]; rfl
   rw [e1]; exact h3
  | exit i => simp [plainG] at h
  | pan v => simp [plainG] at h
noncomputable def defG (P : Program) (call : CallF) (lf : Nat) (f : FuncId) (args : List AV) (u : AMode) (h : List Blk) : Option (AMode × List Blk) :=
 match P.funcs[f]? with
 | none => none
 | some fn => match fn.body,Nat.ble args.length fn.ntmps with
  | some (.seq (.region id ops false) rest),true => match recAt ops[0]? with
   | some dst =>
    match gOps P call ops (List.range ops.size).tail ((mkFS fn.ntmps args h []).put dst (recA u).1) with
    | some (.normal,s) => match plainG P fn.results.toList h.length (gCode P call lf h.length rest s) with
     | some (_,h') => some ((recA u).2,h')
     | none => none
    | _ => none
   | none => match plainG P fn.results.toList h.length (gCode P call lf h.length (.seq (.region id ops false) rest) (mkFS fn.ntmps args h [])) with
    | some (_,h') => some (u,h')
    | none => none
  | some c,true => match plainG P fn.results.toList h.length (gCode P call lf h.length c (mkFS fn.ntmps args h [])) with
   | some (_,h') => some (u,h')
   | none => none
  | _,_ => none
theorem defG_says {P : Program} {call : CallF} {lf : Nat} {f : FuncId} {args : List AV} {u : AMode} {h : List Blk} {r : AMode × List Blk} (e : defG P call lf f args u h = some r) : defR P call lf f args u h = some r := by
 unfold defG at e
 unfold defR
 cases hf : P.funcs[f]? with
 | none => simp only [hf] at e; cases e
 | some fn =>
  simp only [hf] at e ⊢
  have plain : ∀ {c : Code},args.length ≤ fn.ntmps → (match plainG P fn.results.toList h.length (gCode P call lf h.length c (mkFS fn.ntmps args h [])) with
    | some (_,h') => some (u,h')
    | none => none) = some r → (match plainR P fn.results.toList h.length (runCode P call lf h.length c ⟨args ++ List.replicate (fn.ntmps - args.length) .undef,h,[]⟩) with
    | some (_,h') => some (u,h')
    | none => none) = some r := by
   intro c ht e
   obtain ⟨h1,h2⟩ := mkFS_ok ht h []
   split at e
   ·rename_i x h' hp
    have hs := gCode_says (P := P) (call := call) (lf := lf) (n0 := h.length) c _ h1
    rw [h2] at hs
    rw [plainG_says hs hp]
    exact e
   ·cases e
  split at e
  ·rename_i id ops rest hb ht
   have ht' := Nat.le_of_ble_eq_true ht
   simp only [hb,ht]
   obtain ⟨h1,h2⟩ := mkFS_ok ht' h []
   cases hr : recAt ops[0]? with
   | none => simp only [hr] at e ⊢; exact plain ht' e
   | some dst =>
    simp only [hr] at e ⊢
    obtain ⟨h3,h4⟩ := FS.put_st h1 dst (recA u).1
    rw [h2] at h3
    split at e
    ·rename_i s hs
     obtain ⟨h5,h6⟩ := gOps_says _ _ h4 _ _ hs
     rw [h3] at h5
     rw [h5]
     simp only
     split at e
     ·rename_i x h' hp
      rw [plainG_says (gCode_says rest s h6) hp]
      exact e
     ·cases e
    ·cases e
  ·rename_i c hne hb ht
   have ht' := Nat.le_of_ble_eq_true ht
   split
   ·rename_i id ops rest hb' ht2
    exact (hne id ops rest (Option.some.inj (hb.symm.trans hb'))).elim
   ·rename_i c' hne' hb' ht2
    obtain rfl := Option.some.inj (hb.symm.trans hb')
    exact plain ht' e
   ·rename_i h3 h4
    exact (h4 c hb ht).elim
  ·cases e
noncomputable def leaveG (P : Program) (call : CallF) (lf : Nat) (rs : List ResultVar) (n0 : Nat) (g : Nat → AV) : List (FuncId × List AV × List AV) → AMode → List Blk → Option (AOut × List Blk)
 | [],.ret,h => match finG P rs n0 g h with
  | some (v,h') => some (.ret v,h')
  | none => none
 | [],.pan v false,h => match finV n0 h v with
  | some (v,h') => some (.pan v,h')
  | none => none
 | [],.pan _ true,_ => none
 | (f,as,cs) :: ds,u,h => match defG P call lf f (as ++ cs) u h with
  | some (u',h') => leaveG P call lf rs n0 g ds (settleA u') h'
  | none => none
theorem leaveG_says {P : Program} {call : CallF} {lf : Nat} {rs : List ResultVar} {n0 : Nat} {t : List AV} : ∀ {ds : List (FuncId × List AV × List AV)} {u : AMode} {h : List Blk} {r : AOut × List Blk},
  leaveG P call lf rs n0 (tg t) ds u h = some r → leaveR P call lf rs n0 t ds u h = some r
 | [],.ret,h,r,e => by
  unfold leaveG at e
  unfold leaveR
  rw [finG_eq] at e
  split at e
  ·rename_i v h' hv; rw [hv]; exact e
  ·cases e
 | [],.pan v false,h,r,e => by
  unfold leaveG at e
  unfold leaveR
  split at e
  ·rename_i v h' hv; rw [hv]; exact e
  ·cases e
 | [],.pan v true,h,r,e => by simp [leaveG] at e
 | (f,as,cs) :: ds,u,h,r,e => by
  unfold leaveG at e
  unfold leaveR
  split at e
  ·rename_i u' h' hv
   rw [defG_says hv]
   exact leaveG_says e
  ·cases e
noncomputable def goFn (P : Program) (ext : List (FuncId × Ext)) (hook : List (FuncId × Hook)) (lf : Nat) : Nat → FuncId → List AV → List Blk → Option (AOut × List Blk)
 | 0,_,_,_ => none
 | n + 1,f,args,h => match extTab hook f with
  | some k => k args h
  | none => match P.funcs[f]? with
   | none => none
   | some fn => match fn.body with
    | none => none
    | some c => match Nat.ble args.length fn.ntmps with
     | false => none
     | true => match gCode P (callR ext (goFn P ext hook lf n)) lf h.length c (mkFS fn.ntmps args h []) with
      | some (.ret,s) => leaveG P (callR ext (goFn P ext hook lf n)) lf fn.results.toList h.length s.g s.d .ret s.h
      | some (.normal,s) => leaveG P (callR ext (goFn P ext hook lf n)) lf fn.results.toList h.length s.g s.d .ret s.h
      | some (.pan v,s) => leaveG P (callR ext (goFn P ext hook lf n)) lf fn.results.toList h.length s.g s.d (.pan v false) s.h
      | _ => none
/-- What a run comes to is a contract. -/
theorem goFn_ok {P : Program} (hmix : P.follows .mixedOrders = true) (hnames : ∀ (f : FuncId) (fn : Func), P.funcs[f]? = some fn → (fn.name == "runtime.NumGoroutine") = false) {ext : List (FuncId × Ext)} (hext : ∀ f x, extTab ext f = some x → ExtOk P f x)
  {hook : List (FuncId × Hook)} (hhook : ∀ f k,extTab hook f = some k → ∀ args h o h',k args h = some (o,h') → Ok P f args h o h') {lf : Nat} :
  ∀ (n : Nat) (f : FuncId) (args : List AV) (h : List Blk) (o : AOut) (h' : List Blk),goFn P ext hook lf n f args h = some (o,h') → Ok P f args h o h'
 | 0,f,args,h,o,h',e => by simp [goFn] at e
 | n + 1,f,args,h,o,h',e => by
  unfold goFn at e
  split at e
  ·rename_i k hk
   exact hhook f k hk _ _ _ _ e
  split at e
  ·cases e
  rename_i fn hf
  split at e
  ·cases e
  rename_i c hb
  split at e
  ·cases e
  rename_i ht
  have ih := goFn_ok hmix hnames hext hhook (lf := lf) n
  have hcall : CallOk P (callR ext (goFn P ext hook lf n)) := callR_ok hext fun f args h o h' => ih f args h o h'
  have ht' := Nat.le_of_ble_eq_true ht
  refine ok_intro_d hmix hf (hnames f fn hf) hb ht' ?_
  obtain ⟨m1,m2⟩ := mkFS_ok ht' h []
  have hs := gCode_says (P := P) (call := callR ext (goFn P ext hook lf n)) (lf := lf) (n0 := h.length) c _ m1
  rw [m2] at hs
  split at e
  ·rename_i s hr
   rw [s.g_eq] at e
   exact runCode_ok hcall c (hs _ _ hr).1 (leaveR_ok hmix hnames hcall (leaveG_says e))
  ·rename_i s hr
   rw [s.g_eq] at e
   exact runCode_ok hcall c (hs _ _ hr).1 (leaveR_ok hmix hnames hcall (leaveG_says e))
  ·rename_i v s hr
   rw [s.g_eq] at e
   exact runCode_ok hcall c (hs _ _ hr).1 (leaveR_ok hmix hnames hcall (leaveG_says e))
  ·cases e
end Go.Abs
