/- Effects, equation by equation. -/
import Derived.Test.YtnhghoonlmoinaaGreatAbsQ
namespace Go.Abs
variable [Kn]
set_option linter.unusedSectionVars false
set_option linter.unusedVariables false
set_option linter.unusedSimpArgs false
section
variable {P : Program} {t : List AV} {h : List Blk} (d : Option Tmp)
/-! ### append -/
def apK (P : Program) (h : List Blk) (ts : List TypeId) (vs : Option (List AV)) : Option (AV × List Blk × List Nat) := match vs,ts with
  | some [s,x],[T,U] => match tiOf P T,tiOf P U with
   | some { desc := .slice e,.. },some iu => match tiOf P e with
    | some ie => if 0 < ie.size ∧ 0 < ie.bytes ∧ ie.zero.map List.length = some ie.size then (match zerosA iu x with
      | some n => ie.zero.bind fun z => zeroA ie z h s n
      | none => if boxy h s || boxy h x then (srcCells iu ie.size h x).bind fun ys => appendB ie h s ys else (srcRows iu ie.size h x).bind fun ys => appendA ie h s ys) else none
    | none => none
   | _,_ => none
  | _,_ => none
theorem eff_append_eq (as : Array Operand) (ts : Array TypeId) : effA P t h (mkO (.call { callee := .builtin .append,args := as,argTypes := ts }) d) = apK P h ts.toList (evs t as.toList) := rfl
/-! ### cap of nothing, clear -/
def capK (P : Program) (ts : List TypeId) (vs : Option (List AV)) : Option AV := match vs,ts with
  | some [.fv .nils],[T] => match tiOf P T with
   | some { desc := .slice _,.. } => some (.fv (.int .i64 0))
   | _ => none
  | _,_ => none
theorem opK_cap {ops : Array Oper} {Q : AEx → St → Prop} {st : St} (hs : Held) (i : Nat) (c : Cont) (as : Array Operand) (ts : Array TypeId) : opK P ops Q (.call { callee := .builtin .cap,args := as,argTypes := ts }) hs i d c st = putK P ops Q (capK P ts.toList (evs st.t as.toList)) d c st :=
 opK_of_pure (fun _ => rfl) rfl rfl rfl
def clK (P : Program) (h : List Blk) (ts : List TypeId) (vs : Option (List AV)) : Option (AV × List Blk × List Nat) := match vs,ts with
  | some [s],[T] => match tiOf P T with
   | some { desc := .slice e,.. } => match tiOf P e with
    | some ie => match ie.zero with
     | some z => if 0 < ie.size ∧ z.length = ie.size then clearA ie z h s else none
     | none => none
    | none => none
   | _ => none
  | _,_ => none
theorem opK_clear {ops : Array Oper} {Q : AEx → St → Prop} {st : St} (hs : Held) (i : Nat) (c : Cont) (as : Array Operand) (ts : Array TypeId) :
  opK P ops Q (.call { callee := .builtin .clear,args := as,argTypes := ts }) hs i d c st = effK P ops Q (clK P st.h ts.toList (evs st.t as.toList)) hs i d c st :=
 opK_of_eff hs i d c (fun _ => rfl) rfl rfl rfl
/-! ### Literals -/
def bsK (ie : TI) (z : List FV) (n : Nat) (h : List Blk) (parts : Option (List (Nat × AV))) : Option (AV × List Blk × List Nat) :=
 parts.bind fun parts => (fillA (fun i => some (i * ie.size,ie.size)) (flatN n (z.map .fv)) parts).bind fun cs =>
       match toFs cs with
       | some fs => some (.ref h.length ie.size 0 n,h ++ [.plain ie.size (chunk ie.size n fs)],[])
       | none => if cs.all okCell then some (.ref h.length ie.size 0 n,h ++ [.box cs],[]) else none
/-! ### Stores -/
def stK (P : Program) (T : TypeId) (h : List Blk) (p v : Option AV) : Option (AV × List Blk × List Nat) :=
 (tiOf P T).bind fun i => p.bind fun p => v.bind fun v => (stA i h p v).map fun (h',id) => (.undef,h',[id])
theorem eff_store_eq (T : TypeId) (x y : Operand) : effA P t h (mkO (.store T x y) d) = stK P T h (ev t x) (ev t y) := rfl
end
section
variable {P : Program} {ops : Array Oper} {Q : AEx → St → Prop} {st : St} (hs : Held) (i : Nat) (d : Option Tmp) (c : Cont) (l : List (Nat × Bool))
/-! ### Slices of slices, parts, functions -/
def bn (d : Nat) : Option (Option AV) → Option Nat
 | none => some d
 | some r => r.bind asN
def slA (P : Program) (T : TypeId) (vx : Option AV) (lo hi : Option (Option AV)) : Option AV := vx.bind fun v => match tiOf P T with
  | some { desc := .slice e,.. } => match tiOf P e with
   | some ie => if esOk ie.size v then (lenA v).bind fun n => (bn 0 lo).bind fun l => (bn n hi).bind fun h => sliceA v l h else none
   | none => none
  | some { desc := .string,.. } => match v with
   | .fv (.str s) => (bn 0 lo).bind fun l => (bn s.length hi).bind fun h => sliceA (.fv (.str s)) l h
   | _ => none
  | _ => none
theorem bnd_eq (t : List AV) (k : Nat) (x : Option Operand) : bnd t k x = bn k (x.map (ev t)) := by cases x <;> rfl
theorem pure_slice (T : TypeId) (x : Operand) (lo hi : Option Operand) (t : List AV) : pureA P t (mkO (.slice T x lo hi none) d) = slA P T (ev t x) (lo.map (ev t)) (hi.map (ev t)) := by
 show (match tiOf P T with
  | some { desc := .slice e,.. } => match tiOf P e with
   | some ie => (ev t x).bind fun v => if esOk ie.size v then (lenA v).bind fun n => (bnd t 0 lo).bind fun l => (bnd t n hi).bind fun h => sliceA v l h else none
   | none => none
  | some { desc := .string,.. } => (ev t x).bind fun v => match v with
   | .fv (.str s) => (bnd t 0 lo).bind fun l => (bnd t s.length hi).bind fun h => sliceA (.fv (.str s)) l h
   | _ => none
  | _ => none) = _
 simp only [bnd_eq,slA]
 cases ev t x with
 | none =>
  simp only [Option.bind_none]
  split
  ·split <;> rfl
  ·rfl
  ·rfl
 | some v => rfl
theorem opK_slice (T : TypeId) (x : Operand) (lo hi : Option Operand) : opK P ops Q (.slice T x lo hi none) hs i d c st = putK P ops Q (slA P T (ev st.t x) (lo.map (ev st.t)) (hi.map (ev st.t))) d c st :=
 opK_of_pure (fun _ => rfl) rfl rfl (pure_slice d T x lo hi st.t)
theorem quK_slice (T : TypeId) (x : Operand) (lo hi : Option Operand) : quK P ops Q (.slice T x lo hi none) i d l hs st = putK P ops Q (slA P T (ev st.t x) (lo.map (ev st.t)) (hi.map (ev st.t))) d (.draw l hs) st :=
 quK_of_pure (fun _ => rfl) rfl (pure_slice d T x lo hi st.t)
def fadA (P : Program) (S : TypeId) (f : Nat) (v : AV) : Option AV := (fieldOf P S f).bind fun (fd,i) => if i.size = 0 then none else addrA v fd.offset
def fldA (P : Program) (S : TypeId) (f : Nat) (v : AV) : Option AV := (fieldOf P S f).bind fun (fd,i) => match v with
  | .agg cs => partA i cs fd.offset
  | _ => none
def extA (i : Nat) (v : AV) : Option AV := match v with
  | .tuple vs => vs[i]?
  | _ => none
def nckA (v : AV) : Option AV := if solid v then some v else none
def mkiA (P : Program) (T : TypeId) (v : AV) : Option AV := match tiOf P T with
  | some { desc := .interface _,.. } => none
  | some _ => some (.iface T v)
  | none => none
theorem pure_fad (S : TypeId) (x : Operand) (f : Nat) (t : List AV) : pureA P t (mkO (.fieldAddr S x f) d) = map1 (fadA P S f) (ev t x) := by
 show (fieldOf P S f).bind _ = _
 cases ev t x <;> cases h : fieldOf P S f <;> simp [map1,fadA,h]
theorem pure_fld (S : TypeId) (x : Operand) (f : Nat) (t : List AV) : pureA P t (mkO (.field S x f) d) = map1 (fldA P S f) (ev t x) := by
 show (fieldOf P S f).bind _ = _
 cases ev t x <;> cases h : fieldOf P S f <;> simp [map1,fldA,h]
 rfl
theorem pure_mki (T : TypeId) (x : Operand) (t : List AV) : pureA P t (mkO (.makeInterface T x) d) = map1 (mkiA P T) (ev t x) := by
 show (match tiOf P T with
  | some { desc := .interface _,.. } => none
  | some _ => (ev t x).map (AV.iface T)
  | none => none) = _
 cases ev t x with
 | none =>
  split <;> rfl
 | some v => rfl
theorem opK_fad (S : TypeId) (x : Operand) (f : Nat) : opK P ops Q (.fieldAddr S x f) hs i d c st = putK P ops Q (map1 (fadA P S f) (ev st.t x)) d c st := opK_of_pure (fun _ => rfl) rfl rfl (pure_fad d S x f st.t)
theorem quK_fad (S : TypeId) (x : Operand) (f : Nat) : quK P ops Q (.fieldAddr S x f) i d l hs st = putK P ops Q (map1 (fadA P S f) (ev st.t x)) d (.draw l hs) st := quK_of_pure (fun _ => rfl) rfl (pure_fad d S x f st.t)
theorem opK_fld (S : TypeId) (x : Operand) (f : Nat) : opK P ops Q (.field S x f) hs i d c st = putK P ops Q (map1 (fldA P S f) (ev st.t x)) d c st := opK_of_pure (fun _ => rfl) rfl rfl (pure_fld d S x f st.t)
theorem quK_fld (S : TypeId) (x : Operand) (f : Nat) : quK P ops Q (.field S x f) i d l hs st = putK P ops Q (map1 (fldA P S f) (ev st.t x)) d (.draw l hs) st := quK_of_pure (fun _ => rfl) rfl (pure_fld d S x f st.t)
theorem opK_ext (x : Operand) (k : Nat) : opK P ops Q (.extract x k) hs i d c st = putK P ops Q (map1 (extA k) (ev st.t x)) d c st := opK_of_pure (fun _ => rfl) rfl rfl (by show (ev st.t x).bind _ = _; cases ev st.t x <;> rfl)
theorem quK_ext (x : Operand) (k : Nat) : quK P ops Q (.extract x k) i d l hs st = putK P ops Q (map1 (extA k) (ev st.t x)) d (.draw l hs) st := quK_of_pure (fun _ => rfl) rfl (by show (ev st.t x).bind _ = _; cases ev st.t x <;> rfl)
theorem opK_nck (x : Operand) : opK P ops Q (.nilCheck x) hs i d c st = putK P ops Q (map1 nckA (ev st.t x)) d c st := opK_of_pure (fun _ => rfl) rfl rfl (by show (ev st.t x).bind _ = _; cases ev st.t x <;> rfl)
theorem quK_nck (x : Operand) : quK P ops Q (.nilCheck x) i d l hs st = putK P ops Q (map1 nckA (ev st.t x)) d (.draw l hs) st := quK_of_pure (fun _ => rfl) rfl (by show (ev st.t x).bind _ = _; cases ev st.t x <;> rfl)
theorem opK_mki (T : TypeId) (x : Operand) : opK P ops Q (.makeInterface T x) hs i d c st = putK P ops Q (map1 (mkiA P T) (ev st.t x)) d c st := opK_of_pure (fun _ => rfl) rfl rfl (pure_mki d T x st.t)
theorem quK_mki (T : TypeId) (x : Operand) : quK P ops Q (.makeInterface T x) i d l hs st = putK P ops Q (map1 (mkiA P T) (ev st.t x)) d (.draw l hs) st := quK_of_pure (fun _ => rfl) rfl (pure_mki d T x st.t)
theorem ext_tuple (vs : List AV) (k : Nat) : extA k (.tuple vs) = vs[k]? := rfl
theorem nck_solid {v : AV} (h : solid v = true) : nckA v = some v := by simp [nckA,h]
theorem pure_mkf (f : FuncId) (caps : Array Operand) (t : List AV) : pureA P t (mkO (.makeFunc (.func f) #[] caps) d) = (evs t caps.toList).map (.func f) := rfl
theorem opK_mkf (f : FuncId) (caps : Array Operand) : opK P ops Q (.makeFunc (.func f) #[] caps) hs i d c st = putK P ops Q ((evs st.t caps.toList).map (.func f)) d c st := opK_of_pure (fun _ => rfl) rfl rfl (pure_mkf d f caps st.t)
theorem quK_mkf (f : FuncId) (caps : Array Operand) : quK P ops Q (.makeFunc (.func f) #[] caps) i d l hs st = putK P ops Q ((evs st.t caps.toList).map (.func f)) d (.draw l hs) st := quK_of_pure (fun _ => rfl) rfl (pure_mkf d f caps st.t)
def panK (ops : Array Oper) (Q : AEx → St → Prop) (v : Option AV) (st : St) : Prop := bO v fun v => match v with
  | .iface t y => Q (.pan (.iface t y)) (forget ops st)
  | _ => False
theorem opK_panic (x : Operand) : opK P ops Q (.panic x) hs i d c st = panK ops Q (ev st.t x) st := rfl
theorem panK_iface (T : TypeId) (v : AV) : panK ops Q (some (.iface T v)) st = Q (.pan (.iface T v)) (forget ops st) := rfl
end
theorem le_sub_wk {n0 : Nat} {st st' : St} (keep frz : List Nat) (hpre : keep.take n0 = List.range n0) (hnd : keep.Nodup) (hlt : ∀ i ∈ keep,i < st.h.length) (hdis : ∀ i ∈ frz,i ∉ keep)
  (hfl : ∀ i ∈ frz,∃ es rows,st.h[i]? = some (.plain es rows)) (hw : wk (subSt keep frz st).t st'.t) (hh : (subSt keep frz st).h = st'.h) (hd : (subSt keep frz st).d = st'.d) : Le n0 st st' := by
 refine Le.trans (le_sub keep frz hpre hnd hlt hdis hfl) ?_
 obtain ⟨t',h',d'⟩ := st'
 simp only at hw hh hd
 subst hh; subst hd
 exact le_wk hw
end Go.Abs
/- More step equations: by the types' descriptions, so that what is asked of types answers by itself. -/
namespace Go.Abs
variable [Kn]
set_option linter.unusedSectionVars false
set_option linter.unusedVariables false
set_option linter.unusedSimpArgs false
section
variable {P : Program} {T : TypeId} {one : Bool} {k k' : IntKind} {x y r : Int}
end
/-! ### Aggregates or not -/
section
variable (a b : Nat) (z : Option (List FV))
theorem isAgg_bool : TI.isAgg ⟨.bool,a,b,z⟩ = false := rfl
theorem isAgg_int (k : IntKind) : TI.isAgg ⟨.int k,a,b,z⟩ = false := rfl
theorem isAgg_string : TI.isAgg ⟨.string,a,b,z⟩ = false := rfl
theorem isAgg_slice (e : TypeId) : TI.isAgg ⟨.slice e,a,b,z⟩ = false := rfl
theorem isAgg_pointer (e : TypeId) : TI.isAgg ⟨.pointer e,a,b,z⟩ = false := rfl
theorem isAgg_map (e f : TypeId) : TI.isAgg ⟨.map e f,a,b,z⟩ = false := rfl
theorem isAgg_struct (fs : Array Field) : TI.isAgg ⟨.struct fs,a,b,z⟩ = true := rfl
theorem isAgg_array (n : Nat) (e : TypeId) : TI.isAgg ⟨.array n e,a,b,z⟩ = true := rfl
end
/-! ### len -/
def lenT (o : Option TI) (v : AV) : Option AV := match o with
   | some { desc := .slice _,.. } => match v with
    | .fv (.str _) => none
    | v => (lenA v).map fun (n : Nat) => .fv (.int .i64 (n : Int))
   | some { desc := .string,.. } => match v with
    | .fv (.str s) => some (.fv (.int .i64 s.length))
    | _ => none
   | _ => none
section
variable {P : Program} (e : TypeId) (a b : Nat) (z : Option (List FV))
theorem lenK_eq (T : TypeId) (v : AV) : lenK P T v = lenT (tiOf P T) v := rfl
theorem lenT_ref (id es off n : Nat) : lenT (some ⟨.slice e,a,b,z⟩) (.ref id es off n) = some (.fv (.int .i64 (n : Int))) := rfl
theorem lenT_lst (es : Nat) (xs : List (List FV)) : lenT (some ⟨.slice e,a,b,z⟩) (.fv (.lst es xs)) = some (.fv (.int .i64 (xs.length : Int))) := rfl
theorem lenT_nils : lenT (some ⟨.slice e,a,b,z⟩) (.fv .nils) = some (.fv (.int .i64 0)) := rfl
theorem lenT_str (s : List UInt8) : lenT (some ⟨.string,a,b,z⟩) (.fv (.str s)) = some (.fv (.int .i64 (s.length : Int))) := rfl
end
/-! ### Where an element lies -/
def idxS (o : Option TI) (x : AV) (i : Int) : Option AV := match o with
  | some ie => match x with
   | .fv (.lst es xs) => if ie.size = es ∧ 0 ≤ i then (xs[i.toNat]?).map .fptr else none
   | .ref id es off len => if ie.size = es ∧ 0 ≤ i ∧ i < len then some (.ptr id es (off + i.toNat) 0) else none
   | _ => none
  | none => none
def idxAr (n : Nat) (o : Option TI) (x : AV) (i : Int) : Option AV := match o with
  | some ie => if 0 ≤ i ∧ i < n then addrA x (i.toNat * ie.size) else none
  | none => none
def idxT (P : Program) (o : Option TI) (x : AV) (i : Int) : Option AV := match o with
 | some { desc := .slice e,.. } => idxS (tiOf P e) x i
 | some { desc := .array n e,.. } => idxAr n (tiOf P e) x i
 | _ => none
section
variable {P : Program} (e : TypeId) (a b : Nat) (z : Option (List FV)) (d : TypeDesc)
theorem idxAddrA_eq (T : TypeId) (x : AV) (i : Int) : idxAddrA P T x i = idxT P (tiOf P T) x i := by
 unfold idxAddrA idxT
 cases tiOf P T with
 | none => rfl
 | some ti => obtain ⟨dd,p,q,r⟩ := ti; cases dd <;> rfl
theorem idxT_slice (x : AV) (i : Int) : idxT P (some ⟨.slice e,a,b,z⟩) x i = idxS (tiOf P e) x i := rfl
theorem idxT_array (n : Nat) (x : AV) (i : Int) : idxT P (some ⟨.array n e,a,b,z⟩) x i = idxAr n (tiOf P e) x i := rfl
theorem idxS_lst (sz : Nat) (xs : List (List FV)) (i : Int) : idxS (some ⟨d,sz,b,z⟩) (.fv (.lst sz xs)) i = if 0 ≤ i then (xs[i.toNat]?).map .fptr else none := by simp [idxS]
theorem idxS_ref (sz id off n : Nat) (i : Int) : idxS (some ⟨d,sz,b,z⟩) (.ref id sz off n) i = if 0 ≤ i then (if i < n then some (.ptr id sz (off + i.toNat) 0) else none) else none := by
 simp only [idxS,true_and]
 by_cases h : 0 ≤ i <;> simp [h]
theorem idxAr_ptr (sz n : Nat) (id es r off : Nat) (i : Int) : idxAr n (some ⟨d,sz,b,z⟩) (.ptr id es r off) i = if 0 ≤ i then (if i < n then some (.ptr id es r (off + i.toNat * sz)) else none) else none := by
 simp only [idxAr,addrA]
 by_cases h : 0 ≤ i <;> simp [h]
theorem idxAr_gptr (sz n : Nat) (g off : Nat) (i : Int) : idxAr n (some ⟨d,sz,b,z⟩) (.gptr g off) i = if 0 ≤ i then (if i < n then some (.gptr g (off + i.toNat * sz)) else none) else none := by
 simp only [idxAr,addrA]
 by_cases h : 0 ≤ i <;> simp [h]
theorem idxAr_fptr (sz n : Nat) (row : List FV) (i : Int) : idxAr n (some ⟨d,sz,b,z⟩) (.fptr row) i = if 0 ≤ i then (if i < n then some (.fptr (row.drop (i.toNat * sz))) else none) else none := by
 simp only [idxAr,addrA]
 by_cases h : 0 ≤ i <;> simp [h]
end
/-! ### Elements of values -/
def idxV (o : Option TI) (n : Nat) (cs : List AV) (i : Int) : Option AV := match o with
 | some ie => if 0 ≤ i ∧ i < n then partA ie cs (i.toNat * ie.size) else none
 | none => none
section
variable {P : Program} (e : TypeId) (a b : Nat) (z : Option (List FV)) (d : TypeDesc)
def idxVT (P : Program) (o : Option TI) (x : AV) (i : Int) : Option AV := match o with
 | some { desc := .string,.. } => match x with
  | .fv (.str s) => if 0 ≤ i then (s[i.toNat]?).map fun b => .fv (.int .u8 b.toNat) else none
  | _ => none
 | some { desc := .array n e,.. } => match x with
  | .agg cs => idxV (tiOf P e) n cs i
  | _ => none
 | _ => none
theorem idxA_eq (T : TypeId) (x : AV) (i : Int) : idxA P T x i = idxVT P (tiOf P T) x i := by
 unfold idxA idxVT
 cases tiOf P T with
 | none => rfl
 | some ti =>
  obtain ⟨dd,p,q,r⟩ := ti
  cases dd <;> try rfl
  rename_i n e
  simp only
  cases hx : tiOf P e <;> cases x <;> simp [idxV]
theorem idxVT_array (n : Nat) (cs : List AV) (i : Int) : idxVT P (some ⟨.array n e,a,b,z⟩) (.agg cs) i = idxV (tiOf P e) n cs i := rfl
theorem idxVT_str (s : List UInt8) (i : Int) : idxVT P (some ⟨.string,a,b,z⟩) (.fv (.str s)) i = if 0 ≤ i then (s[i.toNat]?).map fun b => .fv (.int .u8 b.toNat) else none := rfl
theorem idxV_some (sz n : Nat) (cs : List AV) (i : Int) : idxV (some ⟨d,sz,b,z⟩) n cs i = if 0 ≤ i then (if i < n then partA ⟨d,sz,b,z⟩ cs (i.toNat * sz) else none) else none := by
 simp only [idxV]
 by_cases h : 0 ≤ i <;> simp [h]
end
def partB (g : Bool) (sz : Nat) (cs : List AV) (off : Nat) : Option AV := if g then (if off + sz ≤ cs.length then some (.agg ((cs.drop off).take sz)) else none) else cs[off]?
theorem partA_eq (i : TI) (cs : List AV) (off : Nat) : partA i cs off = partB i.isAgg i.size cs off := rfl
theorem partB_one (sz : Nat) (cs : List AV) (off : Nat) : partB false sz cs off = cs[off]? := rfl
theorem partB_agg (sz : Nat) (cs : List AV) (off : Nat) : partB true sz cs off = if off + sz ≤ cs.length then some (.agg ((cs.drop off).take sz)) else none := rfl
/-! ### Loading -/
def ldB (i : TI) (o : Option Blk) (es r off id : Nat) : Option (AV × Option Nat) := match o with
  | some (.plain es' rows) => if es' = es then (rows[r]?).bind fun row => (partA i (row.map .fv) off).map fun v => (v,some id) else none
  | some (.box cs) => (partA i cs (r * es + off)).map fun v => (v,some id)
  | _ => none
def ldT (P : Program) (o : Option TI) (h : List Blk) (p : AV) : Option (AV × Option Nat) := o.bind fun i => (ldA P i h p).map fun v => (v,idOf p)
def ldG (i : TI) (o : Option (List FV)) (off : Nat) : Option (AV × Option Nat) := o.bind fun row => (partA i (row.map .fv) off).map fun v => (v,none)
def ldR (i : TI) (o : Option (List FV)) (off id : Nat) : Option (AV × Option Nat) := o.bind fun row => (partA i (row.map .fv) off).map fun v => (v,some id)
section
variable {P : Program}
theorem ldK_eq (T : TypeId) (h : List Blk) (p : AV) : ldK P T h p = ldT P (tiOf P T) h p := rfl
theorem ldT_ptr (i : TI) (h : List Blk) (id es r off : Nat) : ldT P (some i) h (.ptr id es r off) = ldB i h[id]? es r off id := by
 simp only [ldT,Option.bind_some,ldA,idOf,ldB]
 cases h[id]? with
 | none => rfl
 | some b =>
  cases b <;> simp only [Option.map_none]
  ·split
   ·cases ‹List (List FV)›[r]? <;> rfl
   ·rfl
theorem ldT_fptr (i : TI) (h : List Blk) (row : List FV) : ldT P (some i) h (.fptr row) = (partA i (row.map .fv) 0).map fun v => (v,none) := rfl
theorem ldT_gptr (i : TI) (h : List Blk) (g off : Nat) : ldT P (some i) h (.gptr g off) = ldG i (gdata P g) off := by
 simp only [ldT,Option.bind_some,ldA,idOf,ldG]
 cases gdata P g <;> rfl
theorem ldG_some (i : TI) (row : List FV) (off : Nat) : ldG i (some row) off = (partA i (row.map .fv) off).map fun v => (v,none) := rfl
theorem ldB_plain (i : TI) (rows : List (List FV)) (es r off id : Nat) : ldB i (some (.plain es rows)) es r off id = ldR i rows[r]? off id := by simp [ldB,ldR]
theorem ldB_box (i : TI) (cs : List AV) (es off id : Nat) : ldB i (some (.box cs)) es 0 off id = (partA i cs off).map fun v => (v,some id) := by simp [ldB]
theorem ldR_some (i : TI) (row : List FV) (off id : Nat) : ldR i (some row) off id = (partA i (row.map .fv) off).map fun v => (v,some id) := rfl
end
/-! ### Storing -/
def stT (o : Option TI) (h : List Blk) (p v : AV) : Option (AV × List Blk × List Nat) := o.bind fun i => (stA i h p v).map fun (h',id) => (.undef,h',[id])
def stB (i : TI) (h : List Blk) (o : Option Blk) (id es r off : Nat) (v : AV) : Option (AV × List Blk × List Nat) := match o with
  | some (.plain es' rows) => if es' = es then match rowOf v with
    | some fs => if fs.length = i.size ∧ 0 < i.size then (rows[r]?).bind fun row => (splice row off fs).map fun row' => (.undef,h.set id (.plain es (rows.set r row')),[id]) else none
    | none => (stBx i h id es r off (thaw rows) v).map fun (h',id) => (.undef,h',[id])
   else none
  | some (.box cs) => (stBx i h id es r off cs v).map fun (h',id) => (.undef,h',[id])
  | _ => none
def stR (h : List Blk) (o : Option (List FV)) (id es : Nat) (rows : List (List FV)) (r off : Nat) (fs : List FV) : Option (AV × List Blk × List Nat) :=
 o.bind fun row => (splice row off fs).map fun row' => (.undef,h.set id (.plain es (rows.set r row')),[id])
theorem splice_one {α : Type} (l : List α) (off : Nat) (x : α) : splice l off [x] = if off < l.length then some (l.set off x) else none := by
 simp only [splice,List.length_singleton]
 by_cases h : off < l.length
 ·rw [if_pos (by omega),if_pos h,List.set_eq_take_append_cons_drop,if_pos h]; simp
 ·rw [if_neg (by omega),if_neg h]
theorem splice_all {α : Type} (l xs : List α) (h : xs.length = l.length) : splice l 0 xs = some xs := by
 simp [splice,h,List.drop_eq_nil_of_le]
section
variable {P : Program} (a b : Nat) (z : Option (List FV)) (d : TypeDesc)
theorem stK_eq (T : TypeId) (h : List Blk) (p v : AV) : stK P T h (some p) (some v) = stT (tiOf P T) h p v := rfl
theorem stT_ptr (i : TI) (h : List Blk) (id es r off : Nat) (v : AV) : stT (some i) h (.ptr id es r off) v = stB i h h[id]? id es r off v := by
 simp only [stT,Option.bind_some,stA,stB]
 cases h[id]? with
 | none => rfl
 | some b =>
  cases b <;> simp only [Option.map_none]
  ·split
   ·cases rowOf v with
    | none => rfl
    | some fs =>
     simp only
     split
     ·cases ‹List (List FV)›[r]? with
      | none => rfl
      | some row => simp only [Option.bind_some]; cases splice row off fs <;> rfl
     ·rfl
   ·rfl
theorem stB_plain1 (h : List Blk) (rows : List (List FV)) (id es r off : Nat) (x : FV) : stB ⟨d,1,b,z⟩ h (some (.plain es rows)) id es r off (.fv x) = stR h rows[r]? id es rows r off [x] := by
 simp [stB,stR,rowOf,cellsA,toFs]
theorem stR_some (h : List Blk) (row : List FV) (id es : Nat) (rows : List (List FV)) (r off : Nat) (fs : List FV) : stR h (some row) id es rows r off fs = (splice row off fs).map fun row' => (.undef,h.set id (.plain es (rows.set r row')),[id]) := rfl
theorem stB_box1 (h : List Blk) (cs : List AV) (id es off : Nat) (v : AV) (hk : okCell v = true) : stB ⟨d,1,b,z⟩ h (some (.box cs)) id es 0 off v = (splice cs off [v]).map fun cs' => (.undef,h.set id (.box cs'),[id]) := by
 have hc : cellsA v = some [v] := by cases v <;> first | rfl | simp [okCell] at hk
 simp [stB,stBx,hc,hk]
 cases splice cs off [v] <;> rfl
theorem stB_boxA (h : List Blk) (cs vs : List AV) (id es off sz : Nat) (hl : vs.length = sz) (hz : 0 < sz) (hk : vs.all okCell = true) : stB ⟨d,sz,b,z⟩ h (some (.box cs)) id es 0 off (.agg vs) = (splice cs off vs).map fun cs' => (.undef,h.set id (.box cs'),[id]) := by
 simp only [stB,stBx,cellsA,Option.bind_some,if_true,Nat.zero_mul,Nat.zero_add]
 rw [if_pos ⟨hl,hz,hk⟩]
 cases splice cs off vs <;> rfl
theorem okCell_fv (x : FV) : okCell (.fv x) = true := rfl
theorem okCell_ref (id es off n : Nat) : okCell (.ref id es off n) = true := rfl
theorem okCell_ptr (id es r off : Nat) : okCell (.ptr id es r off) = true := rfl
theorem okCell_mp (id : Nat) : okCell (.mp id) = true := rfl
theorem okCell_fptr (row : List FV) : okCell (.fptr row) = true := rfl
end
/-! ### What must hold -/
section
variable {P : Program} {ops : Array Oper} {Q : AEx → St → Prop} {st : St} (hs : Held) (i : Nat) (d : Option Tmp) (c : Cont) (l : List (Nat × Bool))
theorem effK_ite (p : Prop) [Decidable p] (r : AV × List Blk × List Nat) : effK P ops Q (if p then some r else none) hs i d c st = (p ∧ effK P ops Q (some r) hs i d c st) := by
 by_cases h : p <;> simp [h,effK,bO]
theorem putK_ite (p : Prop) [Decidable p] (r : AV) : putK P ops Q (if p then some r else none) d c st = (p ∧ putK P ops Q (some r) d c st) := by
 by_cases h : p <;> simp [h,putK,bO]
theorem map_ite {α β : Type} (p : Prop) [Decidable p] (f : α → β) (r : α) : Option.map f (if p then some r else none) = if p then some (f r) else none := by
 by_cases h : p <;> simp [h]
end
/-! ### append -/
def elB (ie : TI) : Bool := decide (0 < ie.size) && decide (0 < ie.bytes) && decide (ie.zero.map List.length = some ie.size)
def apE (o : Option TI) (iu : TI) (h : List Blk) (s x : AV) : Option (AV × List Blk × List Nat) := match o with
    | some ie => if 0 < ie.size ∧ 0 < ie.bytes ∧ ie.zero.map List.length = some ie.size then (match zerosA iu x with
      | some n => ie.zero.bind fun z => zeroA ie z h s n
      | none => if boxy h s || boxy h x then (srcCells iu ie.size h x).bind fun ys => appendB ie h s ys else (srcRows iu ie.size h x).bind fun ys => appendA ie h s ys) else none
    | none => none
def apT (P : Program) (o u : Option TI) (h : List Blk) (s x : AV) : Option (AV × List Blk × List Nat) := match o,u with
   | some { desc := .slice e,.. },some iu => apE (tiOf P e) iu h s x
   | _,_ => none
/-- Rows put behind a slice. -/
def apS (ie : TI) (h : List Blk) (s : AV) (ys : List (List FV)) : Option (AV × List Blk × List Nat) := appendA ie h s ys
def apR (ie : TI) (h : List Blk) (o : Option Blk) (id off len : Nat) (ys : List (List FV)) : Option (AV × List Blk × List Nat) := match o with
  | some (.plain es rows) => if es = ie.size then (if off + len ≤ rows.length ∧ (len + ys.length) * ie.bytes ≤ 140737488355328 then
    some (.ref h.length es 0 (len + ys.length),h.set id .dead ++ [.plain es ((rows.drop off).take len ++ ys)],[id]) else none) else none
  | _ => none
def srcB (h : List Blk) (o : Option Blk) (es off len : Nat) : Option (List (List FV)) := match o with
  | some (.plain es' rows) => if es' = es then (if off + len ≤ rows.length then some ((rows.drop off).take len) else none) else none
  | _ => none
section
variable {P : Program} (e : TypeId) (a b : Nat) (z : Option (List FV))
theorem apK_eq (T U : TypeId) (h : List Blk) (s x : AV) : apK P h [T,U] (some [s,x]) = apT P (tiOf P T) (tiOf P U) h s x := by
 simp only [apK,apT]
 cases tiOf P T with
 | none => rfl
 | some ti =>
  obtain ⟨dd,p,q,r⟩ := ti
  cases tiOf P U <;> cases dd <;> rfl
/-- Cells of any kind, or rows. -/
def apX (bx : Bool) (iu ie : TI) (h : List Blk) (s x : AV) (r : Option (AV × List Blk × List Nat)) : Option (AV × List Blk × List Nat) := if bx = true then (srcCells iu ie.size h x).bind fun ys => appendB ie h s ys else r
theorem apX_rows (iu ie : TI) (h : List Blk) (s x : AV) (r : Option (AV × List Blk × List Nat)) : apX false iu ie h s x r = r := rfl
theorem apX_cells (iu ie : TI) (h : List Blk) (s x : AV) (r : Option (AV × List Blk × List Nat)) : apX true iu ie h s x r = (srcCells iu ie.size h x).bind fun ys => appendB ie h s ys := rfl
theorem boxy_nils (h : List Blk) : boxy h (.fv .nils) = false := rfl
theorem boxy_fv (h : List Blk) (x : FV) : boxy h (.fv x) = false := rfl
theorem boxy_ref (h : List Blk) (id es off n : Nat) : boxy h (.ref id es off n) = boxyB h[id]? := rfl
theorem boxyB_plain (es : Nat) (rows : List (List FV)) : boxyB (some (.plain es rows)) = false := rfl
theorem boxyB_box (cs : List AV) : boxyB (some (.box cs)) = true := rfl
theorem apT_slice (iu : TI) (h : List Blk) (s x : AV) : apT P (some ⟨.slice e,a,b,z⟩) (some iu) h s x = apE (tiOf P e) iu h s x := rfl
theorem apE_slice (ie : TI) (f : TypeId) (h : List Blk) (s x : AV) (hel : elB ie = true) : apE (some ie) ⟨.slice f,a,b,z⟩ h s x = apX (boxy h s || boxy h x) ⟨.slice f,a,b,z⟩ ie h s x ((srcRows ⟨.slice f,a,b,z⟩ ie.size h x).bind fun ys => apS ie h s ys) := by
 simp only [elB,Bool.and_eq_true,decide_eq_true_eq] at hel
 simp only [apE,hel,zerosA,apS,apX,and_self,if_true]
theorem apE_string (ie : TI) (h : List Blk) (s x : AV) (hel : elB ie = true) : apE (some ie) ⟨.string,a,b,z⟩ h s x = apX (boxy h s || boxy h x) ⟨.string,a,b,z⟩ ie h s x ((srcRows ⟨.string,a,b,z⟩ ie.size h x).bind fun ys => apS ie h s ys) := by
 simp only [elB,Bool.and_eq_true,decide_eq_true_eq] at hel
 simp only [apE,hel,zerosA,apS,apX,and_self,if_true]
theorem srcR_lst (f : TypeId) (h : List Blk) (es : Nat) (ys : List (List FV)) : srcRows ⟨.slice f,a,b,z⟩ es h (.fv (.lst es ys)) = some ys := by simp [srcRows]
theorem srcR_nils (f : TypeId) (h : List Blk) (es : Nat) : srcRows ⟨.slice f,a,b,z⟩ es h (.fv .nils) = some [] := rfl
theorem srcR_ref (f : TypeId) (h : List Blk) (es id off len : Nat) : srcRows ⟨.slice f,a,b,z⟩ es h (.ref id es off len) = srcB h h[id]? es off len := by
 simp only [srcRows,srcB,true_and]
 cases h[id]? with
 | none => rfl
 | some k =>
  cases k <;> simp only
  split <;> simp_all
theorem srcR_str (h : List Blk) (s : List UInt8) : srcRows ⟨.string,a,b,z⟩ 1 h (.fv (.str s)) = some (s.map fun b => [.int .u8 b.toNat]) := by simp [srcRows]
theorem srcB_plain (h : List Blk) (es off len : Nat) (rows : List (List FV)) : srcB h (some (.plain es rows)) es off len = if off + len ≤ rows.length then some ((rows.drop off).take len) else none := by simp [srcB]
theorem bind_ite {α β : Type} (p : Prop) [Decidable p] (f : α → Option β) (r : α) : Option.bind (if p then some r else none) f = if p then f r else none := by
 by_cases h : p <;> simp [h]
theorem ite_ite {α : Type} (p q : Prop) [Decidable p] [Decidable q] (r : α) : (if p then (if q then some r else none) else none) = if p ∧ q then some r else none := by
 by_cases h : p <;> simp [h]
theorem apS_nils (ie : TI) (h : List Blk) (ys : List (List FV)) : apS ie h (.fv .nils) ys = if ys.length * ie.bytes ≤ 140737488355328 then some (.ref h.length ie.size 0 ys.length,h ++ [.plain ie.size ys],[]) else none := rfl
theorem apS_ref (ie : TI) (h : List Blk) (id es off len : Nat) (ys : List (List FV)) (he : es = ie.size) : apS ie h (.ref id es off len) ys = apR ie h h[id]? id off len ys := by
 subst he
 simp only [apS,appendA,apR]
 cases h[id]? with
 | none => rfl
 | some k =>
  cases k <;> simp only
  rename_i es' rows
  by_cases e1 : es' = ie.size
  ·subst e1; simp
  ·simp [e1]
theorem apR_plain (ie : TI) (h : List Blk) (es id off len : Nat) (rows ys : List (List FV)) (he : es = ie.size) : apR ie h (some (.plain es rows)) id off len ys = if off + len ≤ rows.length ∧ (len + ys.length) * ie.bytes ≤ 140737488355328 then
    some (.ref h.length es 0 (len + ys.length),h.set id .dead ++ [.plain es ((rows.drop off).take len ++ ys)],[id]) else none := by
 simp [apR,he]
end
/-! ### Literals of slices -/
def bsT (P : Program) (o : Option TI) (n : Nat) (h : List Blk) (parts : Option (List (Nat × AV))) : Option (AV × List Blk × List Nat) := match o with
  | some { desc := .slice e,.. } => match tiOf P e with
   | some ie => match ie.zero with
    | some z => if 0 < ie.size ∧ z.length = ie.size ∧ n * ie.size ≤ 16777216 then bsK ie z n h parts else none
    | none => none
   | none => none
  | _ => none
def bsE (o : Option TI) (n : Nat) (h : List Blk) (parts : Option (List (Nat × AV))) : Option (AV × List Blk × List Nat) := match o with
   | some ie => match ie.zero with
    | some z => if 0 < ie.size ∧ z.length = ie.size ∧ n * ie.size ≤ 16777216 then bsK ie z n h parts else none
    | none => none
   | none => none
section
variable {P : Program} {t : List AV} (e : TypeId) (a b : Nat) (z : Option (List FV)) (d : Option Tmp) (dd : TypeDesc)
theorem eff_bs_eq (T : TypeId) (n : Nat) (h : List Blk) (ps : Array (Nat × Operand)) : effA P t h (mkO (.buildSlice T n ps) d) = bsT P (tiOf P T) n h (evParts t ps.toList) := by
 simp only [effA,mkO,bsT]
 cases tiOf P T with
 | none => rfl
 | some ti =>
  obtain ⟨dd,p,q,r⟩ := ti
  cases dd <;> rfl
theorem bsT_slice (n : Nat) (h : List Blk) (parts : Option (List (Nat × AV))) : bsT P (some ⟨.slice e,a,b,z⟩) n h parts = bsE (tiOf P e) n h parts := rfl
theorem fillA_map (es : Nat) (pl : Nat → Option (Nat × Nat)) (hpl : ∀ i,pl i = some (i * es,es)) : ∀ (rs : List (List FV)) (k : Nat) (pre post : List AV),pre.length = k * es → post.length = rs.length * es → (∀ r ∈ rs,r.length = es) →
  ∀ ps,ps = (rs.zipIdx k).map (fun p => (p.2,AV.agg (p.1.map .fv))) → fillA pl (pre ++ post) ps = some (pre ++ rs.flatten.map .fv)
 | [],k,pre,post,_,h2,_,ps,hps => by
  subst hps
  have : post = [] := List.eq_nil_of_length_eq_zero (by simpa using h2)
  simp [fillA,this]
 | r :: rs,k,pre,post,h1,h2,h3,ps,hps => by
  subst hps
  have hr : r.length = es := h3 r (by simp)
  have ih := fillA_map es pl hpl rs (k + 1) (pre ++ r.map .fv) (post.drop es) (by simp [h1,hr,Nat.succ_mul]) (by simp [h2,Nat.succ_mul]) (fun r hr => h3 r (by simp [hr])) _ rfl
  have hs : splice (pre ++ post) (k * es) (r.map .fv) = some (pre ++ r.map .fv ++ post.drop es) := by
   simp only [splice,List.length_map,hr]
   have hle : k * es + es ≤ (pre ++ post).length := by simp [h1,h2,Nat.succ_mul]
   rw [if_pos hle,← h1,List.take_left,List.drop_length_add_append]
  simp only [List.zipIdx_cons,List.map_cons,fillA,hpl,cellsA,List.length_map,hr,if_true,hs,Option.bind_some,ih]
  simp
theorem fillA_one (pl : Nat → Option (Nat × Nat)) (hpl : ∀ i,pl i = some (i * 1,1)) : ∀ (xs : List FV) (k : Nat) (pre post : List AV),pre.length = k → post.length = xs.length →
  ∀ ps,ps = (xs.zipIdx k).map (fun p => (p.2,AV.fv p.1)) → fillA pl (pre ++ post) ps = some (pre ++ xs.map .fv)
 | [],k,pre,post,_,h2,ps,hps => by
  subst hps
  have : post = [] := List.eq_nil_of_length_eq_zero (by simpa using h2)
  simp [fillA,this]
 | x :: xs,k,pre,post,h1,h2,ps,hps => by
  subst hps
  have ih := fillA_one pl hpl xs (k + 1) (pre ++ [.fv x]) (post.drop 1) (by simp [h1]) (by simp [h2]) _ rfl
  have hs : splice (pre ++ post) (k * 1) [.fv x] = some (pre ++ [.fv x] ++ post.drop 1) := by
   simp only [splice,List.length_singleton,Nat.mul_one]
   have hle : k + 1 ≤ (pre ++ post).length := by simp [h1,h2]
   rw [if_pos hle,← h1,List.take_left,List.drop_length_add_append]
  simp only [List.zipIdx_cons,List.map_cons,fillA,hpl,cellsA,List.length_singleton,if_true,hs,Option.bind_some,ih]
  simp
theorem chunk_flatten {α : Type} (es : Nat) : ∀ rs : List (List α),(∀ r ∈ rs,r.length = es) → chunk es rs.length rs.flatten = rs
 | [],_ => rfl
 | r :: rs,h => by
  have hr : r.length = es := h r (by simp)
  simp only [List.length_cons,chunk,List.flatten_cons]
  rw [← hr,List.take_left,List.drop_left,hr,chunk_flatten es rs fun r hr => h r (by simp [hr])]
/-- A literal of whole structs. -/
theorem bsE_rows (sz : Nat) (zz : List FV) (n : Nat) (h : List Blk) (rs : List (List FV)) (ps : List (Nat × AV)) (hz : zz.length = sz) (hsz : 0 < sz) (hn : n = rs.length) (hb : n * sz ≤ 16777216) (hr : ∀ r ∈ rs,r.length = sz)
  (hps : ps = rs.zipIdx.map (fun p => (p.2,AV.agg (p.1.map .fv)))) : bsE (some ⟨dd,sz,b,some zz⟩) n h (some ps) = some (.ref h.length sz 0 n,h ++ [.plain sz rs],[]) := by
 subst hn
 have hf := fillA_map sz (fun i => some (i * sz,sz)) (fun _ => rfl) rs 0 [] (flatN rs.length (zz.map .fv)) (by simp) (by simp [flatN_length,hz]) hr ps hps
 simp only [List.nil_append] at hf
 simp only [bsE,bsK]
 rw [if_pos ⟨hsz,hz,hb⟩]
 simp only [Option.bind_some,hf,toFs_map,Option.map_some,chunk_flatten sz rs hr]
theorem bsE_ones (zz : FV) (n : Nat) (h : List Blk) (xs : List FV) (ps : List (Nat × AV)) (hn : n = xs.length) (hb : n ≤ 16777216)
  (hps : ps = xs.zipIdx.map (fun p => (p.2,AV.fv p.1))) : bsE (some ⟨dd,1,b,some [zz]⟩) n h (some ps) = some (.ref h.length 1 0 n,h ++ [.plain 1 (xs.map fun x => [x])],[]) := by
 subst hn
 have hf := fillA_one (fun i => some (i * 1,1)) (fun _ => rfl) xs 0 [] (flatN xs.length [.fv zz]) (by simp) (by simp [flatN_length]) ps hps
 simp only [List.nil_append] at hf
 simp only [bsE,bsK]
 rw [if_pos (by simpa using hb)]
 have hc := chunk_flatten 1 (xs.map fun x => [x]) (by simp)
 simp only [List.length_map] at hc
 have e : ∀ xs : List FV,(xs.map fun x => [x]).flatten = xs := fun xs => by
  induction xs with
  | nil => rfl
  | cons x xs ih => simp [ih]
 rw [e] at hc
 simp only [Option.bind_some,List.map_cons,List.map_nil,hf,toFs_map,Option.map_some,hc]
theorem bsE_1 (zz x : FV) (h : List Blk) : bsE (some ⟨dd,1,b,some [zz]⟩) 1 h (some [(0,.fv x)]) = some (.ref h.length 1 0 1,h ++ [.plain 1 [[x]]],[]) := bsE_ones b dd zz 1 h [x] _ rfl (by omega) rfl
theorem bsE_2 (zz x y : FV) (h : List Blk) : bsE (some ⟨dd,1,b,some [zz]⟩) 2 h (some [(0,.fv x),(1,.fv y)]) = some (.ref h.length 1 0 2,h ++ [.plain 1 [[x],[y]]],[]) := bsE_ones b dd zz 2 h [x,y] _ rfl (by omega) rfl
theorem bsE_3 (zz x y w : FV) (h : List Blk) : bsE (some ⟨dd,1,b,some [zz]⟩) 3 h (some [(0,.fv x),(1,.fv y),(2,.fv w)]) = some (.ref h.length 1 0 3,h ++ [.plain 1 [[x],[y],[w]]],[]) := bsE_ones b dd zz 3 h [x,y,w] _ rfl (by omega) rfl
theorem bsE_0 (zz : FV) (h : List Blk) : bsE (some ⟨dd,1,b,some [zz]⟩) 0 h (some []) = some (.ref h.length 1 0 0,h ++ [.plain 1 []],[]) := bsE_ones b dd zz 0 h [] _ rfl (by omega) rfl
theorem bsE_r1 (sz : Nat) (zz r : List FV) (h : List Blk) (hz : zz.length = sz) (hsz : 0 < sz) (hb : sz ≤ 16777216) (hr : r.length = sz) : bsE (some ⟨dd,sz,b,some zz⟩) 1 h (some [(0,.agg (r.map .fv))]) = some (.ref h.length sz 0 1,h ++ [.plain sz [r]],[]) :=
 bsE_rows b dd sz zz 1 h [r] _ hz hsz rfl (by omega) (by simpa using hr) rfl
end
/-! ### Conversions -/
def convT (o u : Option TI) (x : AV) : Option AV := match o,u,x with
 | some _,some { desc := .int k,.. },.fv (.int _ n) => some (.fv (.int k (k.wrap n)))
 | some { desc := .string,.. },some { desc := .string,.. },.fv (.str s) => some (.fv (.str s))
 | some { desc := .int _,.. },some { desc := .string,.. },.fv (.int _ n) => some (.fv (.str (Utf8.encode n).data.toList))
 | _,_,_ => none
theorem convA_eq {P : Program} (T U : TypeId) (x : AV) : convA P T U x = convT (tiOf P T) (tiOf P U) x := rfl
theorem convT_int (i : TI) (k k' : IntKind) (a b : Nat) (z : Option (List FV)) (n : Int) : convT (some i) (some ⟨.int k',a,b,z⟩) (.fv (.int k n)) = some (.fv (.int k' (k'.wrap n))) := by
 obtain ⟨dd,_,_,_⟩ := i
 cases dd <;> rfl
/-! ### Slices of slices -/
def slE (o : Option TI) (v : AV) (lo hi : Option (Option AV)) : Option AV := match o with
   | some ie => if esOk ie.size v then (lenA v).bind fun n => (bn 0 lo).bind fun l => (bn n hi).bind fun h => sliceA v l h else none
   | none => none
def slT (P : Program) (o : Option TI) (v : AV) (lo hi : Option (Option AV)) : Option AV := match o with
  | some { desc := .slice e,.. } => slE (tiOf P e) v lo hi
  | some { desc := .string,.. } => match v with
   | .fv (.str s) => (bn 0 lo).bind fun l => (bn s.length hi).bind fun h => sliceA (.fv (.str s)) l h
   | _ => none
  | _ => none
section
variable {P : Program} (e : TypeId) (a b : Nat) (z : Option (List FV)) (d : TypeDesc) (sz : Nat)
theorem slA_eq (T : TypeId) (v : AV) (lo hi : Option (Option AV)) : slA P T (some v) lo hi = slT P (tiOf P T) v lo hi := by
 simp only [slA,Option.bind_some,slT]
 cases tiOf P T with
 | none => rfl
 | some ti => obtain ⟨dd,p,q,r⟩ := ti; cases dd <;> rfl
theorem slT_slice (v : AV) (lo hi : Option (Option AV)) : slT P (some ⟨.slice e,a,b,z⟩) v lo hi = slE (tiOf P e) v lo hi := rfl
theorem slE_ref (id off n : Nat) (lo hi : Option (Option AV)) : slE (some ⟨d,sz,b,z⟩) (.ref id sz off n) lo hi = (bn 0 lo).bind fun l => (bn n hi).bind fun h => if l ≤ h then (if h ≤ n then some (.ref id sz (off + l) (h - l)) else none) else none := by
 simp only [slE,esOk,lenA,sliceA,BEq.rfl,if_true,Option.bind_some]
 congr 1; funext l; congr 1; funext h
 by_cases h1 : l ≤ h <;> simp [h1]
theorem slE_lst (xs : List (List FV)) (lo hi : Option (Option AV)) : slE (some ⟨d,sz,b,z⟩) (.fv (.lst sz xs)) lo hi = (bn 0 lo).bind fun l => (bn xs.length hi).bind fun h => if l ≤ h then (if h ≤ xs.length then some (.fv (.lst sz ((xs.take h).drop l))) else none) else none := by
 simp only [slE,esOk,lenA,sliceA,BEq.rfl,if_true,Option.bind_some]
 congr 1; funext l; congr 1; funext h
 by_cases h1 : l ≤ h <;> simp [h1]
theorem slE_nils (lo hi : Option (Option AV)) : slE (some ⟨d,sz,b,z⟩) (.fv .nils) lo hi = (bn 0 lo).bind fun l => (bn 0 hi).bind fun h => if l = 0 ∧ h = 0 then some (.fv .nils) else none := rfl
theorem slT_str (s : List UInt8) (lo hi : Option (Option AV)) : slT P (some ⟨.string,a,b,z⟩) (.fv (.str s)) lo hi = (bn 0 lo).bind fun l => (bn s.length hi).bind fun h => if l ≤ h then (if h ≤ s.length then some (.fv (.str ((s.take h).drop l))) else none) else none := by
 simp only [slT,sliceA]
 congr 1; funext l; congr 1; funext h
 by_cases h1 : l ≤ h <;> simp [h1]
theorem bn_none (n : Nat) : bn n none = some n := rfl
theorem bn_int (n : Nat) (k : IntKind) (i : Int) : bn n (some (some (.fv (.int k i)))) = if 0 ≤ i then some i.toNat else none := rfl
end
/-! ### clear -/
def clE (o : Option TI) (h : List Blk) (s : AV) : Option (AV × List Blk × List Nat) := match o with
    | some ie => match ie.zero with
     | some z => if 0 < ie.size ∧ z.length = ie.size then clearA ie z h s else none
     | none => none
    | none => none
def clT (P : Program) (o : Option TI) (h : List Blk) (s : AV) : Option (AV × List Blk × List Nat) := match o with
   | some { desc := .slice e,.. } => clE (tiOf P e) h s
   | _ => none
def clB (h : List Blk) (o : Option Blk) (id es off len : Nat) (z : List FV) : Option (AV × List Blk × List Nat) := match o with
  | some (.plain es' rows) => if es' = es then (splice rows off (List.replicate len z)).map fun rows' => (.tuple [],h.set id (.plain es rows'),[id]) else none
  | _ => none
section
variable {P : Program} (e : TypeId) (a b : Nat) (z : Option (List FV)) (d : TypeDesc) (sz : Nat)
theorem clK_eq (T : TypeId) (h : List Blk) (s : AV) : clK P h [T] (some [s]) = clT P (tiOf P T) h s := by
 simp only [clK,clT]
 cases tiOf P T with
 | none => rfl
 | some ti => obtain ⟨dd,p,q,r⟩ := ti; cases dd <;> rfl
theorem clT_slice (h : List Blk) (s : AV) : clT P (some ⟨.slice e,a,b,z⟩) h s = clE (tiOf P e) h s := rfl
theorem clE_ref (zz : List FV) (h : List Blk) (id off len : Nat) (hsz : 0 < sz) (hz : zz.length = sz) : clE (some ⟨d,sz,b,some zz⟩) h (.ref id sz off len) = clB h h[id]? id sz off len zz := by
 simp only [clE,hsz,hz,true_and,if_true,clearA,clB]
 cases h[id]? with
 | none => rfl
 | some k => cases k <;> rfl
theorem clB_plain (h : List Blk) (rows : List (List FV)) (id es off len : Nat) (z : List FV) : clB h (some (.plain es rows)) id es off len z = (splice rows off (List.replicate len z)).map fun rows' => (.tuple [],h.set id (.plain es rows'),[id]) := by simp [clB]
end
/-! ### Boxes -/
def boxK (h : List Blk) (o : Option AV) : Option (AV × List Blk × List Nat) := o.bind fun v => (cellsA v).map fun cs => (.ptr h.length 0 0 0,h ++ [.box cs],[])
def alK (o : Option TI) (h : List Blk) : Option (AV × List Blk × List Nat) := match o with
  | some { zero := some z,.. } => some (.ptr h.length 0 0 0,h ++ [.box (z.map .fv)],[])
  | _ => none
section
variable {P : Program} {t : List AV} {h : List Blk} (d : Option Tmp)
theorem eff_boxK (T : TypeId) (x : Operand) : effA P t h (mkO (.box T x) d) = boxK h (ev t x) := rfl
theorem boxK_fv (h : List Blk) (x : FV) : boxK h (some (.fv x)) = some (.ptr h.length 0 0 0,h ++ [.box [.fv x]],[]) := rfl
theorem boxK_ref (h : List Blk) (id es off n : Nat) : boxK h (some (.ref id es off n)) = some (.ptr h.length 0 0 0,h ++ [.box [.ref id es off n]],[]) := rfl
theorem boxK_ptr (h : List Blk) (id es r off : Nat) : boxK h (some (.ptr id es r off)) = some (.ptr h.length 0 0 0,h ++ [.box [.ptr id es r off]],[]) := rfl
theorem boxK_agg (h : List Blk) (cs : List AV) : boxK h (some (.agg cs)) = some (.ptr h.length 0 0 0,h ++ [.box cs],[]) := rfl
theorem eff_alK (T : TypeId) : effA P t h (mkO (.alloc T) d) = alK (tiOf P T) h := rfl
theorem alK_some (dd : TypeDesc) (a b : Nat) (z : List FV) (h : List Blk) : alK (some ⟨dd,a,b,some z⟩) h = some (.ptr h.length 0 0 0,h ++ [.box (z.map .fv)],[]) := rfl
end
/-! ### make -/
def mkE (o : Option TI) (h : List Blk) (n k : Option AV) : Option (AV × List Blk × List Nat) := match o with
   | some ie => match ie.zero with
    | some z => n.bind fun a => (asI a).bind fun n => k.bind fun b => (asI b).bind fun k =>
      if 0 < ie.size ∧ z.length = ie.size ∧ 0 ≤ n ∧ n = k ∧ ie.bytes * n ≤ 140737488355328 ∧ n ≤ 9223372036854775807 then
       some (.ref h.length ie.size 0 n.toNat,h ++ [.plain ie.size (List.replicate n.toNat z)],[]) else none
    | none => none
   | none => none
def mkT (P : Program) (o : Option TI) (h : List Blk) (n k : Option AV) : Option (AV × List Blk × List Nat) := match o with
  | some { desc := .slice e,.. } => mkE (tiOf P e) h n k
  | _ => none
section
variable {P : Program} {t : List AV} {h : List Blk} (d : Option Tmp)
theorem eff_mkT (T : TypeId) (x y : Operand) : effA P t h (mkO (.makeSlice T x y) d) = mkT P (tiOf P T) h (ev t x) (ev t y) := by
 simp only [effA,mkO,mkT]
 cases tiOf P T with
 | none => rfl
 | some ti =>
  obtain ⟨dd,p,q,r⟩ := ti
  cases dd <;> rfl
theorem mkT_slice (e : TypeId) (a b : Nat) (z : Option (List FV)) (h : List Blk) (n k : Option AV) : mkT P (some ⟨.slice e,a,b,z⟩) h n k = mkE (tiOf P e) h n k := rfl
theorem mkE_int (dd : TypeDesc) (sz b : Nat) (z : List FV) (h : List Blk) (kk : IntKind) (n : Int) (hsz : 0 < sz) (hz : z.length = sz) : mkE (some ⟨dd,sz,b,some z⟩) h (some (.fv (.int kk n))) (some (.fv (.int kk n))) =
  if 0 ≤ n ∧ (b : Int) * n ≤ 140737488355328 ∧ n ≤ 9223372036854775807 then some (.ref h.length sz 0 n.toNat,h ++ [.plain sz (List.replicate n.toNat z)],[]) else none := by
 simp [mkE,asI,hsz,hz]
end
/-! ### Fields -/
def fadG (o : Option TI) (off : Nat) (v : AV) : Option AV := match o with
 | some i => if i.size = 0 then none else addrA v off
 | none => none
def fadF (P : Program) (o : Option Field) (v : AV) : Option AV := match o with
 | some fd => fadG (tiOf P fd.type) fd.offset v
 | none => none
def fadT (P : Program) (o : Option TI) (f : Nat) (v : AV) : Option AV := match o with
 | some { desc := .struct fs,.. } => fadF P fs[f]? v
 | _ => none
def fldG (o : Option TI) (off : Nat) (v : AV) : Option AV := match o with
 | some i => match v with
  | .agg cs => partA i cs off
  | _ => none
 | none => none
def fldF (P : Program) (o : Option Field) (v : AV) : Option AV := match o with
 | some fd => fldG (tiOf P fd.type) fd.offset v
 | none => none
def fldT (P : Program) (o : Option TI) (f : Nat) (v : AV) : Option AV := match o with
 | some { desc := .struct fs,.. } => fldF P fs[f]? v
 | _ => none
section
variable {P : Program} (a b : Nat) (z : Option (List FV))
theorem fadA_eq (S : TypeId) (f : Nat) (v : AV) : fadA P S f v = fadT P (tiOf P S) f v := by
 simp only [fadA,fieldOf,fadT]
 cases tiOf P S with
 | none => rfl
 | some ti =>
  obtain ⟨dd,p,q,r⟩ := ti
  cases dd <;> try rfl
  rename_i fs
  simp only
  cases fs[f]? with
  | none => rfl
  | some fd => simp only [fadF]; cases tiOf P fd.type <;> rfl
theorem fldA_eq (S : TypeId) (f : Nat) (v : AV) : fldA P S f v = fldT P (tiOf P S) f v := by
 simp only [fldA,fieldOf,fldT]
 cases tiOf P S with
 | none => rfl
 | some ti =>
  obtain ⟨dd,p,q,r⟩ := ti
  cases dd <;> try rfl
  rename_i fs
  simp only
  cases fs[f]? with
  | none => rfl
  | some fd => simp only [fldF]; cases tiOf P fd.type <;> rfl
theorem fadT_struct (fs : Array Field) (f : Nat) (v : AV) : fadT P (some ⟨.struct fs,a,b,z⟩) f v = fadF P fs[f]? v := rfl
theorem fldT_struct (fs : Array Field) (f : Nat) (v : AV) : fldT P (some ⟨.struct fs,a,b,z⟩) f v = fldF P fs[f]? v := rfl
theorem fadF_some (fd : Field) (v : AV) : fadF P (some fd) v = fadG (tiOf P fd.type) fd.offset v := rfl
theorem fldF_some (fd : Field) (v : AV) : fldF P (some fd) v = fldG (tiOf P fd.type) fd.offset v := rfl
theorem fadG_ptr (dd : TypeDesc) (sz off id es r o : Nat) (h : sz ≠ 0) : fadG (some ⟨dd,sz,b,z⟩) off (.ptr id es r o) = some (.ptr id es r (o + off)) := by simp [fadG,h,addrA]
theorem fadG_fptr (dd : TypeDesc) (sz off : Nat) (row : List FV) (h : sz ≠ 0) : fadG (some ⟨dd,sz,b,z⟩) off (.fptr row) = some (.fptr (row.drop off)) := by simp [fadG,h,addrA]
theorem fadG_gptr (dd : TypeDesc) (sz off g o : Nat) (h : sz ≠ 0) : fadG (some ⟨dd,sz,b,z⟩) off (.gptr g o) = some (.gptr g (o + off)) := by simp [fadG,h,addrA]
theorem ev_glob (t : List AV) (g : Nat) : ev t (.global g) = some (.gptr g 0) := rfl
theorem fldG_agg (i : TI) (off : Nat) (cs : List AV) : fldG (some i) off (.agg cs) = partA i cs off := rfl
end
/-! ### Literals of structs and arrays -/
def buG (o : Option (List AV)) (h : List Blk) : Option (AV × List Blk × List Nat) := o.map fun cs => (.agg cs,h,[])
def buF (pl : Nat → Option (Nat × Nat)) (z : List FV) (h : List Blk) (parts : Option (List (Nat × AV))) : Option (AV × List Blk × List Nat) := parts.bind fun ps => buG (fillA pl (z.map .fv) ps) h
def buA (o : Option TI) (z : List FV) (h : List Blk) (parts : Option (List (Nat × AV))) : Option (AV × List Blk × List Nat) := match o with
 | some ie => buF (fun i => some (i * ie.size,ie.size)) z h parts
 | none => none
def buS (o : Option (List (Nat × Nat))) (z : List FV) (h : List Blk) (parts : Option (List (Nat × AV))) : Option (AV × List Blk × List Nat) := match o with
 | some ps => buF (fun i => ps[i]?) z h parts
 | none => none
def buT (P : Program) (o : Option TI) (h : List Blk) (parts : Option (List (Nat × AV))) : Option (AV × List Blk × List Nat) := match o with
 | some { desc := .struct fs,zero := some z,.. } => buS (placesOf P fs.toList) z h parts
 | some { desc := .array _ e,zero := some z,.. } => buA (tiOf P e) z h parts
 | _ => none
def plc (o : Option TI) (off : Nat) (l : Option (List (Nat × Nat))) : Option (List (Nat × Nat)) := match o,l with
 | some i,some ps => some ((off,i.size) :: ps)
 | _,_ => none
def fillQ (pl : Nat → Option (Nat × Nat)) (rest : List (Nat × AV)) (o : Option (List AV)) : Option (List AV) := o.bind fun cs => fillA pl cs rest
def fillP (pl : Nat → Option (Nat × Nat)) (cells : List AV) (rest : List (Nat × AV)) (o : Option (Nat × Nat)) (c : Option (List AV)) : Option (List AV) := match o,c with
 | some (off,size),some vs => if vs.length = size then fillQ pl rest (splice cells off vs) else none
 | _,_ => none
section
variable {P : Program} {t : List AV} {h : List Blk} (d : Option Tmp)
theorem eff_build_eq (T : TypeId) (ps : Array (Nat × Operand)) : effA P t h (mkO (.build T ps) d) = buT P (tiOf P T) h (evParts t ps.toList) := by
 simp only [effA,mkO,buT,buildA]
 cases tiOf P T with
 | none => cases evParts t ps.toList <;> rfl
 | some ti =>
  obtain ⟨dd,p,q,r⟩ := ti
  cases r with
  | none => cases dd <;> cases evParts t ps.toList <;> rfl
  | some z =>
   cases dd
   case struct fs =>
    simp only [buS]
    cases placesOf P fs.toList with
    | none => cases evParts t ps.toList <;> rfl
    | some pp =>
     simp only [buF]
     cases evParts t ps.toList with
     | none => rfl
     | some parts => simp only [Option.bind_some,buG]; cases fillA (fun i => pp[i]?) (z.map .fv) parts <;> rfl
   case array n e =>
    simp only [buA]
    cases tiOf P e with
    | none => cases evParts t ps.toList <;> rfl
    | some ie =>
     simp only [buF]
     cases evParts t ps.toList with
     | none => rfl
     | some parts => simp only [Option.bind_some,buG]; cases fillA _ (z.map .fv) parts <;> rfl
   all_goals cases evParts t ps.toList <;> rfl
theorem buT_struct (fs : Array Field) (a b : Nat) (z : List FV) (h : List Blk) (parts : Option (List (Nat × AV))) : buT P (some ⟨.struct fs,a,b,some z⟩) h parts = buS (placesOf P fs.toList) z h parts := rfl
theorem buT_array (n e a b : Nat) (z : List FV) (h : List Blk) (parts : Option (List (Nat × AV))) : buT P (some ⟨.array n e,a,b,some z⟩) h parts = buA (tiOf P e) z h parts := rfl
theorem buS_some (ps : List (Nat × Nat)) (z : List FV) (h : List Blk) (parts : Option (List (Nat × AV))) : buS (some ps) z h parts = buF (fun i => ps[i]?) z h parts := rfl
theorem buA_some (dd : TypeDesc) (sz b : Nat) (zz : Option (List FV)) (z : List FV) (h : List Blk) (parts : Option (List (Nat × AV))) : buA (some ⟨dd,sz,b,zz⟩) z h parts = buF (fun i => some (i * sz,sz)) z h parts := rfl
theorem buF_some (pl : Nat → Option (Nat × Nat)) (z : List FV) (h : List Blk) (ps : List (Nat × AV)) : buF pl z h (some ps) = buG (fillA pl (z.map .fv) ps) h := rfl
theorem buG_some (cs : List AV) (h : List Blk) : buG (some cs) h = some (.agg cs,h,[]) := rfl
theorem placesOf_nil : placesOf P [] = some [] := rfl
theorem placesOf_cons (f : Field) (l : List Field) : placesOf P (f :: l) = plc (tiOf P f.type) f.offset (placesOf P l) := by
 simp only [placesOf,plc]
 cases tiOf P f.type <;> cases placesOf P l <;> rfl
theorem plc_some (dd : TypeDesc) (sz b : Nat) (zz : Option (List FV)) (off : Nat) (ps : List (Nat × Nat)) : plc (some ⟨dd,sz,b,zz⟩) off (some ps) = some ((off,sz) :: ps) := rfl
theorem fillA_nil (pl : Nat → Option (Nat × Nat)) (cells : List AV) : fillA pl cells [] = some cells := rfl
theorem fillA_cons (pl : Nat → Option (Nat × Nat)) (cells : List AV) (i : Nat) (v : AV) (rest : List (Nat × AV)) : fillA pl cells ((i,v) :: rest) = fillP pl cells rest (pl i) (cellsA v) := by
 simp only [fillA,fillP]
 cases pl i with
 | none => rfl
 | some p => cases cellsA v <;> rfl
theorem fillP_some (pl : Nat → Option (Nat × Nat)) (cells : List AV) (rest : List (Nat × AV)) (off size : Nat) (vs : List AV) : fillP pl cells rest (some (off,size)) (some vs) = if vs.length = size then fillQ pl rest (splice cells off vs) else none := rfl
theorem fillQ_some (pl : Nat → Option (Nat × Nat)) (rest : List (Nat × AV)) (cs : List AV) : fillQ pl rest (some cs) = fillA pl cs rest := rfl
theorem cellsA_fv (x : FV) : cellsA (.fv x) = some [.fv x] := rfl
theorem cellsA_agg (cs : List AV) : cellsA (.agg cs) = some cs := rfl
theorem cellsA_ref (id es off n : Nat) : cellsA (.ref id es off n) = some [.ref id es off n] := rfl
theorem cellsA_ptr (id es r off : Nat) : cellsA (.ptr id es r off) = some [.ptr id es r off] := rfl
theorem cellsA_mp (id : Nat) : cellsA (.mp id) = some [.mp id] := rfl
end
/-! ### copy; bytes as a text -/
end Go.Abs
