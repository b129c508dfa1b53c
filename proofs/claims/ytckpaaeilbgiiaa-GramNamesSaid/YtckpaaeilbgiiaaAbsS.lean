/- Effects, equation by equation. -/
import Derived.Test.YtckpaaeilbgiiaaAbsR
namespace Go.Abs
set_option linter.unusedVariables false
set_option linter.unusedSimpArgs false
section
variable {P : Program} {t : List AV} {h : List Blk} (d : Option Tmp)

/-! ### append -/
def apK (P : Program) (h : List Blk) (ts : List TypeId) (vs : Option (List AV)) : Option (AV × List Blk × List Nat) := match vs, ts with
    | some [s, x], [T, U] => match tiOf P T, tiOf P U with
      | some { desc := .slice e, .. }, some iu => match tiOf P e with
        | some ie => if 0 < ie.size ∧ 0 < ie.bytes ∧ ie.zero.map List.length = some ie.size then (match zerosA iu x with
            | some n => ie.zero.bind fun z => zeroA ie z h s n
            | none => if boxy h s || boxy h x then (srcCells iu ie.size h x).bind fun ys => appendB ie h s ys else (srcRows iu ie.size h x).bind fun ys => appendA ie h s ys) else none
        | none => none
      | _, _ => none
    | _, _ => none
theorem eff_append_eq (as : Array Operand) (ts : Array TypeId) : effA P t h (mkO (.call { callee := .builtin .append, args := as, argTypes := ts }) d) = apK P h ts.toList (evs t as.toList) := rfl
/-- What an element's type must be. -/
def elOk (ie : TI) : Prop := 0 < ie.size ∧ 0 < ie.bytes ∧ ie.zero.map List.length = some ie.size
theorem ap_rows {T U e : TypeId} {ti iu ie : TI} (hT : tiOf P T = some ti) (he : ti.desc = .slice e) (hU : tiOf P U = some iu) (hie : tiOf P e = some ie) (hel : elOk ie) {s x : AV} {ys : List (List FV)}
    (hi : ∀ k, iu.desc ≠ .int k) (hbx : (boxy h s || boxy h x) = false) (hs : srcRows iu ie.size h x = some ys) {r : AV × List Blk × List Nat} (hr : appendA ie h s ys = some r) : apK P h [T, U] (some [s, x]) = some r := by
  obtain ⟨dd, a, b, z⟩ := ti
  simp only at he; subst he
  unfold elOk at hel
  have hz : zerosA iu x = none := by
    unfold zerosA
    split
    · rename_i k _ _ hk; exact absurd hk (hi k)
    · rfl
  simp only [apK, hT, hU, hie, hel, hs, hr, hz, hbx, and_self, if_true, Bool.false_eq_true, if_false, Option.bind_some]
theorem ap_zeros {T U e : TypeId} {ti iu ie : TI} {k : IntKind} (hT : tiOf P T = some ti) (he : ti.desc = .slice e) (hU : tiOf P U = some iu) (hk : iu.desc = .int k) (hie : tiOf P e = some ie) (hel : elOk ie) {z : List FV} (hz : ie.zero = some z) {kx : IntKind} {n : Nat}
    (hn : 0 < n) (hb : n * ie.bytes ≤ 140737488355328) : apK P h [T, U] (some [.fv .nils, .fv (.int kx n)]) = some (.ref h.length ie.size 0 n, h ++ [.plain ie.size (List.replicate n z)], []) := by
  obtain ⟨dd, a, b, zz⟩ := ti
  simp only at he; subst he
  unfold elOk at hel
  have e1 : zerosA iu (.fv (.int kx n)) = some n := by
    have : (0 : Int) < n := by omega
    have h2 : ¬ n = 0 := by omega
    simp [zerosA, hk, this, h2]
  have hel3 := hel.2.2
  simp only [hz, Option.map_some, Option.some.injEq] at hel3
  simp [apK, hT, hU, hie, hel.1, hel.2.1, hz, hel3, e1, zeroA, hb]
/-! ### cap of nothing, clear -/
def capK (P : Program) (ts : List TypeId) (vs : Option (List AV)) : Option AV := match vs, ts with
    | some [.fv .nils], [T] => match tiOf P T with
      | some { desc := .slice _, .. } => some (.fv (.int .i64 0))
      | _ => none
    | _, _ => none
theorem cap_nils {T e : TypeId} {ti : TI} (hT : tiOf P T = some ti) (he : ti.desc = .slice e) : capK P [T] (some [.fv .nils]) = some (.fv (.int .i64 0)) := by
  obtain ⟨dd, a, b, zz⟩ := ti
  simp only at he; subst he
  simp [capK, hT]
theorem opK_cap {ops : Array Oper} {Q : AEx → St → Prop} {st : St} (hs : Held) (i : Nat) (c : Cont) (as : Array Operand) (ts : Array TypeId) : opK P ops Q (.call { callee := .builtin .cap, args := as, argTypes := ts }) hs i d c st = putK P ops Q (capK P ts.toList (evs st.t as.toList)) d c st :=
  opK_of_pure (fun _ => rfl) rfl rfl rfl
def clK (P : Program) (h : List Blk) (ts : List TypeId) (vs : Option (List AV)) : Option (AV × List Blk × List Nat) := match vs, ts with
    | some [s], [T] => match tiOf P T with
      | some { desc := .slice e, .. } => match tiOf P e with
        | some ie => match ie.zero with
          | some z => if 0 < ie.size ∧ z.length = ie.size then clearA ie z h s else none
          | none => none
        | none => none
      | _ => none
    | _, _ => none
theorem opK_clear {ops : Array Oper} {Q : AEx → St → Prop} {st : St} (hs : Held) (i : Nat) (c : Cont) (as : Array Operand) (ts : Array TypeId) :
    opK P ops Q (.call { callee := .builtin .clear, args := as, argTypes := ts }) hs i d c st = effK P ops Q (clK P st.h ts.toList (evs st.t as.toList)) hs i d c st :=
  opK_of_eff hs i d c (fun _ => rfl) rfl rfl rfl
theorem cl_ref {T e : TypeId} {ti ie : TI} (hT : tiOf P T = some ti) (he : ti.desc = .slice e) (hie : tiOf P e = some ie) {z : List FV} (hz : ie.zero = some z) (hzl : 0 < ie.size ∧ z.length = ie.size) (id off len : Nat) {rows rows' : List (List FV)}
    (hb : h[id]? = some (.plain ie.size rows)) (hs : splice rows off (List.replicate len z) = some rows') : clK P h [T] (some [.ref id ie.size off len]) = some (.tuple [], h.set id (.plain ie.size rows'), [id]) := by
  obtain ⟨dd, a, b, zz⟩ := ti
  simp only at he; subst he
  simp [clK, hT, hie, hz, hzl, clearA, hb, hs]
theorem src_lst {iu : TI} {e : TypeId} (he : iu.desc = .slice e) (es : Nat) (ys : List (List FV)) : srcRows iu es h (.fv (.lst es ys)) = some ys := by
  simp [srcRows, he]
theorem src_nils {iu : TI} {e : TypeId} (he : iu.desc = .slice e) (es : Nat) : srcRows iu es h (.fv .nils) = some [] := by
  simp [srcRows, he]
theorem src_ref {iu : TI} {e : TypeId} (he : iu.desc = .slice e) (es id off len : Nat) (rows : List (List FV)) (hb : h[id]? = some (.plain es rows)) (hl : off + len ≤ rows.length) :
    srcRows iu es h (.ref id es off len) = some ((rows.drop off).take len) := by
  simp [srcRows, he, hb, hl]
theorem app_nils {ie : TI} (ys : List (List FV)) (hl : ys.length * ie.bytes ≤ 140737488355328) : appendA ie h (.fv .nils) ys = some (.ref h.length ie.size 0 ys.length, h ++ [.plain ie.size ys], []) := by
  simp [appendA, hl]
theorem app_ref {ie : TI} (id off len : Nat) (rows ys : List (List FV)) (hb : h[id]? = some (.plain ie.size rows)) (hl : off + len ≤ rows.length) (hm : (len + ys.length) * ie.bytes ≤ 140737488355328) :
    appendA ie h (.ref id ie.size off len) ys = some (.ref h.length ie.size 0 (len + ys.length), h.set id .dead ++ [.plain ie.size ((rows.drop off).take len ++ ys)], [id]) := by
  simp [appendA, hb, hl, hm]

/-! ### Literals -/
def bsK (ie : TI) (z : List FV) (n : Nat) (h : List Blk) (parts : Option (List (Nat × AV))) : Option (AV × List Blk × List Nat) :=
  parts.bind fun parts => (fillA (fun i => some (i * ie.size, ie.size)) (flatN n (z.map .fv)) parts).bind fun cs =>
              match toFs cs with
              | some fs => some (.ref h.length ie.size 0 n, h ++ [.plain ie.size (chunk ie.size n fs)], [])
              | none => if cs.all okCell then some (.ref h.length ie.size 0 n, h ++ [.box cs], []) else none
theorem eff_bs {T e : TypeId} {ti ie : TI} {z : List FV} (hT : tiOf P T = some ti) (he : ti.desc = .slice e) (hie : tiOf P e = some ie) (hz : ie.zero = some z) (n : Nat) (hsz : 0 < ie.size ∧ z.length = ie.size ∧ n * ie.size ≤ 16777216) (ps : Array (Nat × Operand)) :
    effA P t h (mkO (.buildSlice T n ps) d) = bsK ie z n h (evParts t ps.toList) := by
  obtain ⟨dd, a, b, zz⟩ := ti
  simp only at he; subst he
  simp [effA, mkO, hT, hie, hz, hsz, bsK]
  rfl
theorem eff_mk {T e : TypeId} {ti ie : TI} {z : List FV} (hT : tiOf P T = some ti) (he : ti.desc = .slice e) (hie : tiOf P e = some ie) (hz : ie.zero = some z) (x y : Operand) (k : IntKind) (n : Nat)
    (hx : ev t x = some (.fv (.int k n))) (hy : ev t y = some (.fv (.int k n))) (hsz : 0 < ie.size ∧ z.length = ie.size ∧ ie.bytes * n ≤ 140737488355328 ∧ n ≤ 9223372036854775807) :
    effA P t h (mkO (.makeSlice T x y) d) = some (.ref h.length ie.size 0 n, h ++ [.plain ie.size (List.replicate n z)], []) := by
  obtain ⟨dd, a, b, zz⟩ := ti
  simp only at he; subst he
  have : ((ie.bytes : Int) * (n : Int) ≤ 140737488355328) := by have := hsz.2.2.1; omega
  have h2 : ((n : Int) ≤ 9223372036854775807) := by have := hsz.2.2.2; omega
  simp [effA, mkO, hT, hie, hz, hx, hy, asI, hsz, this, h2]
/-! ### Stores -/
theorem eff_box_eq {T : TypeId} (x : Operand) {v : AV} {cs : List AV} (hx : ev t x = some v) (hc : cellsA v = some cs) : effA P t h (mkO (.box T x) d) = some (.ptr h.length 0 0 0, h ++ [.box cs], []) := by
  simp [effA, mkO, hx, hc]
theorem eff_alloc_eq {T : TypeId} {ti : TI} {z : List FV} (hT : tiOf P T = some ti) (hz : ti.zero = some z) : effA P t h (mkO (.alloc T) d) = some (.ptr h.length 0 0 0, h ++ [.box (z.map .fv)], []) := by
  obtain ⟨dd, a, b, zz⟩ := ti
  simp only at hz; subst hz
  simp [effA, mkO, hT]
def stK (P : Program) (T : TypeId) (h : List Blk) (p v : Option AV) : Option (AV × List Blk × List Nat) :=
  (tiOf P T).bind fun i => p.bind fun p => v.bind fun v => (stA i h p v).map fun (h', id) => (.undef, h', [id])
theorem eff_store_eq (T : TypeId) (x y : Operand) : effA P t h (mkO (.store T x y) d) = stK P T h (ev t x) (ev t y) := rfl
/-- One cell of a row. -/
theorem st_plain {T : TypeId} {ti : TI} (hT : tiOf P T = some ti) (hsz : ti.size = 1) (id es r off : Nat) (x : FV) {rows : List (List FV)} {row : List FV} (hb : h[id]? = some (.plain es rows)) (hr : rows[r]? = some row) (ho : off + 1 ≤ row.length) :
    stK P T h (some (.ptr id es r off)) (some (.fv x)) = some (.undef, h.set id (.plain es (rows.set r (row.set off x))), [id]) := by
  have e : row.take off ++ [x] ++ row.drop (off + 1) = row.set off x := by
    rw [List.set_eq_take_append_cons_drop]
    rw [if_pos (by omega)]; simp
  have e2 : splice row off [x] = some (row.set off x) := by
    simp only [splice, List.length_singleton, if_pos ho, e]
  simp [stK, hT, stA, hb, rowOf, cellsA, toFs, hsz, hr, e2]
theorem st_box {T : TypeId} {ti : TI} (hT : tiOf P T = some ti) (hsz : ti.size = 1) (id es off : Nat) {v : AV} (hv : cellsA v = some [v]) (hk : okCell v = true) {cs : List AV} (hb : h[id]? = some (.box cs)) (ho : off + 1 ≤ cs.length) :
    stK P T h (some (.ptr id es 0 off)) (some v) = some (.undef, h.set id (.box (cs.set off v)), [id]) := by
  have e : cs.take off ++ [v] ++ cs.drop (off + 1) = cs.set off v := by
    rw [List.set_eq_take_append_cons_drop]
    rw [if_pos (by omega)]; simp
  have e2 : splice cs off [v] = some (cs.set off v) := by
    simp only [splice, List.length_singleton, if_pos ho, e]
  simp [stK, hT, stA, stBx, hb, hv, hk, hsz, e2]
end
section
variable {P : Program} {ops : Array Oper} {Q : AEx → St → Prop} {st : St} (hs : Held) (i : Nat) (d : Option Tmp) (c : Cont) (l : List (Nat × Bool))
/-! ### Slices of slices, parts, functions -/
def bn (d : Nat) : Option (Option AV) → Option Nat
  | none => some d
  | some r => r.bind asN
def slA (P : Program) (T : TypeId) (vx : Option AV) (lo hi : Option (Option AV)) : Option AV := vx.bind fun v => match tiOf P T with
    | some { desc := .slice e, .. } => match tiOf P e with
      | some ie => if esOk ie.size v then (lenA v).bind fun n => (bn 0 lo).bind fun l => (bn n hi).bind fun h => sliceA v l h else none
      | none => none
    | some { desc := .string, .. } => match v with
      | .fv (.str s) => (bn 0 lo).bind fun l => (bn s.length hi).bind fun h => sliceA (.fv (.str s)) l h
      | _ => none
    | _ => none
theorem bnd_eq (t : List AV) (k : Nat) (x : Option Operand) : bnd t k x = bn k (x.map (ev t)) := by cases x <;> rfl
theorem pure_slice (T : TypeId) (x : Operand) (lo hi : Option Operand) (t : List AV) : pureA P t (mkO (.slice T x lo hi none) d) = slA P T (ev t x) (lo.map (ev t)) (hi.map (ev t)) := by
  show (match tiOf P T with
    | some { desc := .slice e, .. } => match tiOf P e with
      | some ie => (ev t x).bind fun v => if esOk ie.size v then (lenA v).bind fun n => (bnd t 0 lo).bind fun l => (bnd t n hi).bind fun h => sliceA v l h else none
      | none => none
    | some { desc := .string, .. } => (ev t x).bind fun v => match v with
      | .fv (.str s) => (bnd t 0 lo).bind fun l => (bnd t s.length hi).bind fun h => sliceA (.fv (.str s)) l h
      | _ => none
    | _ => none) = _
  simp only [bnd_eq, slA]
  cases ev t x with
  | none =>
    simp only [Option.bind_none]
    split
    · split <;> rfl
    · rfl
    · rfl
  | some v => rfl
theorem opK_slice (T : TypeId) (x : Operand) (lo hi : Option Operand) : opK P ops Q (.slice T x lo hi none) hs i d c st = putK P ops Q (slA P T (ev st.t x) (lo.map (ev st.t)) (hi.map (ev st.t))) d c st :=
  opK_of_pure (fun _ => rfl) rfl rfl (pure_slice d T x lo hi st.t)
theorem quK_slice (T : TypeId) (x : Operand) (lo hi : Option Operand) : quK P ops Q (.slice T x lo hi none) i d l hs st = putK P ops Q (slA P T (ev st.t x) (lo.map (ev st.t)) (hi.map (ev st.t))) d (.draw l hs) st :=
  quK_of_pure (fun _ => rfl) rfl (pure_slice d T x lo hi st.t)
theorem sl_val {T e : TypeId} {ti ie : TI} (hT : tiOf P T = some ti) (he : ti.desc = .slice e) (hie : tiOf P e = some ie) {v : AV} (hes : esOk ie.size v = true) {n lo hi : Nat} (hn : lenA v = some n) {blo bhi : Option (Option AV)}
    (hl : bn 0 blo = some lo) (hh : bn n bhi = some hi) {r : AV} (hr : sliceA v lo hi = some r) : slA P T (some v) blo bhi = some r := by
  obtain ⟨dd, a, b, zz⟩ := ti
  simp only at he; subst he
  simp [slA, hT, hie, hes, hn, hl, hh, hr]
theorem sl_str {T : TypeId} {ti : TI} (hT : tiOf P T = some ti) (he : ti.desc = .string) {s : List UInt8} {lo hi : Nat} {blo bhi : Option (Option AV)}
    (hl : bn 0 blo = some lo) (hh : bn s.length bhi = some hi) (h1 : lo ≤ hi) (h2 : hi ≤ s.length) : slA P T (some (.fv (.str s))) blo bhi = some (.fv (.str ((s.take hi).drop lo))) := by
  obtain ⟨dd, a, b, zz⟩ := ti
  simp only at he; subst he
  simp [slA, hT, hl, hh, sliceA, h1, h2]
def fadA (P : Program) (S : TypeId) (f : Nat) (v : AV) : Option AV := (fieldOf P S f).bind fun (fd, i) => if i.size = 0 then none else addrA v fd.offset
def fldA (P : Program) (S : TypeId) (f : Nat) (v : AV) : Option AV := (fieldOf P S f).bind fun (fd, i) => match v with
    | .agg cs => partA i cs fd.offset
    | _ => none
def extA (i : Nat) (v : AV) : Option AV := match v with
    | .tuple vs => vs[i]?
    | _ => none
def nckA (v : AV) : Option AV := if solid v then some v else none
def mkiA (P : Program) (T : TypeId) (v : AV) : Option AV := match tiOf P T with
    | some { desc := .interface _, .. } => none
    | some _ => some (.iface T v)
    | none => none
theorem pure_fad (S : TypeId) (x : Operand) (f : Nat) (t : List AV) : pureA P t (mkO (.fieldAddr S x f) d) = map1 (fadA P S f) (ev t x) := by
  show (fieldOf P S f).bind _ = _
  cases ev t x <;> cases h : fieldOf P S f <;> simp [map1, fadA, h]
theorem pure_fld (S : TypeId) (x : Operand) (f : Nat) (t : List AV) : pureA P t (mkO (.field S x f) d) = map1 (fldA P S f) (ev t x) := by
  show (fieldOf P S f).bind _ = _
  cases ev t x <;> cases h : fieldOf P S f <;> simp [map1, fldA, h]
  rfl
theorem pure_mki (T : TypeId) (x : Operand) (t : List AV) : pureA P t (mkO (.makeInterface T x) d) = map1 (mkiA P T) (ev t x) := by
  show (match tiOf P T with
    | some { desc := .interface _, .. } => none
    | some _ => (ev t x).map (AV.iface T)
    | none => none) = _
  cases ev t x with
  | none =>
    split <;> rfl
  | some v => rfl
theorem opK_fad (S : TypeId) (x : Operand) (f : Nat) : opK P ops Q (.fieldAddr S x f) hs i d c st = putK P ops Q (map1 (fadA P S f) (ev st.t x)) d c st := opK_of_pure (fun _ => rfl) rfl rfl (pure_fad d S x f st.t)
theorem quK_fad (S : TypeId) (x : Operand) (f : Nat) : quK P ops Q (.fieldAddr S x f) i d l hs st = putK P ops Q (map1 (fadA P S f) (ev st.t x)) d (.draw l hs) st := quK_of_pure (fun _ => rfl) rfl (pure_fad d S x f st.t)
theorem opK_fld (S : TypeId) (x : Operand) (f : Nat) : opK P ops Q (.field S x f) hs i d c st = putK P ops Q (map1 (fldA P S f) (ev st.t x)) d c st := opK_of_pure (fun _ => rfl) rfl rfl (pure_fld d S x f st.t)
theorem quK_fld (S : TypeId) (x : Operand) (f : Nat) : quK P ops Q (.field S x f) i d l hs st = putK P ops Q (map1 (fldA P S f) (ev st.t x)) d (.draw l hs) st := quK_of_pure (fun _ => rfl) rfl (pure_fld d S x f st.t)
theorem opK_ext (x : Operand) (k : Nat) : opK P ops Q (.extract x k) hs i d c st = putK P ops Q (map1 (extA k) (ev st.t x)) d c st := opK_of_pure (fun _ => rfl) rfl rfl (by show (ev st.t x).bind _ = _; cases ev st.t x <;> rfl)
theorem quK_ext (x : Operand) (k : Nat) : quK P ops Q (.extract x k) i d l hs st = putK P ops Q (map1 (extA k) (ev st.t x)) d (.draw l hs) st := quK_of_pure (fun _ => rfl) rfl (by show (ev st.t x).bind _ = _; cases ev st.t x <;> rfl)
theorem opK_nck (x : Operand) : opK P ops Q (.nilCheck x) hs i d c st = putK P ops Q (map1 nckA (ev st.t x)) d c st := opK_of_pure (fun _ => rfl) rfl rfl (by show (ev st.t x).bind _ = _; cases ev st.t x <;> rfl)
theorem quK_nck (x : Operand) : quK P ops Q (.nilCheck x) i d l hs st = putK P ops Q (map1 nckA (ev st.t x)) d (.draw l hs) st := quK_of_pure (fun _ => rfl) rfl (by show (ev st.t x).bind _ = _; cases ev st.t x <;> rfl)
theorem opK_mki (T : TypeId) (x : Operand) : opK P ops Q (.makeInterface T x) hs i d c st = putK P ops Q (map1 (mkiA P T) (ev st.t x)) d c st := opK_of_pure (fun _ => rfl) rfl rfl (pure_mki d T x st.t)
theorem quK_mki (T : TypeId) (x : Operand) : quK P ops Q (.makeInterface T x) i d l hs st = putK P ops Q (map1 (mkiA P T) (ev st.t x)) d (.draw l hs) st := quK_of_pure (fun _ => rfl) rfl (pure_mki d T x st.t)
theorem ext_tuple (vs : List AV) (k : Nat) : extA k (.tuple vs) = vs[k]? := rfl
theorem nck_solid {v : AV} (h : solid v = true) : nckA v = some v := by simp [nckA, h]
theorem pure_mkf (f : FuncId) (caps : Array Operand) (t : List AV) : pureA P t (mkO (.makeFunc (.func f) #[] caps) d) = (evs t caps.toList).map (.func f) := rfl
theorem opK_mkf (f : FuncId) (caps : Array Operand) : opK P ops Q (.makeFunc (.func f) #[] caps) hs i d c st = putK P ops Q ((evs st.t caps.toList).map (.func f)) d c st := opK_of_pure (fun _ => rfl) rfl rfl (pure_mkf d f caps st.t)
theorem quK_mkf (f : FuncId) (caps : Array Operand) : quK P ops Q (.makeFunc (.func f) #[] caps) i d l hs st = putK P ops Q ((evs st.t caps.toList).map (.func f)) d (.draw l hs) st := quK_of_pure (fun _ => rfl) rfl (pure_mkf d f caps st.t)
def panK (ops : Array Oper) (Q : AEx → St → Prop) (v : Option AV) (st : St) : Prop := bO v fun v => match v with
    | .iface t y => Q (.pan (.iface t y)) (forget ops st)
    | _ => False
theorem opK_panic (x : Operand) : opK P ops Q (.panic x) hs i d c st = panK ops Q (ev st.t x) st := rfl
theorem panK_iface (T : TypeId) (v : AV) : panK ops Q (some (.iface T v)) st = Q (.pan (.iface T v)) (forget ops st) := rfl
end
theorem le_sub_wk {n0 : Nat} {st st' : St} (keep frz : List Nat) (hpre : keep.take n0 = List.range n0) (hnd : keep.Nodup) (hlt : ∀ i ∈ keep, i < st.h.length) (hdis : ∀ i ∈ frz, i ∉ keep)
    (hfl : ∀ i ∈ frz, ∃ es rows, st.h[i]? = some (.plain es rows)) (hw : wk (subSt keep frz st).t st'.t) (hh : (subSt keep frz st).h = st'.h) (hd : (subSt keep frz st).d = st'.d) : Le n0 st st' := by
  refine Le.trans (le_sub keep frz hpre hnd hlt hdis hfl) ?_
  obtain ⟨t', h', d'⟩ := st'
  simp only at hw hh hd
  subst hh; subst hd
  exact le_wk hw
def noBox : Blk → Bool
  | .box _ => false
  | .map _ => false
  | _ => true
theorem killAll_far : ∀ (l : List Nat) (h : List Blk) (i : Nat), i ∉ l → (killAll l h)[i]? = h[i]?
  | [], h, i, _ => rfl
  | k :: l, h, i, hi => by
    simp only [List.mem_cons, not_or] at hi
    rw [killAll, killAll_far l _ i hi.2, List.getElem?_set_ne (fun e => hi.1 e.symm)]
theorem freeze_same {st : St} {frz : List Nat} (hnb : st.h.all noBox = true) {i : Nat} (hi : i ∉ frz) : (freezeSt frz st).h[i]? = st.h[i]? := by
  simp only [freezeSt]
  rw [killAll_far _ _ _ hi, List.getElem?_map]
  cases h : st.h[i]? with
  | none => rfl
  | some b =>
    have := List.all_eq_true.1 hnb b (List.mem_of_getElem? h)
    cases b <;> simp [noBox] at this <;> rfl
/-- Blocks are frozen ahead of a call; there are no boxes. -/
theorem call_frz {P : Program} {st st' : St} {f : FuncId} {args args' : List AV} {W : List Nat} {o : AOut} (frz : List Nat) (hfl : ∀ i ∈ frz, ∃ es rows, st.h[i]? = some (.plain es rows)) (hnb : st.h.all noBox = true)
    (ha : args.map (subAny (frzSub frz st.h)) = args') (hc : CallRel P f args' (freezeSt frz st) W o st') : CallRel P f args st (frz ++ W) o st' :=
  call_freeze frz hfl ha rfl hc (frz ++ W) (fun i hi => List.mem_append_right _ hi) (fun i hi => List.mem_append_left _ hi) (fun i hi _ => freeze_same hnb (fun h => hi (List.mem_append_left _ h)))
end Go.Abs
