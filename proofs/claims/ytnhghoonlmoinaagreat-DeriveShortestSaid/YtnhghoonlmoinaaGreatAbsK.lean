/- Stores, and new slices. -/
import Derived.Test.YtnhghoonlmoinaaGreatAbsI
import Derived.Deep.Upon
namespace Go.Abs
variable [Kn]
set_option linter.unusedSectionVars false
set_option linter.unusedVariables false
set_option linter.unusedSimpArgs false
section
variable {P : Program} {w0 : World} {S0 : Nat → Prop} {m0 : List Loc} {w : World} {S : Nat → Prop} {m : List Loc} {a : Act} {st : St}
theorem okCell_one {v : Value} {x : AV} (h : VRel w S m v x) (hx : okCell x = true) : v.oneCell' = true := by
 cases h <;> simp [okCell] at hx <;> first | rfl | (rename_i hf; exact hf.one.2)
theorem row_before {es r r' j k : Nat} (hr : r' < r) (hj : j < es) : r' * es + j < r * es + k := by
 have : (r' + 1) * es ≤ r * es := Nat.mul_le_mul_right es hr
 rw [Nat.succ_mul] at this
 omega
theorem run_storeAt {T : TypeId} {i : TI} (hi : tiOf P T = some i) {b p : Nat} {v : Value} {arr : Array Value} {U : TypeId} (hb : w.heap[b]? = some (.cells arr U (0,0))) (hs : v.cells.size = i.size)
  (hl : p + v.cells.size ≤ arr.size) (h1 : ∀ u ∈ v.cells.toList,u.oneCell' = true) :
  (Instr.storeAt T (.pointer (some ⟨b,p,none⟩)) v).run P w = .ok () (wcells w b (putCells arr p v.cells.toList) U (0,0)) := by
 have := run_storeCells (P := P) v.cells.toList w b p 0 arr U hb (by simpa using hl) h1
 simp only [Instr.storeAt,Instr.sureAddr,Sem.run_bind,Sem.run_pure,Result.andThen_ok,storeVar,ti_size hi,hs,ne_eq,not_true_eq_false,if_false]
 exact this
/-- Rows as cells, over memory. -/
theorem thaw_cells {arr : Array Value} {es : Nat} : ∀ {rows : List (List FV)} {o : Nat},(∀ (r : Nat) (row : List FV),rows[r]? = some row → row.length = es) →
  (∀ (r j : Nat) (row : List FV) (x : FV),rows[r]? = some row → row[j]? = some x → ∃ u,arr[o + r * es + j]? = some u ∧ FRel w S u x) →
  ∀ (k : Nat) (x : AV),(thaw rows)[k]? = some x → ∃ u,arr[o + k]? = some u ∧ VRel w S m u x
 | [],o,_,_,k,x,h => by simp [thaw] at h
 | row :: rows,o,h1,h2,k,x,h => by
  have hl := h1 0 row rfl
  have e : thaw (row :: rows) = row.map .fv ++ thaw rows := by simp [thaw]
  rw [e,List.getElem?_append] at h
  split at h
  ·simp only [List.getElem?_map,Option.map_eq_some_iff] at h
   obtain ⟨y,hy,rfl⟩ := h
   obtain ⟨u,hu,hf⟩ := h2 0 k row y rfl hy
   exact ⟨u,by simpa using hu,.fv _ _ hf⟩
  ·rename_i hge
   rw [List.length_map,hl] at h hge
   obtain ⟨u,hu,hv⟩ := thaw_cells (o := o + es) (fun r row' hr => h1 (r + 1) row' hr) (fun r j row' y hr hy => by
    obtain ⟨u,hu,hf⟩ := h2 (r + 1) j row' y hr hy
    refine ⟨u,?_,hf⟩
    rw [← hu]
    congr 1
    rw [Nat.succ_mul]; omega) (k - es) x h
   exact ⟨u,by rw [← hu]; congr 1; omega,hv⟩
theorem eff_storeB (hr : RelSM w0 S0 m0 w S m a st) {o : Oper} {T : TypeId} {x y : Operand} (ho : o.op = .store T x y) {i : TI} (hi : tiOf P T = some i) {v : AV}
  {id' es r off b ob : Nat} (hm : m[id']? = some (some (b,ob))) (hae : a.eval x = .pointer (some ⟨b,ob + r * es + off,none⟩)) {k : Blk} (hid : st.h[id']? = some k) (hlive : k.live = true) {cs : List AV}
  {arr : Array Value} {U : TypeId} (hb : w.heap[b]? = some (.cells arr U (0,0))) (hcell : ∀ (j : Nat) (x : AV),cs[j]? = some x → ∃ u,arr[ob + j]? = some u ∧ VRel w S m u x)
  (hvv : VRel w S m (a.eval y) v) {h' : List Blk} {id : Nat} (hs : stBx i st.h id' es r off cs v = some (h',id)) : EffOk P w0 S0 m0 w S m a st o .undef h' [id] := by
 unfold stBx at hs
 simp only [Option.bind_eq_some_iff] at hs
 obtain ⟨vs,hvs,hs⟩ := hs
 split at hs
 case isFalse => cases hs
 rename_i hsz
 obtain ⟨hsz,hpos,hok⟩ := hsz
 simp only [Option.map_eq_some_iff,Prod.mk.injEq] at hs
 obtain ⟨cs',hsp,rfl,rfl⟩ := hs
 have hl := hvv.cells hvs
 have hl1 := hl.1
 simp at hl1
 obtain ⟨g1,g2,g3⟩ := splice_get hsp
 have hroom : ob + r * es + off + (a.eval y).cells.size ≤ arr.size := by
  obtain ⟨u,hu,_⟩ := hcell (r * es + off + vs.length - 1) (cs[r * es + off + vs.length - 1]'(by omega)) (by simp)
  have := (Array.getElem?_eq_some_iff.1 hu).1
  omega
 have hrun := run_storeAt (P := P) (w := w) hi hb (by rw [hl1,hsz]) hroom (fun u hu => by
  obtain ⟨j,hj,rfl⟩ := List.getElem_of_mem hu
  have hj' : j < vs.length := by simpa [hl1] using hj
  exact okCell_one (hl.2 j _ vs[j] (by simp at hj; simp [hj]) (by simp [hj'])) (List.all_eq_true.1 hok _ (List.getElem_mem hj')))
 have hw := wcells_wrote (fr' := (0,0)) hb (putCells_size (a.eval y).cells.toList arr (ob + r * es + off))
 have hmv := hw.move hr.heap hm hid hlive
 refine ⟨undef,_,m,wp_skipped (by simp only [execOp,ho,hae,Sem.run_bind,hrun,Result.andThen_ok,Sem.run_pure]),hr.wrote hw hm hid hlive ?_,.undef,fun j b' o' k hj hmj hk hlv => ?_,fun j hj _ => by rw [List.getElem?_set_ne (Ne.symm (by simpa using hj))]⟩
 ·refine ⟨b,ob,putCells arr (ob + r * es + off) (a.eval y).cells.toList,U,rfl,wcells_at (Array.getElem?_eq_some_iff.1 hb).1,fun j x1 hx1 => ?_⟩
  rw [putCells_get _ _ _ _ (by simpa using hroom)]
  simp only [Array.length_toList]
  rw [g3] at hx1
  split at hx1
  ·rename_i hc
   have hc' : ob + r * es + off ≤ ob + j ∧ ob + j < ob + r * es + off + (a.eval y).cells.size := by omega
   simp only [hc',and_self,if_true]
   have hj : j - (r * es + off) < (a.eval y).cells.size := by omega
   refine ⟨(a.eval y).cells[j - (r * es + off)],?_,(hl.2 (j - (r * es + off)) _ x1 (by simp [hj]) hx1).move hmv hr.heap.lowm⟩
   rw [show ob + j - (ob + r * es + off) = j - (r * es + off) from by omega]
   simp [hj]
  ·rename_i hc
   have hc' : ¬ (ob + r * es + off ≤ ob + j ∧ ob + j < ob + r * es + off + (a.eval y).cells.size) := by omega
   simp only [hc',if_false]
   obtain ⟨u,hu,hf⟩ := hcell j x1 hx1
   exact ⟨u,hu,hf.move hmv hr.heap.lowm⟩
 ·refine hw.other b' (fun e => ?_)
  subst e
  exact hr.heap.inj j id' k _ b' o' ob (by simpa using hj) hk hid hlv hlive hmj hm
theorem eff_store (hr : RelSM w0 S0 m0 w S m a st) {o : Oper} {T : TypeId} {x y : Operand} (ho : o.op = .store T x y) {i : TI} (hi : tiOf P T = some i) {p v : AV} (hp : ev st.t x = some p) (hv : ev st.t y = some v)
  {h' : List Blk} {id : Nat} (hs : stA i st.h p v = some (h',id)) : EffOk P w0 S0 m0 w S m a st o .undef h' [id] := by
 have hpv := ev_rel hr.tmps hp
 have hvv := ev_rel hr.tmps hv
 unfold stA at hs
 split at hs
 case h_2 => cases hs
 rename_i id' es r off
 generalize hpp : AV.ptr id' es r off = pp at hpv
 generalize hae : a.eval x = ax at hpv
 cases hpv <;> simp at hpp
 rename_i b ob hm
 obtain ⟨rfl,rfl,rfl,rfl⟩ := hpp
 generalize hid : st.h[id']? = k at hs
 split at hs
 ·rename_i es' rows
  split at hs
  case isFalse => cases hs
  rename_i he; subst he
  split at hs
  case h_2 =>
   obtain ⟨hes,arr,U,hb,hcell⟩ := hr.heap.blk id' _ _ hm hid
   exact eff_storeB hr ho hi hm hae hid rfl hb (thaw_cells hes hcell) hvv hs
  rename_i fs hfs
  split at hs
  case isFalse => cases hs
  rename_i hsz
  obtain ⟨hsz,hpos⟩ := hsz
  simp only [Option.bind_eq_some_iff,Option.map_eq_some_iff,Prod.mk.injEq] at hs
  obtain ⟨row,hrow,row',hsp,rfl,rfl⟩ := hs
  obtain ⟨hes,arr,U,hb,hcell⟩ := hr.heap.blk id' _ _ hm hid
  obtain ⟨hl1,hl2⟩ := rowOf_rel hvv hfs
  obtain ⟨g1,g2,g3⟩ := splice_get hsp
  have hrl := hes r row hrow
  have hroom : ob + r * es' + off + (a.eval y).cells.size ≤ arr.size := by
   obtain ⟨u,hu,_⟩ := hcell r (off + fs.length - 1) row (row[off + fs.length - 1]'(by omega)) hrow (by simp)
   have := (Array.getElem?_eq_some_iff.1 hu).1
   omega
  have hrun := run_storeAt (P := P) (w := w) hi hb (by rw [hl1,hsz]) hroom (fun u hu => by
   obtain ⟨j,hj,rfl⟩ := List.getElem_of_mem hu
   have hj' : j < fs.length := by simpa [hl1] using hj
   exact (hl2 j _ fs[j] (by simp at hj; simp [hj]) (by simp [hj'])).one.2)
  have hw := wcells_wrote (fr' := (0,0)) hb (putCells_size (a.eval y).cells.toList arr (ob + r * es' + off))
  have hmv := hw.move hr.heap hm hid rfl
  refine ⟨undef,_,m,wp_skipped (by simp only [execOp,ho,hae,Sem.run_bind,hrun,Result.andThen_ok,Sem.run_pure]),hr.wrote hw hm hid rfl ?_,.undef,fun j b' o' k hj hmj hk hlv => ?_,fun j hj _ => by rw [List.getElem?_set_ne (Ne.symm (by simpa using hj))]⟩
  ·refine ⟨fun r1 row1 h1 => ?_,putCells arr (ob + r * es' + off) (a.eval y).cells.toList,U,wcells_at (Array.getElem?_eq_some_iff.1 hb).1,fun r1 j row1 x1 h1 hx1 => ?_⟩
   ·rw [List.getElem?_set] at h1
    split at h1
    ·split at h1 <;> simp at h1
     subst h1; omega
    ·exact hes r1 row1 h1
   ·rw [List.getElem?_set] at h1
    rw [putCells_get _ _ _ _ (by simpa using hroom)]
    simp only [Array.length_toList]
    split at h1
    ·rename_i e
     subst e
     split at h1 <;> simp at h1
     subst h1
     rw [g3] at hx1
     split at hx1
     ·rename_i hc
      have hc' : ob + r * es' + off ≤ ob + r * es' + j ∧ ob + r * es' + j < ob + r * es' + off + (a.eval y).cells.size := by omega
      simp only [hc',and_self,if_true]
      have hj : j - off < (a.eval y).cells.size := by omega
      refine ⟨(a.eval y).cells[j - off],?_,(hl2 (j - off) _ x1 (by simp [hj]) hx1).stab hmv.up hmv.frozen⟩
      rw [show ob + r * es' + j - (ob + r * es' + off) = j - off from by omega]
      simp [hj]
     ·rename_i hc
      have hc' : ¬ (ob + r * es' + off ≤ ob + r * es' + j ∧ ob + r * es' + j < ob + r * es' + off + (a.eval y).cells.size) := by omega
      simp only [hc',if_false]
      obtain ⟨u,hu,hf⟩ := hcell r j row x1 hrow hx1
      exact ⟨u,hu,hf.stab hmv.up hmv.frozen⟩
    ·rename_i hne
     have hj : j < es' := by rw [← hes r1 row1 h1]; exact (List.getElem?_eq_some_iff.1 hx1).1
     have hc' : ¬ (ob + r * es' + off ≤ ob + r1 * es' + j ∧ ob + r1 * es' + j < ob + r * es' + off + (a.eval y).cells.size) := by
      rcases Nat.lt_or_gt_of_ne (Ne.symm hne) with hlt | hgt
      ·have := row_before (k := off) hlt hj; omega
      ·have := row_before (es := es') (r := r1) (r' := r) (j := off + fs.length - 1) (k := j) hgt (by omega); omega
     simp only [hc',if_false]
     obtain ⟨u,hu,hf⟩ := hcell r1 j row1 x1 h1 hx1
     exact ⟨u,hu,hf.stab hmv.up hmv.frozen⟩
  ·refine hw.other b' (fun e => ?_)
   subst e
   exact hr.heap.inj j id' k _ b' o' ob (by simpa using hj) hk hid hlv rfl hmj hm
 ·rename_i cs
  obtain ⟨b',o',arr,U,hloc,hb,hcell⟩ := hr.heap.blk id' _ _ hm hid
  simp at hloc
  obtain ⟨rfl,rfl⟩ := hloc
  exact eff_storeB hr ho hi hm hae hid rfl hb hcell hvv hs
 ·cases hs
/-! ### Slices that are made -/
theorem modCells_get {z : Array Value} {n i : Nat} (hz : 0 < z.size) (hi : i < n) : ((Array.range n).map (fun x => z[x % z.size]!))[i]? = z[i % z.size]? := by
 have : i % z.size < z.size := Nat.mod_lt _ hz
 simp [hi,this]
theorem mul_add_mod' (r es j : Nat) (hj : j < es) : (r * es + j) % es = j := by
 rw [Nat.add_comm,Nat.mul_comm,Nat.add_mul_mod_self_left,Nat.mod_eq_of_lt hj]
theorem eff_makeSlice (hr : RelSM w0 S0 m0 w S m a st) {o : Oper} {T e : TypeId} {l c : Operand} (ho : o.op = .makeSlice T l c) {i ie : TI} (hi : tiOf P T = some i) (hd : i.desc = .slice e) (hie : tiOf P e = some ie)
  {z : List FV} (hz : ie.zero = some z) {x y : AV} (hx : ev st.t l = some x) (hy : ev st.t c = some y) {n k : Int} (hn : asI x = some n) (hk : asI y = some k)
  (hpos : 0 < ie.size) (hzl : z.length = ie.size) (h0 : 0 ≤ n) (hnk : n = k) (hb : ie.bytes * n ≤ 140737488355328) (hmax : n ≤ 9223372036854775807) :
  EffOk P w0 S0 m0 w S m a st o (.ref st.h.length ie.size 0 n.toNat) (st.h ++ [.plain ie.size (List.replicate n.toNat z)]) [] := by
 subst hnk
 obtain ⟨_,info,hinfo,hsz,hby,hzz⟩ := tiOf_spec hie
 obtain ⟨zv,hzv,hzc⟩ := hzz z hz
 obtain ⟨k1,e1⟩ := asI_inv hn (ev_rel hr.tmps hx)
 obtain ⟨k2,e2⟩ := asI_inv hk (ev_rel hr.tmps hy)
 have hu : P.underlying T = some (.slice e) := by rw [← hd]; exact (tiOf_spec hi).1
 have hrun := run_make (P := P) w T e info zv hu hinfo hzv k1 k2 n n h0 (Int.le_refl _) (by rw [hby]; omega) hmax
 obtain ⟨hzl1,hzr⟩ := ofCells_rel hzc
 have hzs : zv.cells.size = ie.size := by rw [← hzl,← hzl1]; simp
 have hmade : madeCells zv.cells (n.toNat * info.size) = (Array.range (n.toNat * ie.size)).map (fun x => zv.cells[x % zv.cells.size]!) := by
  rw [hsz]; rfl
 refine eff_new_slice hr (arr := madeCells zv.cells (n.toNat * info.size)) (T := e) (c := n.toNat) [] ?_ (Nat.le_refl _) ?_ ⟨fun r row hrow => ?_,_,_,wpush_new _ _,fun r j row v hrow hv => ?_⟩
 ·simp only [execOp,ho,e1,e2,Sem.run_bind,hrun,Result.andThen_ok,Sem.run_pure]
  rfl
 ·rw [hmade]; simp
 ·rw [List.getElem?_replicate] at hrow
  split at hrow <;> simp at hrow
  rw [← hrow,hzl]
 ·rw [List.getElem?_replicate] at hrow
  split at hrow <;> simp at hrow
  rename_i hlt
  subst hrow
  have hj : j < ie.size := by rw [← hzl]; exact (List.getElem?_eq_some_iff.1 hv).1
  have hidx : r * ie.size + j < n.toNat * ie.size := by
   have := row_before (es := ie.size) (r := n.toNat) (r' := r) (j := j) (k := 0) hlt hj
   omega
  rw [hmade,Nat.zero_add,modCells_get (by omega) hidx,hzs,mul_add_mod' r ie.size j hj]
  exact ⟨zv.cells[j]'(by omega),by simp,hzr _ _ j _ v (by simp) hv⟩
theorem chunk_get {α : Type} (es : Nat) : ∀ (n : Nat) (l : List α) (r : Nat),(chunk es n l)[r]? = if r < n then some ((l.drop (r * es)).take es) else none
 | 0,l,r => by simp [chunk]
 | n + 1,l,r => by
  cases r with
  | zero => simp [chunk]
  | succ r =>
   simp only [chunk,List.getElem?_cons_succ,chunk_get es n,Nat.add_lt_add_iff_right,List.drop_drop]
   rw [Nat.succ_mul,Nat.add_comm es]
theorem flatN_get {α : Type} : ∀ (n : Nat) (l : List α) (r j : Nat),r < n → j < l.length → (flatN n l)[r * l.length + j]? = l[j]?
 | 0,l,r,j,h,_ => by omega
 | n + 1,l,0,j,_,hj => by simp only [flatN,Nat.zero_mul,Nat.zero_add]; rw [List.getElem?_append_left hj]
 | n + 1,l,r + 1,j,h,hj => by
  simp only [flatN]
  rw [List.getElem?_append_right (by rw [Nat.succ_mul]; omega),← flatN_get n l r j (by omega) hj]
  congr 1
  rw [Nat.succ_mul]; omega
theorem flatN_length {α : Type} : ∀ (n : Nat) (l : List α),(flatN n l).length = n * l.length
 | 0,l => by simp [flatN]
 | n + 1,l => by simp only [flatN,List.length_append,flatN_length n l,Nat.succ_mul]; omega
theorem bs_core (hr : RelSM w0 S0 m0 w S m a st) {o : Oper} {T e : TypeId} {n : Nat} {ps : Array (Nat × Operand)} (ho : o.op = .buildSlice T n ps) {i ie : TI} (hi : tiOf P T = some i) (hd : i.desc = .slice e)
  (hie : tiOf P e = some ie) {z : List FV} (hz : ie.zero = some z) (hpos : 0 < ie.size) (hzl : z.length = ie.size) (hmax : n * ie.size ≤ 16777216) {parts : List (Nat × AV)} (hp : evParts st.t ps.toList = some parts)
  {cs : List AV} (hf : fillA (fun i => some (i * ie.size,ie.size)) (flatN n (z.map .fv)) parts = some cs) :
  ∃ arr' : Array Value,LRel w S m arr'.toList cs ∧ cs.length = n * ie.size ∧ (execOp a.eval o).run P w = .ok (.value (.slice (some ⟨w.heap.size,0,none⟩) n n)) (wpush w (.cells arr' e)) := by
 obtain ⟨hl,hrel⟩ := evParts_rel hr.tmps hp
 obtain ⟨zv,hzv,hzc⟩ := ti_zero hie hz w
 obtain ⟨hzl1,hzr⟩ := ofCells_rel hzc
 have hzs : zv.cells.size = ie.size := by rw [← hzl,← hzl1]; simp
 have hcells : LRel w S m ((Array.range (n * ie.size)).map (fun x => zv.cells[x % zv.cells.size]!)).toList (flatN n (z.map .fv)) := by
  refine ⟨by simp [flatN_length,hzl],fun k v x hv hx => ?_⟩
  have hk : k < n * ie.size := by have := (List.getElem?_eq_some_iff.1 hv).1; simpa using this
  simp only [Array.getElem?_toList] at hv
  rw [modCells_get (by omega) hk,hzs] at hv
  have hmod : k % ie.size < ie.size := Nat.mod_lt _ hpos
  have hdiv : k / ie.size < n := Nat.div_lt_of_lt_mul (by rw [Nat.mul_comm]; exact hk)
  have := flatN_get n (z.map AV.fv) (k / ie.size) (k % ie.size) hdiv (by simp; omega)
  rw [show k / ie.size * (z.map AV.fv).length + k % ie.size = k from by simp [hzl]; rw [Nat.mul_comm]; exact Nat.div_add_mod k ie.size] at this
  rw [this] at hx
  simp only [List.getElem?_map,Option.map_eq_some_iff] at hx
  obtain ⟨y,hy,rfl⟩ := hx
  exact .fv _ _ (hzr w S _ v y (by simpa using hv) hy)
 obtain ⟨arr',hfill,hrel'⟩ := fill_rel (w := w) (S := S) (m := m) (fun i => some (i * ie.size,ie.size)) _ parts _ _ cs hl hrel hcells hf
 have hcl : cs.length = n * ie.size := by
  have : ∀ (qs : List (Nat × AV)) (c c' : List AV),fillA (fun i => some (i * ie.size,ie.size)) c qs = some c' → c'.length = c.length := by
   intro qs
   induction qs with
   | nil => intro c c' h; simp [fillA] at h; rw [h]
   | cons q qs ih =>
    intro c c' h
    obtain ⟨i,v⟩ := q
    simp only [fillA] at h
    split at h
    case h_2 => cases h
    split at h
    case isFalse => cases h
    simp only [Option.bind_eq_some_iff] at h
    obtain ⟨c1,hc1,h⟩ := h
    rw [ih _ _ h,(splice_get hc1).1]
  rw [this _ _ _ hf,flatN_length,List.length_map,hzl]
 refine ⟨arr',hrel',hcl,?_⟩
 have hcond : ¬ (n * ie.size > 2 ^ 24) := by omega
 have e0 : ∀ f : Nat → Value,Array.map f (Array.range 0) = #[] := fun f => by simp
 have hlist : (ps.map fun (i,x) => (i,a.eval x)).toList = (ps.toList.map fun (i,x) => (i,a.eval x)) := by simp
 simp only [execOp,ho,Instr.buildSlice,Sem.run_bind,ti_under hi,hd,Result.andThen_ok,ti_size hie,hcond,if_false]
 by_cases h0 : n * ie.size = 0
 ·rw [h0,e0] at hfill
  simp only [h0,if_true,Sem.run_bind,Sem.run_pure,Result.andThen_ok,e0,hlist,hfill]
  rfl
 ·simp only [h0,if_false,Sem.run_bind,Sem.run_pure,Result.andThen_ok,hzv,hlist,hfill]
  rfl
theorem eff_buildSlice (hr : RelSM w0 S0 m0 w S m a st) {o : Oper} {T e : TypeId} {n : Nat} {ps : Array (Nat × Operand)} (ho : o.op = .buildSlice T n ps) {i ie : TI} (hi : tiOf P T = some i) (hd : i.desc = .slice e)
  (hie : tiOf P e = some ie) {z : List FV} (hz : ie.zero = some z) (hpos : 0 < ie.size) (hzl : z.length = ie.size) (hmax : n * ie.size ≤ 16777216) {parts : List (Nat × AV)} (hp : evParts st.t ps.toList = some parts)
  {cs : List AV} (hf : fillA (fun i => some (i * ie.size,ie.size)) (flatN n (z.map .fv)) parts = some cs) {fs : List FV} (hfs : toFs cs = some fs) :
  EffOk P w0 S0 m0 w S m a st o (.ref st.h.length ie.size 0 n) (st.h ++ [.plain ie.size (chunk ie.size n fs)]) [] := by
 obtain ⟨arr',hrel',hcl,hrun⟩ := bs_core hr ho hi hd hie hz hpos hzl hmax hp hf
 obtain ⟨hfl,hfr⟩ := toFs_rel hrel' hfs
 have hlen : fs.length = n * ie.size := by rw [← hfl,hrel'.1,hcl]
 have hasz : arr'.size = n * ie.size := by have := hrel'.1; simp at this; omega
 refine eff_new_slice hr (arr := arr') (T := e) (c := n) [] hrun (Nat.le_refl _) (by omega) ⟨fun r row hrow => ?_,_,_,wpush_new _ _,fun r j row v hrow hv => ?_⟩
 ·rw [chunk_get] at hrow
  split at hrow <;> simp at hrow
  rename_i hlt
  subst hrow
  have : (r + 1) * ie.size ≤ n * ie.size := Nat.mul_le_mul_right _ hlt
  rw [Nat.succ_mul] at this
  simp; omega
 ·rw [chunk_get] at hrow
  split at hrow <;> simp at hrow
  rename_i hlt
  subst hrow
  rw [List.getElem?_take] at hv
  split at hv
  case isFalse => cases hv
  rename_i hj
  rw [List.getElem?_drop] at hv
  have hk := (List.getElem?_eq_some_iff.1 hv).1
  have hk' : r * ie.size + j < arr'.size := by omega
  rw [Nat.zero_add]
  exact ⟨arr'[r * ie.size + j],by simp [hk'],(hfr _ _ v (by simp [hk']) hv).stab (fun _ h => h) (fun b _ hb => wpush_old w _ hb)⟩
/-- A new slice whose cells may be of any kind. -/
theorem eff_new_sliceB (hr : RelSM w0 S0 m0 w S m a st) {o : Oper} {arr : Array Value} {T : TypeId} {es n c : Nat} {cs : List AV} (W : List Nat)
  (hrun : (execOp a.eval o).run P w = .ok (.value (.slice (some ⟨w.heap.size,0,none⟩) n c)) (wpush w (.cells arr T))) (hnc : n ≤ c) (hc : c * es ≤ arr.size)
  (hrel : LRel w S m arr.toList cs) :
  EffOk P w0 S0 m0 w S m a st o (.ref st.h.length es 0 n) (st.h ++ [.box cs]) W := by
 have hx : BRel (wpush w (.cells arr T)) S (m ++ [some (w.heap.size,0)]) (some (w.heap.size,0)) (.box cs) := by
  refine ⟨w.heap.size,0,arr,T,rfl,wpush_new _ _,fun j x hx => ?_⟩
  have hj : j < arr.size := by have := (List.getElem?_eq_some_iff.1 hx).1; have h1 := hrel.1; simp at h1; omega
  refine ⟨arr[j],by simp [hj],?_⟩
  exact (hrel.2 j arr[j] x (by simp [hj]) hx).move (Move.push _ _ (fun b o' e => by simp at e; omega)) hr.heap.lowm
 refine ⟨_,_,_,wp_value hrun,hr.push _ _ hx,?_,fun i b o' k _ hi _ _ => wpush_old w _ (hr.heap.lowm i b o' hi),fun i _ hi => by rw [List.getElem?_append_left hi]⟩
 have := VRel.ref (w := wpush w (.cells arr T)) (S := S) (m := m ++ [some (w.heap.size,0)]) st.h.length es 0 n w.heap.size 0 c (by rw [← hr.heap.len]; simp) hnc (fun arr' T' fr ha => by
  rw [wpush_new] at ha
  simp at ha
  obtain ⟨rfl,_,_⟩ := ha
  simpa using hc)
 simpa using this
theorem eff_buildSliceB (hr : RelSM w0 S0 m0 w S m a st) {o : Oper} {T e : TypeId} {n : Nat} {ps : Array (Nat × Operand)} (ho : o.op = .buildSlice T n ps) {i ie : TI} (hi : tiOf P T = some i) (hd : i.desc = .slice e)
  (hie : tiOf P e = some ie) {z : List FV} (hz : ie.zero = some z) (hpos : 0 < ie.size) (hzl : z.length = ie.size) (hmax : n * ie.size ≤ 16777216) {parts : List (Nat × AV)} (hp : evParts st.t ps.toList = some parts)
  {cs : List AV} (hf : fillA (fun i => some (i * ie.size,ie.size)) (flatN n (z.map .fv)) parts = some cs) :
  EffOk P w0 S0 m0 w S m a st o (.ref st.h.length ie.size 0 n) (st.h ++ [.box cs]) [] := by
 obtain ⟨arr',hrel',hcl,hrun⟩ := bs_core hr ho hi hd hie hz hpos hzl hmax hp hf
 refine eff_new_sliceB hr (arr := arr') (T := e) (c := n) [] hrun (Nat.le_refl _) ?_ hrel'
 have := hrel'.1; simp at this; omega
end
end Go.Abs
/- append. -/
namespace Go.Abs
variable [Kn]
set_option linter.unusedSectionVars false
set_option linter.unusedVariables false
set_option linter.unusedSimpArgs false
section
variable {P : Program} {w0 : World} {S0 : Nat → Prop} {m0 : List Loc} {w : World} {S : Nat → Prop} {m : List Loc} {a : Act} {st : St}
/-- A block dies. -/
theorem HRel.kill {h : List Blk} (hh : HRel w S m h) (id : Nat) : HRel w S m (h.set id .dead) where
 len := by simp [hh.len]
 blk := fun i l z hi hz => by
  rw [List.getElem?_set] at hz
  split at hz
  ·split at hz <;> simp at hz
   subst hz
   trivial
  ·exact hh.blk i l z hi hz
 inj := fun i j bi bj b o1 o2 hij hi hj li lj mi mj => by
  have conv : ∀ (i : Nat) (bi : Blk),(h.set id .dead)[i]? = some bi → bi.live = true → h[i]? = some bi := fun i bi hi li => by
   rw [List.getElem?_set] at hi
   split at hi
   ·split at hi <;> simp at hi
    subst hi; simp [Blk.live] at li
   ·exact hi
  exact hh.inj i j bi bj b o1 o2 hij (conv i bi hi li) (conv j bj hj lj) li lj mi mj
 out := fun i bi b o1 hi li mi => by
  rw [List.getElem?_set] at hi
  split at hi
  ·split at hi <;> simp at hi
   subst hi; simp [Blk.live] at li
  ·exact hh.out i bi b o1 hi li mi
 low := hh.low
 lowm := hh.lowm
/-- A block goes by another number from now on, and begins elsewhere. -/
theorem HRel.relocate {h : List Blk} (hh : HRel w S m h) {id b o o' : Nat} {x y : Blk} (hm : m[id]? = some (some (b,o))) (hx : h[id]? = some x) (hl : x.live = true)
  (hy : BRel w S (m ++ [some (b,o')]) (some (b,o')) y) : HRel w S (m ++ [some (b,o')]) (h.set id .dead ++ [y]) where
 len := by simp [hh.len]
 blk := fun i l z hi hz => by
  rw [List.getElem?_append] at hi hz
  rw [List.length_set,← hh.len] at hz
  split at hi
  ·rename_i hlt
   simp only [hlt,if_true] at hz
   exact ((hh.kill id).blk i l z hi hz).stab (fun _ h => h) (fun _ _ _ => rfl) (Sub.append _ _) (fun _ b _ _ => SameShape.refl w b) (fun _ _ _ => rfl)
  ·rename_i hge
   simp only [hge,if_false] at hz
   cases hk : i - m.length with
   | zero => rw [hk] at hi hz; simp at hi hz; subst hi; subst hz; exact hy
   | succ n => rw [hk] at hi; simp at hi
 inj := fun i j bi bj b' o1 o2 hij hi hj li lj mi mj => by
  have old : ∀ (i : Nat) (bi : Blk) (o1 : Nat),i < m.length → (h.set id .dead ++ [y])[i]? = some bi → bi.live = true → i ≠ id ∧ h[i]? = some bi := fun i bi o1 hlt hi li => by
   rw [List.getElem?_append_left (by simp [← hh.len]; exact hlt),List.getElem?_set] at hi
   split at hi
   ·split at hi <;> simp at hi
    subst hi; simp [Blk.live] at li
   ·rename_i hne; exact ⟨Ne.symm hne,hi⟩
  rw [List.getElem?_append] at mi mj
  split at mi <;> split at mj
  ·rename_i l1 l2
   obtain ⟨_,h1⟩ := old i bi o1 l1 hi li
   obtain ⟨_,h2⟩ := old j bj o2 l2 hj lj
   exact hh.inj i j bi bj b' o1 o2 hij h1 h2 li lj mi mj
  ·rename_i l1 l2
   obtain ⟨n1,h1⟩ := old i bi o1 l1 hi li
   cases hk : j - m.length with
   | zero => rw [hk] at mj; simp at mj; obtain ⟨rfl,rfl⟩ := mj; exact hh.inj i id bi x b o1 o n1 h1 hx li hl mi hm
   | succ n => rw [hk] at mj; simp at mj
  ·rename_i l1 l2
   obtain ⟨n1,h1⟩ := old j bj o2 l2 hj lj
   cases hk : i - m.length with
   | zero => rw [hk] at mi; simp at mi; obtain ⟨rfl,rfl⟩ := mi; exact hh.inj j id bj x b o2 o n1 h1 hx lj hl mj hm
   | succ n => rw [hk] at mi; simp at mi
  ·have e1 : i - m.length = 0 := by
    cases hk : i - m.length with
    | zero => rfl
    | succ n => rw [hk] at mi; simp at mi
   have e2 : j - m.length = 0 := by
    cases hk : j - m.length with
    | zero => rfl
    | succ n => rw [hk] at mj; simp at mj
   omega
 out := fun i bi b' o1 hi li mi => by
  rw [List.getElem?_append] at mi
  split at mi
  ·rename_i hlt
   rw [List.getElem?_append_left (by simp [← hh.len]; exact hlt)] at hi
   exact (hh.kill id).out i bi b' o1 hi li mi
  ·cases hk : i - m.length with
   | zero => rw [hk] at mi; simp at mi; obtain ⟨rfl,rfl⟩ := mi; exact hh.out id x b o hx hl hm
   | succ n => rw [hk] at mi; simp at mi
 low := hh.low
 lowm := fun i b' o1 mi => by
  rw [List.getElem?_append] at mi
  split at mi
  ·exact hh.lowm i b' o1 mi
  ·cases hk : i - m.length with
   | zero => rw [hk] at mi; simp at mi; obtain ⟨rfl,rfl⟩ := mi; exact hh.lowm id b o hm
   | succ n => rw [hk] at mi; simp at mi
theorem setCells_eq : ∀ (vs : List Value) (w : World) (b p : Nat) (arr : Array Value) (T : TypeId),w.heap[b]? = some (.cells arr T (0,0)) → w.setCells b p vs = wcells w b (putCells arr p vs) T (0,0)
 | [],w,b,p,arr,T,h => by simp [World.setCells,putCells,wcells_self h]
 | v :: vs,w,b,p,arr,T,h => by
  have hb : b < w.heap.size := (Array.getElem?_eq_some_iff.1 h).1
  simp only [World.setCells,setCell_eq h,putCells]
  rw [setCells_eq vs _ b (p + 1) _ T (wcells_at hb),wcells_twice]
/-- Cells that stand for rows. -/
def NewsRel (w : World) (S : Nat → Prop) (es : Nat) (ys : List (List FV)) (news : List Value) : Prop :=
 news.length = ys.length * es ∧ (∀ (r : Nat) (row : List FV),ys[r]? = some row → row.length = es) ∧
 ∀ (r j : Nat) (row : List FV) (c : FV),ys[r]? = some row → row[j]? = some c → ∃ u,news[r * es + j]? = some u ∧ FRel w S u c
theorem NewsRel.one {es : Nat} {ys : List (List FV)} {news : List Value} (h : NewsRel w S es ys news) (hpos : 0 < es) : ∀ u ∈ news,u.oneCell' = true := by
 intro u hu
 obtain ⟨k,hk,rfl⟩ := List.getElem_of_mem hu
 obtain ⟨h1,h2,h3⟩ := h
 have hdiv : k / es < ys.length := Nat.div_lt_of_lt_mul (by rw [Nat.mul_comm,← h1]; exact hk)
 have hmod : k % es < es := Nat.mod_lt _ hpos
 have hrl := h2 (k / es) ys[k / es] (by simp [hdiv])
 obtain ⟨v,hv,hf⟩ := h3 (k / es) (k % es) ys[k / es] (ys[k / es][k % es]'(by omega)) (by simp [hdiv]) (by simp)
 rw [show k / es * es + k % es = k from by rw [Nat.mul_comm]; exact Nat.div_add_mod k es] at hv
 simp [hk] at hv
 subst hv
 exact hf.one.2
theorem src_sound (hh : HRel w S m st.h) {tx : TypeId} {iu : TI} (hu : tiOf P tx = some iu) {es : Nat} (hpos : 0 < es) {x : AV} {v : Value} (hx : VRel w S m v x) {ys : List (List FV)} (hs : srcRows iu es st.h x = some ys) :
  ∃ news,Src P es tx v ys.length news w ∧ NewsRel w S es ys news := by
 have hk := (tiOf_spec hu).1
 unfold srcRows at hs
 split at hs
 ·rename_i e es' ys' hd
  split at hs <;> simp at hs
  rename_i he
  subst he; subst hs
  rw [hd] at hk
  cases hx with
  | fv _ _ hf =>
   cases hf with
   | lst A n c _ _ u ad hn hcp hes ha hS hc hr =>
    rcases Nat.eq_zero_or_pos n with h0 | h0
    ·have hnil : ys' = [] := List.eq_nil_of_length_eq_zero (by omega)
     subst hnil
     subst h0
     refine ⟨[],?_,by simp,by simp,fun r j row c h => by simp at h⟩
     cases A with
     | none => exact Src.ofNil w hk c
     | some ad' => exact Src.ofSlice w hk ad' 0 c [] (by simp) (by simp) (by simp)
    ·have := ha h0
     subst this
     have hnr : NewsRel w S es' ys' ((List.range (n * es')).map fun k => u (k / es') (k % es')) := by
      refine ⟨by simp [hn],hes,fun r j row c h1 h2 => ⟨u r j,?_,hr r j row c h1 h2⟩⟩
      have hr' : r < n := by rw [← hn]; exact (List.getElem?_eq_some_iff.1 h1).1
      have hj : j < es' := by rw [← hes r row h1]; exact (List.getElem?_eq_some_iff.1 h2).1
      have hlt : r * es' + j < n * es' := by have := row_before (k := 0) hr' hj; omega
      simp only [List.getElem?_map,List.getElem?_range hlt,Option.map_some,Option.some.injEq]
      rw [mul_add_mod' r es' j hj]
      congr 1
      rw [Nat.add_comm,Nat.mul_comm,Nat.add_mul_div_left _ _ hpos,Nat.div_eq_of_lt hj,Nat.zero_add]
     refine ⟨_,?_,hnr⟩
     rw [hn]
     refine Src.ofSlice w hk ad n c _ (by simp) (fun k y hy => ?_) (hnr.one hpos)
     have hlt : k < n * es' := by have := (List.getElem?_eq_some_iff.1 hy).1; simpa using this
     simp only [List.getElem?_map,List.getElem?_range hlt,Option.map_some,Option.some.injEq] at hy
     subst hy
     have := hc (k / es') (k % es') (Nat.div_lt_of_lt_mul (by rw [Nat.mul_comm]; exact hlt)) (Nat.mod_lt _ hpos)
     rwa [show k / es' * es' + k % es' = k from by rw [Nat.mul_comm]; exact Nat.div_add_mod k es'] at this
 ·rename_i e hd
  simp at hs; subst hs
  rw [hd] at hk
  obtain rfl := hx.nils_inv
  exact ⟨[],Src.ofNil w hk 0,by simp,by simp,fun r j row c h => by simp at h⟩
 ·rename_i e id es' off len hd
  rw [hd] at hk
  generalize hid : st.h[id]? = k at hs
  split at hs
  case h_2 => cases hs
  rename_i es'' rows
  split at hs
  case isFalse => cases hs
  rename_i hc
  simp only [Option.some.injEq] at hs
  obtain ⟨rfl,rfl,hle⟩ := hc
  have hyl : ((rows.drop off).take len).length = len := by simp; omega
  rw [← hs,hyl]
  cases hx with
  | ref _ _ _ _ b o c hm hl hcap =>
   obtain ⟨hes,arr,U,hb,hcell⟩ := hh.blk id _ _ hm hid
   have hex : ∀ k,k < len * es'' → ∃ u,arr[o + off * es'' + k]? = some u := fun k hk => by
    have hdiv : k / es'' < len := Nat.div_lt_of_lt_mul (by rw [Nat.mul_comm]; exact hk)
    have hmod : k % es'' < es'' := Nat.mod_lt _ hpos
    have hrl := hes (off + k / es'') (rows[off + k / es'']'(by omega)) (by simp)
    obtain ⟨u,hu,_⟩ := hcell (off + k / es'') (k % es'') (rows[off + k / es'']'(by omega)) ((rows[off + k / es'']'(by omega))[k % es'']'(by omega)) (by simp) (by simp)
    refine ⟨u,?_⟩
    rw [← hu]
    congr 1
    rw [Nat.add_mul]
    have := Nat.div_add_mod k es''
    rw [Nat.mul_comm] at this
    omega
   have hnr : NewsRel w S es'' ((rows.drop off).take len) ((List.range (len * es'')).map fun k => arr.getD (o + off * es'' + k) undef) := by
    refine ⟨by rw [hyl]; simp,fun r row hrow => ?_,fun r j row x1 hrow hx1 => ?_⟩
    ·rw [List.getElem?_take] at hrow
     split at hrow
     case isFalse => cases hrow
     rw [List.getElem?_drop] at hrow
     exact hes _ _ hrow
    ·rw [List.getElem?_take] at hrow
     split at hrow
     case isFalse => cases hrow
     rename_i hr'
     rw [List.getElem?_drop] at hrow
     have hj : j < es'' := by rw [← hes _ row hrow]; exact (List.getElem?_eq_some_iff.1 hx1).1
     have hlt : r * es'' + j < len * es'' := by have := row_before (k := 0) hr' hj; omega
     obtain ⟨u,hu,hf⟩ := hcell (off + r) j row x1 hrow hx1
     refine ⟨u,?_,hf⟩
     simp only [List.getElem?_map,List.getElem?_range hlt,Option.map_some,Option.some.injEq]
     rw [show o + off * es'' + (r * es'' + j) = o + (off + r) * es'' + j from by rw [Nat.add_mul]; omega]
     simp [Array.getD_eq_getD_getElem?,hu]
   refine ⟨_,Src.ofSlice w hk _ len c _ (by simp) (fun k y hy => ?_) (hnr.one hpos),hnr⟩
   have hlt : k < len * es'' := by have := (List.getElem?_eq_some_iff.1 hy).1; simpa using this
   simp only [List.getElem?_map,List.getElem?_range hlt,Option.map_some,Option.some.injEq] at hy
   subst hy
   obtain ⟨u,hu⟩ := hex k hlt
   rw [add_at]
   simp [World.cell?,hb,Array.getD_eq_getD_getElem?,hu]
  | refz _ _ _ A =>
   refine ⟨[],?_,by simp,fun r row h => by simp at h,fun r j row c h => by simp at h⟩
   cases A with
   | none => exact Src.ofNil w hk 0
   | some ad' => exact Src.ofSlice w hk ad' 0 0 [] (by simp) (by simp) (by simp)
 ·rename_i s hd
  split at hs <;> simp at hs
  rename_i he
  subst he; subst hs
  rw [hd] at hk
  obtain rfl := hx.str_inv
  have hsz : (⟨s.toArray⟩ : ByteArray).size = s.length := by simp [ByteArray.size]
  have := Src.ofString (P := P) w hk ⟨s.toArray⟩
  rw [hsz] at this
  refine ⟨_,by simpa using this,by simp [byteCells],fun r row h => ?_,fun r j row c h1 h2 => ?_⟩
  ·simp only [List.getElem?_map,Option.map_eq_some_iff] at h
   obtain ⟨b,_,rfl⟩ := h; rfl
  ·simp only [List.getElem?_map,Option.map_eq_some_iff] at h1
   obtain ⟨b,hb,rfl⟩ := h1
   cases j with
   | zero =>
    simp at h2; subst h2
    exact ⟨.int .u8 b.toNat,by simp [byteCells,hb],.int _ _⟩
   | succ j => simp at h2
 ·cases hs
theorem VRel.wider {m' : List Loc} (h : Sub m m') {v : Value} {x : AV} (hv : VRel w S m v x) : VRel w S m' v x :=
 hv.stab (fun _ h => h) (fun _ _ _ => rfl) h (fun _ b _ _ => SameShape.refl w b)
/-- A row made anew. -/
theorem eff_grown (hr : RelSM w0 S0 m0 w S m a st) {o : Oper} {es n c : Nat} {ie : TypeId} {rows : List (List FV)} {all : List Value} {rest : Array Value} {W : List Nat} {h1 : List Blk}
  (hh : HRel w S m h1) (hlen : h1.length = st.h.length) (hsame : ∀ i,i ∉ W → h1[i]? = st.h[i]?)
  (hrun : (execOp a.eval o).run P w = .ok (.value (.slice (some ⟨w.heap.size,0,none⟩) n c)) (w.drew.alloc (.cells (all.toArray ++ rest) ie)))
  (hnc : n ≤ c) (hsz : c * es ≤ all.length + rest.size) (hn : rows.length = n) (hall : NewsRel w S es rows all) :
  EffOk P w0 S0 m0 w S m a st o (.ref st.h.length es 0 n) (h1 ++ [.plain es rows]) W := by
 let w1 := wpush w (.cells (all.toArray ++ rest) ie)
 have hm1 : Move w S m w1 S (m ++ [some (w.heap.size,0)]) := Move.push _ _ (fun b o' e => by simp at e; omega)
 have hb : BRel w1 S (m ++ [some (w.heap.size,0)]) (some (w.heap.size,0)) (.plain es rows) := by
  obtain ⟨e1,e2,e3⟩ := hall
  refine ⟨e2,_,_,wpush_new _ _,fun r j row x hrow hx => ?_⟩
  obtain ⟨u,hu,hf⟩ := e3 r j row x hrow hx
  refine ⟨u,?_,hf.stab (fun _ h => h) (fun b _ hb => wpush_old w _ hb)⟩
  rw [Nat.zero_add,Array.getElem?_append_left (by have := (List.getElem?_eq_some_iff.1 hu).1; simpa using this)]
  simpa using hu
 have hh1 := hh.push (.cells (all.toArray ++ rest) ie) _ _ (.inl rfl) hb
 have hr1 : RelSM w0 S0 m0 w1 S (m ++ [some (w.heap.size,0)]) a { st with h := h1 ++ [.plain es rows] } := hr.move hm1 hh1
 have hr2 : RelSM w0 S0 m0 (w.drew.alloc (.cells (all.toArray ++ rest) ie)) S (m ++ [some (w.heap.size,0)]) a { st with h := h1 ++ [.plain es rows] } := hr1.same_heap rfl rfl rfl rfl (Nat.le_succ _)
 refine ⟨_,_,_,wp_value hrun,hr2,?_,fun i b o' k _ hi _ _ => wpush_old w _ (hr.heap.lowm i b o' hi),fun i hi hlt => by rw [List.getElem?_append_left (by omega)]; exact hsame i hi⟩
 have := VRel.ref (w := w.drew.alloc (.cells (all.toArray ++ rest) ie)) (S := S) (m := m ++ [some (w.heap.size,0)]) st.h.length es 0 n w.heap.size 0 c (by rw [← hr.heap.len]; simp) hnc (fun arr' T' fr ha => by
  have ha' : (wpush w (.cells (all.toArray ++ rest) ie)).heap[w.heap.size]? = some (.cells arr' T' fr) := ha
  rw [wpush_new] at ha'
  simp at ha'
  obtain ⟨rfl,_,_⟩ := ha'
  simpa using hsz)
 simpa using this
theorem Move.virt (hlow : ∀ (i b o : Nat),m[i]? = some (some (b,o)) → b < w.heap.size) : Move w S m w S (m ++ [none]) where
 size := Nat.le_refl _
 os := rfl
 tape := rfl
 output := rfl
 drawn := fun _ => Nat.le_refl _
 same := fun _ _ _ => rfl
 frozen := fun _ _ _ => rfl
 shape := fun b _ => SameShape.refl w b
 up := fun _ h => h
 down := fun _ h => .inl h
 locs := fun i b o' hi => by
  rw [List.getElem?_append] at hi
  split at hi
  ·exact .inl ⟨i,o',hi⟩
  ·cases hk : i - m.length with
   | zero => rw [hk] at hi; simp at hi
   | succ n => rw [hk] at hi; simp at hi
 pre := fun i hi => by rw [List.getElem?_append_left hi]
theorem HRel.virt {h : List Blk} (hh : HRel w S m h) (x : Blk) (hx : BRel w S (m ++ [none]) none x) : HRel w S (m ++ [none]) (h ++ [x]) := by
 have old : ∀ (i b o : Nat),(m ++ [none])[i]? = some (some (b,o)) → m[i]? = some (some (b,o)) ∧ i < m.length := fun i b o hi => by
  rw [List.getElem?_append] at hi
  split at hi
  ·exact ⟨hi,by assumption⟩
  ·cases hk : i - m.length with
   | zero => rw [hk] at hi; simp at hi
   | succ n => rw [hk] at hi; simp at hi
 have oldh : ∀ (i : Nat) (bi : Blk),i < m.length → (h ++ [x])[i]? = some bi → h[i]? = some bi := fun i bi hi hb => by
  rw [List.getElem?_append_left (by rw [← hh.len]; exact hi)] at hb; exact hb
 refine ⟨by simp [hh.len],fun i l z hi hz => ?_,fun i j bi bj b o1 o2 hij hi hj li lj mi mj => ?_,fun i bi b o1 hi li mi => ?_,hh.low,fun i b o1 mi => hh.lowm i b o1 (old _ _ _ mi).1⟩
 ·rw [List.getElem?_append] at hi hz
  rw [← hh.len] at hz
  split at hi
  ·rename_i hlt
   simp only [hlt,if_true] at hz
   exact (hh.blk i l z hi hz).stab (fun _ h => h) (fun _ _ _ => rfl) (Sub.append _ _) (fun _ b _ _ => SameShape.refl w b) (fun _ _ _ => rfl)
  ·rename_i hge
   simp only [hge,if_false] at hz
   cases hk : i - m.length with
   | zero => rw [hk] at hi hz; simp at hi hz; subst hi; subst hz; exact hx
   | succ n => rw [hk] at hi; simp at hi
 ·obtain ⟨m1,l1⟩ := old _ _ _ mi
  obtain ⟨m2,l2⟩ := old _ _ _ mj
  exact hh.inj i j bi bj b o1 o2 hij (oldh i bi l1 hi) (oldh j bj l2 hj) li lj m1 m2
 ·obtain ⟨m1,l1⟩ := old _ _ _ mi
  exact hh.out i bi b o1 (oldh i bi l1 hi) li m1
theorem grownCap_le (w : World) (need old : Nat) (e : TypeId) : need ≤ grownCap w need old e := by
 show need ≤ need + _
 omega
theorem NewsRel.append {es : Nat} {xs ys : List (List FV)} {l k : List Value} (h1 : NewsRel w S es xs l) (h2 : NewsRel w S es ys k) : NewsRel w S es (xs ++ ys) (l ++ k) := by
 obtain ⟨a1,a2,a3⟩ := h1
 obtain ⟨b1,b2,b3⟩ := h2
 refine ⟨by simp [a1,b1,Nat.add_mul],fun r row h => ?_,fun r j row c h hc => ?_⟩
 ·rw [List.getElem?_append] at h
  split at h
  ·exact a2 r row h
  ·exact b2 _ row h
 ·rw [List.getElem?_append] at h
  split at h
  ·rename_i hlt
   obtain ⟨u,hu,hf⟩ := a3 r j row c h hc
   exact ⟨u,by rw [List.getElem?_append_left (List.getElem?_eq_some_iff.1 hu).1]; exact hu,hf⟩
  ·rename_i hge
   obtain ⟨u,hu,hf⟩ := b3 _ j row c h hc
   refine ⟨u,?_,hf⟩
   have : xs.length * es ≤ r * es := Nat.mul_le_mul_right _ (by omega)
   rw [List.getElem?_append_right (by omega),← hu]
   congr 1
   rw [a1,Nat.sub_mul]
   omega
theorem Move.ext {w' : World} (k : Move w S m w' S m) {b o : Nat} (hb : Owned m b) : Move w S m w' S (m ++ [some (b,o)]) where
 size := k.size
 os := k.os
 tape := k.tape
 output := k.output
 drawn := k.drawn
 same := k.same
 frozen := k.frozen
 shape := k.shape
 up := k.up
 down := k.down
 locs := fun i b' o' hi => by
  rw [List.getElem?_append] at hi
  split at hi
  ·exact k.locs i b' o' hi
  ·cases hk : i - m.length with
   | zero => rw [hk] at hi; simp at hi; obtain ⟨rfl,rfl⟩ := hi; exact .inl hb
   | succ n => rw [hk] at hi; simp at hi
 pre := fun i hi => by rw [List.getElem?_append_left hi]
theorem zeroCells_size (z : Array Value) (n : Nat) : (Builtin.zeroCells z n).size = n * z.size := by simp [Builtin.zeroCells]
theorem eff_append (hr : RelSM w0 S0 m0 w S m a st) {o : Oper} {as : Array Operand} {ts : Array TypeId} (ho : o.op = .call { callee := .builtin .append,args := as,argTypes := ts }) {s x : AV} {T U e : TypeId}
  (hv : evs st.t as.toList = some [s,x]) (hts : ts.toList = [T,U]) {i iu ie : TI} (hT : tiOf P T = some i) (hd : i.desc = .slice e) (hU : tiOf P U = some iu) (hie : tiOf P e = some ie)
  (hpos : 0 < ie.size) (hbp : 0 < ie.bytes) (hz : ie.zero.map List.length = some ie.size) {ys : List (List FV)} (hs : srcRows iu ie.size st.h x = some ys) {v : AV} {h' : List Blk} {W : List Nat} (ha : appendA ie st.h s ys = some (v,h',W)) :
  EffOk P w0 S0 m0 w S m a st o v h' W := by
 obtain ⟨y,z,hyz⟩ : ∃ y z,as = #[y,z] := by
  have := (evs_rel hr.tmps hv).1
  simp at this
  match as,this with
  | ⟨[y,z]⟩,_ => exact ⟨y,z,rfl⟩
 subst hyz
 have hrel := evs_rel hr.tmps hv
 have hsv : VRel w S m (a.eval y) s := hrel.2 0 _ s (by simp) rfl
 have hxv : VRel w S m (a.eval z) x := hrel.2 1 _ x (by simp) rfl
 have htsa : ts = #[T,U] := by apply Array.ext'; simpa using hts
 subst htsa
 obtain ⟨news,hsrc,hnews⟩ := src_sound hr.heap hU hpos hxv hs
 obtain ⟨_,info,hinfo,hsz,hby,hzz⟩ := tiOf_spec hie
 simp only [Option.map_eq_some_iff] at hz
 obtain ⟨zr,hzr,hzl⟩ := hz
 obtain ⟨zv,hzv,hzc⟩ := hzz zr hzr
 have hzsz : zv.cells.size = ie.size := by have := (ofCells_rel hzc).1; simp at this; omega
 have hu : P.underlying T = some (.slice e) := by rw [← hd]; exact (tiOf_spec hT).1
 rw [← hsz] at hsrc
 have hex : ∀ (val : Value) (w' : World),(Builtin.append_ #[T,U] o.type #[a.eval y,a.eval z]).run P w = .ok val w' → (execOp a.eval o).run P w = .ok (.value val) w' := fun val w' h => by
  simp [execOp,ho,resolve,invoke,builtin,h]
 generalize hay : a.eval y = sv at hsv hex
 have hmax : ∀ k : Nat,k * ie.bytes ≤ 140737488355328 → (k : Int) ≤ 9223372036854775807 := fun k hk => by
  have : k ≤ k * ie.bytes := Nat.le_mul_of_pos_right k hbp
  omega
 unfold appendA at ha
 split at ha
 ·split at ha
  case isFalse => cases ha
  rename_i hroom
  simp only [Option.some.injEq,Prod.mk.injEq] at ha
  obtain ⟨rfl,rfl,rfl⟩ := ha
  obtain rfl := hsv.nils_inv
  rcases Nat.eq_zero_or_pos ys.length with h0 | h0
  ·have hnil : ys = [] := List.eq_nil_of_length_eq_zero h0
   subst hnil
   have hnn : news = [] := List.eq_nil_of_length_eq_zero (by simpa using hnews.1)
   subst hnn
   have hrun := run_append_nothing (P := P) w T U o.type e info hu hinfo none 0 0 (Nat.le_refl _) (a.eval z) hsrc
   refine ⟨_,w,m ++ [none],wp_value (hex _ _ hrun),hr.move (Move.virt hr.heap.lowm) (hr.heap.virt _ ⟨by simp,rfl⟩),.refz _ _ _ _,fun _ _ _ _ _ _ _ _ => rfl,fun i _ hi => by rw [List.getElem?_append_left hi]⟩
  ·have hrun := run_append_grow_src (P := P) w T U o.type e info zv hu hinfo hzv none 0 0 [] (run_firstCells_none w.drew info.size 0 0 0) (a.eval z) ys.length news hsrc (by omega) (by have := hmax _ hroom; omega)
    (growslice_fits (by omega) (by rw [hby]; simpa using hroom))
   simp only [Nat.zero_add,List.nil_append] at hrun
   have hcap := grownCap_le w ys.length 0 e
   refine eff_grown hr hr.heap rfl (fun _ _ => rfl) (hex _ _ hrun) hcap ?_ rfl hnews
   rw [zeroCells_size,hnews.1,hzsz,← Nat.add_mul]
   exact Nat.mul_le_mul_right _ (by omega)
 ·rename_i id es off len
  generalize hid : st.h[id]? = k at ha
  split at ha
  case h_2 => cases ha
  rename_i es' rows
  split at ha
  case isFalse => cases ha
  rename_i hc
  obtain ⟨he1,rfl,hle,hroom⟩ := hc
  subst he1
  simp only [Option.some.injEq,Prod.mk.injEq] at ha
  obtain ⟨rfl,rfl,rfl⟩ := ha
  have hself : srcRows i ie.size st.h (.ref id ie.size off len) = some ((rows.drop off).take len) := by
   simp [srcRows,hd,hid,hle]
  obtain ⟨olds,hosrc,holds⟩ := src_sound hr.heap hT hpos hsv hself
  have hlen : ((rows.drop off).take len).length = len := by simp; omega
  rw [hlen] at hosrc
  have hgrow : ∀ (base : Option Addr) (c : Nat),sv = .slice base len c → c < len + ys.length →
    EffOk P w0 S0 m0 w S m a st o (.ref st.h.length ie.size 0 (len + ys.length)) (st.h.set id .dead ++ [.plain ie.size ((rows.drop off).take len ++ ys)]) [id] := by
   intro base c hsvc hc
   subst hsvc
   have hrun := run_append_grow_src (P := P) w T U o.type e info zv hu hinfo hzv base len c olds (by rw [hsz]; exact hosrc.cellsD) (a.eval z) ys.length news hsrc hc (hmax _ hroom)
    (growslice_fits hc (by rw [hby]; exact hroom))
   have hcap := grownCap_le w (len + ys.length) c e
   refine eff_grown hr (hr.heap.kill id) (by simp) (fun j hj => by rw [List.getElem?_set_ne (Ne.symm (by simpa using hj))]) (hex _ _ hrun) hcap ?_ (by simp [hlen]) (holds.append hnews)
   rw [zeroCells_size,List.length_append,holds.1,hnews.1,hzsz,hlen,← Nat.add_mul,← Nat.add_mul]
   exact Nat.mul_le_mul_right _ (by omega)
  cases hsv with
  | ref _ _ _ _ b ob c hm hl hcapm =>
   by_cases hfit : len + ys.length ≤ c
   case neg => exact hgrow _ c rfl (by omega)
   obtain ⟨hes,arr,U',hb,hcell⟩ := hr.heap.blk id _ _ hm hid
   have hcap := hcapm arr U' _ hb
   have hnl : news.length = ys.length * ie.size := hnews.1
   have hin : ob + off * ie.size + len * ie.size + news.length ≤ arr.size := by
    have : (off + (len + ys.length)) * ie.size ≤ (off + c) * ie.size := Nat.mul_le_mul_right _ (by omega)
    rw [Nat.add_mul,Nat.add_mul] at this
    omega
   have hrun := run_append_room_src (P := P) w T U o.type e info hu hinfo b (ob + off * ie.size) len c (a.eval z) ys.length news hsrc hfit
    (fun j hj => by
     have : ob + off * ie.size + len * ie.size + j < arr.size := by omega
     simp [World.cell?,hb,hsz,this])
    (fun j hj => by simp [World.frozen?,hb])
   rw [hsz,setCells_eq news w b _ arr U' hb] at hrun
   have hw := wcells_wrote (fr' := (0,0)) hb (putCells_size news arr (ob + off * ie.size + len * ie.size))
   have hmv := hw.move hr.heap hm hid rfl
   have hbox := hw.heap hr.heap hm hid rfl (y := .box []) ⟨b,ob,_,U',rfl,wcells_at (Array.getElem?_eq_some_iff.1 hb).1,fun j x hx => by simp at hx⟩
   have hidl : id < st.h.length := (List.getElem?_eq_some_iff.1 hid).1
   have hrel := hbox.relocate (id := id) (o' := ob + off * ie.size) (x := .box []) (y := .plain ie.size ((rows.drop off).take len ++ ys)) hm (by simp [hidl]) rfl ⟨fun r row hrow => ?_,_,U',wcells_at (Array.getElem?_eq_some_iff.1 hb).1,fun r j row x hrow hx => ?_⟩
   ·rw [List.set_set] at hrel
    refine ⟨_,_,_,wp_value (hex _ _ hrun),hr.move (hmv.ext (o := ob + off * ie.size) ⟨id,ob,hm⟩) hrel,?_,fun j b' o' k hj hmj hk hlv => ?_,fun j hj hlt => by rw [List.getElem?_append_left (by simpa using hlt),List.getElem?_set_ne (Ne.symm (by simpa using hj))]⟩
    ·have := VRel.ref (w := wcells w b (putCells arr (ob + off * ie.size + len * ie.size) news) U' (0,0)) (S := S) (m := m ++ [some (b,ob + off * ie.size)]) st.h.length ie.size 0 (len + ys.length) b (ob + off * ie.size) c
      (by rw [← hr.heap.len]; simp) hfit (fun arr' T' fr hb' => by
       rw [wcells_at (Array.getElem?_eq_some_iff.1 hb).1] at hb'
       simp at hb'
       obtain ⟨rfl,_,_⟩ := hb'
       rw [putCells_size,Nat.zero_add]
       rw [Nat.add_mul] at hcap
       omega)
     simpa using this
    ·refine hw.other b' (fun e => ?_)
     subst e
     exact hr.heap.inj j id k _ b' o' ob (by simpa using hj) hk hid hlv rfl hmj hm
   ·rw [List.getElem?_append] at hrow
    split at hrow
    ·exact holds.2.1 r row hrow
    ·exact hnews.2.1 _ row hrow
   ·rw [putCells_get _ _ _ _ hin]
    have hj : j < ie.size := by
     have : row.length = ie.size := by
      rw [List.getElem?_append] at hrow
      split at hrow
      ·exact holds.2.1 r row hrow
      ·exact hnews.2.1 _ row hrow
     rw [← this]; exact (List.getElem?_eq_some_iff.1 hx).1
    rw [List.getElem?_append,hlen] at hrow
    split at hrow
    ·rename_i hlt
     have h1 := row_before (es := ie.size) (k := 0) hlt hj
     have hc' : ¬ (ob + off * ie.size + len * ie.size ≤ ob + off * ie.size + r * ie.size + j ∧ ob + off * ie.size + r * ie.size + j < ob + off * ie.size + len * ie.size + news.length) := by omega
     simp only [hc',if_false]
     rw [List.getElem?_take] at hrow
     simp only [hlt,if_true,List.getElem?_drop] at hrow
     obtain ⟨u,hu,hf⟩ := hcell (off + r) j row x hrow hx
     refine ⟨u,?_,hf.stab hmv.up hmv.frozen⟩
     rw [← hu]
     congr 1
     rw [Nat.add_mul]; omega
    ·rename_i hge
     obtain ⟨u,hu,hf⟩ := hnews.2.2 (r - len) j row x hrow hx
     have hk := (List.getElem?_eq_some_iff.1 hu).1
     have h2 : r * ie.size = len * ie.size + (r - len) * ie.size := by rw [← Nat.add_mul]; congr 1; omega
     have hc' : ob + off * ie.size + len * ie.size ≤ ob + off * ie.size + r * ie.size + j ∧ ob + off * ie.size + r * ie.size + j < ob + off * ie.size + len * ie.size + news.length := by omega
     simp only [hc',and_self,if_true]
     refine ⟨u,?_,hf.stab hmv.up hmv.frozen⟩
     rw [← hu]
     congr 1
     omega
  | refz _ _ _ A =>
   rcases Nat.eq_zero_or_pos ys.length with h0 | h0
   ·have hnil : ys = [] := List.eq_nil_of_length_eq_zero h0
    subst hnil
    have hnn : news = [] := List.eq_nil_of_length_eq_zero (by simpa using hnews.1)
    subst hnn
    have hrun := run_append_nothing (P := P) w T U o.type e info hu hinfo A 0 0 (Nat.le_refl _) (a.eval z) hsrc
    have hvirt := (hr.heap.kill id).virt (.plain ie.size ((rows.drop off).take 0 ++ [])) ⟨by simp,by simp⟩
    exact ⟨_,w,m ++ [none],wp_value (hex _ _ hrun),hr.move (Move.virt hr.heap.lowm) hvirt,.refz _ _ _ _,fun _ _ _ _ _ _ _ _ => rfl,fun j hj hlt => by rw [List.getElem?_append_left (by simpa using hlt),List.getElem?_set_ne (Ne.symm (by simpa using hj))]⟩
   ·exact hgrow A 0 rfl (by omega)
 ·cases ha
end
end Go.Abs
