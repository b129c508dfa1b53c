/- Rows written in place: copy, clear; rows of zeros put behind nothing. -/
import Derived.Test.YtnhghoonlmoinaaGreatAbsK
import Derived.MapKept
import Derived.Laws.LoneSync
import Derived.Laws.BytesString
namespace Go.Abs
variable [Kn]
set_option linter.unusedSectionVars false
set_option linter.unusedVariables false
set_option linter.unusedSimpArgs false
section
variable {P : Program} {w0 : World} {S0 : Nat → Prop} {m0 : List Loc} {w : World} {S : Nat → Prop} {m : List Loc} {a : Act} {st : St}
theorem rows_wrote (hr : RelSM w0 S0 m0 w S m a st) {id es b ob off : Nat} {rows ys rows' : List (List FV)} {news : List Value} {arr : Array Value} {U : TypeId} (hm : m[id]? = some (some (b,ob))) (hid : st.h[id]? = some (.plain es rows))
  (hb : w.heap[b]? = some (.cells arr U (0,0))) (hpos : 0 < es) (hnews : NewsRel w S es ys news) (hsp : splice rows off ys = some rows') (hcap : ob + (off + ys.length) * es ≤ arr.size) :
  (storeCells ⟨b,ob + off * es,none⟩ news).run P w = .ok () (wcells w b (putCells arr (ob + off * es) news) U (0,0)) ∧
  RelSM w0 S0 m0 (wcells w b (putCells arr (ob + off * es) news) U (0,0)) S m a { st with h := st.h.set id (.plain es rows') } ∧
  (∀ (i b' o' : Nat) (k : Blk),i ∉ [id] → m[i]? = some (some (b',o')) → st.h[i]? = some k → k.live = true → (wcells w b (putCells arr (ob + off * es) news) U (0,0)).heap[b']? = w.heap[b']?) := by
 obtain ⟨hes,arr',U',hb',hcell⟩ := hr.heap.blk id _ _ hm hid
 rw [hb] at hb'
 simp only [Option.some.injEq,Obj.cells.injEq,and_true] at hb'
 obtain ⟨rfl,rfl⟩ := hb'
 obtain ⟨g1,g2,g3⟩ := splice_get hsp
 have hnl : news.length = ys.length * es := hnews.1
 have hin : ob + off * es + news.length ≤ arr.size := by rw [hnl]; rw [Nat.add_mul] at hcap; omega
 have hrun := run_storeCells (P := P) news w b (ob + off * es) 0 arr U hb (by simpa using hin) (hnews.one hpos)
 have hw := wcells_wrote (fr' := (0,0)) hb (putCells_size news arr (ob + off * es))
 have hmv := hw.move hr.heap hm hid rfl
 refine ⟨hrun,hr.wrote hw hm hid rfl ⟨fun r row hrow => ?_,_,U,wcells_at (Array.getElem?_eq_some_iff.1 hb).1,fun r j row x hrow hx => ?_⟩,fun i b' o' k hi hmi hk hl => ?_⟩
 ·rw [g3] at hrow
  split at hrow
  ·exact hnews.2.1 _ row hrow
  ·exact hes r row hrow
 ·rw [putCells_get _ _ _ _ hin]
  rw [g3] at hrow
  split at hrow
  ·rename_i hc
   have hj : j < es := by rw [← hnews.2.1 _ row hrow]; exact (List.getElem?_eq_some_iff.1 hx).1
   obtain ⟨u,hu,hf⟩ := hnews.2.2 _ j row x hrow hx
   have hk := (List.getElem?_eq_some_iff.1 hu).1
   have h2 : r * es = off * es + (r - off) * es := by rw [← Nat.add_mul]; congr 1; omega
   have hc' : ob + off * es ≤ ob + r * es + j ∧ ob + r * es + j < ob + off * es + news.length := by omega
   simp only [hc',and_self,if_true]
   refine ⟨u,?_,hf.stab hmv.up hmv.frozen⟩
   rw [← hu]
   congr 1
   omega
  ·rename_i hc
   have hj : j < es := by rw [← hes r row hrow]; exact (List.getElem?_eq_some_iff.1 hx).1
   obtain ⟨u,hu,hf⟩ := hcell r j row x hrow hx
   have hc' : ¬ (ob + off * es ≤ ob + r * es + j ∧ ob + r * es + j < ob + off * es + news.length) := by
    rcases Nat.lt_or_ge r off with hlt | hge
    ·have := row_before (es := es) (k := 0) hlt hj; omega
    ·have hge2 : off + ys.length ≤ r := by omega
     have : (off + ys.length) * es ≤ r * es := Nat.mul_le_mul_right _ hge2
     rw [Nat.add_mul] at this
     omega
   simp only [hc',if_false]
   exact ⟨u,hu,hf.stab hmv.up hmv.frozen⟩
 ·refine hw.other b' (fun e => ?_)
  subst e
  exact hr.heap.inj i id k _ b' o' ob (by simpa using hi) hk hid hl rfl hmi hm
theorem zeros_rel {zv : Value} {zr : List FV} (hz : ofCells zv.cells.toList = some zr) (hpos : 0 < zr.length) (n : Nat) : NewsRel w S zr.length (List.replicate n zr) (Builtin.zeroCells zv.cells n).toList := by
 obtain ⟨hl,hrel⟩ := ofCells_rel hz
 have hsz : zv.cells.size = zr.length := by simpa using hl
 refine ⟨by simp [Builtin.zeroCells,hsz],fun r row hrow => ?_,fun r j row x hrow hx => ?_⟩
 ·rw [List.getElem?_replicate] at hrow
  split at hrow <;> simp at hrow
  rw [← hrow]
 ·rw [List.getElem?_replicate] at hrow
  split at hrow <;> simp at hrow
  rename_i hr
  subst hrow
  have hj : j < zr.length := (List.getElem?_eq_some_iff.1 hx).1
  have hidx : r * zr.length + j < n * zr.length := by have := row_before (es := zr.length) (k := 0) hr hj; omega
  have hmod : (r * zr.length + j) % zr.length = j := by rw [Nat.mul_comm,Nat.mul_add_mod]; exact Nat.mod_eq_of_lt hj
  refine ⟨zv.cells[j]'(by omega),?_,hrel w S j _ x (by simp [hsz,hj]) hx⟩
  have h2 : r * zr.length + j < n * zv.cells.size := by rw [hsz]; exact hidx
  have h3 : j < zv.cells.size := by omega
  simp [Builtin.zeroCells,hsz,hidx,hmod,h3,getElem!_pos zv.cells j h3]
theorem eff_clear (hr : RelSM w0 S0 m0 w S m a st) {o : Oper} {as : Array Operand} {ts : Array TypeId} (ho : o.op = .call { callee := .builtin .clear,args := as,argTypes := ts }) {s : AV} {T e : TypeId}
  (hv : evs st.t as.toList = some [s]) (hts : ts.toList = [T]) {i ie : TI} (hT : tiOf P T = some i) (hd : i.desc = .slice e) (hie : tiOf P e = some ie) (hpos : 0 < ie.size) {z : List FV} (hz : ie.zero = some z) (hzl : z.length = ie.size)
  {v : AV} {h' : List Blk} {W : List Nat} (hc : clearA ie z st.h s = some (v,h',W)) : EffOk P w0 S0 m0 w S m a st o v h' W := by
 obtain ⟨y,hy⟩ : ∃ y,as = #[y] := by
  have := (evs_rel hr.tmps hv).1
  simp at this
  match as,this with
  | ⟨[y]⟩,_ => exact ⟨y,rfl⟩
 subst hy
 have hsv : VRel w S m (a.eval y) s := (evs_rel hr.tmps hv).2 0 _ s (by simp) rfl
 have htsa : ts = #[T] := by apply Array.ext'; simpa using hts
 subst htsa
 obtain ⟨_,info,hinfo,hsz,hby,hzz⟩ := tiOf_spec hie
 obtain ⟨zv,hzv,hzc⟩ := hzz z hz
 have hu : P.underlying T = some (.slice e) := by rw [← hd]; exact (tiOf_spec hT).1
 have hex : ∀ (val : Value) (w' : World),(Builtin.clear_ #[T] o.type #[a.eval y]).run P w = .ok val w' → (execOp a.eval o).run P w = .ok (.value val) w' := fun val w' h => by
  simp [execOp,ho,resolve,invoke,builtin,h]
 generalize hay : a.eval y = sv at hsv hex
 unfold clearA at hc
 split at hc
 ·rename_i id es off len
  generalize hid : st.h[id]? = k at hc
  split at hc
  case h_2 => cases hc
  rename_i es' rows
  split at hc
  case isFalse => cases hc
  rename_i he
  obtain ⟨rfl,rfl⟩ := he
  simp only [Option.map_eq_some_iff,Prod.mk.injEq] at hc
  obtain ⟨rows',hsp,rfl,rfl,rfl⟩ := hc
  cases hsv with
  | ref _ _ _ _ b ob c hm hl hcapm =>
   obtain ⟨hes,arr,U,hb,hcell⟩ := hr.heap.blk id _ _ hm hid
   have hcap := hcapm arr U _ hb
   have hnews : NewsRel w S ie.size (List.replicate len z) (Builtin.zeroCells zv.cells len).toList := by rw [← hzl]; exact zeros_rel hzc (by omega) len
   obtain ⟨h1,h2,h3⟩ := rows_wrote (P := P) hr hm hid hb hpos hnews hsp (by
    have : (off + len) * ie.size ≤ (off + c) * ie.size := Nat.mul_le_mul_right _ (by omega)
    simp only [List.length_replicate]; omega)
   cases len with
   | zero =>
    refine ⟨.tuple #[],w,m,wp_value (hex _ _ ?_),?_,.tuple _ _ rfl (fun i v x hv => by simp at hv),fun _ _ _ _ _ _ _ _ => rfl,fun j hj _ => by rw [List.getElem?_set_ne (Ne.symm (by simpa using hj))]⟩
    ·simp [Builtin.clear_,run_underlying hu]
    ·have hn : (Builtin.zeroCells zv.cells 0).toList = [] := by simp [Builtin.zeroCells]
     rw [hn] at h2
     simpa [putCells,wcells_self hb] using h2
   | succ n =>
    refine ⟨.tuple #[],_,m,wp_value (hex _ _ ?_),h2,.tuple _ _ rfl (fun i v x hv => by simp at hv),h3,fun j hj _ => by rw [List.getElem?_set_ne (Ne.symm (by simpa using hj))]⟩
    simp [Builtin.clear_,run_underlying hu,zeroValue,typeInfo,hinfo,hzv,h1]
  | refz _ _ _ A =>
   obtain ⟨g1,g2,g3⟩ := splice_get hsp
   have hrr : rows' = rows := by
    simp [splice] at hsp
    exact hsp.2.symm
   subst hrr
   refine ⟨.tuple #[],w,m,wp_value (hex _ _ ?_),?_,.tuple _ _ rfl (fun i v x hv => by simp at hv),fun _ _ _ _ _ _ _ _ => rfl,fun j hj _ => by rw [List.getElem?_set_ne (Ne.symm (by simpa using hj))]⟩
   ·cases A <;> simp [Builtin.clear_,run_underlying hu]
   ·have : st.h.set id (.plain ie.size rows') = st.h := by
     apply List.ext_getElem?
     intro j
     rw [List.getElem?_set]
     split
     ·rename_i e; subst e
      have := (List.getElem?_eq_some_iff.1 hid).1
      rw [if_pos this,hid]
     ·rfl
    rw [this]
    exact hr
 ·simp only [Option.some.injEq,Prod.mk.injEq] at hc
  obtain ⟨rfl,rfl,rfl⟩ := hc
  obtain rfl := hsv.nils_inv
  exact ⟨.tuple #[],w,m,wp_value (hex _ _ (by simp [Builtin.clear_,run_underlying hu])),hr,.tuple _ _ rfl (fun i v x hv => by simp at hv),fun _ _ _ _ _ _ _ _ => rfl,fun _ _ _ => rfl⟩
 ·cases hc
theorem run_zeros (w : World) (t ti ty e : TypeId) (i : TypeInfo) (z : Value) (ht : P.underlying t = some (.slice e)) {k : IntKind} (hti : P.underlying ti = some (.int k)) (hi : P.info? e = some i) (hz : i.zero = some z)
  (hzs : z.cells.size = i.size) (hsz : 0 < i.size) (hb0 : 0 < i.bytes) (kx : IntKind) (m : Nat) (hm : 0 < m) (hbytes : m * i.bytes ≤ 140737488355328) :
  (Builtin.append_ #[t,ti] ty #[.slice none 0 0,.int kx m]).run P w =
   .ok (.slice (some ⟨w.heap.size,0,none⟩) m (grownCap w m 0 e)) (w.drew.alloc (.cells ((Builtin.zeroCells z.cells m).toList.toArray ++ Builtin.zeroCells z.cells (grownCap w m 0 e - m)) e)) := by
 have hle : m ≤ 140737488355328 := Nat.le_trans (Nat.le_mul_of_pos_right _ hb0) hbytes
 have hw : IntKind.i64.wrap (m : Int) = m := by rw [IntKind.wrap_i64]; omega
 have hneg : ¬ ((m : Int) < 0) := by omega
 have hbig : ¬ (281474976710656 < (m : Int) * (i.bytes : Int)) := by
  rw [← Int.natCast_mul]
  omega
 have hn : ¬ (m = 0) := by omega
 have h63' : ¬ (9223372036854775807 < (m : Int)) := by omega
 have hfit := growslice_fits (need := m) (old := 0) (by omega) hbytes
 have h48' : ¬ (281474976710656 < Builtin.nextslicecap m 0 * i.bytes) := by omega
 have hmz : ¬ (m * i.size = 0) := Nat.mul_ne_zero hn (by omega)
 have hmz' : ¬ (m = 0 ∨ i.size = 0) := by omega
 have hfo : ∀ w : World,(Builtin.firstCells i.size 0 (.slice none 0 0)).run P w = .ok #[] w := fun w => by simp [Builtin.firstCells]
 simp [Builtin.append_,run_underlying ht,run_underlying hti,sizeOf,typeInfo,zeroValue,hi,hz,asInt,asIntOf,hw,hneg,hbig,hn,h63',h48',Question.forced,hfo,newRow,grownCap,hmz,hmz']
theorem eff_zeros (hr : RelSM w0 S0 m0 w S m a st) {o : Oper} {as : Array Operand} {ts : Array TypeId} (ho : o.op = .call { callee := .builtin .append,args := as,argTypes := ts }) {s x : AV} {T U e : TypeId}
  (hv : evs st.t as.toList = some [s,x]) (hts : ts.toList = [T,U]) {i iu ie : TI} (hT : tiOf P T = some i) (hd : i.desc = .slice e) (hU : tiOf P U = some iu) (hie : tiOf P e = some ie)
  (hpos : 0 < ie.size) (hbp : 0 < ie.bytes) {zr : List FV} (hzr : ie.zero = some zr) (hzl : zr.length = ie.size) {n : Nat} (hs : zerosA iu x = some n) {v : AV} {h' : List Blk} {W : List Nat} (ha : zeroA ie zr st.h s n = some (v,h',W)) :
  EffOk P w0 S0 m0 w S m a st o v h' W := by
 obtain ⟨y,z,hyz⟩ : ∃ y z,as = #[y,z] := by
  have := (evs_rel hr.tmps hv).1
  simp at this
  match as,this with
  | ⟨[y,z]⟩,_ => exact ⟨y,z,rfl⟩
 subst hyz
 have hrel := evs_rel hr.tmps hv
 have hsv : VRel w S m (a.eval y) s := hrel.2 0 _ s (by simp) rfl
 have hxv : VRel w S m (a.eval z) x := hrel.2 1 _ x (by simp) rfl
 have htsa : ts = #[T,U] := by apply Array.ext'; simpa using hts
 subst htsa
 obtain ⟨_,info,hinfo,hsz,hby,hzz⟩ := tiOf_spec hie
 obtain ⟨zv,hzv,hzc⟩ := hzz zr hzr
 have hzsz : zv.cells.size = ie.size := by have := (ofCells_rel hzc).1; simp at this; omega
 have hu : P.underlying T = some (.slice e) := by rw [← hd]; exact (tiOf_spec hT).1
 have hu2 : P.underlying U = some iu.desc := (tiOf_spec hU).1
 have hex : ∀ (val : Value) (w' : World),(Builtin.append_ #[T,U] o.type #[a.eval y,a.eval z]).run P w = .ok val w' → (execOp a.eval o).run P w = .ok (.value val) w' := fun val w' h => by
  simp [execOp,ho,resolve,invoke,builtin,h]
 unfold zerosA at hs
 split at hs
 case h_2 => cases hs
 rename_i k kx q hk
 split at hs <;> simp at hs
 rename_i hq
 subst hs
 have e2 := hxv.int_inv
 unfold zeroA at ha
 split at ha
 case h_2 => cases ha
 split at ha <;> simp only [Option.some.injEq,Prod.mk.injEq,reduceCtorEq] at ha
 rename_i hroom
 obtain ⟨rfl,rfl,rfl⟩ := ha
 have e1 := hsv.nils_inv
 have hqn : ((q.toNat : Nat) : Int) = q := by omega
 rw [hk] at hu2
 have hrun := run_zeros (P := P) w T U o.type e info zv hu hu2 hinfo hzv (by omega) (by omega) (by omega) kx q.toNat (by omega) (by rw [hby]; exact hroom)
 rw [hqn,← e1,← e2] at hrun
 have hcap := grownCap_le w q.toNat 0 e
 have hnews : NewsRel w S ie.size (List.replicate q.toNat zr) (Builtin.zeroCells zv.cells q.toNat).toList := by rw [← hzl]; exact zeros_rel hzc (by omega) _
 refine eff_grown hr hr.heap rfl (fun _ _ => rfl) (hex _ _ hrun) hcap ?_ (by simp) hnews
 rw [zeroCells_size,hnews.1,hzsz,List.length_replicate,← Nat.add_mul]
 exact Nat.mul_le_mul_right _ (by omega)
end
end Go.Abs
/- append of cells of any kind; maps; x.(T). -/
namespace Go.Abs
variable [Kn]
set_option linter.unusedSectionVars false
set_option linter.unusedVariables false
set_option linter.unusedSimpArgs false
section
variable {P : Program} {w0 : World} {S0 : Nat → Prop} {m0 : List Loc} {w : World} {S : Nat → Prop} {m : List Loc} {a : Act} {st : St}
theorem thaw_length {es : Nat} : ∀ {rows : List (List FV)},(∀ (r : Nat) (row : List FV),rows[r]? = some row → row.length = es) → (thaw rows).length = rows.length * es
 | [],_ => by simp [thaw]
 | row :: rows,h => by
  have e : thaw (row :: rows) = row.map .fv ++ thaw rows := by simp [thaw]
  rw [e,List.length_append,List.length_map,h 0 row rfl,thaw_length fun r row' hr => h (r + 1) row' hr,List.length_cons,Nat.succ_mul]
  omega
theorem refCells_sound (hh : HRel w S m st.h) {id es off len b o : Nat} (hm : m[id]? = some (some (b,o))) {ys : List AV} (h : refCells st.h id es off len = some ys) :
  ∃ arr U k,w.heap[b]? = some (.cells arr U (0,0)) ∧ st.h[id]? = some k ∧ k.live = true ∧ ys.length = len * es ∧ ∀ (k : Nat) (x : AV),ys[k]? = some x → ∃ u,arr[o + off * es + k]? = some u ∧ VRel w S m u x := by
 unfold refCells at h
 generalize hid : st.h[id]? = k at h
 split at h
 ·rename_i es' rows
  split at h
  case isFalse => cases h
  rename_i hc
  obtain ⟨rfl,hle⟩ := hc
  simp only [Option.some.injEq] at h
  subst h
  obtain ⟨hes,arr,U,hb,hcell⟩ := hh.blk id _ _ hm hid
  have hrow : ∀ (r : Nat) (row : List FV),((rows.drop off).take len)[r]? = some row → r < len ∧ rows[off + r]? = some row := fun r row hr => by
   rw [List.getElem?_take] at hr
   split at hr
   case isFalse => cases hr
   rename_i hlt
   rw [List.getElem?_drop] at hr
   exact ⟨hlt,hr⟩
  refine ⟨arr,U,_,hb,rfl,rfl,?_,fun k x hx => ?_⟩
  ·rw [thaw_length fun r row hr => hes _ row (hrow r row hr).2,List.length_take,List.length_drop,Nat.min_eq_left (by omega)]
  ·refine thaw_cells (es := es') (o := o + off * es') (fun r row hr => hes _ row (hrow r row hr).2) (fun r j row y hr hy => ?_) k x hx
   obtain ⟨u,hu,hf⟩ := hcell (off + r) j row y (hrow r row hr).2 hy
   refine ⟨u,?_,hf⟩
   rw [← hu]
   congr 1
   rw [Nat.add_mul]; omega
 ·rename_i cs
  split at h
  case isFalse => cases h
  rename_i hle
  simp only [Option.some.injEq] at h
  subst h
  obtain ⟨b',o',arr,U,hloc,hb,hcell⟩ := hh.blk id _ _ hm hid
  simp at hloc
  obtain ⟨rfl,rfl⟩ := hloc
  refine ⟨arr,U,_,hb,rfl,rfl,?_,fun k x hx => ?_⟩
  ·rw [List.length_take,List.length_drop]
   rw [Nat.add_mul] at hle
   omega
  ·rw [List.getElem?_take] at hx
   split at hx
   case isFalse => cases hx
   rw [List.getElem?_drop] at hx
   obtain ⟨u,hu,hv⟩ := hcell _ x hx
   exact ⟨u,by rw [← hu]; congr 1; omega,hv⟩
 ·cases h
theorem news_lrel {es : Nat} {ys : List (List FV)} {news : List Value} (h : NewsRel w S es ys news) : LRel w S m news (thaw ys) := by
 refine ⟨by rw [h.1,thaw_length h.2.1],fun k v x hv hx => ?_⟩
 obtain ⟨u,hu,hr⟩ := thaw_cells (w := w) (S := S) (m := m) (arr := news.toArray) (o := 0) h.2.1 (fun r j row y hr hy => by
  obtain ⟨u,hu,hf⟩ := h.2.2 r j row y hr hy
  exact ⟨u,by simpa using hu,hf⟩) k x hx
 rw [Nat.zero_add] at hu
 simp only [List.getElem?_toArray] at hu
 rw [hv] at hu
 simp at hu
 subst hu
 exact hr
theorem cells_range {arr : Array Value} {o n : Nat} {ys : List AV} (hl : ys.length = n) (h : ∀ (k : Nat) (x : AV),ys[k]? = some x → ∃ u,arr[o + k]? = some u ∧ VRel w S m u x) :
  LRel w S m ((List.range n).map fun k => arr.getD (o + k) undef) ys ∧ ∀ k,k < n → arr[o + k]? = some (arr.getD (o + k) undef) := by
 have ex : ∀ k,k < n → ∃ u,arr[o + k]? = some u := fun k hk => by
  obtain ⟨u,hu,_⟩ := h k (ys[k]'(by omega)) (by simp)
  exact ⟨u,hu⟩
 refine ⟨⟨by simp [hl],fun k v x hv hx => ?_⟩,fun k hk => ?_⟩
 ·obtain ⟨u,hu,hr⟩ := h k x hx
  have hk : k < n := by rw [← hl]; exact (List.getElem?_eq_some_iff.1 hx).1
  simp only [List.getElem?_map,List.getElem?_range hk,Option.map_some,Option.some.injEq] at hv
  subst hv
  simpa [Array.getD_eq_getD_getElem?,hu] using hr
 ·obtain ⟨u,hu⟩ := ex k hk
  simp [Array.getD_eq_getD_getElem?,hu]
theorem all_ok {vs : List Value} {ys : List AV} (h : LRel w S m vs ys) (ho : ys.all okCell = true) : ∀ u ∈ vs,u.oneCell' = true := fun u hu => by
 obtain ⟨j,hj,rfl⟩ := List.getElem_of_mem hu
 have hl := h.1
 exact okCell_one (h.2 j _ ys[j] (by simp) (by simp)) (List.all_eq_true.1 ho _ (List.getElem_mem (by omega)))
/-- What is put behind a slice, as cells. -/
theorem srcCells_sound (hh : HRel w S m st.h) {tx : TypeId} {iu : TI} (hu : tiOf P tx = some iu) {es : Nat} (hpos : 0 < es) {x : AV} {v : Value} (hx : VRel w S m v x) {ys : List AV} (hs : srcCells iu es st.h x = some ys) :
  ∃ news k,Src P es tx v k news w ∧ LRel w S m news ys ∧ ys.length = k * es := by
 unfold srcCells at hs
 split at hs
 ·rename_i e id es' off len hd
  have hk := (tiOf_spec hu).1
  rw [hd] at hk
  split at hs
  case isFalse => cases hs
  rename_i he; subst he
  split at hs
  ·rename_i h0; subst h0
   simp only [Option.some.injEq] at hs
   subst hs
   refine ⟨[],0,?_,⟨rfl,fun i v x hv => by simp at hv⟩,by simp⟩
   cases hx with
   | ref _ _ _ _ b o c hm hl hcap => exact Src.ofSlice w hk _ 0 c [] (by simp) (by simp) (by simp)
   | refz _ _ _ A =>
    cases A with
    | none => exact Src.ofNil w hk 0
    | some ad' => exact Src.ofSlice w hk ad' 0 0 [] (by simp) (by simp) (by simp)
  ·rename_i h0
   simp only [Option.bind_eq_some_iff] at hs
   obtain ⟨cs,hcs,hs⟩ := hs
   split at hs <;> simp at hs
   rename_i hok
   subst hs
   cases hx with
   | ref _ _ _ _ b o c hm hl hcap =>
    obtain ⟨arr,U,_,hb,_,_,hlen,hcell⟩ := refCells_sound hh hm hcs
    obtain ⟨hr,hg⟩ := cells_range hlen hcell
    refine ⟨_,len,Src.ofSlice w hk _ len c _ (by simp) (fun k y hy => ?_) (all_ok hr hok),hr,hlen⟩
    have hlt : k < len * es' := by have := (List.getElem?_eq_some_iff.1 hy).1; simpa using this
    simp only [List.getElem?_map,List.getElem?_range hlt,Option.map_some,Option.some.injEq] at hy
    subst hy
    rw [add_at]
    simp only [World.cell?,hb]
    exact hg k hlt
   | refz _ _ _ A => exact absurd rfl h0
 ·simp only [Option.map_eq_some_iff] at hs
  obtain ⟨rows,hrows,rfl⟩ := hs
  obtain ⟨news,h1,h2⟩ := src_sound hh hu hpos hx hrows
  exact ⟨news,_,h1,news_lrel h2,by rw [thaw_length h2.2.1]⟩
/-- Cells made anew. -/
theorem eff_grownB (hr : RelSM w0 S0 m0 w S m a st) {o : Oper} {es n c : Nat} {ie : TypeId} {cs : List AV} {all : List Value} {rest : Array Value} {W : List Nat} {h1 : List Blk}
  (hh : HRel w S m h1) (hlen : h1.length = st.h.length) (hsame : ∀ i,i ∉ W → h1[i]? = st.h[i]?)
  (hrun : (execOp a.eval o).run P w = .ok (.value (.slice (some ⟨w.heap.size,0,none⟩) n c)) (w.drew.alloc (.cells (all.toArray ++ rest) ie)))
  (hnc : n ≤ c) (hsz : c * es ≤ all.length + rest.size) (hall : LRel w S m all cs) :
  EffOk P w0 S0 m0 w S m a st o (.ref st.h.length es 0 n) (h1 ++ [.box cs]) W := by
 let w1 := wpush w (.cells (all.toArray ++ rest) ie)
 have hm1 : Move w S m w1 S (m ++ [some (w.heap.size,0)]) := Move.push _ _ (fun b o' e => by simp at e; omega)
 have hb : BRel w1 S (m ++ [some (w.heap.size,0)]) (some (w.heap.size,0)) (.box cs) := by
  refine ⟨_,_,_,_,rfl,wpush_new _ _,fun j x hx => ?_⟩
  have hj : j < all.length := by rw [hall.1]; exact (List.getElem?_eq_some_iff.1 hx).1
  refine ⟨all[j],?_,(hall.2 j all[j] x (by simp) hx).move hm1 hr.heap.lowm⟩
  rw [Nat.zero_add,Array.getElem?_append_left (by simpa using hj)]
  simp [hj]
 have hh1 := hh.push (.cells (all.toArray ++ rest) ie) _ _ (.inl rfl) hb
 have hr1 : RelSM w0 S0 m0 w1 S (m ++ [some (w.heap.size,0)]) a { st with h := h1 ++ [.box cs] } := hr.move hm1 hh1
 have hr2 : RelSM w0 S0 m0 (w.drew.alloc (.cells (all.toArray ++ rest) ie)) S (m ++ [some (w.heap.size,0)]) a { st with h := h1 ++ [.box cs] } := hr1.same_heap rfl rfl rfl rfl (Nat.le_succ _)
 refine ⟨_,_,_,wp_value hrun,hr2,?_,fun i b o' k _ hi _ _ => wpush_old w _ (hr.heap.lowm i b o' hi),fun i hi hlt => by rw [List.getElem?_append_left (by omega)]; exact hsame i hi⟩
 have := VRel.ref (w := w.drew.alloc (.cells (all.toArray ++ rest) ie)) (S := S) (m := m ++ [some (w.heap.size,0)]) st.h.length es 0 n w.heap.size 0 c (by rw [← hr.heap.len]; simp) hnc (fun arr' T' fr ha => by
  have ha' : (wpush w (.cells (all.toArray ++ rest) ie)).heap[w.heap.size]? = some (.cells arr' T' fr) := ha
  rw [wpush_new] at ha'
  simp at ha'
  obtain ⟨rfl,_,_⟩ := ha'
  simpa using hsz)
 simpa using this
theorem LRel.append {us vs : List Value} {xs ys : List AV} (h1 : LRel w S m us xs) (h2 : LRel w S m vs ys) : LRel w S m (us ++ vs) (xs ++ ys) := by
 refine ⟨by simp [h1.1,h2.1],fun i v x hv hx => ?_⟩
 rw [List.getElem?_append] at hv hx
 rw [h1.1] at hv
 split at hv
 ·rename_i hlt; simp only [hlt,if_true] at hx; exact h1.2 i v x hv hx
 ·rename_i hlt; simp only [hlt,if_false] at hx; exact h2.2 _ v x hv hx
theorem eff_appendB (hr : RelSM w0 S0 m0 w S m a st) {o : Oper} {as : Array Operand} {ts : Array TypeId} (ho : o.op = .call { callee := .builtin .append,args := as,argTypes := ts }) {s x : AV} {T U e : TypeId}
  (hv : evs st.t as.toList = some [s,x]) (hts : ts.toList = [T,U]) {i iu ie : TI} (hT : tiOf P T = some i) (hd : i.desc = .slice e) (hU : tiOf P U = some iu) (hie : tiOf P e = some ie)
  (hpos : 0 < ie.size) (hbp : 0 < ie.bytes) (hz : ie.zero.map List.length = some ie.size) {ys : List AV} (hs : srcCells iu ie.size st.h x = some ys) {v : AV} {h' : List Blk} {W : List Nat} (ha : appendB ie st.h s ys = some (v,h',W)) :
  EffOk P w0 S0 m0 w S m a st o v h' W := by
 obtain ⟨y,z,hyz⟩ : ∃ y z,as = #[y,z] := by
  have := (evs_rel hr.tmps hv).1
  simp at this
  match as,this with
  | ⟨[y,z]⟩,_ => exact ⟨y,z,rfl⟩
 subst hyz
 have hrel := evs_rel hr.tmps hv
 have hsv : VRel w S m (a.eval y) s := hrel.2 0 _ s (by simp) rfl
 have hxv : VRel w S m (a.eval z) x := hrel.2 1 _ x (by simp) rfl
 have htsa : ts = #[T,U] := by apply Array.ext'; simpa using hts
 subst htsa
 obtain ⟨news,k,hsrc,hnews,hyk⟩ := srcCells_sound hr.heap hU hpos hxv hs
 obtain ⟨_,info,hinfo,hsz,hby,hzz⟩ := tiOf_spec hie
 simp only [Option.map_eq_some_iff] at hz
 obtain ⟨zr,hzr,hzl⟩ := hz
 obtain ⟨zv,hzv,hzc⟩ := hzz zr hzr
 have hzsz : zv.cells.size = ie.size := by have := (ofCells_rel hzc).1; simp at this; omega
 have hu : P.underlying T = some (.slice e) := by rw [← hd]; exact (tiOf_spec hT).1
 rw [← hsz] at hsrc
 have hex : ∀ (val : Value) (w' : World),(Builtin.append_ #[T,U] o.type #[a.eval y,a.eval z]).run P w = .ok val w' → (execOp a.eval o).run P w = .ok (.value val) w' := fun val w' h => by
  simp [execOp,ho,resolve,invoke,builtin,h]
 have hay : VRel w S m (a.eval y) s := hsv
 generalize haz : a.eval y = sv at hsv hex
 have hmax : ∀ k : Nat,k * ie.bytes ≤ 140737488355328 → (k : Int) ≤ 9223372036854775807 := fun k hk => by
  have : k ≤ k * ie.bytes := Nat.le_mul_of_pos_right k hbp
  omega
 have hdiv : ys.length / ie.size = k := by rw [hyk,Nat.mul_div_cancel _ hpos]
 have hnl : news.length = k * ie.size := by rw [hnews.1,hyk]
 unfold appendB at ha
 simp only [hdiv] at ha
 split at ha
 ·rename_i h0
  have hk0 : k = 0 := by
   rw [hyk] at h0
   rcases Nat.mul_eq_zero.1 h0 with h | h
   ·exact h
   ·omega
  subst hk0
  have hnn : news = [] := List.eq_nil_of_length_eq_zero (by simpa using hnl)
  subst hnn
  have fin : ∀ (base : Option Addr) (n c : Nat),sv = .slice base n c → n ≤ c → EffOk P w0 S0 m0 w S m a st o s st.h [] := fun base n c e hle => by
   subst e
   have hrun := run_append_nothing (P := P) w T U o.type e info hu hinfo base n c hle (a.eval z) hsrc
   rw [haz] at hay
   exact ⟨_,w,m,wp_value (hex _ _ hrun),hr,hay,fun _ _ _ _ _ _ _ _ => rfl,fun _ _ _ => rfl⟩
  split at ha
  ·simp only [Option.some.injEq,Prod.mk.injEq] at ha
   obtain ⟨rfl,rfl,rfl⟩ := ha
   exact fin _ _ _ hsv.nils_inv (Nat.le_refl _)
  ·simp only [Option.some.injEq,Prod.mk.injEq] at ha
   obtain ⟨rfl,rfl,rfl⟩ := ha
   cases hsv with
   | ref _ _ _ _ b ob c hm hl hcapm => exact fin _ _ c rfl hl
   | refz _ _ _ A => exact fin A 0 0 rfl (Nat.le_refl _)
  ·cases ha
 ·rename_i h0
  have hk1 : 0 < k := by
   rcases Nat.eq_zero_or_pos k with h | h
   ·subst h; simp at hyk; rw [hyk] at h0; simp at h0
   ·exact h
  split at ha
  case isFalse => cases ha
  split at ha
  ·split at ha
   case isFalse => cases ha
   rename_i hroom
   simp only [Option.some.injEq,Prod.mk.injEq] at ha
   obtain ⟨rfl,rfl,rfl⟩ := ha
   obtain rfl := hsv.nils_inv
   have hrun := run_append_grow_src (P := P) w T U o.type e info zv hu hinfo hzv none 0 0 [] (run_firstCells_none w.drew info.size 0 0 0) (a.eval z) k news hsrc (by omega) (by have := hmax _ hroom; omega)
    (growslice_fits (by omega) (by rw [hby]; simpa using hroom))
   simp only [Nat.zero_add,List.nil_append] at hrun
   have hcap := grownCap_le w k 0 e
   refine eff_grownB hr hr.heap rfl (fun _ _ => rfl) (hex _ _ hrun) hcap ?_ hnews
   rw [zeroCells_size,hnl,hzsz,← Nat.add_mul]
   exact Nat.mul_le_mul_right _ (by omega)
  ·rename_i id es off len
   split at ha
   case isFalse => cases ha
   rename_i hc
   obtain ⟨he1,hroom⟩ := hc
   subst he1
   simp only [Option.bind_eq_some_iff] at ha
   obtain ⟨xs,hxs,ha⟩ := ha
   split at ha
   case isFalse => cases ha
   rename_i hxok
   simp only [Option.some.injEq,Prod.mk.injEq] at ha
   obtain ⟨rfl,rfl,rfl⟩ := ha
   have hgrow : ∀ (base : Option Addr) (c : Nat) (olds : List Value),sv = .slice base len c → c < len + k → LRel w S m olds xs → olds.length = len * ie.size →
     (Builtin.firstCells info.size len (.slice base len c)).run P w.drew = .ok olds.toArray w.drew →
     EffOk P w0 S0 m0 w S m a st o (.ref st.h.length ie.size 0 (len + k)) (st.h.set id .dead ++ [.box (xs ++ ys)]) [id] := by
    intro base c olds hsvc hc hol hoc hfc
    subst hsvc
    have hrun := run_append_grow_src (P := P) w T U o.type e info zv hu hinfo hzv base len c olds hfc (a.eval z) k news hsrc hc (hmax _ hroom)
     (growslice_fits hc (by rw [hby]; exact hroom))
    have hcap := grownCap_le w (len + k) c e
    refine eff_grownB hr (hr.heap.kill id) (by simp) (fun j hj => by rw [List.getElem?_set_ne (Ne.symm (by simpa using hj))]) (hex _ _ hrun) hcap ?_ (hol.append hnews)
    rw [zeroCells_size,List.length_append,hoc,hnl,hzsz,← Nat.add_mul,← Nat.add_mul]
    exact Nat.mul_le_mul_right _ (by omega)
   cases hsv with
   | ref _ _ _ _ b ob c hm hl hcapm =>
    obtain ⟨arr,U',kb,hb,hid,hlive,hxl,hcell⟩ := refCells_sound hr.heap hm hxs
    have hcap := hcapm arr U' _ hb
    by_cases hfit : len + k ≤ c
    case neg =>
     obtain ⟨hol,hg⟩ := cells_range hxl hcell
     refine hgrow _ c _ rfl (by omega) hol (by simp) ?_
     rw [hsz]
     refine run_firstCells_some w.drew ie.size len _ len c _ (by simp) (fun j u hj => ?_)
     have hlt : j < len * ie.size := by have := (List.getElem?_eq_some_iff.1 hj).1; simpa using this
     simp only [List.getElem?_map,List.getElem?_range hlt,Option.map_some,Option.some.injEq] at hj
     subst hj
     rw [add_at]
     have : w.drew.heap = w.heap := rfl
     simp only [World.cell?,this,hb]
     exact hg j hlt
    have hin : ob + off * ie.size + len * ie.size + news.length ≤ arr.size := by
     have : (off + (len + k)) * ie.size ≤ (off + c) * ie.size := Nat.mul_le_mul_right _ (by omega)
     rw [Nat.add_mul,Nat.add_mul] at this
     omega
    have hrun := run_append_room_src (P := P) w T U o.type e info hu hinfo b (ob + off * ie.size) len c (a.eval z) k news hsrc hfit
     (fun j hj => by
      have : ob + off * ie.size + len * ie.size + j < arr.size := by omega
      simp [World.cell?,hb,hsz,this])
     (fun j hj => by simp [World.frozen?,hb])
    rw [hsz,setCells_eq news w b _ arr U' hb] at hrun
    have hw := wcells_wrote (fr' := (0,0)) hb (putCells_size news arr (ob + off * ie.size + len * ie.size))
    have hmv := hw.move hr.heap hm hid hlive
    have hbox := hw.heap hr.heap hm hid hlive (y := .box []) ⟨b,ob,_,U',rfl,wcells_at (Array.getElem?_eq_some_iff.1 hb).1,fun j x hx => by simp at hx⟩
    have hidl : id < st.h.length := (List.getElem?_eq_some_iff.1 hid).1
    have hrel := hbox.relocate (id := id) (o' := ob + off * ie.size) (x := .box []) (y := .box (xs ++ ys)) hm (by simp [hidl]) rfl ⟨b,_,_,U',rfl,wcells_at (Array.getElem?_eq_some_iff.1 hb).1,fun j x hx => ?_⟩
    ·rw [List.set_set] at hrel
     refine ⟨_,_,_,wp_value (hex _ _ hrun),hr.move (hmv.ext (o := ob + off * ie.size) ⟨id,ob,hm⟩) hrel,?_,fun j b' o' k hj hmj hk hlv => ?_,fun j hj hlt => by rw [List.getElem?_append_left (by simpa using hlt),List.getElem?_set_ne (Ne.symm (by simpa using hj))]⟩
     ·have := VRel.ref (w := wcells w b (putCells arr (ob + off * ie.size + len * ie.size) news) U' (0,0)) (S := S) (m := m ++ [some (b,ob + off * ie.size)]) st.h.length ie.size 0 (len + k) b (ob + off * ie.size) c
       (by rw [← hr.heap.len]; simp) hfit (fun arr' T' fr hb' => by
        rw [wcells_at (Array.getElem?_eq_some_iff.1 hb).1] at hb'
        simp at hb'
        obtain ⟨rfl,_,_⟩ := hb'
        rw [putCells_size,Nat.zero_add]
        rw [Nat.add_mul] at hcap
        omega)
      simpa using this
     ·refine hw.other b' (fun e => ?_)
      subst e
      exact hr.heap.inj j id k _ b' o' ob (by simpa using hj) hk hid hlv hlive hmj hm
    ·rw [putCells_get _ _ _ _ hin]
     rw [List.getElem?_append,hxl] at hx
     split at hx
     ·rename_i hlt
      have hc' : ¬ (ob + off * ie.size + len * ie.size ≤ ob + off * ie.size + j ∧ ob + off * ie.size + j < ob + off * ie.size + len * ie.size + news.length) := by omega
      simp only [hc',if_false]
      obtain ⟨u,hu,hv⟩ := hcell j x hx
      exact ⟨u,hu,(hv.move hmv hr.heap.lowm).wider (Sub.append _ _)⟩
     ·rename_i hge
      have hj2 : j - len * ie.size < ys.length := (List.getElem?_eq_some_iff.1 hx).1
      have hjn : j - len * ie.size < news.length := by rw [hnews.1]; exact hj2
      have hc' : ob + off * ie.size + len * ie.size ≤ ob + off * ie.size + j ∧ ob + off * ie.size + j < ob + off * ie.size + len * ie.size + news.length := by omega
      simp only [hc',and_self,if_true]
      refine ⟨news[j - len * ie.size],?_,((hnews.2 _ _ x (by simp) hx).move hmv hr.heap.lowm).wider (Sub.append _ _)⟩
      rw [show ob + off * ie.size + j - (ob + off * ie.size + len * ie.size) = j - len * ie.size from by omega]
      simp [hjn]
   | refz _ _ _ A =>
    have hx0 : xs = [] := by
     unfold refCells at hxs
     split at hxs
     ·split at hxs <;> simp at hxs
      subst hxs
      simp [thaw]
     ·split at hxs <;> simp at hxs
      subst hxs
      rfl
     ·cases hxs
    subst hx0
    refine hgrow A 0 [] rfl (by omega) ⟨rfl,fun i v x hv => by simp at hv⟩ (by simp) ?_
    cases A with
    | none => exact run_firstCells_none w.drew info.size 0 0 0
    | some ad => exact run_firstCells_some w.drew info.size 0 ad 0 0 [] (by simp) (fun j u hj => by simp at hj)
  ·cases ha
end
end Go.Abs
/- Maps; x.(T). -/
namespace Go.Abs
variable [Kn]
set_option linter.unusedSectionVars false
set_option linter.unusedVariables false
set_option linter.unusedSimpArgs false
open Go.MapKept
section
variable {P : Program} {w0 : World} {S0 : Nat → Prop} {m0 : List Loc} {w : World} {S : Nat → Prop} {m : List Loc} {a : Act} {st : St}
theorem zeroV_run {T : TypeId} {z : AV} (h : zeroV P T = some z) (w : World) (S : Nat → Prop) (m : List Loc) : ∃ v,(∀ w',(zeroValue T).run P w' = .ok v w') ∧ VRel w S m v z := by
 simp only [zeroV,Option.bind_eq_some_iff] at h
 obtain ⟨i,hi,v,hv,hz⟩ := h
 exact ⟨v,fun w' => by simp [zeroValue,typeInfo,hi,hv],ofValue_rel hz w S m⟩
theorem eff_assert (hr : RelSM w0 S0 m0 w S m a st) {o : Oper} {x : Operand} {X A : TypeId} {ok : Bool} (ho : o.op = .typeAssert x X A ok) {i : TI} (hi : tiOf P A = some i) (hni : ∀ ms,i.desc ≠ .interface ms)
  {v : AV} (hv : ev st.t x = some v) {r : AV} (ha : assertA P A ok v = some r) : EffOk P w0 S0 m0 w S m a st o r st.h [] := by
 have hvv := ev_rel hr.tmps hv
 have hu := (tiOf_spec hi).1
 have fin : ∀ u,(Instr.typeAssert (a.eval x) X A ok).run P w = .ok u w → VRel w S m u r → EffOk P w0 S0 m0 w S m a st o r st.h [] := fun u h1 h2 =>
  ⟨u,w,m,wp_value (by simp [execOp,ho,h1]),hr,h2,fun _ _ _ _ _ _ _ _ => rfl,fun _ _ _ => rfl⟩
 have two : ∀ (u : Value) (y : AV) (b : Bool),VRel w S m u y → VRel w S m (.tuple #[u,.bool b]) (.tuple [y,.fv (.bool b)]) := fun u y b h => by
  refine .tuple _ _ rfl (fun i v x hv hx => ?_)
  match i with
  | 0 => simp at hv hx; subst hv; subst hx; exact h
  | 1 => simp at hv hx; subst hv; subst hx; exact .bool_mk b
  | i + 2 => simp at hx
 generalize hd : i.desc = d at hu hni
 have hun : ∀ w',(underlying A).run P w' = .ok d w' := fun w' => by rw [← hd]; exact ti_under hi w'
 unfold assertA at ha
 split at ha
 ·rename_i T y
  generalize hax : a.eval x = ax at hvv fin
  cases hvv with
  | iface _ u _ hu' =>
   split at ha
   ·rename_i he
    subst he
    cases ok with
    | true =>
     simp only [if_true,Option.some.injEq] at ha
     subst ha
     refine fin _ ?_ (two u y true hu')
     unfold Instr.typeAssert
     simp only [Sem.run_bind,hun,Result.andThen_ok]
     cases d <;> first | exact absurd rfl (hni _) | simp
    | false =>
     simp only [Bool.false_eq_true,if_false,Option.some.injEq] at ha
     subst ha
     refine fin _ ?_ hu'
     unfold Instr.typeAssert
     simp only [Sem.run_bind,hun,Result.andThen_ok]
     cases d <;> first | exact absurd rfl (hni _) | simp
   ·rename_i hne
    split at ha
    case isFalse => cases ha
    rename_i hok
    subst hok
    simp only [Option.map_eq_some_iff] at ha
    obtain ⟨z,hz,rfl⟩ := ha
    obtain ⟨zv,hzv,hzr⟩ := zeroV_run hz w S m
    refine fin _ ?_ (two zv z false hzr)
    unfold Instr.typeAssert
    simp only [Sem.run_bind,hun,Result.andThen_ok]
    cases d <;> first | exact absurd rfl (hni _) | simp [hne,hzv]
 ·split at ha
  case isFalse => cases ha
  rename_i hok
  subst hok
  simp only [Option.map_eq_some_iff] at ha
  obtain ⟨z,hz,rfl⟩ := ha
  obtain ⟨zv,hzv,hzr⟩ := zeroV_run hz w S m
  have hnil := hvv.nil_inv
  rw [hnil] at fin
  refine fin _ ?_ (two zv z false hzr)
  unfold Instr.typeAssert
  simp only [Sem.run_bind,hun,Result.andThen_ok]
  cases d <;> first | exact absurd rfl (hni _) | simp [hzv]
 ·cases ha
theorem cellA_sound (hh : HRel w S m st.h) {p v : AV} {pv : Value} (hp : VRel w S m pv p) (h : cellA st.h p = some v) : ∃ ad u,pv = .pointer (some ad) ∧ w.cell? ad = some u ∧ w.frozen? ad = false ∧ VRel w S m u v := by
 unfold cellA at h
 split at h
 case h_2 => cases h
 rename_i id es r off
 generalize hpp : AV.ptr id es r off = pp at hp
 cases hp <;> simp at hpp
 rename_i b ob hm
 obtain ⟨rfl,rfl,rfl,rfl⟩ := hpp
 generalize hid : st.h[id]? = k at h
 split at h
 case h_2 => cases h
 rename_i cs
 obtain ⟨b',o',arr,U,hloc,hb,hcell⟩ := hh.blk id _ _ hm hid
 simp at hloc
 obtain ⟨rfl,rfl⟩ := hloc
 obtain ⟨u,hu,hv⟩ := hcell _ v h
 refine ⟨_,u,rfl,?_,by simp [World.frozen?,hb],hv⟩
 rw [← Nat.add_assoc] at hu
 simp [World.cell?,hb,hu]
theorem eff_unsafe (hr : RelSM w0 S0 m0 w S m a st) {o : Oper} {s u e : TypeId} {x : Operand} (ho : o.op = .convert s u x) {i i2 ie : TI} (hs : tiOf P s = some i) (hd : i.desc = .pointer e) (hu : tiOf P u = some i2) (hd2 : i2.desc = .unsafePointer)
  (he : tiOf P e = some ie) (hne : ¬ ie.size = 0) {v c : AV} (hv : ev st.t x = some v) (hc : cellA st.h v = some c) : EffOk P w0 S0 m0 w S m a st o v st.h [] := by
 have hvv := ev_rel hr.tmps hv
 obtain ⟨ad,u',hax,h1,_,_⟩ := cellA_sound hr.heap hvv hc
 have hs' := (tiOf_spec hs).1
 have hu' := (tiOf_spec hu).1
 rw [hd] at hs'
 rw [hd2] at hu'
 obtain ⟨_,info,hinfo,hsz,_⟩ := tiOf_spec he
 have hrun := run_convert_to_unsafe (P := P) (w := w) hs' hu' (by rw [hinfo]; simp [hsz,hne]) h1
 refine ⟨a.eval x,w,m,wp_value (by simp [execOp,ho,hax,hrun]),hr,hvv,fun _ _ _ _ _ _ _ _ => rfl,fun _ _ _ => rfl⟩
theorem eff_makeMap (hr : RelSM w0 S0 m0 w S m a st) {o : Oper} {T : TypeId} (ho : o.op = .makeMap T none) : EffOk P w0 S0 m0 w S m a st o (.mp st.h.length) (st.h ++ [.map []]) [] := by
 have hrun : (execOp a.eval o).run P w = .ok (.value (.map (some w.heap.size))) (wpush w (.map #[] 0)) := by
  simp [execOp,ho,Instr.makeMap,wpush]
 refine ⟨_,_,_,wp_value hrun,hr.push (.map #[] 0) (.map []) ⟨w.heap.size,#[],0,rfl,wpush_new _ _,rfl,by simp,by simp,by simp⟩,?_,fun i b o' k _ hi _ _ => wpush_old w _ (hr.heap.lowm i b o' hi),fun i _ hi => by rw [List.getElem?_append_left hi]⟩
 exact .mp _ _ (by rw [← hr.heap.len]; simp)
theorem key_conc {d : TypeDesc} {k : FV} (hk : keyD d k = true) {v : Value} (h : FRel w S v k) : IsKey d v ∧ v = conc k := by
 cases d <;> cases k <;> simp [keyD] at hk <;> cases h <;> simp_all [IsKey,conc]
theorem same_key {d : TypeDesc} {k k' : FV} (hk : keyD d k = true) {u v : Value} (hu : FRel w S u k) (hv : FRel w S v k') {b : Bool} (h : sameK k k' = some b) : Instr.sameNow d u v = some b := by
 cases k <;> cases k' <;> simp only [sameK] at h <;> try cases h
 all_goals (cases hu; cases hv)
 ·cases d <;> simp_all [keyD,Instr.sameNow]
 ·split at h <;> simp at h
  cases d <;> simp_all [keyD,Instr.sameNow]
 ·cases d <;> simp [keyD] at hk
  simp only [Instr.sameNow,Option.some.injEq]
  rename_i s s'
  rw [Bool.eq_iff_iff,bytes_beq]
  simp
theorem find_rel {d : TypeDesc} {k : FV} (hk : keyD d k = true) {u : Value} (hu : FRel w S u k) : ∀ (l : List MapEntry) (es : List (FV × AV)) (i : Nat) (r : Option (Nat × AV)),l.length = es.length →
  (∀ (i : Nat) (e : MapEntry) (p : FV × AV),l[i]? = some e → es[i]? = some p → FRel w S e.key p.1 ∧ VRel w S m e.val p.2) → findA k es i = some r →
  match r with
  | none => Instr.findNow d u l i = some none
  | some (j,v) => ∃ e,Instr.findNow d u l i = some (some (j,e.val)) ∧ VRel w S m e.val v ∧ i ≤ j ∧ l[j - i]? = some e ∧ FRel w S e.key k
 | [],[],i,r,_,_,h => by simp [findA] at h; subst h; simp [Instr.findNow]
 | e :: l,p :: es,i,r,hl,hrel,h => by
  obtain ⟨k',v⟩ := p
  obtain ⟨hk1,hv1⟩ := hrel 0 e (k',v) rfl rfl
  simp only [findA] at h
  split at h
  ·rename_i hs
   simp only [Option.some.injEq] at h
   subst h
   refine ⟨e,?_,hv1,Nat.le_refl _,by simp,?_⟩
   ·simp only [Instr.findNow,same_key hk hu hk1 hs]
   ·have : k = k' := by
     cases k <;> cases k' <;> simp [sameK] at hs <;> try (subst hs; rfl)
     obtain ⟨rfl,rfl⟩ := hs; rfl
    rw [this]; exact hk1
  ·rename_i hs
   have ih := find_rel hk hu l es (i + 1) r (by simpa using hl) (fun i e p he hp => hrel (i + 1) e p (by simpa using he) (by simpa using hp)) h
   cases r with
   | none => simpa only [Instr.findNow,same_key hk hu hk1 hs] using ih
   | some q =>
    obtain ⟨j,v'⟩ := q
    obtain ⟨e',h1,h2,h3,h4,h5⟩ := ih
    refine ⟨e',by simpa only [Instr.findNow,same_key hk hu hk1 hs] using h1,h2,by omega,?_,h5⟩
    rw [show j - i = (j - (i + 1)) + 1 from by omega]
    simpa using h4
  ·cases h
 | [],_ :: _,_,_,hl,_,_ => by simp at hl
 | _ :: _,[],_,_,hl,_,_ => by simp at hl
theorem eff_lookup (hr : RelSM w0 S0 m0 w S m a st) {o : Oper} {X K E : TypeId} {x k : Operand} {ok : Bool} (ho : o.op = .lookup X x k ok) {i ik : TI} (hi : tiOf P X = some i) (hd : i.desc = .map K E) (hik : tiOf P K = some ik)
  {mv : AV} {kf : FV} (hmv : ev st.t x = some mv) (hkv : ev st.t k = some (.fv kf)) (hkd : keyD ik.desc kf = true) {es : List (FV × AV)} (hes : mapOf st.h mv = some es) {r : Option (Nat × AV)} (hf : findA kf es 0 = some r)
  {v : AV} (hl : lookA P E ok r = some v) : EffOk P w0 S0 m0 w S m a st o v st.h [] := by
 have hmr := ev_rel hr.tmps hmv
 have hkr := ev_rel hr.tmps hkv
 have hkf : FRel w S (a.eval k) kf := by
  generalize a.eval k = u at hkr
  cases hkr
  assumption
 obtain ⟨hik',_⟩ := key_conc hkd hkf
 have hK := (tiOf_spec hik).1
 have two : ∀ (u : Value) (y : AV) (b : Bool),VRel w S m u y → VRel w S m (.tuple #[u,.bool b]) (.tuple [y,.fv (.bool b)]) := fun u y b h => by
  refine .tuple _ _ rfl (fun i v x hv hx => ?_)
  match i with
  | 0 => simp at hv hx; subst hv; subst hx; exact h
  | 1 => simp at hv hx; subst hv; subst hx; exact .bool_mk b
  | i + 2 => simp at hx
 have main : ∀ (arr : Array MapEntry),((a.eval x = .map none ∧ arr = #[]) ∨ ∃ b clk,a.eval x = .map (some b) ∧ w.heap[b]? = some (.map arr clk)) → arr.toList.length = es.length →
   (∀ (i : Nat) (e : MapEntry) (p : FV × AV),arr.toList[i]? = some e → es[i]? = some p → FRel w S e.key p.1 ∧ VRel w S m e.val p.2) → EffOk P w0 S0 m0 w S m a st o v st.h [] := by
  intro arr hget hlen hrel
  have hfr := find_rel (m := m) hkd hkf arr.toList es 0 r hlen hrel hf
  have hrun : ∃ u,(Instr.lookup X (a.eval x) (a.eval k) ok).run P w = .ok u w ∧ VRel w S m u v := by
   unfold Instr.lookup
   have hmu := fun w' => ti_under hi w'
   rw [hd] at hmu
   simp only [Sem.run_bind,hmu,Result.andThen_ok]
   have hck := run_checkKey (P := P) (w := w) hK hik' arr.isEmpty 9999
   cases r with
   | none =>
    simp only [lookA,Option.map_eq_some_iff] at hl
    obtain ⟨z,hz,rfl⟩ := hl
    obtain ⟨zv,hzv,hzr⟩ := zeroV_run hz w S m
    have hfk := run_findKey (P := P) (w := w) hK hfr
    refine ⟨if ok then .tuple #[zv,.bool false] else zv,?_,?_⟩
    ·rcases hget with ⟨he,rfl⟩ | ⟨b,clk,he,hb⟩
     ·simp only [he,Sem.run_bind,Sem.run_pure,Result.andThen_ok,hck,hfk,hzv]
     ·simp only [he,Go.MapKept.run_getObj_map hb,Sem.run_bind,Sem.run_pure,Result.andThen_ok,hck,hfk,hzv]
    ·cases ok with
     | true => exact two _ _ _ hzr
     | false => exact hzr
   | some q =>
    obtain ⟨j,v'⟩ := q
    simp only [lookA,Option.some.injEq] at hl
    subst hl
    obtain ⟨e,hfn,hvr,_,_,_⟩ := hfr
    have hfk := run_findKey (P := P) (w := w) hK hfn
    refine ⟨if ok then .tuple #[e.val,.bool true] else e.val,?_,?_⟩
    ·rcases hget with ⟨he,rfl⟩ | ⟨b,clk,he,hb⟩
     ·simp only [he,Sem.run_bind,Sem.run_pure,Result.andThen_ok,hck,hfk]
     ·simp only [he,Go.MapKept.run_getObj_map hb,Sem.run_bind,Sem.run_pure,Result.andThen_ok,hck,hfk]
    ·cases ok with
     | true => exact two _ _ _ hvr
     | false => exact hvr
  obtain ⟨u,h1,h2⟩ := hrun
  exact ⟨u,w,m,wp_value (by simp [execOp,ho,h1]),hr,h2,fun _ _ _ _ _ _ _ _ => rfl,fun _ _ _ => rfl⟩
 unfold mapOf at hes
 split at hes
 ·rename_i id
  generalize hid : st.h[id]? = kb at hes
  split at hes <;> simp at hes
  rename_i es'
  subst hes
  generalize hax : a.eval x = ax at hmr main
  cases hmr with
  | mp _ b hm =>
   obtain ⟨b',arr,clk,hloc,hb,hsz,_,_,hrel⟩ := hr.heap.blk id _ _ hm hid
   simp at hloc
   subst hloc
   exact main arr (.inr ⟨b,clk,rfl,hb⟩) (by simpa using hsz) (fun i e p he hp => hrel i e p (by simpa using he) hp)
 ·simp only [Option.some.injEq] at hes
  subst hes
  have := hmr.nil_inv
  exact main #[] (.inl ⟨this,rfl⟩) rfl (fun i e p he hp => by simp at hp)
 ·cases hes
theorem eff_mapUpdate (hr : RelSM w0 S0 m0 w S m a st) {o : Oper} {X K E : TypeId} {x k y : Operand} (ho : o.op = .mapUpdate X x k y ∨ o.op = .insert X x k y) {i ik : TI} (hi : tiOf P X = some i) (hd : i.desc = .map K E) (hik : tiOf P K = some ik)
  {id : Nat} {kf : FV} {v : AV} (hmv : ev st.t x = some (.mp id)) (hkv : ev st.t k = some (.fv kf)) (hyv : ev st.t y = some v) (hkd : keyD ik.desc kf = true) {es : List (FV × AV)} (hid : st.h[id]? = some (.map es))
  {r : Option (Nat × AV)} (hf : findA kf es 0 = some r) :
  EffOk P w0 S0 m0 w S m a st o .undef (st.h.set id (.map (putE kf v es r))) [id] := by
 have hmr := ev_rel hr.tmps hmv
 have hkr := ev_rel hr.tmps hkv
 have hyr := ev_rel hr.tmps hyv
 have hkf : FRel w S (a.eval k) kf := by
  generalize a.eval k = u at hkr
  cases hkr
  assumption
 obtain ⟨hik',hkc⟩ := key_conc hkd hkf
 have hK := (tiOf_spec hik).1
 generalize hax : a.eval x = ax at hmr
 cases hmr with
 | mp _ b hm =>
  obtain ⟨b',arr,clk,hloc,hb,hsz,hborn,hrise,hrel⟩ := hr.heap.blk id _ _ hm hid
  simp at hloc
  subst hloc
  have hbl : b < w.heap.size := (Array.getElem?_eq_some_iff.1 hb).1
  have hfr := find_rel (m := m) hkd hkf arr.toList es 0 r (by simpa using hsz) (fun i e p he hp => hrel i e p (by simpa using he) hp) hf
  have wr : ∀ (arr' : Array MapEntry) (clk' : Nat),Wrote w { w with heap := w.heap.setIfInBounds b (.map arr' clk') } b := fun arr' clk' => by
   refine ⟨by simp,rfl,rfl,rfl,Nat.le_refl _,fun b' hne => by simp [Ne.symm hne],fun a2 T fr h2 => ?_⟩
   simp [hbl] at h2
  have fin : ∀ (arr' : Array MapEntry) (clk' : Nat) (es' : List (FV × AV)),(Instr.mapUpdate X (.map (some b)) (a.eval k) (a.eval y)).run P w = .ok () { w with heap := w.heap.setIfInBounds b (.map arr' clk') } →
    arr'.size = es'.length → (∀ (i : Nat) (e : MapEntry),arr'[i]? = some e → e.born < clk') → (∀ (i j : Nat) (e f : MapEntry),i < j → arr'[i]? = some e → arr'[j]? = some f → e.born < f.born) →
    (∀ (i : Nat) (e : MapEntry) (p : FV × AV),arr'[i]? = some e → es'[i]? = some p → FRel w S e.key p.1 ∧ VRel w S m e.val p.2) →
    EffOk P w0 S0 m0 w S m a st o .undef (st.h.set id (.map es')) [id] := fun arr' clk' es' hrun hs' hb' hr' hrel' => by
   have hw := wr arr' clk'
   have hmv2 := hw.move hr.heap hm hid rfl
   refine ⟨Go.undef,_,m,wp_skipped (by rcases ho with ho | ho <;> simp only [execOp,ho,hax,Sem.run_bind,hrun,Result.andThen_ok,Sem.run_pure]),hr.wrote hw hm hid rfl ?_,.undef,fun j b' o' k hj hmj hk hlv => ?_,fun j hj _ => by rw [List.getElem?_set_ne (Ne.symm (by simpa using hj))]⟩
   ·refine ⟨b,arr',clk',rfl,by simp [hbl],hs',hb',hr',fun i e p he hp => ?_⟩
    obtain ⟨h1,h2⟩ := hrel' i e p he hp
    exact ⟨h1.stab hmv2.up hmv2.frozen,h2.move hmv2 hr.heap.lowm⟩
   ·refine hw.other b' (fun e => ?_)
    subst e
    exact hr.heap.inj j id k _ b' o' 0 (by simpa using hj) hk hid hlv rfl hmj hm
  have hck := run_checkKey (P := P) (w := w) hK hik' false 9999
  cases r with
  | none =>
   have hfk := run_findKey (P := P) (w := w) hK hfr
   simp only [putE]
   refine fin (arr.push { key := a.eval k,val := a.eval y,born := clk }) (clk + 1) _ ?_ (by simp [hsz]) (fun i e he => ?_) (fun i j e f hij he hf' => ?_) (fun i e p he hp => ?_)
   ·unfold Instr.mapUpdate
    simp only [Sem.run_bind,ti_under hi,hd,Result.andThen_ok,Go.MapKept.run_getObj_map hb,hck,hfk]
    exact Go.MapKept.run_setObj_map _ hb
   ·rw [Array.getElem?_push] at he
    split at he
    ·simp at he; subst he; simp
    ·have := hborn i e he; omega
   ·rw [Array.getElem?_push] at he hf'
    have hj : j ≤ arr.size := by
     split at hf'
     ·omega
     ·have := (Array.getElem?_eq_some_iff.1 hf').1; omega
    rw [if_neg (by omega)] at he
    split at hf'
    ·simp at hf'; subst hf'; exact hborn i e he
    ·exact hrise i j e f hij he hf'
   ·rw [Array.getElem?_push] at he
    rw [List.getElem?_append] at hp
    split at he
    ·rename_i e1
     rw [if_neg (by omega),← hsz,e1] at hp
     simp at he hp
     subst he; subst hp
     exact ⟨hkf,hyr⟩
    ·have hlt := (Array.getElem?_eq_some_iff.1 he).1
     rw [if_pos (by omega)] at hp
     exact hrel i e p he hp
  | some q =>
   obtain ⟨j,v'⟩ := q
   obtain ⟨e0,hfn,_,_,hj0,hke⟩ := hfr
   simp only [Nat.sub_zero,Array.getElem?_toList] at hj0
   have hfk := run_findKey (P := P) (w := w) hK hfn
   have hkeq : e0.key = a.eval k := by
    obtain ⟨_,h2⟩ := key_conc hkd hke
    rw [h2,hkc]
   have hjl : j < arr.size := (Array.getElem?_eq_some_iff.1 hj0).1
   have hstay : (Instr.keyThatStays (((arr[j]?).map (·.key)).getD (a.eval k)) (a.eval k)).run P w = .ok (a.eval k) w := by
    have hsb : Instr.sameBits 10000 (a.eval k) (a.eval k) = true := by
     rw [hkc]
     cases kf <;> cases hd2 : ik.desc <;> simp [hd2,keyD] at hkd <;> simp [conc,Instr.sameBits,bytes_beq]
    simp [Instr.keyThatStays,hj0,hkeq,hsb]
   have gm : ∀ (i : Nat) (e : MapEntry),(arr.modify j fun e => { e with key := a.eval k,val := a.eval y })[i]? = some e → ∃ e1,arr[i]? = some e1 ∧ e.born = e1.born ∧ (if i = j then e.key = a.eval k ∧ e.val = a.eval y else e = e1) := fun i e he => by
    rw [Array.getElem?_modify] at he
    split at he
    ·rename_i e1
     subst e1
     simp only [Option.map_eq_some_iff] at he
     obtain ⟨e1,h1,rfl⟩ := he
     exact ⟨e1,h1,rfl,by simp⟩
    ·rename_i hne
     exact ⟨e,he,rfl,by simp [Ne.symm hne]⟩
   simp only [putE]
   refine fin (arr.modify j fun e => { e with key := a.eval k,val := a.eval y }) clk _ ?_ (by simp [hsz]) (fun i e he => ?_) (fun i j' e f hij he hf' => ?_) (fun i e p he hp => ?_)
   ·unfold Instr.mapUpdate
    simp only [Sem.run_bind,ti_under hi,hd,Result.andThen_ok,Go.MapKept.run_getObj_map hb,hck,hfk,hstay]
    exact Go.MapKept.run_setObj_map _ hb
   ·obtain ⟨e1,h1,h2,_⟩ := gm i e he
    rw [h2]; exact hborn i e1 h1
   ·obtain ⟨e1,h1,h2,_⟩ := gm i e he
    obtain ⟨f1,g1,g2,_⟩ := gm j' f hf'
    rw [h2,g2]; exact hrise i j' e1 f1 hij h1 g1
   ·obtain ⟨e1,h1,_,h3⟩ := gm i e he
    rw [List.getElem?_set] at hp
    split at h3
    ·rename_i ei
     subst ei
     rw [if_pos rfl,if_pos (by omega)] at hp
     simp at hp
     subst hp
     rw [h3.1,h3.2]
     exact ⟨hkf,hyr⟩
    ·rename_i hne
     rw [if_neg (Ne.symm hne)] at hp
     subst h3
     exact hrel i e p h1 hp
end
end Go.Abs
/- Rows copied; bytes as a text. -/
namespace Go.Abs
variable [Kn]
set_option linter.unusedSectionVars false
set_option linter.unusedVariables false
set_option linter.unusedSimpArgs false
section
variable {P : Program} {w0 : World} {S0 : Nat → Prop} {m0 : List Loc} {w : World} {S : Nat → Prop} {m : List Loc} {a : Act} {st : St}
theorem cut_rel {x x' : AV} {A : Option Addr} {n c k : Nat} (hx : VRel w S m (.slice A n c) x) (hk : k ≤ n) (hs : cutA k x = some x') : VRel w S m (.slice A k c) x' := by
 unfold cutA at hs
 split at hs
 ·simp only [Option.some.injEq] at hs
  subst hs
  cases hx with
  | fv _ _ hf =>
   cases hf with
   | lst _ _ _ es xs u ad hn hcp hes ha hS hc hr =>
    refine .fv _ _ (.lst _ _ _ _ _ u ad (by rw [List.length_take]; omega) (by omega) (fun i row hrow => ?_) (fun h => ha (by omega)) (fun h => hS (by omega)) (fun i j hi hj => hc i j (by omega) hj) (fun i j row x hrow hx => ?_))
    ·rw [List.getElem?_take] at hrow
     split at hrow
     ·exact hes i row hrow
     ·cases hrow
    ·rw [List.getElem?_take] at hrow
     split at hrow
     ·exact hr i j row x hrow hx
     ·cases hrow
 ·simp only [Option.some.injEq] at hs
  subst hs
  have h := hx.nils_inv
  simp only [Value.slice.injEq] at h
  obtain ⟨rfl,rfl,rfl⟩ := h
  obtain rfl : k = 0 := by omega
  exact hx
 ·simp only [Option.some.injEq] at hs
  subst hs
  cases hx with
  | ref _ _ _ _ b o _ hm hl hc => exact .ref _ _ _ _ b o c hm (by omega) hc
  | refz _ _ _ _ =>
   obtain rfl : k = 0 := by omega
   exact .refz _ _ _ _
 ·cases hs
theorem first_same (size n : Nat) (A : Option Addr) (k l c : Nat) : Builtin.firstCells size n (.slice A k c) = Builtin.firstCells size n (.slice A l c) := by cases A <;> rfl
theorem cut_slice {x x' : AV} {v : Value} {n k : Nat} (hn : lenA x = some n) (hx : VRel w S m v x) (hs : cutA k x = some x') : ∃ A c,v = .slice A n c := by
 rcases lenA_sound hn hx with ⟨s,rfl,_⟩ | h
 ·unfold cutA at hs
  split at hs
  ·cases hx with
   | fv _ _ hf => cases hf
  ·have := hx.nils_inv; cases this
  ·cases hx
  ·cases hs
 ·exact h
theorem eff_copy (hr : RelSM w0 S0 m0 w S m a st) {o : Oper} {as : Array Operand} {ts : Array TypeId} (ho : o.op = .call { callee := .builtin .copy,args := as,argTypes := ts }) {s x : AV} {T U e : TypeId}
  (hv : evs st.t as.toList = some [s,x]) (hts : ts.toList = [T,U]) {i iu ie : TI} (hT : tiOf P T = some i) (hd : i.desc = .slice e) (hU : tiOf P U = some iu) (hie : tiOf P e = some ie) (hpos : 0 < ie.size)
  {v : AV} {h' : List Blk} {W : List Nat} (hc : copyA ie iu st.h s x = some (v,h',W)) : EffOk P w0 S0 m0 w S m a st o v h' W := by
 obtain ⟨y,z,hyz⟩ : ∃ y z,as = #[y,z] := by
  have := (evs_rel hr.tmps hv).1
  simp at this
  match as,this with
  | ⟨[y,z]⟩,_ => exact ⟨y,z,rfl⟩
 subst hyz
 have hrel := evs_rel hr.tmps hv
 have hsv : VRel w S m (a.eval y) s := hrel.2 0 _ s (by simp) rfl
 have hxv : VRel w S m (a.eval z) x := hrel.2 1 _ x (by simp) rfl
 have htsa : ts = #[T,U] := by apply Array.ext'; simpa using hts
 subst htsa
 obtain ⟨_,info,hinfo,hsz,hby,hzz⟩ := tiOf_spec hie
 have hu : P.underlying T = some (.slice e) := by rw [← hd]; exact (tiOf_spec hT).1
 have hex : ∀ (val : Value) (w' : World),(Builtin.copy_ #[T,U] o.type #[a.eval y,a.eval z]).run P w = .ok val w' → (execOp a.eval o).run P w = .ok (.value val) w' := fun val w' h => by
  simp [execOp,ho,resolve,invoke,builtin,h]
 generalize hay : a.eval y = sv at hsv hex
 generalize haz : a.eval z = xv at hxv hex
 unfold copyA at hc
 split at hc
 case h_2 => cases hc
 rename_i id es off len
 generalize hid : st.h[id]? = k at hc
 split at hc
 case h_2 => cases hc
 rename_i es' rows
 split at hc
 case isFalse => cases hc
 rename_i he
 obtain ⟨rfl,rfl⟩ := he
 simp only [Option.bind_eq_some_iff,Option.map_eq_some_iff,Prod.mk.injEq] at hc
 obtain ⟨k,hk,x',hx',ys,hys,rows',hsp,rfl,rfl,rfl⟩ := hc
 obtain ⟨A,c,rfl⟩ := cut_slice hk hxv hx'
 have hcut := cut_rel hxv (Nat.min_le_left k len) hx'
 obtain ⟨news,hsrc,hnews⟩ := src_sound (P := P) hr.heap hU hpos hcut hys
 have hyl : ys.length = min k len := by
  have := hsrc.len w
  simp [Builtin.lenOf] at this
  exact this.symm
 have hfirst : (Builtin.firstCells ie.size (min k len) (.slice A k c)).run P w = .ok news.toArray w := by
  rw [first_same _ _ A k (min k len) c,← hyl]
  rw [hyl]
  have := hsrc.cells
  rwa [hyl] at this
 have hmin : Nat.min k len = min k len := rfl
 cases hsv with
 | ref _ _ _ _ b ob cc hm hl hcapm =>
  obtain ⟨hes,arr,Ut,hb,hcell⟩ := hr.heap.blk id _ _ hm hid
  have hcap := hcapm arr Ut _ hb
  obtain ⟨h1,h2,h3⟩ := rows_wrote (P := P) hr hm hid hb hpos hnews hsp (by
   have : (off + ys.length) * ie.size ≤ (off + cc) * ie.size := Nat.mul_le_mul_right _ (by omega)
   omega)
  refine ⟨.int .i64 (min k len : Nat),_,m,wp_value (hex _ _ ?_),h2,.fv _ _ (.int _ _),h3,fun j hj _ => by rw [List.getElem?_set_ne (Ne.symm (by simpa using hj))]⟩
  simp [Builtin.copy_,run_underlying hu,Builtin.lenOf,sizeOf,typeInfo,hinfo,hsz,hmin,hfirst,h1,goInt]
 | refz _ _ _ B =>
  have hy0 : ys = [] := List.eq_nil_of_length_eq_zero (by omega)
  subst hy0
  have hn0 : news = [] := List.eq_nil_of_length_eq_zero (by have := hnews.1; simpa using this)
  subst hn0
  have hrr : rows' = rows := by
   simp [splice] at hsp
   exact hsp.2.symm
  subst hrr
  have hself : st.h.set id (.plain ie.size rows') = st.h := by
   apply List.ext_getElem?
   intro j
   rw [List.getElem?_set]
   split
   ·rename_i e; subst e
    have := (List.getElem?_eq_some_iff.1 hid).1
    rw [if_pos this,hid]
   ·rfl
  refine ⟨.int .i64 (min k 0 : Nat),w,m,wp_value (hex _ _ ?_),by rw [hself]; exact hr,.fv _ _ (.int _ _),fun _ _ _ _ _ _ _ _ => rfl,fun j hj _ => by rw [List.getElem?_set_ne (Ne.symm (by simpa using hj))]⟩
  have hf0 := hfirst
  rw [Nat.min_zero] at hf0
  cases B <;> simp [Builtin.copy_,run_underlying hu,Builtin.lenOf,sizeOf,typeInfo,hinfo,hsz,hmin,hf0,storeCells,goInt]
theorem push_all : ∀ (ns : List Int) (s : ByteArray),ns.foldl (fun r n => r.push (UInt8.ofNat n.toNat)) s = ⟨(s.data.toList ++ ns.map fun n => UInt8.ofNat n.toNat).toArray⟩
 | [],s => by simp
 | n :: ns,s => by
  rw [List.foldl_cons,push_all ns]
  simp [ByteArray.push]
theorem rowsBytes_rel : ∀ {ys : List (List FV)} {b : List UInt8} {news : List Value},rowsBytes ys = some b → NewsRel w S 1 ys news → ∃ ns : List Int,news = ns.map (Value.int .u8) ∧ b = ns.map fun n => UInt8.ofNat n.toNat
 | [],b,news,h,hn => by
  simp only [rowsBytes,Option.some.injEq] at h
  subst h
  have : news = [] := List.eq_nil_of_length_eq_zero (by have := hn.1; simpa using this)
  exact ⟨[],by simp [this],rfl⟩
 | row :: ys,b,news,h,hn => by
  unfold rowsBytes at h
  split at h
  ·cases ‹_ = []›
  ·rename_i n l he
   simp only [List.cons.injEq] at he
   obtain ⟨rfl,rfl⟩ := he
   simp only [Option.map_eq_some_iff] at h
   obtain ⟨b',hb',rfl⟩ := h
   obtain ⟨h1,h2,h3⟩ := hn
   cases news with
   | nil => simp at h1
   | cons v news =>
    have hv : v = .int .u8 n := by
     obtain ⟨u,hu,hf⟩ := h3 0 0 _ (.int .u8 n) rfl rfl
     simp at hu
     subst hu
     cases hf
     rfl
    subst hv
    obtain ⟨ns,rfl,rfl⟩ := rowsBytes_rel (news := news) hb' ⟨by simpa using h1,fun r row hr => h2 (r + 1) row (by simpa using hr),fun r j row c hr hc => by
     obtain ⟨u,hu,hf⟩ := h3 (r + 1) j row c (by simpa using hr) hc
     have hj : j < 1 := by rw [← h2 (r + 1) row (by simpa using hr)]; exact (List.getElem?_eq_some_iff.1 hc).1
     refine ⟨u,?_,hf⟩
     rw [show (r + 1) * 1 + j = (r * 1 + j) + 1 by omega] at hu
     simpa using hu⟩
    exact ⟨n :: ns,rfl,rfl⟩
  ·cases h
theorem eff_bytes (hr : RelSM w0 S0 m0 w S m a st) {o : Oper} {s u e : TypeId} {x : Operand} (ho : o.op = .convert s u x) {i i2 ie : TI} (hs : tiOf P s = some i) (hd : i.desc = .slice e) (hu : tiOf P u = some i2) (hd2 : i2.desc = .string)
  (he : tiOf P e = some ie) (hde : ie.desc = .int .u8) {v : AV} (hv : ev st.t x = some v) {ys : List (List FV)} (hys : srcRows i 1 st.h v = some ys) {b : List UInt8} (hb : rowsBytes ys = some b) :
  EffOk P w0 S0 m0 w S m a st o (.fv (.str b)) st.h [] := by
 have hvv := ev_rel hr.tmps hv
 have hs' := (tiOf_spec hs).1
 have hu' := (tiOf_spec hu).1
 have he' := (tiOf_spec he).1
 rw [hd] at hs'
 rw [hd2] at hu'
 rw [hde] at he'
 obtain ⟨news,hsrc,hnews⟩ := src_sound (P := P) hr.heap hs (by omega) hvv hys
 obtain ⟨ns,rfl,rfl⟩ := rowsBytes_rel hb hnews
 have hex : ∀ (val : Value) (w' : World),(convert s u (a.eval x)).run P w = .ok val w' → (execOp a.eval o).run P w = .ok (.value val) w' := fun val w' h => by
  simp [execOp,ho,h]
 have hlen := hsrc.len w
 have hcl := hsrc.cells
 have hnl := hsrc.newsLen
 generalize hax : a.eval x = xv at hvv hex hsrc hlen hcl
 have hsl : ∃ A n c,xv = .slice A n c := by
  unfold srcRows at hys
  rw [hd] at hys
  split at hys
  ·cases hvv with
   | fv _ _ hf => cases hf; exact ⟨_,_,_,rfl⟩
  ·exact ⟨none,0,0,hvv.nils_inv⟩
  ·cases hvv with
   | ref => exact ⟨_,_,_,rfl⟩
   | refz => exact ⟨_,_,_,rfl⟩
  ·rename_i heq; cases heq
  ·cases hys
 obtain ⟨A,n,c,rfl⟩ := hsl
 have hn : n = ys.length := by simpa [Builtin.lenOf] using hlen
 subst hn
 have fin : (convert s u (.slice A ys.length c)).run P w = .ok (.string ⟨(ns.map fun n => UInt8.ofNat n.toNat).toArray⟩) w := by
  rw [run_convert_bytes_string w s u e A ys.length c hs' he' hu']
  cases A with
  | none =>
   have h0 : ns = [] := by
    simp [Builtin.firstCells] at hcl
    first | exact hcl | exact hcl.symm
   subst h0
   simp [Conv.bytesToString]
   rfl
  | some ad =>
   have hl : (loadCells ad ys.length).run P w = .ok (ns.map (Value.int .u8)).toArray w := by
    simpa [Builtin.firstCells] using hcl
   rw [run_bytesToString w ad ys.length c ns hl,push_all]
   simp
 exact ⟨_,w,m,wp_value (hex _ _ fin),hr,.fv _ _ (.str _),fun _ _ _ _ _ _ _ _ => rfl,fun _ _ _ => rfl⟩
end
end Go.Abs
