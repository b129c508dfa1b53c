/- Rows written in place: copy, clear; rows of zeros put behind nothing. -/
import Derived.Test.YtckpaaeilbgiiaaAbsL
namespace Go.Abs
set_option linter.unusedVariables false
set_option linter.unusedSimpArgs false
section
variable {P : Program} {w0 : World} {S0 : Nat → Prop} {m0 : List Loc} {w : World} {S : Nat → Prop} {m : List Loc} {a : Act} {st : St}

theorem rows_wrote (hr : RelSM w0 S0 m0 w S m a st) {id es b ob off : Nat} {rows ys rows' : List (List FV)} {news : List Value} {arr : Array Value} {U : TypeId} (hm : m[id]? = some (some (b, ob))) (hid : st.h[id]? = some (.plain es rows))
    (hb : w.heap[b]? = some (.cells arr U (0, 0))) (hpos : 0 < es) (hnews : NewsRel w S es ys news) (hsp : splice rows off ys = some rows') (hcap : ob + (off + ys.length) * es ≤ arr.size) :
    (storeCells ⟨b, ob + off * es, none⟩ news).run P w = .ok () (wcells w b (putCells arr (ob + off * es) news) U (0, 0)) ∧
    RelSM w0 S0 m0 (wcells w b (putCells arr (ob + off * es) news) U (0, 0)) S m a { st with h := st.h.set id (.plain es rows') } ∧
    (∀ (i b' o' : Nat) (k : Blk), i ∉ [id] → m[i]? = some (some (b', o')) → st.h[i]? = some k → k.live = true → (wcells w b (putCells arr (ob + off * es) news) U (0, 0)).heap[b']? = w.heap[b']?) := by
  obtain ⟨hes, arr', U', hb', hcell⟩ := hr.heap.blk id _ _ hm hid
  rw [hb] at hb'
  simp only [Option.some.injEq, Obj.cells.injEq, and_true] at hb'
  obtain ⟨rfl, rfl⟩ := hb'
  obtain ⟨g1, g2, g3⟩ := splice_get hsp
  have hnl : news.length = ys.length * es := hnews.1
  have hin : ob + off * es + news.length ≤ arr.size := by rw [hnl]; rw [Nat.add_mul] at hcap; omega
  have hrun := run_storeCells (P := P) news w b (ob + off * es) 0 arr U hb (by simpa using hin) (hnews.one hpos)
  have hw := wcells_wrote (fr' := (0, 0)) hb (putCells_size news arr (ob + off * es))
  have hmv := hw.move hr.heap hm hid rfl
  refine ⟨hrun, hr.wrote hw hm hid rfl ⟨fun r row hrow => ?_, _, U, wcells_at (Array.getElem?_eq_some_iff.1 hb).1, fun r j row x hrow hx => ?_⟩, fun i b' o' k hi hmi hk hl => ?_⟩
  · rw [g3] at hrow
    split at hrow
    · exact hnews.2.1 _ row hrow
    · exact hes r row hrow
  · rw [putCells_get _ _ _ _ hin]
    rw [g3] at hrow
    split at hrow
    · rename_i hc
      have hj : j < es := by rw [← hnews.2.1 _ row hrow]; exact (List.getElem?_eq_some_iff.1 hx).1
      obtain ⟨u, hu, hf⟩ := hnews.2.2 _ j row x hrow hx
      have hk := (List.getElem?_eq_some_iff.1 hu).1
      have h2 : r * es = off * es + (r - off) * es := by rw [← Nat.add_mul]; congr 1; omega
      have hc' : ob + off * es ≤ ob + r * es + j ∧ ob + r * es + j < ob + off * es + news.length := by omega
      simp only [hc', and_self, if_true]
      refine ⟨u, ?_, hf.stab hmv.up hmv.frozen⟩
      rw [← hu]
      congr 1
      omega
    · rename_i hc
      have hj : j < es := by rw [← hes r row hrow]; exact (List.getElem?_eq_some_iff.1 hx).1
      obtain ⟨u, hu, hf⟩ := hcell r j row x hrow hx
      have hc' : ¬ (ob + off * es ≤ ob + r * es + j ∧ ob + r * es + j < ob + off * es + news.length) := by
        rcases Nat.lt_or_ge r off with hlt | hge
        · have := row_before (es := es) (k := 0) hlt hj; omega
        · have hge2 : off + ys.length ≤ r := by omega
          have : (off + ys.length) * es ≤ r * es := Nat.mul_le_mul_right _ hge2
          rw [Nat.add_mul] at this
          omega
      simp only [hc', if_false]
      exact ⟨u, hu, hf.stab hmv.up hmv.frozen⟩
  · refine hw.other b' (fun e => ?_)
    subst e
    exact hr.heap.inj i id k _ b' o' ob (by simpa using hi) hk hid hl rfl hmi hm
theorem zeros_rel {zv : Value} {zr : List FV} (hz : ofCells zv.cells.toList = some zr) (hpos : 0 < zr.length) (n : Nat) : NewsRel w S zr.length (List.replicate n zr) (Builtin.zeroCells zv.cells n).toList := by
  obtain ⟨hl, hrel⟩ := ofCells_rel hz
  have hsz : zv.cells.size = zr.length := by simpa using hl
  refine ⟨by simp [Builtin.zeroCells, hsz], fun r row hrow => ?_, fun r j row x hrow hx => ?_⟩
  · rw [List.getElem?_replicate] at hrow
    split at hrow <;> simp at hrow
    rw [← hrow]
  · rw [List.getElem?_replicate] at hrow
    split at hrow <;> simp at hrow
    rename_i hr
    subst hrow
    have hj : j < zr.length := (List.getElem?_eq_some_iff.1 hx).1
    have hidx : r * zr.length + j < n * zr.length := by have := row_before (es := zr.length) (k := 0) hr hj; omega
    have hmod : (r * zr.length + j) % zr.length = j := by rw [Nat.mul_comm, Nat.mul_add_mod]; exact Nat.mod_eq_of_lt hj
    refine ⟨zv.cells[j]'(by omega), ?_, hrel w S j _ x (by simp [hsz, hj]) hx⟩
    have h2 : r * zr.length + j < n * zv.cells.size := by rw [hsz]; exact hidx
    have h3 : j < zv.cells.size := by omega
    simp [Builtin.zeroCells, hsz, hidx, hmod, h3, getElem!_pos zv.cells j h3]
theorem eff_clear (hr : RelSM w0 S0 m0 w S m a st) {o : Oper} {as : Array Operand} {ts : Array TypeId} (ho : o.op = .call { callee := .builtin .clear, args := as, argTypes := ts }) {s : AV} {T e : TypeId}
    (hv : evs st.t as.toList = some [s]) (hts : ts.toList = [T]) {i ie : TI} (hT : tiOf P T = some i) (hd : i.desc = .slice e) (hie : tiOf P e = some ie) (hpos : 0 < ie.size) {z : List FV} (hz : ie.zero = some z) (hzl : z.length = ie.size)
    {v : AV} {h' : List Blk} {W : List Nat} (hc : clearA ie z st.h s = some (v, h', W)) : EffOk P w0 S0 m0 w S m a st o v h' W := by
  obtain ⟨y, hy⟩ : ∃ y, as = #[y] := by
    have := (evs_rel hr.tmps hv).1
    simp at this
    match as, this with
    | ⟨[y]⟩, _ => exact ⟨y, rfl⟩
  subst hy
  have hsv : VRel w S m (a.eval y) s := (evs_rel hr.tmps hv).2 0 _ s (by simp) rfl
  have htsa : ts = #[T] := by apply Array.ext'; simpa using hts
  subst htsa
  obtain ⟨_, info, hinfo, hsz, hby, hzz⟩ := tiOf_spec hie
  obtain ⟨zv, hzv, hzc⟩ := hzz z hz
  have hu : P.underlying T = some (.slice e) := by rw [← hd]; exact (tiOf_spec hT).1
  have hex : ∀ (val : Value) (w' : World), (Builtin.clear_ #[T] o.type #[a.eval y]).run P w = .ok val w' → (execOp a.eval o).run P w = .ok (.value val) w' := fun val w' h => by
    simp [execOp, ho, resolve, invoke, builtin, h]
  generalize hay : a.eval y = sv at hsv hex
  unfold clearA at hc
  split at hc
  · rename_i id es off len
    generalize hid : st.h[id]? = k at hc
    split at hc
    case h_2 => cases hc
    rename_i es' rows
    split at hc
    case isFalse => cases hc
    rename_i he
    obtain ⟨rfl, rfl⟩ := he
    simp only [Option.map_eq_some_iff, Prod.mk.injEq] at hc
    obtain ⟨rows', hsp, rfl, rfl, rfl⟩ := hc
    cases hsv with
    | ref _ _ _ _ b ob c hm hl hcapm =>
      obtain ⟨hes, arr, U, hb, hcell⟩ := hr.heap.blk id _ _ hm hid
      have hcap := hcapm arr U _ hb
      have hnews : NewsRel w S ie.size (List.replicate len z) (Builtin.zeroCells zv.cells len).toList := by rw [← hzl]; exact zeros_rel hzc (by omega) len
      obtain ⟨h1, h2, h3⟩ := rows_wrote (P := P) hr hm hid hb hpos hnews hsp (by
        have : (off + len) * ie.size ≤ (off + c) * ie.size := Nat.mul_le_mul_right _ (by omega)
        simp only [List.length_replicate]; omega)
      cases len with
      | zero =>
        refine ⟨.tuple #[], w, m, wp_value (hex _ _ ?_), ?_, .tuple _ _ rfl (fun i v x hv => by simp at hv), fun _ _ _ _ _ _ _ _ => rfl, fun j hj _ => by rw [List.getElem?_set_ne (Ne.symm (by simpa using hj))]⟩
        · simp [Builtin.clear_, run_underlying hu]
        · have hn : (Builtin.zeroCells zv.cells 0).toList = [] := by simp [Builtin.zeroCells]
          rw [hn] at h2
          simpa [putCells, wcells_self hb] using h2
      | succ n =>
        refine ⟨.tuple #[], _, m, wp_value (hex _ _ ?_), h2, .tuple _ _ rfl (fun i v x hv => by simp at hv), h3, fun j hj _ => by rw [List.getElem?_set_ne (Ne.symm (by simpa using hj))]⟩
        simp [Builtin.clear_, run_underlying hu, zeroValue, typeInfo, hinfo, hzv, h1]
    | refz _ _ _ A =>
      obtain ⟨g1, g2, g3⟩ := splice_get hsp
      have hrr : rows' = rows := by
        simp [splice] at hsp
        exact hsp.2.symm
      subst hrr
      refine ⟨.tuple #[], w, m, wp_value (hex _ _ ?_), ?_, .tuple _ _ rfl (fun i v x hv => by simp at hv), fun _ _ _ _ _ _ _ _ => rfl, fun j hj _ => by rw [List.getElem?_set_ne (Ne.symm (by simpa using hj))]⟩
      · cases A <;> simp [Builtin.clear_, run_underlying hu]
      · have : st.h.set id (.plain ie.size rows') = st.h := by
          apply List.ext_getElem?
          intro j
          rw [List.getElem?_set]
          split
          · rename_i e; subst e
            have := (List.getElem?_eq_some_iff.1 hid).1
            rw [if_pos this, hid]
          · rfl
        rw [this]
        exact hr
  · simp only [Option.some.injEq, Prod.mk.injEq] at hc
    obtain ⟨rfl, rfl, rfl⟩ := hc
    obtain rfl := hsv.nils_inv
    exact ⟨.tuple #[], w, m, wp_value (hex _ _ (by simp [Builtin.clear_, run_underlying hu])), hr, .tuple _ _ rfl (fun i v x hv => by simp at hv), fun _ _ _ _ _ _ _ _ => rfl, fun _ _ _ => rfl⟩
  · cases hc
theorem run_zeros (w : World) (t ti ty e : TypeId) (i : TypeInfo) (z : Value) (ht : P.underlying t = some (.slice e)) {k : IntKind} (hti : P.underlying ti = some (.int k)) (hi : P.info? e = some i) (hz : i.zero = some z)
    (hzs : z.cells.size = i.size) (hsz : 0 < i.size) (hb0 : 0 < i.bytes) (kx : IntKind) (m : Nat) (hm : 0 < m) (hbytes : m * i.bytes ≤ 140737488355328) :
    (Builtin.append_ #[t, ti] ty #[.slice none 0 0, .int kx m]).run P w =
      .ok (.slice (some ⟨w.heap.size, 0, none⟩) m (grownCap w m 0 e)) (w.drew.alloc (.cells ((Builtin.zeroCells z.cells m).toList.toArray ++ Builtin.zeroCells z.cells (grownCap w m 0 e - m)) e)) := by
  have hle : m ≤ 140737488355328 := Nat.le_trans (Nat.le_mul_of_pos_right _ hb0) hbytes
  have hw : IntKind.i64.wrap (m : Int) = m := by rw [IntKind.wrap_i64]; omega
  have hneg : ¬ ((m : Int) < 0) := by omega
  have hbig : ¬ (281474976710656 < (m : Int) * (i.bytes : Int)) := by
    rw [← Int.natCast_mul]
    omega
  have hn : ¬ (m = 0) := by omega
  have h63' : ¬ (9223372036854775807 < (m : Int)) := by omega
  have hfit := growslice_fits (need := m) (old := 0) (by omega) hbytes
  have h48' : ¬ (281474976710656 < Builtin.nextslicecap m 0 * i.bytes) := by omega
  have hmz : ¬ (m * i.size = 0) := Nat.mul_ne_zero hn (by omega)
  have hmz' : ¬ (m = 0 ∨ i.size = 0) := by omega
  have hfo : ∀ w : World, (Builtin.firstCells i.size 0 (.slice none 0 0)).run P w = .ok #[] w := fun w => by simp [Builtin.firstCells]
  simp [Builtin.append_, run_underlying ht, run_underlying hti, sizeOf, typeInfo, zeroValue, hi, hz, asInt, asIntOf, hw, hneg, hbig, hn, h63', h48', Question.forced, hfo, newRow, grownCap, hmz, hmz']
theorem eff_zeros (hr : RelSM w0 S0 m0 w S m a st) {o : Oper} {as : Array Operand} {ts : Array TypeId} (ho : o.op = .call { callee := .builtin .append, args := as, argTypes := ts }) {s x : AV} {T U e : TypeId}
    (hv : evs st.t as.toList = some [s, x]) (hts : ts.toList = [T, U]) {i iu ie : TI} (hT : tiOf P T = some i) (hd : i.desc = .slice e) (hU : tiOf P U = some iu) (hie : tiOf P e = some ie)
    (hpos : 0 < ie.size) (hbp : 0 < ie.bytes) {zr : List FV} (hzr : ie.zero = some zr) (hzl : zr.length = ie.size) {n : Nat} (hs : zerosA iu x = some n) {v : AV} {h' : List Blk} {W : List Nat} (ha : zeroA ie zr st.h s n = some (v, h', W)) :
    EffOk P w0 S0 m0 w S m a st o v h' W := by
  obtain ⟨y, z, hyz⟩ : ∃ y z, as = #[y, z] := by
    have := (evs_rel hr.tmps hv).1
    simp at this
    match as, this with
    | ⟨[y, z]⟩, _ => exact ⟨y, z, rfl⟩
  subst hyz
  have hrel := evs_rel hr.tmps hv
  have hsv : VRel w S m (a.eval y) s := hrel.2 0 _ s (by simp) rfl
  have hxv : VRel w S m (a.eval z) x := hrel.2 1 _ x (by simp) rfl
  have htsa : ts = #[T, U] := by apply Array.ext'; simpa using hts
  subst htsa
  obtain ⟨_, info, hinfo, hsz, hby, hzz⟩ := tiOf_spec hie
  obtain ⟨zv, hzv, hzc⟩ := hzz zr hzr
  have hzsz : zv.cells.size = ie.size := by have := (ofCells_rel hzc).1; simp at this; omega
  have hu : P.underlying T = some (.slice e) := by rw [← hd]; exact (tiOf_spec hT).1
  have hu2 : P.underlying U = some iu.desc := (tiOf_spec hU).1
  have hex : ∀ (val : Value) (w' : World), (Builtin.append_ #[T, U] o.type #[a.eval y, a.eval z]).run P w = .ok val w' → (execOp a.eval o).run P w = .ok (.value val) w' := fun val w' h => by
    simp [execOp, ho, resolve, invoke, builtin, h]
  unfold zerosA at hs
  split at hs
  case h_2 => cases hs
  rename_i k kx q hk
  split at hs <;> simp at hs
  rename_i hq
  subst hs
  have e2 := hxv.int_inv
  unfold zeroA at ha
  split at ha
  case h_2 => cases ha
  split at ha <;> simp only [Option.some.injEq, Prod.mk.injEq, reduceCtorEq] at ha
  rename_i hroom
  obtain ⟨rfl, rfl, rfl⟩ := ha
  have e1 := hsv.nils_inv
  have hqn : ((q.toNat : Nat) : Int) = q := by omega
  rw [hk] at hu2
  have hrun := run_zeros (P := P) w T U o.type e info zv hu hu2 hinfo hzv (by omega) (by omega) (by omega) kx q.toNat (by omega) (by rw [hby]; exact hroom)
  rw [hqn, ← e1, ← e2] at hrun
  have hcap := grownCap_le w q.toNat 0 e
  have hnews : NewsRel w S ie.size (List.replicate q.toNat zr) (Builtin.zeroCells zv.cells q.toNat).toList := by rw [← hzl]; exact zeros_rel hzc (by omega) _
  refine eff_grown hr hr.heap rfl (fun _ _ => rfl) (hex _ _ hrun) hcap ?_ (by simp) hnews
  rw [zeroCells_size, hnews.1, hzsz, List.length_replicate, ← Nat.add_mul]
  exact Nat.mul_le_mul_right _ (by omega)
end
end Go.Abs
