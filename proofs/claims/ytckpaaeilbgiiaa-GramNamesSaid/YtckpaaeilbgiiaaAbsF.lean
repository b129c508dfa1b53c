/- The pure operations, one and all. -/
import Derived.Test.YtckpaaeilbgiiaaAbsE
namespace Go.Abs
set_option linter.unusedVariables false
set_option linter.unusedSimpArgs false

theorem add_add (a : Addr) (p q : Nat) : (a.add p).add q = a.add (p + q) := by
  unfold Addr.add
  by_cases hp : p = 0 <;> by_cases hq : q = 0 <;> simp_all
  all_goals omega
theorem add_at (b o n : Nat) : (⟨b, o, none⟩ : Addr).add n = ⟨b, o + n, none⟩ := by
  unfold Addr.add; split <;> simp_all

section
variable {P : Program} {w : World} {S : Nat → Prop} {m : List Loc}

theorem solid_nilCheck {v : Value} {x : AV} (h : solid x = true) (hx : VRel w S m v x) {o : Oper} {ρ : Operand → Value} {y : Operand} (ho : o.op = .nilCheck y) (hv : ρ y = v) (w' : World) :
    (execOp ρ o).run P w' = .ok (.value v) w' := by
  unfold execOp
  rw [ho]
  simp only [hv]
  cases hx <;> simp [solid] at h
  · rename_i hf
    cases hf <;> simp at h
    rfl
  all_goals rfl

theorem asI_inv {x : AV} {v : Value} {n : Int} (h : asI x = some n) (hx : VRel w S m v x) : ∃ k, v = .int k n := by
  unfold asI at h
  split at h <;> simp at h
  subst h
  exact ⟨_, hx.int_inv⟩
theorem asN_inv {x : AV} {v : Value} {n : Nat} (h : asN x = some n) (hx : VRel w S m v x) : ∃ k i, v = .int k i ∧ 0 ≤ i ∧ i.toNat = n := by
  unfold asN at h
  simp only [Option.bind_eq_some_iff] at h
  obtain ⟨i, hi, h⟩ := h
  split at h <;> simp at h
  obtain ⟨k, rfl⟩ := asI_inv hi hx
  exact ⟨k, i, rfl, by assumption, h⟩
theorem run_sliceBound_ok {k : IntKind} {i : Int} {n y : Nat} (h0 : 0 ≤ i) (hn : i.toNat = n) (hy : n ≤ y) (code : BoundsCode) (w' : World) : (Instr.sliceBound (.int k i) y code).run P w' = .ok n w' := by
  unfold Instr.sliceBound
  have : 0 ≤ i ∧ i ≤ (y : Int) := ⟨h0, by omega⟩
  simp [asIntOf, this, hn]

theorem LRel.drop {vs : List Value} {xs : List AV} (h : LRel w S m vs xs) (n : Nat) : LRel w S m (vs.drop n) (xs.drop n) :=
  ⟨by simp [h.1], fun i v x hv hx => h.2 (n + i) v x (by simpa using hv) (by simpa using hx)⟩
theorem LRel.take {vs : List Value} {xs : List AV} (h : LRel w S m vs xs) (n : Nat) : LRel w S m (vs.take n) (xs.take n) :=
  ⟨by simp [h.1], fun i v x hv hx => by
    rw [List.getElem?_take] at hv hx
    split at hv
    · rename_i hi; simp [hi] at hx; exact h.2 i v x hv hx
    · cases hv⟩
theorem LRel.toAgg {vs : Array Value} {xs : List AV} (h : LRel w S m vs.toList xs) : VRel w S m (.agg vs) (.agg xs) :=
  .agg vs xs (by simpa using h.1) (fun i v x hv hx => h.2 i v x (by simpa using hv) hx)

theorem partA_sound {T : TypeId} {i : TI} (hi : tiOf P T = some i) {cs : Array Value} {xs : List AV} {off : Nat} {r : AV} (hc : LRel w S m cs.toList xs) (h : partA i xs off = some r) :
    ∃ v, (∀ w', (part T cs off).run P w' = .ok v w') ∧ VRel w S m v r := by
  unfold partA at h
  unfold part
  cases ha : i.isAgg with
  | true =>
    simp only [ha, if_true] at h
    split at h <;> simp at h
    subst h
    refine ⟨.agg (cs.extract off (off + i.size)), fun w' => by simp only [Sem.run_bind, ti_isAgg hi w', ha, Result.andThen_ok, if_true, ti_size hi w', Sem.run_pure], LRel.toAgg ?_⟩
    rw [Array.toList_extract, List.extract_eq_take_drop]
    rw [show off + i.size - off = i.size from by omega]
    exact (hc.drop off).take i.size
  | false =>
    simp only [ha, Bool.false_eq_true, if_false] at h
    have hlt : off < cs.size := by
      have := (List.getElem?_eq_some_iff.1 h).1
      have := hc.1; simp at this; omega
    refine ⟨cs[off], fun w' => ?_, hc.2 off _ r (by simp [hlt]) h⟩
    simp [ti_isAgg hi w', ha, hlt]

theorem addrA_sound {v : Value} {x r : AV} {n : Nat} (h : addrA x n = some r) (hx : VRel w S m v x) : ∃ a, v = .pointer (some a) ∧ VRel w S m (.pointer (some (a.add n))) r := by
  unfold addrA at h
  split at h <;> simp at h <;> subst h
  · rename_i id es r off
    cases hx with
    | ptr id es r off b o hm =>
      refine ⟨_, rfl, ?_⟩
      rw [add_at]
      have := VRel.ptr (w := w) (S := S) id es r (off + n) b o hm
      rwa [← Nat.add_assoc] at this
  · cases hx with
    | fptr ad row u hs hc hr =>
      refine ⟨ad, rfl, .fptr _ _ (fun j => u (n + j)) (by rw [add_block]; exact hs) (fun j hj => ?_) (fun j y hy => hr (n + j) y (by simpa using hy))⟩
      rw [add_add]
      exact hc (n + j) (by simp at hj; omega)
  · cases hx with
    | gptr =>
      refine ⟨_, rfl, ?_⟩
      rw [add_at]
      exact .gptr _ _

theorem idxAddrA_sound {T : TypeId} {x r : AV} {v vi : Value} {k : IntKind} {n : Int} (h : idxAddrA P T x n = some r) (hx : VRel w S m v x) :
    ∃ u, (∀ w', (Instr.indexAt T v (.int k n)).run P w' = .ok u w') ∧ VRel w S m u r := by
  unfold idxAddrA at h
  split at h
  · rename_i e _ _ _ hT
    split at h
    case h_2 => cases h
    rename_i ie hie
    split at h
    · rename_i es xs
      split at h
      case isFalse => cases h
      rename_i hc
      simp only [Option.map_eq_some_iff] at h
      obtain ⟨row, hrow, rfl⟩ := h
      obtain ⟨hsz, h0⟩ := hc
      cases hx with
      | fv _ _ hf =>
        cases hf with
        | lst a len c es xs u ad hn hcp hes ha hs hcell hr =>
          have hlt : n.toNat < xs.length := (List.getElem?_eq_some_iff.1 hrow).1
          have ha' := ha (by omega)
          subst ha'
          refine ⟨.pointer (some (ad.add (n.toNat * ie.size))), fun w' => ?_, ?_⟩
          · have : 0 ≤ n ∧ n < (len : Int) := ⟨h0, by omega⟩
            simp [Instr.indexAt, asIntOf, ti_under hT, this, ti_size hie]
          · rw [hsz]
            refine .fptr _ row (fun j => u n.toNat j) (by rw [add_block]; exact hs (by omega)) (fun j hj => ?_) (fun j y hy => hr n.toNat j row y hrow hy)
            rw [add_add]
            exact hcell n.toNat j (by omega) (by rw [← hes _ _ hrow]; exact hj)
    · rename_i id es off len
      split at h <;> simp at h
      subst h
      rename_i hc
      obtain ⟨hsz, h0, h1⟩ := hc
      cases hx with
      | ref id es off len b o c hm hl hcap =>
        refine ⟨.pointer (some ((⟨b, o + off * es, none⟩ : Addr).add (n.toNat * ie.size))), fun w' => ?_, ?_⟩
        · have : 0 ≤ n ∧ n < (len : Int) := ⟨h0, h1⟩
          simp [Instr.indexAt, asIntOf, ti_under hT, this, ti_size hie]
        · rw [add_at, hsz]
          have := VRel.ptr (w := w) (S := S) id es (off + n.toNat) 0 b o hm
          rw [Nat.add_mul, Nat.add_zero, ← Nat.add_assoc] at this
          exact this
      | refz => omega
    · cases h
  · rename_i len e _ _ _ hT
    split at h
    case h_2 => cases h
    rename_i ie hie
    split at h
    case isFalse => cases h
    rename_i hc
    obtain ⟨a, rfl, hr⟩ := addrA_sound h hx
    refine ⟨_, fun w' => ?_, hr⟩
    have : 0 ≤ n ∧ n < (len : Int) := hc
    simp [Instr.indexAt, asIntOf, ti_under hT, this, ti_size hie, Instr.sureAddr]
  · cases h

theorem idxA_sound {T : TypeId} {x r : AV} {v : Value} {k : IntKind} {n : Int} (h : idxA P T x n = some r) (hx : VRel w S m v x) :
    ∃ u, (∀ w', (Instr.index T v (.int k n)).run P w' = .ok u w') ∧ VRel w S m u r := by
  unfold idxA at h
  split at h
  · rename_i hT
    split at h
    case h_2 => cases h
    rename_i s
    split at h
    case isFalse => cases h
    rename_i h0
    simp only [Option.map_eq_some_iff] at h
    obtain ⟨b, hb, rfl⟩ := h
    obtain rfl := hx.str_inv
    refine ⟨.int .u8 b.toNat, fun w' => ?_, VRel.int_mk ..⟩
    have hlt : n.toNat < s.length := (List.getElem?_eq_some_iff.1 hb).1
    have hb' : s[n.toNat]'hlt = b := (List.getElem?_eq_some_iff.1 hb).2
    have : (⟨s.toArray⟩ : ByteArray)[n.toNat]? = some b := by
      have hsz : n.toNat < (⟨s.toArray⟩ : ByteArray).size := by simpa [ByteArray.size] using hlt
      have e := getElem?_pos (⟨s.toArray⟩ : ByteArray) n.toNat hsz
      rw [e, ← hb']
      rfl
    simp [Instr.index, asIntOf, ti_under hT, h0, this]
  · rename_i len e _ _ _ hT
    split at h
    case h_2 => cases h
    rename_i ie cs hie
    split at h
    case isFalse => cases h
    rename_i hc
    obtain ⟨vs, rfl, hvs⟩ := hx.agg_inv
    obtain ⟨u, h1, h2⟩ := partA_sound hie hvs h
    refine ⟨u, fun w' => ?_, h2⟩
    have : 0 ≤ n ∧ n < (len : Int) := hc
    simp [Instr.index, asIntOf, ti_under hT, this, ti_size hie, h1]
  · cases h

theorem convA_sound {s d : TypeId} {x r : AV} {v : Value} (h : convA P s d x = some r) (hx : VRel w S m v x) :
    ∃ u, (∀ w', (convert s d v).run P w' = .ok u w') ∧ VRel w S m u r := by
  unfold convA at h
  split at h
  · rename_i is k _ _ _ k' n hs hd
    simp at h; subst h
    obtain rfl := hx.int_inv
    refine ⟨.int k (k.wrap n), fun w' => ?_, VRel.int_mk ..⟩
    simp only [convert, Sem.run_bind, ti_under hs, ti_under hd, Result.andThen_ok]
    cases is.desc <;> rfl
  · rename_i t hs hd
    simp at h; subst h
    obtain rfl := hx.str_inv
    refine ⟨_, fun w' => ?_, VRel.str_mk _⟩
    simp [convert, ti_under hs, ti_under hd]
  · rename_i k n hs hd
    simp at h; subst h
    obtain rfl := hx.int_inv
    refine ⟨.string (Utf8.encode n), fun w' => ?_, ?_⟩
    · simp [convert, ti_under hs, ti_under hd, Conv.intToString]
    · exact VRel.str_mk (w := w) (S := S) (m := m) (Utf8.encode n).data.toList
  · cases h

theorem lenA_sound {x : AV} {v : Value} {n : Nat} (h : lenA x = some n) (hx : VRel w S m v x) : (∃ s, v = .string s ∧ s.size = n) ∨ (∃ a c, v = .slice a n c) := by
  unfold lenA at h
  split at h <;> simp at h
  · subst h; obtain rfl := hx.str_inv; exact .inl ⟨_, rfl, by simp [ByteArray.size]⟩
  · subst h
    cases hx with
    | fv _ _ hf => cases hf with | lst a n c es xs u ad hn => subst hn; exact .inr ⟨a, c, rfl⟩
  · subst h; obtain rfl := hx.nils_inv; exact .inr ⟨none, 0, rfl⟩
  · subst h
    cases hx with
    | ref => exact .inr ⟨_, _, rfl⟩
    | refz => exact .inr ⟨_, _, rfl⟩
end
end Go.Abs
