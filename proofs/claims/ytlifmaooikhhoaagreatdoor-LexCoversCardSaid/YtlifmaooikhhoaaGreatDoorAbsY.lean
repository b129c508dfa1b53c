/- A nil slice in a cell becomes a row of the call's own; a slice that is only looked at, as a frozen one. -/
import Derived.Test.YtlifmaooikhhoaaGreatDoorAbsZ
import Derived.Test.YtlifmaooikhhoaaGreatDoorAbsDeep
import Derived.Test.YtlifmaooikhhoaaGreatDoorAbsU
namespace Go.Abs
set_option linter.unusedVariables false
set_option linter.unusedSimpArgs false
section
variable {P : Program} {w : World} {S : Nat → Prop} {m : List Loc}
theorem HRel.virt_box {h : List Blk} (hr : HRel w S m h) {k es j : Nat} {cs : List AV} (hk : h[k]? = some (.box cs)) (hj : cs[j]? = some (.fv .nils)) :
    HRel w S (m ++ [none]) ((h ++ [Blk.plain es []]).set k (.box (cs.set j (.ref h.length es 0 0)))) := by
  have hh := hr.virt (.plain es []) ⟨by simp, rfl⟩
  have hlt : k < h.length := (List.getElem?_eq_some_iff.1 hk).1
  have hk2 : (h ++ [Blk.plain es []])[k]? = some (.box cs) := by rw [List.getElem?_append_left hlt]; exact hk
  have get : ∀ (i : Nat) (b : Blk), ((h ++ [Blk.plain es []]).set k (.box (cs.set j (.ref h.length es 0 0))))[i]? = some b → (i = k ∧ b = .box (cs.set j (.ref h.length es 0 0))) ∨ (i ≠ k ∧ (h ++ [Blk.plain es []])[i]? = some b) := fun i b hi => by
    rw [List.getElem?_set] at hi
    split at hi
    · rename_i e
      have : k < (h ++ [Blk.plain es []]).length := by simp; omega
      simp only [this, if_true, Option.some.injEq] at hi
      exact .inl ⟨e.symm, hi.symm⟩
    · rename_i e
      exact .inr ⟨fun h => e h.symm, hi⟩
  refine ⟨by simpa using hh.len, fun i l b hm hb => ?_, fun i i' bi bj b o o' hne hi hj' li lj mi mj => ?_, fun i bi b o hi li mi => ?_, hh.low, hh.lowm⟩
  · rcases get i b hb with ⟨rfl, rfl⟩ | ⟨_, hb'⟩
    · obtain ⟨b, o, arr, T, rfl, ha, hc⟩ := hh.blk i l _ hm hk2
      refine ⟨b, o, arr, T, rfl, ha, fun i x hx => ?_⟩
      rw [List.getElem?_set] at hx
      split at hx
      · rename_i e; subst e
        split at hx <;> simp at hx
        subst hx
        obtain ⟨u, hu, hv⟩ := hc j _ hj
        refine ⟨u, hu, ?_⟩
        have := hv.nils_inv
        subst this
        exact .refz _ _ _ _
      · exact hc i x hx
    · exact hh.blk i l b hm hb'
  · rcases get i bi hi with ⟨rfl, rfl⟩ | ⟨_, hi'⟩ <;> rcases get i' bj hj' with ⟨rfl, rfl⟩ | ⟨_, hj2⟩
    · exact hne rfl
    · exact hh.inj i i' _ bj b o o' hne hk2 hj2 rfl lj mi mj
    · exact hh.inj i i' bi _ b o o' hne hi' hk2 li rfl mi mj
    · exact hh.inj i i' bi bj b o o' hne hi' hj2 li lj mi mj
  · rcases get i bi hi with ⟨rfl, rfl⟩ | ⟨_, hi'⟩
    · exact hh.out i _ b o hk2 rfl mi
    · exact hh.out i bi b o hi' li mi
theorem le_virt_box {n0 : Nat} {st : St} (k es j : Nat) (cs : List AV) (hk : st.h[k]? = some (.box cs)) (hj : cs[j]? = some (.fv .nils)) :
    Le n0 st { st with h := (st.h ++ [Blk.plain es []]).set k (.box (cs.set j (.ref st.h.length es 0 0))) } := by
  intro w0 S0 m0 w S m a hn hr
  have hmv := Move.virt (S := S) (w := w) hr.heap.lowm
  have hh := hr.heap.virt (.plain es []) ⟨by simp, rfl⟩
  have hr2 := hr.move hmv hh
  exact ⟨S, m ++ [none], hr.heap.virt_box hk hj, hr2.tmps, hr2.defs, hr2.fr⟩
theorem owned_virt {m : List Loc} {b : Nat} : Owned (m ++ [none]) b ↔ Owned m b := by
  constructor
  · rintro ⟨i, o, hi⟩
    rw [List.getElem?_append] at hi
    split at hi
    · exact ⟨i, o, hi⟩
    · cases hk : i - m.length with
      | zero => rw [hk] at hi; simp at hi
      | succ n => rw [hk] at hi; simp at hi
  · rintro ⟨i, o, hi⟩
    exact ⟨i, o, by rw [List.getElem?_append_left (List.getElem?_eq_some_iff.1 hi).1]; exact hi⟩
/-- What holds where a cell's slice is a row of the call's own holds where it is nil. -/
theorem ok_virt {f : FuncId} {args : List AV} {h h' : List Blk} {o : AOut} (k es j : Nat) (cs : List AV) (hk : h[k]? = some (.box cs)) (hj : cs[j]? = some (.fv .nils))
    (hok : Ok P f args ((h ++ [Blk.plain es []]).set k (.box (cs.set j (.ref h.length es 0 0)))) o h') : Ok P f args h o h' := by
  refine ⟨hok.1, fun w S m cargs hG hh hl => ?_⟩
  have hmv := Move.virt (S := S) (w := w) hh.lowm
  have hl2 : LRel w S (m ++ [none]) cargs args := ⟨hl.1, fun i v x hv hx => (hl.2 i v x hv hx).move hmv hh.lowm⟩
  refine Calls.mono (hok.2 w S (m ++ [none]) cargs hG (hh.virt_box hk hj) hl2) fun e w' hq => ?_
  obtain ⟨S', m', h1, h2, h3⟩ := hq
  exact ⟨S', m', h1, h2, h3.size, h3.os, h3.tape, h3.output, fun b hb hn => h3.same b hb (fun ho => hn (owned_virt.1 ho)), h3.frozen, h3.shape, h3.up, fun b hb => (h3.down b hb).imp_right fun h => h.imp_left owned_virt.1, fun i b o hi => (h3.locs i b o hi).imp_left owned_virt.1,
    fun i hi => (h3.pre i (by simp; omega)).trans (by rw [List.getElem?_append_left hi])⟩
end
theorem deepL_fv (n : Nat) (h : List Blk) : ∀ r : List FV, deepL (deepF (n + 1) h) (r.map .fv) = some r
  | [] => rfl
  | x :: r => by
    have ih := deepL_fv n h r
    have e : deepF (n + 1) h (.fv x) = some x := rfl
    rw [List.map_cons, deepL, e, ih]
theorem deepF_ref {n : Nat} {h : List Blk} {id es off k : Nat} {rows : List (List FV)} (hb : h[id]? = some (.plain es rows)) (hl : off + k ≤ rows.length) (hr : ∀ r ∈ rows, r.length = es) :
    deepF (n + 2) h (.ref id es off k) = some (.lst es ((rows.drop off).take k)) := by
  cases k with
  | zero => simp [deepF]
  | succ k =>
    have hlen : ((rows.drop off).take (k + 1)).length = k + 1 := by rw [List.length_take, List.length_drop]; omega
    have hc := chunk_flatten es ((rows.drop off).take (k + 1)) (fun r h => hr r (List.mem_of_mem_drop (List.mem_of_mem_take h)))
    rw [hlen] at hc
    have e : refCells h id es off (k + 1) = some (((rows.drop off).take (k + 1)).flatten.map .fv) := by
      unfold refCells
      rw [hb]
      simp only
      rw [if_pos (by simpa using hl)]
      rfl
    show (match refCells h id es off (k + 1) with
      | some ys => match deepL (deepF (n + 1) h) ys with
        | some xs => some (FV.lst es (chunk es (k + 1) xs))
        | none => none
      | none => none) = _
    rw [e]
    simp only [deepL_fv, hc]
end Go.Abs
