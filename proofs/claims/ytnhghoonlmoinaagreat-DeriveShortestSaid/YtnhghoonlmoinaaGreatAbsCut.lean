/- What lies behind a heap of unknown length is dropped. -/
import Derived.Test.YtnhghoonlmoinaaGreatAbsW
import Derived.Test.YtnhghoonlmoinaaGreatAbsO
import Derived.Test.YtnhghoonlmoinaaGreatAbsZ
import Derived.Test.YtnhghoonlmoinaaGreatAbsK
import Derived.Test.YtnhghoonlmoinaaGreatAbsS
namespace Go.Abs
set_option linter.unusedVariables false
set_option linter.unusedSectionVars false
variable [Kn]
theorem idx_from (i : Nat) : ∀ (n s : Nat),idx i (List.range' s n) = if s ≤ i ∧ i < s + n then some (i - s) else none
 | 0,s => by simp [idx]
 | n + 1,s => by
  rw [List.range'_succ,idx,idx_from i n (s + 1)]
  by_cases h : s = i
  ·subst h
   simp
  ·rw [if_neg h]
   by_cases h2 : s + 1 ≤ i ∧ i < s + 1 + n
   ·rw [if_pos h2,if_pos (by omega)]
    simp
    omega
   ·rw [if_neg h2,if_neg (by omega)]
    rfl
theorem idx_range (M i : Nat) : idx i (List.range M) = if i < M then some i else none := by
 rw [List.range_eq_range',idx_from]
 simp
def cutS (M : Nat) (h : List Blk) : Nat → Option Sb := mkSub (List.range M) [] h
theorem cutS_lt {M : Nat} {h : List Blk} {i : Nat} (hi : i < M) : cutS M h i = some (.to i) := by
 unfold cutS mkSub
 rw [idx_range,if_pos hi]
theorem cut_ptr {M : Nat} {h : List Blk} {i es r off : Nat} (hi : i < M) : subAny (cutS M h) (.ptr i es r off) = .ptr i es r off := by
 simp [subAny,subA,cutS_lt hi]
theorem cut_ref {M : Nat} {h : List Blk} {i es off k : Nat} (hi : i < M) : subAny (cutS M h) (.ref i es off k) = .ref i es off k := by
 simp [subAny,subA,cutS_lt hi]
theorem cut_any {M : Nat} {h : List Blk} : subAny (cutS M h) .any = .any := by simp [subAny,subA]
theorem cut_fv {M : Nat} {h : List Blk} (x : FV) : subAny (cutS M h) (.fv x) = .fv x := by simp [subAny,subA]
theorem le_cut {n0 : Nat} (M : Nat) {t : List AV} {h h' : List Blk} (hM : M ≤ h.length) (hn : n0 ≤ M) (hh : h.take M = h') (hb : ∀ b ∈ h',subBlk (cutS M h) b = b) (ht : t.map (subAny (cutS M h)) = t) : Le n0 ⟨t,h,[]⟩ ⟨t,h',[]⟩ := by
 subst hh
 refine le_to (List.range M) [] ?_ List.nodup_range (fun i hi => by have := List.mem_range.1 hi; simp only; omega) (fun i hi => by simp at hi) (fun i hi => by simp at hi) ?_
 ·rw [List.take_range,Nat.min_eq_left hn]
 ·unfold subSt
  simp only [List.map_nil]
  have e1 : t.map (subAny (mkSub (List.range M) [] h)) = t := ht
  have e2 : (List.range M).map (fun i => subBlk (mkSub (List.range M) [] h) (h.getD i .dead)) = h.take M := by
   apply List.ext_getElem?
   intro i
   rw [List.getElem?_map]
   by_cases hi : i < M
   ·have hl : i < h.length := by omega
    have hg : h[i]? = some h[i] := List.getElem?_eq_getElem hl
    rw [List.getElem?_range hi,List.getElem?_take,if_pos hi,hg]
    simp only [Option.map_some,List.getD_eq_getElem?_getD,hg,Option.getD_some]
    have hm : h[i] ∈ h.take M := List.mem_of_getElem? (i := i) (by rw [List.getElem?_take,if_pos hi,hg])
    exact congrArg some (hb _ hm)
   ·rw [List.getElem?_take,if_neg hi,List.getElem?_eq_none (by simp; omega)]
    rfl
  rw [e1,e2]
theorem cut_blks {M : Nat} {h : List Blk} (hM : M ≤ h.length) (hb : ∀ b ∈ h.take M,subBlk (cutS M h) b = b) : (List.range M).map (fun i => subBlk (mkSub (List.range M) [] h) (h.getD i .dead)) = h.take M := by
 apply List.ext_getElem?
 intro i
 rw [List.getElem?_map]
 by_cases hi : i < M
 ·have hl : i < h.length := by omega
  have hg : h[i]? = some h[i] := List.getElem?_eq_getElem hl
  rw [List.getElem?_range hi,List.getElem?_take,if_pos hi,hg]
  simp only [Option.map_some,List.getD_eq_getElem?_getD,hg,Option.getD_some]
  have hm : h[i] ∈ h.take M := List.mem_of_getElem? (i := i) (by rw [List.getElem?_take,if_pos hi,hg])
  exact congrArg some (hb _ hm)
 ·rw [List.getElem?_take,if_neg hi,List.getElem?_eq_none (by simp; omega)]
  rfl
theorem putBack_from : ∀ (n : Nat) (h' A B L : List Blk),B.length = n → h'.length = n → putBack (List.range' A.length n) h' (A ++ B ++ L) = A ++ h' ++ L
 | 0,h',A,B,L,hB,hh => by
  obtain rfl := List.length_eq_zero_iff.1 hB
  obtain rfl := List.length_eq_zero_iff.1 hh
  simp [putBack]
 | n + 1,h',A,B,L,hB,hh => by
  obtain ⟨b,B,rfl⟩ : ∃ b B',B = b :: B' := by
   cases B with
   | nil => simp at hB
   | cons b B => exact ⟨b,B,rfl⟩
  obtain ⟨c,h',rfl⟩ : ∃ c h'',h' = c :: h'' := by
   cases h' with
   | nil => simp at hh
   | cons c h' => exact ⟨c,h',rfl⟩
  rw [List.range'_succ,putBack]
  have e : (A ++ b :: B ++ L).set A.length c = (A ++ [c]) ++ B ++ L := by
   rw [List.append_assoc,List.set_append_right _ _ (Nat.le_refl _),Nat.sub_self]
   simp
  rw [e]
  have := putBack_from n h' (A ++ [c]) B L (by simpa using hB) (by simpa using hh)
  rw [show (A ++ [c]).length = A.length + 1 from by simp] at this
  rw [this]
  simp
theorem putBack_range {H L h' : List Blk} (hl : h'.length = H.length) : putBack (List.range H.length) h' (H ++ L) = h' ++ L := by
 have := putBack_from H.length h' [] H L rfl hl
 rw [List.range_eq_range']
 simpa using this
/-- The first blocks are lent, and come back where they lay. -/
theorem call_first {P : Program} {f : FuncId} {args : List AV} {H L h' : List Blk} {o : AOut} {t : List AV} {d : List (FuncId × List AV × List AV)} (hok : Ok P f args H o h') (ha : args.map (subAny (cutS H.length (H ++ L))) = args)
  (hb : ∀ b ∈ H,subBlk (cutS H.length (H ++ L)) b = b) (hlive : ∀ b ∈ H,b.live = true) (hl : h'.length = H.length)
  (hb' : ∀ b ∈ h',subBlk (backSub (List.range H.length) (H ++ L).length) b = b) (ho : o.sub (backSub (List.range H.length) (H ++ L).length) = o) :
  CallRel P f args ⟨t,H ++ L,d⟩ (List.range H.length) o ⟨t,h' ++ L,d⟩ := by
 have htk : (H ++ L).take H.length = H := List.take_left' rfl
 have h1 := call_lent (st := ⟨t,H ++ L,d⟩) (List.range H.length) hok ha (by
  have := cut_blks (M := H.length) (h := H ++ L) (by simp) (by rw [htk]; exact hb)
  rw [htk] at this
  exact this) List.nodup_range (fun i hi => by
  have hi' := List.mem_range.1 hi
  have e : (H ++ L)[i]? = some H[i] := by rw [List.getElem?_append_left hi',List.getElem?_eq_getElem hi']
  simp only [List.getD_eq_getElem?_getD,e,Option.getD_some]
  exact hlive _ (List.getElem_mem hi'))
 rw [ho] at h1
 have e : h'.map (subBlk (backSub (List.range H.length) (H ++ L).length)) = h' := by
  conv => rhs; rw [← List.map_id h']
  exact List.map_congr_left fun b hb => hb' b hb
 simp only [e] at h1
 rw [putBack_range hl] at h1
 exact h1
theorem back_lt {M n k : Nat} (h : k < M) : backSub (List.range M) n k = some (.to k) := by
 unfold backSub back
 rw [if_pos (by simpa using h)]
 simp [List.getD_eq_getElem?_getD,List.getElem?_range h]
end Go.Abs
/- Saying less of a state: rows stand as cells. -/
namespace Go.Abs
variable [Kn]
set_option linter.unusedSectionVars false
set_option linter.unusedVariables false
set_option linter.unusedSimpArgs false
theorem le_box {n0 : Nat} {st : St} (i es : Nat) (rows : List (List FV)) (hi : st.h[i]? = some (.plain es rows)) (hne : rows ≠ []) : Le n0 st { st with h := st.h.set i (.box (thaw rows)) } := by
 intro w0 S0 m0 w S m a hn hr
 have hlt : i < st.h.length := (List.getElem?_eq_some_iff.1 hi).1
 have get : ∀ (k : Nat) (b : Blk),(st.h.set i (.box (thaw rows)))[k]? = some b → (k = i ∧ b = .box (thaw rows)) ∨ (k ≠ i ∧ st.h[k]? = some b) := fun k b hk => by
  rw [List.getElem?_set] at hk
  split at hk
  ·rename_i e
   simp only [hlt,if_true,Option.some.injEq] at hk
   exact .inl ⟨e.symm,hk.symm⟩
  ·rename_i e
   exact .inr ⟨fun h => e h.symm,hk⟩
 refine ⟨S,m,⟨by simpa using hr.heap.len,fun k l b hm hb => ?_,fun k j bi bj b o o' hne' hk hj li lj mi mj => ?_,fun k bi b o hk li mi => ?_,hr.heap.low,hr.heap.lowm⟩,hr.tmps,hr.defs,hr.fr⟩
 ·rcases get k b hb with ⟨rfl,rfl⟩ | ⟨_,hb'⟩
  ·obtain ⟨h1,h2⟩ := hr.heap.blk k l _ hm hi
   cases l with
   | none => exact (hne h2).elim
   | some p =>
    obtain ⟨b,o⟩ := p
    obtain ⟨arr,T,ha,hc⟩ := h2
    exact ⟨b,o,arr,T,rfl,ha,thaw_cells h1 hc⟩
  ·exact hr.heap.blk k l b hm hb'
 ·rcases get k bi hk with ⟨rfl,rfl⟩ | ⟨_,hk'⟩ <;> rcases get j bj hj with ⟨rfl,rfl⟩ | ⟨_,hj'⟩
  ·exact hne' rfl
  ·exact hr.heap.inj k j _ bj b o o' hne' hi hj' rfl lj mi mj
  ·exact hr.heap.inj k j bi _ b o o' hne' hk' hi li rfl mi mj
  ·exact hr.heap.inj k j bi bj b o o' hne' hk' hj' li lj mi mj
 ·rcases get k bi hk with ⟨rfl,rfl⟩ | ⟨_,hk'⟩
  ·exact hr.heap.out k _ b o hi rfl mi
  ·exact hr.heap.out k bi b o hk' li mi
theorem stB_boxr {d : TypeDesc} {b : Nat} {z : Option (List FV)} (h : List Blk) (cs : List AV) (id es r off : Nat) (v : AV) (hk : okCell v = true) : stB ⟨d,1,b,z⟩ h (some (.box cs)) id es r off v = (splice cs (r * es + off) [v]).map fun cs' => (.undef,h.set id (.box cs'),[id]) := by
 have hc : cellsA v = some [v] := by cases v <;> first | rfl | simp [okCell] at hk
 simp [stB,stBx,hc,hk]
 cases splice cs (r * es + off) [v] <;> rfl
end Go.Abs
