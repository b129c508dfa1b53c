/- Sets of bytes: the document's Parts; the law BytesParts. -/
import Derived.Test.YtablmjophjjabaaDoorBytesF
import Derived.Test.YtablmjophjjabaaDoorBytesQ
namespace Go.Abs
open Go.Proofs
set_option linter.unusedVariables false
set_option linter.unusedSimpArgs false
set_option maxRecDepth 100000
set_option maxHeartbeats 1000000
theorem parts256 (l : List (Nat → Bool)) : (partsOf l).length ≤ 256 := by
  have h := (sorted_same l (sortB (partsOf l)) (sortB_facts _).2.1 (sortB_facts _).2.2).1
  rw [(sortB_facts _).1] at h
  rw [h]
  exact heads_length l
theorem ok19 (l : List (Nat → Bool)) (hl : l.length < 1048576) : Ok Tryd.prog 19 [.fv (.lst 4 (srows l))] [] (.ret (.fv (.lst 4 (srows (sortB (partsOf l)))))) [] :=
  ok19s sortB (fun ps => (sortB_facts ps).1) ok32 l hl fun i _ => ⟨parts_len _, parts256 _⟩
theorem ok35 (l : List (Nat → Bool)) (a b : Nat) (hl : l.length < 1048576) (ha : a < 256) (hb : b < 256) : Ok Tryd.prog 35 [.fv (.lst 4 (srows l)), .fv (.int .i64 a), .fv (.int .i64 b)] [] (.ret (.fv (.bool (alike l a b)))) [] := by
  have hll := srows_len l
  refine ok_start (k := 24) (n0 := 0) (rs := [.tmp 6]) mix Tryd.func35 rfl rfl rfl rfl rfl rfl rfl ?_
  simp -implicitDefEqProofs only [awp_draw _ _ Tryddr35_4,
    evx, true_and, Option.map_none, ofValue, ofCell, Option.map_some, List.range, List.range.loop, Array.size, List.length_cons, List.length_nil, List.size_toArray, Nat.reduceAdd, Nat.reduceSub, Nat.reduceEqDiff, List.getElem?_toArray, List.getElem?_cons_zero, List.getElem?_cons_succ, List.replicate, List.cons_append, List.nil_append, List.append_nil, List.set_cons_zero, List.set_cons_succ, List.getD_cons_zero, List.getD_cons_succ, decide_not, ne_eq, if_true, if_false, eq_self, ↓reduceIte, reduceCtorEq, splice_one, map_ite, elB, bind_ite, ite_ite, evParts, Option.bind_some, Option.some.injEq, Int.reduceToNat, Int.reduceLE, Int.reduceLT, Int.reduceEq, Nat.reduceMul, Nat.reduceLeDiff, Nat.reduceLT, List.drop_zero, List.take_succ_cons, List.take_zero, List.drop_succ_cons, List.take_nil, List.map_cons, List.map_nil, List.length_append, ty3, ty4, ty5, ty23, ty24, ty25, ty33, ty39, ty40, ty45, ty51, ty74]
  refine loop_rule (fun i : Nat => ⟨[.fv (.lst 4 (srows l)), .fv (.int .i64 a), .fv (.int .i64 b), .any, .any, .any, .any, .fv (.int .i64 i), .any, .any, .any, .any, .any, .any, .any, .any, .any, .any, .any, .any, .any, .any, .any, .any, .any, .any, .any], [], []⟩)
    (fun i => i ≤ l.length ∧ alike (l.take i) a b = true) (fun i => l.length - i) 0 (le_wk (by simp [wk])) (by simp [alike]) (fun i hi s hs => ?_)
  obtain ⟨hi, hal⟩ := hi
  by_cases hil : i < l.length
  · have hc : ((i : Int) < ((srows l).length : Int)) = True := by simp; omega
    have hg := srows_get l i hil
    have hw : IntKind.wrap .i64 ((i : Int) + 1) = ((i + 1 : Nat) : Int) := wrap_small (by omega) (by omega)
    have h26a := ok26 l[i] a ha
    have h26b := ok26 l[i] b hb
    have ht : alike (l.take (i + 1)) a b = (l[i] a == l[i] b) := by
      rw [List.take_succ_eq_append_getElem hil, alike_append, hal, Bool.true_and]
    have hne : (l[i] a == l[i] b) = false → alike l a b = false := fun he => by
      cases h : alike l a b with
      | false => rfl
      | true =>
        have := (alike_iff l a b).1 h l[i] (List.getElem_mem hil)
        rw [this] at he
        simp at he
    generalize l[i] a = x at *
    generalize l[i] b = y at *
    simp -implicitDefEqProofs only [awp_draw _ _ Tryddr35_4, hc, hg, sc_len, sc_take, sc_zl, stB_boxA, sc_ok, splice_all, srow_map, srow_len, bsE_sc,
    evx, true_and, Option.map_none, ofValue, ofCell, Option.map_some, List.range, List.range.loop, Array.size, List.length_cons, List.length_nil, List.size_toArray, Nat.reduceAdd, Nat.reduceSub, Nat.reduceEqDiff, List.getElem?_toArray, List.getElem?_cons_zero, List.getElem?_cons_succ, List.replicate, List.cons_append, List.nil_append, List.append_nil, List.set_cons_zero, List.set_cons_succ, List.getD_cons_zero, List.getD_cons_succ, decide_not, ne_eq, if_true, if_false, eq_self, ↓reduceIte, reduceCtorEq, splice_one, map_ite, elB, bind_ite, ite_ite, evParts, Option.bind_some, Option.some.injEq, Int.reduceToNat, Int.reduceLE, Int.reduceLT, Int.reduceEq, Nat.reduceMul, Nat.reduceLeDiff, Nat.reduceLT, List.drop_zero, List.take_succ_cons, List.take_zero, List.drop_succ_cons, List.take_nil, List.map_cons, List.map_nil, List.length_append, ty3, ty4, ty5, ty23, ty24, ty25, ty33, ty39, ty40, ty45, ty51, ty74]
    refine callK_ret _ _ _ _ (call_pure (h26a) (fun _ => rfl) (fun _ => rfl)) (ok_nil _ _) ?_
    simp -implicitDefEqProofs only [awp_draw _ _ Tryddr35_4, hg, sc_len, sc_take, sc_zl, stB_boxA, sc_ok, splice_all, srow_map, srow_len, bsE_sc,
    evx, true_and, Option.map_none, ofValue, ofCell, Option.map_some, List.range, List.range.loop, Array.size, List.length_cons, List.length_nil, List.size_toArray, Nat.reduceAdd, Nat.reduceSub, Nat.reduceEqDiff, List.getElem?_toArray, List.getElem?_cons_zero, List.getElem?_cons_succ, List.replicate, List.cons_append, List.nil_append, List.append_nil, List.set_cons_zero, List.set_cons_succ, List.getD_cons_zero, List.getD_cons_succ, decide_not, ne_eq, if_true, if_false, eq_self, ↓reduceIte, reduceCtorEq, splice_one, map_ite, elB, bind_ite, ite_ite, evParts, Option.bind_some, Option.some.injEq, Int.reduceToNat, Int.reduceLE, Int.reduceLT, Int.reduceEq, Nat.reduceMul, Nat.reduceLeDiff, Nat.reduceLT, List.drop_zero, List.take_succ_cons, List.take_zero, List.drop_succ_cons, List.take_nil, List.map_cons, List.map_nil, List.length_append, ty3, ty4, ty5, ty23, ty24, ty25, ty33, ty39, ty40, ty45, ty51, ty74]
    refine callK_ret _ _ _ _ (call_pure (h26b) (fun _ => rfl) (fun _ => rfl)) (ok_nil _ _) ?_
    cases hxy : x == y with
    | true =>
      have hb' : (x != y) = false := by simp [bne, hxy]
      simp -implicitDefEqProofs only [awp_draw _ _ Tryddr35_4, neq_bool ty4, hb', hw,
    evx, true_and, Option.map_none, ofValue, ofCell, Option.map_some, List.range, List.range.loop, Array.size, List.length_cons, List.length_nil, List.size_toArray, Nat.reduceAdd, Nat.reduceSub, Nat.reduceEqDiff, List.getElem?_toArray, List.getElem?_cons_zero, List.getElem?_cons_succ, List.replicate, List.cons_append, List.nil_append, List.append_nil, List.set_cons_zero, List.set_cons_succ, List.getD_cons_zero, List.getD_cons_succ, decide_not, ne_eq, if_true, if_false, eq_self, ↓reduceIte, reduceCtorEq, splice_one, map_ite, elB, bind_ite, ite_ite, evParts, Option.bind_some, Option.some.injEq, Int.reduceToNat, Int.reduceLE, Int.reduceLT, Int.reduceEq, Nat.reduceMul, Nat.reduceLeDiff, Nat.reduceLT, List.drop_zero, List.take_succ_cons, List.take_zero, List.drop_succ_cons, List.take_nil, List.map_cons, List.map_nil, List.length_append, ty3, ty4, ty5, ty23, ty24, ty25, ty33, ty39, ty40, ty45, ty51, ty74]
      exact back_intro hs (i + 1) (le_wk (by simp [wk])) ⟨by omega, by rw [ht, hxy]⟩ (by omega)
    | false =>
      have hb' : (x != y) = true := by simp [bne, hxy]
      rw [hne hxy]
      simp -implicitDefEqProofs only [awp_draw _ _ Tryddr35_4, neq_bool ty4, hb',
    evx, true_and, Option.map_none, ofValue, ofCell, Option.map_some, List.range, List.range.loop, Array.size, List.length_cons, List.length_nil, List.size_toArray, Nat.reduceAdd, Nat.reduceSub, Nat.reduceEqDiff, List.getElem?_toArray, List.getElem?_cons_zero, List.getElem?_cons_succ, List.replicate, List.cons_append, List.nil_append, List.append_nil, List.set_cons_zero, List.set_cons_succ, List.getD_cons_zero, List.getD_cons_succ, decide_not, ne_eq, if_true, if_false, eq_self, ↓reduceIte, reduceCtorEq, splice_one, map_ite, elB, bind_ite, ite_ite, evParts, Option.bind_some, Option.some.injEq, Int.reduceToNat, Int.reduceLE, Int.reduceLT, Int.reduceEq, Nat.reduceMul, Nat.reduceLeDiff, Nat.reduceLT, List.drop_zero, List.take_succ_cons, List.take_zero, List.drop_succ_cons, List.take_nil, List.map_cons, List.map_nil, List.length_append, ty3, ty4, ty5, ty23, ty24, ty25, ty33, ty39, ty40, ty45, ty51, ty74]
      exact Le.refl _ _
  · have hc : ((i : Int) < ((srows l).length : Int)) = False := by simp; omega
    have hie : i = l.length := by omega
    subst hie
    rw [List.take_length] at hal
    rw [hal]
    simp -implicitDefEqProofs only [awp_draw _ _ Tryddr35_4, hc,
    evx, true_and, Option.map_none, ofValue, ofCell, Option.map_some, List.range, List.range.loop, Array.size, List.length_cons, List.length_nil, List.size_toArray, Nat.reduceAdd, Nat.reduceSub, Nat.reduceEqDiff, List.getElem?_toArray, List.getElem?_cons_zero, List.getElem?_cons_succ, List.replicate, List.cons_append, List.nil_append, List.append_nil, List.set_cons_zero, List.set_cons_succ, List.getD_cons_zero, List.getD_cons_succ, decide_not, ne_eq, if_true, if_false, eq_self, ↓reduceIte, reduceCtorEq, splice_one, map_ite, elB, bind_ite, ite_ite, evParts, Option.bind_some, Option.some.injEq, Int.reduceToNat, Int.reduceLE, Int.reduceLT, Int.reduceEq, Nat.reduceMul, Nat.reduceLeDiff, Nat.reduceLT, List.drop_zero, List.take_succ_cons, List.take_zero, List.drop_succ_cons, List.take_nil, List.map_cons, List.map_nil, List.length_append, ty3, ty4, ty5, ty23, ty24, ty25, ty33, ty39, ty40, ty45, ty51, ty74]
    exact Le.refl _ _
/-- All that are alike to one of the first a. -/
def doneP (l : List (Nat → Bool)) (a : Nat) : Nat → Bool := fun b => (List.range a).any fun h => alike l h b
theorem alike_comm (l : List (Nat → Bool)) (a b : Nat) : alike l a b = alike l b a := by
  rw [Bool.eq_iff_iff]
  exact ⟨alike_symm, alike_symm⟩
theorem done_head (l : List (Nat → Bool)) (a : Nat) (ha : a < 256) : doneP l a a = false ↔ a ∈ heads l := by
  rw [mem_heads]
  simp only [doneP, ha, true_and, List.any_eq_false, List.mem_range, Bool.not_eq_true]
  exact ⟨fun h b hb => by rw [alike_comm]; exact h b hb, fun h b hb => by rw [alike_comm]; exact h b hb⟩
theorem done_succ (l : List (Nat → Bool)) (a b : Nat) : doneP l (a + 1) b = (doneP l a b || alike l a b) := by
  simp [doneP, List.range_succ, List.any_append]
theorem done_no (l : List (Nat → Bool)) (a : Nat) (h : doneP l a a = true) : doneP l (a + 1) = doneP l a := by
  funext b
  rw [done_succ]
  cases hd : doneP l a b with
  | true => rfl
  | false =>
    cases hal : alike l a b with
    | false => rfl
    | true =>
      simp only [doneP, List.any_eq_true, List.mem_range] at h
      obtain ⟨k, hk, hka⟩ := h
      have : doneP l a b = true := by
        simp only [doneP, List.any_eq_true, List.mem_range]
        exact ⟨k, hk, alike_trans hka hal⟩
      rw [hd] at this
      cases this
/-- The class of a, up to b. -/
def clsTo (l : List (Nat → Bool)) (a b : Nat) : Nat → Bool := fun c => decide (a ≤ c) && decide (c < b) && alike l a c
theorem cls_start (l : List (Nat → Bool)) (a : Nat) : clsTo l a a = fun _ => false := by
  funext c
  simp only [clsTo]
  by_cases h : a ≤ c
  · have : ¬ c < a := by omega
    simp [this]
  · simp [h]
theorem cls_yes (l : List (Nat → Bool)) (a b : Nat) (hab : a ≤ b) (h : alike l a b = true) (q : Nat → Bool) : putP (fun c => q c || clsTo l a b c) b = fun c => q c || clsTo l a (b + 1) c := by
  funext c
  simp only [putP, clsTo]
  by_cases e : c = b
  · subst e; simp [hab, h]
  · have h2 : (c < b + 1) = (c < b) := by simp; omega
    have h3 : (c == b) = false := by simpa using e
    simp [h2, h3]
theorem cls_no (l : List (Nat → Bool)) (a b : Nat) (h : alike l a b = false) : clsTo l a (b + 1) = clsTo l a b := by
  funext c
  simp only [clsTo]
  by_cases e : c = b
  · subst e; simp [h]
  · have h2 : (c < b + 1) = (c < b) := by simp; omega
    simp [h2]
theorem cls_end (l : List (Nat → Bool)) (a : Nat) : ∀ c, c < 256 → clsTo l a 256 c = classOf l a c := fun c hc => by simp [clsTo, classOf, hc]
theorem done_cls (l : List (Nat → Bool)) (a : Nat) (h : a ∈ heads l) : ∀ c, c < 256 → (doneP l a c || clsTo l a 256 c) = doneP l (a + 1) c := fun c hc => by
  rw [done_succ, cls_end l a c hc]
  simp only [classOf]
  by_cases h2 : a ≤ c
  · simp [h2]
  · have h3 := ((mem_heads l a).1 h).2 c (by omega)
    simp [h2, h3]
/-- What the document's Parts gives. -/
def refParts (l : List (Nat → Bool)) : List (Nat → Bool) := (heads l).map (classOf l)
def headsTo (l : List (Nat → Bool)) (a : Nat) : List Nat := (List.range a).filter fun a => (List.range a).all fun b => !alike l a b
theorem headsTo_succ (l : List (Nat → Bool)) (a : Nat) (ha : a < 256) : headsTo l (a + 1) = headsTo l a ++ (if doneP l a a then [] else [a]) := by
  unfold headsTo
  rw [List.range_succ, List.filter_append]
  congr 1
  cases hd : doneP l a a with
  | false =>
    have := (done_head l a ha).1 hd
    rw [heads, List.mem_filter] at this
    simp [this.2]
  | true =>
    have hn : ¬ a ∈ heads l := fun h => by
      have := (done_head l a ha).2 h
      rw [hd] at this
      cases this
    rw [heads, List.mem_filter] at hn
    have h2 : ((List.range a).all fun b => !alike l a b) = false := by
      cases hx : (List.range a).all fun b => !alike l a b with
      | false => rfl
      | true => exact absurd ⟨by simpa using ha, hx⟩ hn
    simp [h2]
theorem bsE_sc0 (h : List Blk) : bsE (some ⟨.array 4 23, 4, 32, some [.int .u64 0, .int .u64 0, .int .u64 0, .int .u64 0]⟩) 0 h (some []) = some (.ref h.length 4 0 0, h ++ [.plain 4 []], []) :=
  bsE_r0 32 (.array 4 23) 4 [.int .u64 0, .int .u64 0, .int .u64 0, .int .u64 0] h rfl (by omega)
theorem ok20 (l : List (Nat → Bool)) (hl : l.length < 1048576) : Ok Tryd.prog 20 [.fv (.lst 4 (srows l))] [] (.ret (.fv (.lst 4 (srows (refParts l))))) [] := by
  refine ok_start (k := 36) (n0 := 0) (rs := [.tmp 2]) mix Tryd.func20 rfl rfl rfl rfl rfl rfl rfl ?_
  simp -implicitDefEqProofs only [sc_len, sc_take, sc_zl, stB_boxA, sc_ok, splice_all, srow_map, srow_len, bsE_sc,
    evx, true_and, Option.map_none, ofValue, ofCell, Option.map_some, List.range, List.range.loop, Array.size, List.length_cons, List.length_nil, List.size_toArray, Nat.reduceAdd, Nat.reduceSub, Nat.reduceEqDiff, List.getElem?_toArray, List.getElem?_cons_zero, List.getElem?_cons_succ, List.replicate, List.cons_append, List.nil_append, List.append_nil, List.set_cons_zero, List.set_cons_succ, List.getD_cons_zero, List.getD_cons_succ, decide_not, ne_eq, if_true, if_false, eq_self, ↓reduceIte, reduceCtorEq, splice_one, map_ite, elB, bind_ite, ite_ite, evParts, Option.bind_some, Option.some.injEq, Int.reduceToNat, Int.reduceLE, Int.reduceLT, Int.reduceEq, Nat.reduceMul, Nat.reduceLeDiff, Nat.reduceLT, List.drop_zero, List.take_succ_cons, List.take_zero, List.drop_succ_cons, List.take_nil, List.map_cons, List.map_nil, List.length_append, ty3, ty4, ty5, ty23, ty24, ty25, ty33, ty39, ty40, ty45, ty51, ty74]
  refine loop_rule (fun s : Nat × (Nat → Bool) × List (Nat → Bool) => ⟨[.fv (.lst 4 (srows l)), .any, .any, .ref 1 4 0 s.2.2.length, .ptr 0 0 0 0, .fv (.int .i64 s.1), .any, .any, .any, .any, .any, .any, .any, .any, .any, .any, .any, .any, .any, .any, .any, .any, .any, .any, .any, .any, .any, .any, .any, .any, .any, .any, .any, .any, .any, .any, .any], [.box (sc s.2.1), .plain 4 (srows s.2.2)], []⟩)
    (fun s => s.1 ≤ 256 ∧ s.2.1 = doneP l s.1 ∧ s.2.2 = (headsTo l s.1).map (classOf l)) (fun s => 256 - s.1) (0, (fun _ => false), []) (Le.trans (le_virt 3 4 rfl) (le_wk (by simp [wk]))) ⟨by simp, by funext b; simp [doneP], by simp [headsTo]⟩ (fun st hst s0 hs0 => ?_)
  obtain ⟨a, dn, out⟩ := st
  obtain ⟨ha, hdn, hout⟩ := hst
  simp only at ha hdn hout hs0 ⊢
  have hol : out.length ≤ 256 := by
    rw [hout, List.length_map, headsTo]
    have := List.length_filter_le (fun a => (List.range a).all fun b => !alike l a b) (List.range a)
    rw [List.length_range] at this
    omega
  have hosl := srows_len out
  by_cases ha2 : a < 256
  · have hc : ((a : Int) < 256) = True := by simp; omega
    have h26 := ok26 dn a ha2
    have hhs := headsTo_succ l a ha2
    cases hda : dn a with
    | true =>
      rw [hda] at h26
      rw [hdn] at hda
      rw [hda, if_pos rfl, List.append_nil] at hhs
      simp -implicitDefEqProofs only [hc, sc_len, sc_take, sc_zl, stB_boxA, sc_ok, splice_all, srow_map, srow_len, bsE_sc,
    evx, true_and, Option.map_none, ofValue, ofCell, Option.map_some, List.range, List.range.loop, Array.size, List.length_cons, List.length_nil, List.size_toArray, Nat.reduceAdd, Nat.reduceSub, Nat.reduceEqDiff, List.getElem?_toArray, List.getElem?_cons_zero, List.getElem?_cons_succ, List.replicate, List.cons_append, List.nil_append, List.append_nil, List.set_cons_zero, List.set_cons_succ, List.getD_cons_zero, List.getD_cons_succ, decide_not, ne_eq, if_true, if_false, eq_self, ↓reduceIte, reduceCtorEq, splice_one, map_ite, elB, bind_ite, ite_ite, evParts, Option.bind_some, Option.some.injEq, Int.reduceToNat, Int.reduceLE, Int.reduceLT, Int.reduceEq, Nat.reduceMul, Nat.reduceLeDiff, Nat.reduceLT, List.drop_zero, List.take_succ_cons, List.take_zero, List.drop_succ_cons, List.take_nil, List.map_cons, List.map_nil, List.length_append, ty3, ty4, ty5, ty23, ty24, ty25, ty33, ty39, ty40, ty45, ty51, ty74]
      refine callK_ret _ _ _ _ (call_pure (h26) (fun _ => rfl) (fun _ => rfl)) (ok_nil _ _) ?_
      simp -implicitDefEqProofs only [w256 ha2,
    evx, true_and, Option.map_none, ofValue, ofCell, Option.map_some, List.range, List.range.loop, Array.size, List.length_cons, List.length_nil, List.size_toArray, Nat.reduceAdd, Nat.reduceSub, Nat.reduceEqDiff, List.getElem?_toArray, List.getElem?_cons_zero, List.getElem?_cons_succ, List.replicate, List.cons_append, List.nil_append, List.append_nil, List.set_cons_zero, List.set_cons_succ, List.getD_cons_zero, List.getD_cons_succ, decide_not, ne_eq, if_true, if_false, eq_self, ↓reduceIte, reduceCtorEq, splice_one, map_ite, elB, bind_ite, ite_ite, evParts, Option.bind_some, Option.some.injEq, Int.reduceToNat, Int.reduceLE, Int.reduceLT, Int.reduceEq, Nat.reduceMul, Nat.reduceLeDiff, Nat.reduceLT, List.drop_zero, List.take_succ_cons, List.take_zero, List.drop_succ_cons, List.take_nil, List.map_cons, List.map_nil, List.length_append, ty3, ty4, ty5, ty23, ty24, ty25, ty33, ty39, ty40, ty45, ty51, ty74]
      exact back_intro hs0 (a + 1, dn, out) (le_wk (by simp [wk])) ⟨by simp only; omega, by simp only [hdn]; exact (done_no l a hda).symm, by simp only [hout, hhs]⟩ (by simp only; omega)
    | false =>
      rw [hda] at h26
      rw [hdn] at hda
      rw [hda, if_neg (by simp)] at hhs
      have hhead := (done_head l a ha2).1 hda
      simp -implicitDefEqProofs only [hc, sc_len, sc_take, sc_zl, stB_boxA, sc_ok, splice_all, srow_map, srow_len, bsE_sc,
    evx, true_and, Option.map_none, ofValue, ofCell, Option.map_some, List.range, List.range.loop, Array.size, List.length_cons, List.length_nil, List.size_toArray, Nat.reduceAdd, Nat.reduceSub, Nat.reduceEqDiff, List.getElem?_toArray, List.getElem?_cons_zero, List.getElem?_cons_succ, List.replicate, List.cons_append, List.nil_append, List.append_nil, List.set_cons_zero, List.set_cons_succ, List.getD_cons_zero, List.getD_cons_succ, decide_not, ne_eq, if_true, if_false, eq_self, ↓reduceIte, reduceCtorEq, splice_one, map_ite, elB, bind_ite, ite_ite, evParts, Option.bind_some, Option.some.injEq, Int.reduceToNat, Int.reduceLE, Int.reduceLT, Int.reduceEq, Nat.reduceMul, Nat.reduceLeDiff, Nat.reduceLT, List.drop_zero, List.take_succ_cons, List.take_zero, List.drop_succ_cons, List.take_nil, List.map_cons, List.map_nil, List.length_append, ty3, ty4, ty5, ty23, ty24, ty25, ty33, ty39, ty40, ty45, ty51, ty74]
      refine callK_ret _ _ _ _ (call_pure (h26) (fun _ => rfl) (fun _ => rfl)) (ok_nil _ _) ?_
      simp -implicitDefEqProofs only [sc_len, sc_take, sc_zl, stB_boxA, sc_ok, splice_all, srow_map, srow_len, bsE_sc,
    evx, true_and, Option.map_none, ofValue, ofCell, Option.map_some, List.range, List.range.loop, Array.size, List.length_cons, List.length_nil, List.size_toArray, Nat.reduceAdd, Nat.reduceSub, Nat.reduceEqDiff, List.getElem?_toArray, List.getElem?_cons_zero, List.getElem?_cons_succ, List.replicate, List.cons_append, List.nil_append, List.append_nil, List.set_cons_zero, List.set_cons_succ, List.getD_cons_zero, List.getD_cons_succ, decide_not, ne_eq, if_true, if_false, eq_self, ↓reduceIte, reduceCtorEq, splice_one, map_ite, elB, bind_ite, ite_ite, evParts, Option.bind_some, Option.some.injEq, Int.reduceToNat, Int.reduceLE, Int.reduceLT, Int.reduceEq, Nat.reduceMul, Nat.reduceLeDiff, Nat.reduceLT, List.drop_zero, List.take_succ_cons, List.take_zero, List.drop_succ_cons, List.take_nil, List.map_cons, List.map_nil, List.length_append, ty3, ty4, ty5, ty23, ty24, ty25, ty33, ty39, ty40, ty45, ty51, ty74]
      refine loop_rule (fun s : Nat × (Nat → Bool) × (Nat → Bool) => ⟨[.fv (.lst 4 (srows l)), .any, .any, .ref 1 4 0 out.length, .ptr 0 0 0 0, .fv (.int .i64 a), .ptr 2 0 0 0, .fv (.int .i64 s.1), .any, .any, .any, .any, .any, .any, .any, .any, .any, .any, .any, .any, .any, .any, .any, .any, .any, .any, .any, .any, .any, .any, .any, .any, .any, .any, .any, .any, .any], [.box (sc s.2.1), .plain 4 (srows out), .box (sc s.2.2)], []⟩)
        (fun s => a ≤ s.1 ∧ s.1 ≤ 256 ∧ s.2.1 = (fun c => dn c || clsTo l a s.1 c) ∧ s.2.2 = clsTo l a s.1) (fun s => 256 - s.1) (a, dn, fun _ => false) (le_wk (by simp [wk])) ⟨by simp, by simp only; omega, by simp only [cls_start]; funext c; simp, by simp only [cls_start]⟩ (fun st hst s1 hs1 => ?_)
      obtain ⟨b, d2, q2⟩ := st
      obtain ⟨hab, hb, hd2, hq2⟩ := hst
      simp only at hab hb hd2 hq2 hs1 ⊢
      by_cases hb2 : b < 256
      · have hcb : ((b : Int) < 256) = True := by simp; omega
        have h35 := ok35 l a b hl ha2 hb2
        have h31a := ok31 q2 b hb2
        have h31b := ok31 d2 b hb2
        cases hal : alike l a b with
        | true =>
          rw [hal] at h35
          have e1 : putP q2 b = clsTo l a (b + 1) := by
            have h := cls_yes l a b hab hal (fun _ => false)
            simp only [Bool.false_or] at h
            rw [hq2]; exact h
          have e2 : putP d2 b = fun c => dn c || clsTo l a (b + 1) c := by rw [hd2]; exact cls_yes l a b hab hal dn
          simp -implicitDefEqProofs only [hcb, sc_len, sc_take, sc_zl, stB_boxA, sc_ok, splice_all, srow_map, srow_len, bsE_sc,
    evx, true_and, Option.map_none, ofValue, ofCell, Option.map_some, List.range, List.range.loop, Array.size, List.length_cons, List.length_nil, List.size_toArray, Nat.reduceAdd, Nat.reduceSub, Nat.reduceEqDiff, List.getElem?_toArray, List.getElem?_cons_zero, List.getElem?_cons_succ, List.replicate, List.cons_append, List.nil_append, List.append_nil, List.set_cons_zero, List.set_cons_succ, List.getD_cons_zero, List.getD_cons_succ, decide_not, ne_eq, if_true, if_false, eq_self, ↓reduceIte, reduceCtorEq, splice_one, map_ite, elB, bind_ite, ite_ite, evParts, Option.bind_some, Option.some.injEq, Int.reduceToNat, Int.reduceLE, Int.reduceLT, Int.reduceEq, Nat.reduceMul, Nat.reduceLeDiff, Nat.reduceLT, List.drop_zero, List.take_succ_cons, List.take_zero, List.drop_succ_cons, List.take_nil, List.map_cons, List.map_nil, List.length_append, ty3, ty4, ty5, ty23, ty24, ty25, ty33, ty39, ty40, ty45, ty51, ty74]
          refine callK_ret _ _ _ _ (call_pure (h35) (fun _ => rfl) (fun _ => rfl)) (ok_nil _ _) ?_
          simp -implicitDefEqProofs only [sc_len, sc_take, sc_zl, stB_boxA, sc_ok, splice_all, srow_map, srow_len, bsE_sc,
    evx, true_and, Option.map_none, ofValue, ofCell, Option.map_some, List.range, List.range.loop, Array.size, List.length_cons, List.length_nil, List.size_toArray, Nat.reduceAdd, Nat.reduceSub, Nat.reduceEqDiff, List.getElem?_toArray, List.getElem?_cons_zero, List.getElem?_cons_succ, List.replicate, List.cons_append, List.nil_append, List.append_nil, List.set_cons_zero, List.set_cons_succ, List.getD_cons_zero, List.getD_cons_succ, decide_not, ne_eq, if_true, if_false, eq_self, ↓reduceIte, reduceCtorEq, splice_one, map_ite, elB, bind_ite, ite_ite, evParts, Option.bind_some, Option.some.injEq, Int.reduceToNat, Int.reduceLE, Int.reduceLT, Int.reduceEq, Nat.reduceMul, Nat.reduceLeDiff, Nat.reduceLT, List.drop_zero, List.take_succ_cons, List.take_zero, List.drop_succ_cons, List.take_nil, List.map_cons, List.map_nil, List.length_append, ty3, ty4, ty5, ty23, ty24, ty25, ty33, ty39, ty40, ty45, ty51, ty74]
          refine callK_ret _ _ _ _ (call_pure (h31a) (fun _ => rfl) (fun _ => rfl)) (ok_nil _ _) ?_
          simp -implicitDefEqProofs only [sc_len, sc_take, sc_zl, stB_boxA, sc_ok, splice_all, srow_map, srow_len, bsE_sc,
    evx, true_and, Option.map_none, ofValue, ofCell, Option.map_some, List.range, List.range.loop, Array.size, List.length_cons, List.length_nil, List.size_toArray, Nat.reduceAdd, Nat.reduceSub, Nat.reduceEqDiff, List.getElem?_toArray, List.getElem?_cons_zero, List.getElem?_cons_succ, List.replicate, List.cons_append, List.nil_append, List.append_nil, List.set_cons_zero, List.set_cons_succ, List.getD_cons_zero, List.getD_cons_succ, decide_not, ne_eq, if_true, if_false, eq_self, ↓reduceIte, reduceCtorEq, splice_one, map_ite, elB, bind_ite, ite_ite, evParts, Option.bind_some, Option.some.injEq, Int.reduceToNat, Int.reduceLE, Int.reduceLT, Int.reduceEq, Nat.reduceMul, Nat.reduceLeDiff, Nat.reduceLT, List.drop_zero, List.take_succ_cons, List.take_zero, List.drop_succ_cons, List.take_nil, List.map_cons, List.map_nil, List.length_append, ty3, ty4, ty5, ty23, ty24, ty25, ty33, ty39, ty40, ty45, ty51, ty74]
          refine callK_ret _ _ _ _ (call_pure (h31b) (fun _ => rfl) (fun _ => rfl)) (ok_nil _ _) ?_
          simp -implicitDefEqProofs only [sc_len, sc_take, sc_zl, stB_boxA, sc_ok, splice_all, srow_map, srow_len, bsE_sc, w256 hb2,
    evx, true_and, Option.map_none, ofValue, ofCell, Option.map_some, List.range, List.range.loop, Array.size, List.length_cons, List.length_nil, List.size_toArray, Nat.reduceAdd, Nat.reduceSub, Nat.reduceEqDiff, List.getElem?_toArray, List.getElem?_cons_zero, List.getElem?_cons_succ, List.replicate, List.cons_append, List.nil_append, List.append_nil, List.set_cons_zero, List.set_cons_succ, List.getD_cons_zero, List.getD_cons_succ, decide_not, ne_eq, if_true, if_false, eq_self, ↓reduceIte, reduceCtorEq, splice_one, map_ite, elB, bind_ite, ite_ite, evParts, Option.bind_some, Option.some.injEq, Int.reduceToNat, Int.reduceLE, Int.reduceLT, Int.reduceEq, Nat.reduceMul, Nat.reduceLeDiff, Nat.reduceLT, List.drop_zero, List.take_succ_cons, List.take_zero, List.drop_succ_cons, List.take_nil, List.map_cons, List.map_nil, List.length_append, ty3, ty4, ty5, ty23, ty24, ty25, ty33, ty39, ty40, ty45, ty51, ty74]
          exact back_intro hs1 (b + 1, putP d2 b, putP q2 b) (le_wk (by simp [wk])) ⟨by simp only; omega, by simp only; omega, e2, e1⟩ (by simp only; omega)
        | false =>
          rw [hal] at h35
          have e1 := cls_no l a b hal
          simp -implicitDefEqProofs only [hcb, sc_len, sc_take, sc_zl, stB_boxA, sc_ok, splice_all, srow_map, srow_len, bsE_sc,
    evx, true_and, Option.map_none, ofValue, ofCell, Option.map_some, List.range, List.range.loop, Array.size, List.length_cons, List.length_nil, List.size_toArray, Nat.reduceAdd, Nat.reduceSub, Nat.reduceEqDiff, List.getElem?_toArray, List.getElem?_cons_zero, List.getElem?_cons_succ, List.replicate, List.cons_append, List.nil_append, List.append_nil, List.set_cons_zero, List.set_cons_succ, List.getD_cons_zero, List.getD_cons_succ, decide_not, ne_eq, if_true, if_false, eq_self, ↓reduceIte, reduceCtorEq, splice_one, map_ite, elB, bind_ite, ite_ite, evParts, Option.bind_some, Option.some.injEq, Int.reduceToNat, Int.reduceLE, Int.reduceLT, Int.reduceEq, Nat.reduceMul, Nat.reduceLeDiff, Nat.reduceLT, List.drop_zero, List.take_succ_cons, List.take_zero, List.drop_succ_cons, List.take_nil, List.map_cons, List.map_nil, List.length_append, ty3, ty4, ty5, ty23, ty24, ty25, ty33, ty39, ty40, ty45, ty51, ty74]
          refine callK_ret _ _ _ _ (call_pure (h35) (fun _ => rfl) (fun _ => rfl)) (ok_nil _ _) ?_
          simp -implicitDefEqProofs only [sc_len, sc_take, sc_zl, stB_boxA, sc_ok, splice_all, srow_map, srow_len, bsE_sc, w256 hb2,
    evx, true_and, Option.map_none, ofValue, ofCell, Option.map_some, List.range, List.range.loop, Array.size, List.length_cons, List.length_nil, List.size_toArray, Nat.reduceAdd, Nat.reduceSub, Nat.reduceEqDiff, List.getElem?_toArray, List.getElem?_cons_zero, List.getElem?_cons_succ, List.replicate, List.cons_append, List.nil_append, List.append_nil, List.set_cons_zero, List.set_cons_succ, List.getD_cons_zero, List.getD_cons_succ, decide_not, ne_eq, if_true, if_false, eq_self, ↓reduceIte, reduceCtorEq, splice_one, map_ite, elB, bind_ite, ite_ite, evParts, Option.bind_some, Option.some.injEq, Int.reduceToNat, Int.reduceLE, Int.reduceLT, Int.reduceEq, Nat.reduceMul, Nat.reduceLeDiff, Nat.reduceLT, List.drop_zero, List.take_succ_cons, List.take_zero, List.drop_succ_cons, List.take_nil, List.map_cons, List.map_nil, List.length_append, ty3, ty4, ty5, ty23, ty24, ty25, ty33, ty39, ty40, ty45, ty51, ty74]
          exact back_intro hs1 (b + 1, d2, q2) (le_wk (by simp [wk])) ⟨by simp only; omega, by simp only; omega, by simp only [e1]; exact hd2, by simp only [e1]; exact hq2⟩ (by simp only; omega)
      · have hcb : ((b : Int) < 256) = False := by simp; omega
        have hbe : b = 256 := by omega
        subst hbe
        simp -implicitDefEqProofs only [hcb, sc_len, sc_take, sc_zl, stB_boxA, sc_ok, splice_all, srow_map, srow_len, bsE_sc,
    evx, true_and, Option.map_none, ofValue, ofCell, Option.map_some, List.range, List.range.loop, Array.size, List.length_cons, List.length_nil, List.size_toArray, Nat.reduceAdd, Nat.reduceSub, Nat.reduceEqDiff, List.getElem?_toArray, List.getElem?_cons_zero, List.getElem?_cons_succ, List.replicate, List.cons_append, List.nil_append, List.append_nil, List.set_cons_zero, List.set_cons_succ, List.getD_cons_zero, List.getD_cons_succ, decide_not, ne_eq, if_true, if_false, eq_self, ↓reduceIte, reduceCtorEq, splice_one, map_ite, elB, bind_ite, ite_ite, evParts, Option.bind_some, Option.some.injEq, Int.reduceToNat, Int.reduceLE, Int.reduceLT, Int.reduceEq, Nat.reduceMul, Nat.reduceLeDiff, Nat.reduceLT, List.drop_zero, List.take_succ_cons, List.take_zero, List.drop_succ_cons, List.take_nil, List.map_cons, List.map_nil, List.length_append, ty3, ty4, ty5, ty23, ty24, ty25, ty33, ty39, ty40, ty45, ty51, ty74]
        refine ⟨⟨by omega, by omega⟩, ?_⟩
        simp -implicitDefEqProofs only [w256 ha2,
    evx, true_and, Option.map_none, ofValue, ofCell, Option.map_some, List.range, List.range.loop, Array.size, List.length_cons, List.length_nil, List.size_toArray, Nat.reduceAdd, Nat.reduceSub, Nat.reduceEqDiff, List.getElem?_toArray, List.getElem?_cons_zero, List.getElem?_cons_succ, List.replicate, List.cons_append, List.nil_append, List.append_nil, List.set_cons_zero, List.set_cons_succ, List.getD_cons_zero, List.getD_cons_succ, decide_not, ne_eq, if_true, if_false, eq_self, ↓reduceIte, reduceCtorEq, splice_one, map_ite, elB, bind_ite, ite_ite, evParts, Option.bind_some, Option.some.injEq, Int.reduceToNat, Int.reduceLE, Int.reduceLT, Int.reduceEq, Nat.reduceMul, Nat.reduceLeDiff, Nat.reduceLT, List.drop_zero, List.take_succ_cons, List.take_zero, List.drop_succ_cons, List.take_nil, List.map_cons, List.map_nil, List.length_append, ty3, ty4, ty5, ty23, ty24, ty25, ty33, ty39, ty40, ty45, ty51, ty74]
        have e1 : sc q2 = sc (classOf l a) := by rw [hq2]; exact sc_congr (cls_end l a)
        have e2 : sc d2 = sc (doneP l (a + 1)) := by rw [hd2, hdn]; exact sc_congr (done_cls l a hhead)
        have e3 : srow q2 = srow (classOf l a) := by
          have := congrArg toFs e1
          rw [toFs_sc, toFs_sc] at this
          exact Option.some.inj this
        refine back_intro hs0 (a + 1, doneP l (a + 1), out ++ [classOf l a]) (le_sub_wk [0, 4] [] rfl (by simp) (by simp) (by simp) (by simp) ?_ ?_ rfl) ⟨by simp only; omega, rfl, by simp only [hout, hhs, List.map_append, List.map_cons, List.map_nil]⟩ (by simp only; omega)
        · simp only [subSt, List.map_cons, List.map_nil, sub_agg2, sub_agg1]
          simp [subAny, subA, mkSub, idx, wk]
        · rw [srows_append, ← srow_one, ← e3, List.take_of_length_le (by omega), ← e2]
          simp [subSt, mkSub, subBlk, sub_scs]
  · have hc : ((a : Int) < 256) = False := by simp; omega
    have hae : a = 256 := by omega
    subst hae
    have e : out = refParts l := hout
    simp -implicitDefEqProofs only [hc,
    evx, true_and, Option.map_none, ofValue, ofCell, Option.map_some, List.range, List.range.loop, Array.size, List.length_cons, List.length_nil, List.size_toArray, Nat.reduceAdd, Nat.reduceSub, Nat.reduceEqDiff, List.getElem?_toArray, List.getElem?_cons_zero, List.getElem?_cons_succ, List.replicate, List.cons_append, List.nil_append, List.append_nil, List.set_cons_zero, List.set_cons_succ, List.getD_cons_zero, List.getD_cons_succ, decide_not, ne_eq, if_true, if_false, eq_self, ↓reduceIte, reduceCtorEq, splice_one, map_ite, elB, bind_ite, ite_ite, evParts, Option.bind_some, Option.some.injEq, Int.reduceToNat, Int.reduceLE, Int.reduceLT, Int.reduceEq, Nat.reduceMul, Nat.reduceLeDiff, Nat.reduceLT, List.drop_zero, List.take_succ_cons, List.take_zero, List.drop_succ_cons, List.take_nil, List.map_cons, List.map_nil, List.length_append, ty3, ty4, ty5, ty23, ty24, ty25, ty33, ty39, ty40, ty45, ty51, ty74]
    refine le_lst (rows := srows out) rfl (by rw [hosl]; omega) ?_
    rw [List.drop_zero, List.take_of_length_le (by omega), e]
theorem ok5 (l : List (Nat → Bool)) : Ok Tryd.prog 5 [.fv (.lst 4 (srows l))] [] (.ret (.fv (.bool true))) [] := by
  have hll := srows_len l
  by_cases h60 : 60 < l.length
  · have hc : ((60 : Int) < ((srows l).length : Int)) = True := by simp; omega
    refine ok_start (k := 36) (n0 := 0) (rs := [.tmp 2]) mix Tryd.func5 rfl rfl rfl rfl rfl rfl rfl ?_
    simp -implicitDefEqProofs only [awp_draw _ _ Tryddr5_12,
    evx, true_and, Option.map_none, ofValue, ofCell, Option.map_some, List.range, List.range.loop, Array.size, List.length_cons, List.length_nil, List.size_toArray, Nat.reduceAdd, Nat.reduceSub, Nat.reduceEqDiff, List.getElem?_toArray, List.getElem?_cons_zero, List.getElem?_cons_succ, List.replicate, List.cons_append, List.nil_append, List.append_nil, List.set_cons_zero, List.set_cons_succ, List.getD_cons_zero, List.getD_cons_succ, decide_not, ne_eq, if_true, if_false, eq_self, ↓reduceIte, reduceCtorEq, splice_one, map_ite, elB, bind_ite, ite_ite, evParts, Option.bind_some, Option.some.injEq, Int.reduceToNat, Int.reduceLE, Int.reduceLT, Int.reduceEq, Nat.reduceMul, Nat.reduceLeDiff, Nat.reduceLT, List.drop_zero, List.take_succ_cons, List.take_zero, List.drop_succ_cons, List.take_nil, List.map_cons, List.map_nil, List.length_append, ty3, ty4, ty5, ty23, ty24, ty25, ty33, ty39, ty40, ty45, ty51, ty74]
    refine callK_ret _ _ _ _ (call_pure (ok9) (fun _ => rfl) (fun _ => rfl)) (ok_nil _ _) ?_
    simp -implicitDefEqProofs only [awp_draw _ _ Tryddr5_12, hc,
    evx, true_and, Option.map_none, ofValue, ofCell, Option.map_some, List.range, List.range.loop, Array.size, List.length_cons, List.length_nil, List.size_toArray, Nat.reduceAdd, Nat.reduceSub, Nat.reduceEqDiff, List.getElem?_toArray, List.getElem?_cons_zero, List.getElem?_cons_succ, List.replicate, List.cons_append, List.nil_append, List.append_nil, List.set_cons_zero, List.set_cons_succ, List.getD_cons_zero, List.getD_cons_succ, decide_not, ne_eq, if_true, if_false, eq_self, ↓reduceIte, reduceCtorEq, splice_one, map_ite, elB, bind_ite, ite_ite, evParts, Option.bind_some, Option.some.injEq, Int.reduceToNat, Int.reduceLE, Int.reduceLT, Int.reduceEq, Nat.reduceMul, Nat.reduceLeDiff, Nat.reduceLT, List.drop_zero, List.take_succ_cons, List.take_zero, List.drop_succ_cons, List.take_nil, List.map_cons, List.map_nil, List.length_append, ty3, ty4, ty5, ty23, ty24, ty25, ty33, ty39, ty40, ty45, ty51, ty74]
    exact le_flat rfl
  · have hl : l.length < 1048576 := by omega
    have hc : ((60 : Int) < ((srows l).length : Int)) = False := by simp; omega
    obtain ⟨hlen, hsame⟩ := sorted_same l (sortB (partsOf l)) (sortB_facts _).2.1 (sortB_facts _).2.2
    have h19 := ok19 l hl
    have h20 := ok20 l hl
    have hrl : (refParts l).length = (heads l).length := by simp [refParts]
    have hsm : ∀ i (h : i < (sortB (partsOf l)).length) (h2 : i < (refParts l).length), same (sortB (partsOf l))[i] (refParts l)[i] = true := fun i h h2 => by
      simp only [refParts, List.getElem_map]
      exact hsame i h (by omega)
    have hl256 := heads_length l
    generalize sortB (partsOf l) = A at *
    generalize refParts l = B at *
    have hA := srows_len A
    have hB := srows_len B
    have heq : (((srows A).length : Int) = ((srows B).length : Int)) = True := by simp; omega
    refine ok_start (k := 36) (n0 := 0) (rs := [.tmp 2]) mix Tryd.func5 rfl rfl rfl rfl rfl rfl rfl ?_
    simp -implicitDefEqProofs only [awp_draw _ _ Tryddr5_12,
    evx, true_and, Option.map_none, ofValue, ofCell, Option.map_some, List.range, List.range.loop, Array.size, List.length_cons, List.length_nil, List.size_toArray, Nat.reduceAdd, Nat.reduceSub, Nat.reduceEqDiff, List.getElem?_toArray, List.getElem?_cons_zero, List.getElem?_cons_succ, List.replicate, List.cons_append, List.nil_append, List.append_nil, List.set_cons_zero, List.set_cons_succ, List.getD_cons_zero, List.getD_cons_succ, decide_not, ne_eq, if_true, if_false, eq_self, ↓reduceIte, reduceCtorEq, splice_one, map_ite, elB, bind_ite, ite_ite, evParts, Option.bind_some, Option.some.injEq, Int.reduceToNat, Int.reduceLE, Int.reduceLT, Int.reduceEq, Nat.reduceMul, Nat.reduceLeDiff, Nat.reduceLT, List.drop_zero, List.take_succ_cons, List.take_zero, List.drop_succ_cons, List.take_nil, List.map_cons, List.map_nil, List.length_append, ty3, ty4, ty5, ty23, ty24, ty25, ty33, ty39, ty40, ty45, ty51, ty74]
    refine callK_ret _ _ _ _ (call_pure (ok9) (fun _ => rfl) (fun _ => rfl)) (ok_nil _ _) ?_
    simp -implicitDefEqProofs only [awp_draw _ _ Tryddr5_12, hc, bsE_sc0, sc_len, sc_take, sc_zl, stB_boxA, sc_ok, splice_all, srow_map, srow_len, bsE_sc,
    evx, true_and, Option.map_none, ofValue, ofCell, Option.map_some, List.range, List.range.loop, Array.size, List.length_cons, List.length_nil, List.size_toArray, Nat.reduceAdd, Nat.reduceSub, Nat.reduceEqDiff, List.getElem?_toArray, List.getElem?_cons_zero, List.getElem?_cons_succ, List.replicate, List.cons_append, List.nil_append, List.append_nil, List.set_cons_zero, List.set_cons_succ, List.getD_cons_zero, List.getD_cons_succ, decide_not, ne_eq, if_true, if_false, eq_self, ↓reduceIte, reduceCtorEq, splice_one, map_ite, elB, bind_ite, ite_ite, evParts, Option.bind_some, Option.some.injEq, Int.reduceToNat, Int.reduceLE, Int.reduceLT, Int.reduceEq, Nat.reduceMul, Nat.reduceLeDiff, Nat.reduceLT, List.drop_zero, List.take_succ_cons, List.take_zero, List.drop_succ_cons, List.take_nil, List.map_cons, List.map_nil, List.length_append, ty3, ty4, ty5, ty23, ty24, ty25, ty33, ty39, ty40, ty45, ty51, ty74]
    refine ⟨by omega, ?_⟩
    refine callK_ret _ _ _ _ (call_freeze (args' := [.fv (.lst 4 (srows l))]) [1] (by simp) (by simp [subAny, subA, frzSub, List.take_of_length_le]) rfl
      (call_pure h19 (fun _ => rfl) (fun _ => rfl)) [1] (by simp) (by simp) (fun i hi hl => by
        have : i = 0 := by simp at hi hl; omega
        subst this; rfl)) (ok_none _ _) ?_
    simp -implicitDefEqProofs only [awp_draw _ _ Tryddr5_12, subAny, subA, subL, backSub, back, putBack, subBlk, Option.getD_some, List.map_cons, List.map_nil, Nat.not_lt_zero, Nat.sub_zero, Nat.add_zero, List.length_map, freezeSt,
    evx, true_and, Option.map_none, ofValue, ofCell, Option.map_some, List.range, List.range.loop, Array.size, List.length_cons, List.length_nil, List.size_toArray, Nat.reduceAdd, Nat.reduceSub, Nat.reduceEqDiff, List.getElem?_toArray, List.getElem?_cons_zero, List.getElem?_cons_succ, List.replicate, List.cons_append, List.nil_append, List.append_nil, List.set_cons_zero, List.set_cons_succ, List.getD_cons_zero, List.getD_cons_succ, decide_not, ne_eq, if_true, if_false, eq_self, ↓reduceIte, reduceCtorEq, splice_one, map_ite, elB, bind_ite, ite_ite, evParts, Option.bind_some, Option.some.injEq, Int.reduceToNat, Int.reduceLE, Int.reduceLT, Int.reduceEq, Nat.reduceMul, Nat.reduceLeDiff, Nat.reduceLT, List.drop_zero, List.take_succ_cons, List.take_zero, List.drop_succ_cons, List.take_nil, List.map_cons, List.map_nil, List.length_append, ty3, ty4, ty5, ty23, ty24, ty25, ty33, ty39, ty40, ty45, ty51, ty74]
    refine callK_ret _ _ _ _ (call_pure (h20) (fun _ => rfl) (fun _ => rfl)) (ok_nil _ _) ?_
    simp -implicitDefEqProofs only [awp_draw _ _ Tryddr5_12, heq,
    evx, true_and, Option.map_none, ofValue, ofCell, Option.map_some, List.range, List.range.loop, Array.size, List.length_cons, List.length_nil, List.size_toArray, Nat.reduceAdd, Nat.reduceSub, Nat.reduceEqDiff, List.getElem?_toArray, List.getElem?_cons_zero, List.getElem?_cons_succ, List.replicate, List.cons_append, List.nil_append, List.append_nil, List.set_cons_zero, List.set_cons_succ, List.getD_cons_zero, List.getD_cons_succ, decide_not, ne_eq, if_true, if_false, eq_self, ↓reduceIte, reduceCtorEq, splice_one, map_ite, elB, bind_ite, ite_ite, evParts, Option.bind_some, Option.some.injEq, Int.reduceToNat, Int.reduceLE, Int.reduceLT, Int.reduceEq, Nat.reduceMul, Nat.reduceLeDiff, Nat.reduceLT, List.drop_zero, List.take_succ_cons, List.take_zero, List.drop_succ_cons, List.take_nil, List.map_cons, List.map_nil, List.length_append, ty3, ty4, ty5, ty23, ty24, ty25, ty33, ty39, ty40, ty45, ty51, ty74]
    refine loop_rule (fun i : Nat => ⟨[.any, .any, .any, .fv (.lst 4 (srows A)), .fv (.lst 4 (srows B)), .any, .any, .any, .any, .any, .any, .any, .any, .any, .any, .any, .any, .any, .any, .any, .any, .any, .any, .fv (.int .i64 (srows A).length), .fv (.int .i64 i), .any, .any, .any, .any, .any, .any, .any, .any, .any, .any, .any, .any], [], []⟩)
      (fun i => i ≤ A.length) (fun i => A.length - i) 0 (le_sub_wk [] [] rfl (by simp) (by simp) (by simp) (by simp) (by simp [subSt, subAny, subA, mkSub, idx, wk]) rfl rfl) (by simp) (fun i hi s hs => ?_)
    by_cases hia : i < A.length
    · have hci : ((i : Int) < ((srows A).length : Int)) = True := by simp; omega
      have hgA := srows_get A i hia
      have hgB := srows_get B i (by omega)
      have hw : IntKind.wrap .i64 ((i : Int) + 1) = ((i + 1 : Nat) : Int) := wrap_small (by omega) (by omega)
      have hss := hsm i hia (by omega)
      simp -implicitDefEqProofs only [awp_draw _ _ Tryddr5_12, hci, hgA, hgB, neq_sc, hss, hw, sc_len, sc_take, sc_zl, stB_boxA, sc_ok, splice_all, srow_map, srow_len, bsE_sc,
    evx, true_and, Option.map_none, ofValue, ofCell, Option.map_some, List.range, List.range.loop, Array.size, List.length_cons, List.length_nil, List.size_toArray, Nat.reduceAdd, Nat.reduceSub, Nat.reduceEqDiff, List.getElem?_toArray, List.getElem?_cons_zero, List.getElem?_cons_succ, List.replicate, List.cons_append, List.nil_append, List.append_nil, List.set_cons_zero, List.set_cons_succ, List.getD_cons_zero, List.getD_cons_succ, decide_not, ne_eq, if_true, if_false, eq_self, ↓reduceIte, reduceCtorEq, splice_one, map_ite, elB, bind_ite, ite_ite, evParts, Option.bind_some, Option.some.injEq, Int.reduceToNat, Int.reduceLE, Int.reduceLT, Int.reduceEq, Nat.reduceMul, Nat.reduceLeDiff, Nat.reduceLT, List.drop_zero, List.take_succ_cons, List.take_zero, List.drop_succ_cons, List.take_nil, List.map_cons, List.map_nil, List.length_append, ty3, ty4, ty5, ty23, ty24, ty25, ty33, ty39, ty40, ty45, ty51, ty74]
      exact back_intro hs (i + 1) (le_wk (by simp [wk])) (by omega) (by omega)
    · have hci : ((i : Int) < ((srows A).length : Int)) = False := by simp; omega
      simp -implicitDefEqProofs only [awp_draw _ _ Tryddr5_12, hci,
    evx, true_and, Option.map_none, ofValue, ofCell, Option.map_some, List.range, List.range.loop, Array.size, List.length_cons, List.length_nil, List.size_toArray, Nat.reduceAdd, Nat.reduceSub, Nat.reduceEqDiff, List.getElem?_toArray, List.getElem?_cons_zero, List.getElem?_cons_succ, List.replicate, List.cons_append, List.nil_append, List.append_nil, List.set_cons_zero, List.set_cons_succ, List.getD_cons_zero, List.getD_cons_succ, decide_not, ne_eq, if_true, if_false, eq_self, ↓reduceIte, reduceCtorEq, splice_one, map_ite, elB, bind_ite, ite_ite, evParts, Option.bind_some, Option.some.injEq, Int.reduceToNat, Int.reduceLE, Int.reduceLT, Int.reduceEq, Nat.reduceMul, Nat.reduceLeDiff, Nat.reduceLT, List.drop_zero, List.take_succ_cons, List.take_zero, List.drop_succ_cons, List.take_nil, List.map_cons, List.map_nil, List.length_append, ty3, ty4, ty5, ty23, ty24, ty25, ty33, ty39, ty40, ty45, ty51, ty74]
      exact le_flat rfl
end Go.Abs
