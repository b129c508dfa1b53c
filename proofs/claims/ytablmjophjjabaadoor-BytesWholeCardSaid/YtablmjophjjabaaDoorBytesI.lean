/- Sets of bytes: the law BytesWhole. -/
import Derived.Test.YtablmjophjjabaaDoorBytesG
import Derived.Test.YtablmjophjjabaaDoorBytesH
namespace Go.Abs
open Go.Proofs
set_option linter.unusedVariables false
set_option linter.unusedSimpArgs false
set_option maxRecDepth 100000
set_option maxHeartbeats 1000000
def allOf (A : List (Nat → Bool)) : Nat → Bool := fun b => A.any fun p => p b
theorem allOf_snoc (A : List (Nat → Bool)) (p : Nat → Bool) : allOf (A ++ [p]) = fun b => allOf A b || p b := by
  funext b; simp [allOf]
theorem cnt_or {p q : Nat → Bool} : ∀ n, (∀ b, b < n → p b = true → q b = true → False) → cnt (fun b => p b || q b) n = cnt p n + cnt q n
  | 0, _ => rfl
  | n + 1, h => by
    have ih := cnt_or n fun b hb => h b (by omega)
    have hh := h n (by omega)
    simp only [cnt]
    rw [ih]
    have e : (if (p n || q n) = true then 1 else 0) = (if p n = true then 1 else 0) + (if q n = true then 1 else 0) := by
      revert hh
      generalize p n = x
      generalize q n = y
      cases x <;> cases y <;> simp
    omega
theorem cnt_pos {p : Nat → Bool} : ∀ n a, a < n → p a = true → 0 < cnt p n
  | 0, a, h, _ => by omega
  | n + 1, a, h, hp => by
    simp only [cnt]
    by_cases e : a = n
    · subst e; simp [hp]
    · have := cnt_pos n a (by omega) hp
      omega
theorem cnt_full {p : Nat → Bool} : ∀ n, (∀ b, b < n → p b = true) → cnt p n = n
  | 0, _ => rfl
  | n + 1, h => by
    simp only [cnt]
    rw [cnt_full n fun b hb => h b (by omega), h n (by omega)]
    simp
theorem disj_symm {p q : Nat → Bool} (h : Disj p q) : Disj q p := fun b hb h1 h2 => h b hb h2 h1
/-- What is true of the sorted parts. -/
theorem sorted_facts (l : List (Nat → Bool)) : (∀ p ∈ sortB (partsOf l), IsClass l p) ∧ (sortB (partsOf l)).Pairwise Disj ∧ ∀ b, b < 256 → allOf (sortB (partsOf l)) b = true := by
  obtain ⟨h1, h2, h3⟩ := parts_facts l
  obtain ⟨_, hp, _⟩ := sortB_facts (partsOf l)
  refine ⟨fun p h => h1 p (hp.mem_iff.1 h), (hp.pairwise_iff fun h => disj_symm h).2 h2, fun b hb => ?_⟩
  obtain ⟨p, hpm, hpb⟩ := h3 b hb
  simp only [allOf, List.any_eq_true]
  exact ⟨p, hp.mem_iff.2 hpm, hpb⟩
theorem class_cut {l : List (Nat → Bool)} {p s : Nat → Bool} (h : IsClass l p) (hs : s ∈ l) : same (fun b => p b && s b) p = false → same (fun b => p b && s b) (fun _ => false) = true := by
  obtain ⟨⟨a, ha, hpa⟩, hc⟩ := h
  have hal : ∀ b, b < 256 → p b = true → s a = s b := fun b hb hpb => (alike_iff l a b).1 (by rw [← hc a ha hpa b hb]; exact hpb) s hs
  cases hsa : s a with
  | true =>
    have : same (fun b => p b && s b) p = true := (same_iff _ _).2 fun b hb => by
      cases hpb : p b with
      | false => rfl
      | true => have := hal b hb hpb; simp_all
    rw [this]
    intro h; cases h
  | false =>
    have : same (fun b => p b && s b) (fun _ => false) = true := (same_iff _ _).2 fun b hb => by
      cases hpb : p b with
      | false => rfl
      | true => have := hal b hb hpb; simp_all
    rw [this]
    intro _; rfl
theorem ok7 (l : List (Nat → Bool)) : Ok Tryd.prog 7 [.fv (.lst 4 (srows l))] [] (.ret (.fv (.bool true))) [] := by
  have hll := srows_len l
  by_cases h60 : 60 < l.length
  · have hc : ((60 : Int) < ((srows l).length : Int)) = True := by simp; omega
    refine ok_start (k := 57) (n0 := 0) (rs := [.tmp 2]) mix Tryd.func7 rfl rfl rfl rfl rfl rfl rfl ?_
    simp -implicitDefEqProofs only [evx, true_and, Option.map_none, ofValue, ofCell, Option.map_some, List.range, List.range.loop, Array.size, List.length_cons, List.length_nil, List.size_toArray, Nat.reduceAdd, Nat.reduceSub, Nat.reduceEqDiff, List.getElem?_toArray, List.getElem?_cons_zero, List.getElem?_cons_succ, List.replicate, List.cons_append, List.nil_append, List.append_nil, List.set_cons_zero, List.set_cons_succ, List.getD_cons_zero, List.getD_cons_succ, decide_not, ne_eq, if_true, if_false, eq_self, ↓reduceIte, reduceCtorEq, splice_one, map_ite, elB, bind_ite, ite_ite, evParts, Option.bind_some, Option.some.injEq, Int.reduceToNat, Int.reduceLE, Int.reduceLT, Int.reduceEq, Nat.reduceMul, Nat.reduceLeDiff, Nat.reduceLT, List.drop_zero, List.take_succ_cons, List.take_zero, List.drop_succ_cons, List.take_nil, List.map_cons, List.map_nil, List.length_append, ty3, ty4, ty5, ty23, ty24, ty25, ty33, ty39, ty40, ty45, ty51, ty74]
    refine callK_ret _ _ _ _ (call_pure (ok9) (fun _ => rfl) (fun _ => rfl)) (ok_nil _ _) ?_
    simp -implicitDefEqProofs only [hc,
    evx, true_and, Option.map_none, ofValue, ofCell, Option.map_some, List.range, List.range.loop, Array.size, List.length_cons, List.length_nil, List.size_toArray, Nat.reduceAdd, Nat.reduceSub, Nat.reduceEqDiff, List.getElem?_toArray, List.getElem?_cons_zero, List.getElem?_cons_succ, List.replicate, List.cons_append, List.nil_append, List.append_nil, List.set_cons_zero, List.set_cons_succ, List.getD_cons_zero, List.getD_cons_succ, decide_not, ne_eq, if_true, if_false, eq_self, ↓reduceIte, reduceCtorEq, splice_one, map_ite, elB, bind_ite, ite_ite, evParts, Option.bind_some, Option.some.injEq, Int.reduceToNat, Int.reduceLE, Int.reduceLT, Int.reduceEq, Nat.reduceMul, Nat.reduceLeDiff, Nat.reduceLT, List.drop_zero, List.take_succ_cons, List.take_zero, List.drop_succ_cons, List.take_nil, List.map_cons, List.map_nil, List.length_append, ty3, ty4, ty5, ty23, ty24, ty25, ty33, ty39, ty40, ty45, ty51, ty74]
    exact le_flat rfl
  · have hl : l.length < 1048576 := by omega
    have hc : ((60 : Int) < ((srows l).length : Int)) = False := by simp; omega
    have h19 := ok19 l hl
    obtain ⟨hcls, hdis, hall⟩ := sorted_facts l
    have hA256 : (sortB (partsOf l)).length ≤ 256 := by rw [(sortB_facts _).1]; exact parts256 l
    generalize sortB (partsOf l) = A at *
    have hA := srows_len A
    refine ok_start (k := 57) (n0 := 0) (rs := [.tmp 2]) mix Tryd.func7 rfl rfl rfl rfl rfl rfl rfl ?_
    simp -implicitDefEqProofs only [evx, true_and, Option.map_none, ofValue, ofCell, Option.map_some, List.range, List.range.loop, Array.size, List.length_cons, List.length_nil, List.size_toArray, Nat.reduceAdd, Nat.reduceSub, Nat.reduceEqDiff, List.getElem?_toArray, List.getElem?_cons_zero, List.getElem?_cons_succ, List.replicate, List.cons_append, List.nil_append, List.append_nil, List.set_cons_zero, List.set_cons_succ, List.getD_cons_zero, List.getD_cons_succ, decide_not, ne_eq, if_true, if_false, eq_self, ↓reduceIte, reduceCtorEq, splice_one, map_ite, elB, bind_ite, ite_ite, evParts, Option.bind_some, Option.some.injEq, Int.reduceToNat, Int.reduceLE, Int.reduceLT, Int.reduceEq, Nat.reduceMul, Nat.reduceLeDiff, Nat.reduceLT, List.drop_zero, List.take_succ_cons, List.take_zero, List.drop_succ_cons, List.take_nil, List.map_cons, List.map_nil, List.length_append, ty3, ty4, ty5, ty23, ty24, ty25, ty33, ty39, ty40, ty45, ty51, ty74]
    refine callK_ret _ _ _ _ (call_pure (ok9) (fun _ => rfl) (fun _ => rfl)) (ok_nil _ _) ?_
    simp -implicitDefEqProofs only [hc, sc_len, sc_take, sc_zl, stB_boxA, sc_ok, splice_all, srow_map, srow_len, bsE_sc,
    evx, true_and, Option.map_none, ofValue, ofCell, Option.map_some, List.range, List.range.loop, Array.size, List.length_cons, List.length_nil, List.size_toArray, Nat.reduceAdd, Nat.reduceSub, Nat.reduceEqDiff, List.getElem?_toArray, List.getElem?_cons_zero, List.getElem?_cons_succ, List.replicate, List.cons_append, List.nil_append, List.append_nil, List.set_cons_zero, List.set_cons_succ, List.getD_cons_zero, List.getD_cons_succ, decide_not, ne_eq, if_true, if_false, eq_self, ↓reduceIte, reduceCtorEq, splice_one, map_ite, elB, bind_ite, ite_ite, evParts, Option.bind_some, Option.some.injEq, Int.reduceToNat, Int.reduceLE, Int.reduceLT, Int.reduceEq, Nat.reduceMul, Nat.reduceLeDiff, Nat.reduceLT, List.drop_zero, List.take_succ_cons, List.take_zero, List.drop_succ_cons, List.take_nil, List.map_cons, List.map_nil, List.length_append, ty3, ty4, ty5, ty23, ty24, ty25, ty33, ty39, ty40, ty45, ty51, ty74]
    refine callK_ret _ _ _ _ (call_pure (h19) (fun _ => rfl) (fun _ => rfl)) (ok_nil _ _) ?_
    simp -implicitDefEqProofs only [evx, true_and, Option.map_none, ofValue, ofCell, Option.map_some, List.range, List.range.loop, Array.size, List.length_cons, List.length_nil, List.size_toArray, Nat.reduceAdd, Nat.reduceSub, Nat.reduceEqDiff, List.getElem?_toArray, List.getElem?_cons_zero, List.getElem?_cons_succ, List.replicate, List.cons_append, List.nil_append, List.append_nil, List.set_cons_zero, List.set_cons_succ, List.getD_cons_zero, List.getD_cons_succ, decide_not, ne_eq, if_true, if_false, eq_self, ↓reduceIte, reduceCtorEq, splice_one, map_ite, elB, bind_ite, ite_ite, evParts, Option.bind_some, Option.some.injEq, Int.reduceToNat, Int.reduceLE, Int.reduceLT, Int.reduceEq, Nat.reduceMul, Nat.reduceLeDiff, Nat.reduceLT, List.drop_zero, List.take_succ_cons, List.take_zero, List.drop_succ_cons, List.take_nil, List.map_cons, List.map_nil, List.length_append, ty3, ty4, ty5, ty23, ty24, ty25, ty33, ty39, ty40, ty45, ty51, ty74]
    refine loop_rule (fun s : Nat × Nat × (Nat → Bool) => ⟨[.fv (.lst 4 (srows l)), .any, .any, .ptr 0 0 0 0, .fv (.int .i64 s.2.1), .any, .any, .any, .any, .any, .any, .any, .any, .any, .any, .any, .fv (.lst 4 (srows A)), .fv (.int .i64 (srows A).length), .fv (.int .i64 s.1), .any, .any, .any, .any, .any, .any, .any, .any, .any, .any, .any, .any, .any, .any, .any, .any, .any, .any, .any, .any, .any, .any, .any, .any, .any, .any, .any, .any, .any, .any, .any, .any, .any, .any, .any, .any, .any, .any, .any], [.box (sc s.2.2)], []⟩)
      (fun s => s.1 ≤ A.length ∧ s.2.2 = allOf (A.take s.1) ∧ s.2.1 = cnt s.2.2 256) (fun s => A.length - s.1) (0, 0, fun _ => false) (le_wk (by simp [wk])) ⟨by simp, rfl, (by decide +kernel)⟩ (fun st hst s0 hs0 => ?_)
    obtain ⟨i, n, al⟩ := st
    obtain ⟨hi, hal, hn⟩ := hst
    simp only at hi hal hn hs0 ⊢
    by_cases hia : i < A.length
    · have hci : ((i : Int) < ((srows A).length : Int)) = True := by simp; omega
      have hgA := srows_get A i hia
      have hwi : IntKind.wrap .i64 ((i : Int) + 1) = ((i + 1 : Nat) : Int) := wrap_small (by omega) (by omega)
      have hcl := hcls A[i] (List.getElem_mem hia)
      have hnx : allOf (A.take (i + 1)) = fun b => allOf (A.take i) b || A[i] b := by rw [List.take_succ_eq_append_getElem hia, allOf_snoc]
      have hdj : ∀ b, b < 256 → allOf (A.take i) b = true → A[i] b = true → False := fun b hb h1 h2 => by
        simp only [allOf, List.any_eq_true] at h1
        obtain ⟨p, hp, hpb⟩ := h1
        obtain ⟨j, hj, rfl⟩ := List.getElem_of_mem hp
        rw [List.length_take] at hj
        rw [List.getElem_take] at hpb
        exact (List.pairwise_iff_getElem.1 hdis) j i (by omega) hia (by omega) b hb hpb h2
      generalize A[i] = p at *
      have hcp : cnt (fun b => al b || p b) 256 = cnt al 256 + cnt p 256 := cnt_or 256 fun b hb => by rw [hal]; exact hdj b hb
      have hle := cnt_le (fun b => al b || p b) 256
      have hwn : IntKind.wrap .i64 ((n : Int) + (cnt p 256 : Int)) = ((n + cnt p 256 : Nat) : Int) := by
        rw [← Int.natCast_add]
        exact wrap_small (by omega) (by omega)
      have hpos : 0 < cnt p 256 := by
        obtain ⟨⟨a, ha, hpa⟩, _⟩ := hcl
        exact cnt_pos 256 a ha hpa
      have hz : ((cnt p 256 : Int) = 0) = False := by simp; omega
      have h21 := ok21 p
      generalize hcnt : cnt p 256 = c at *
      simp -implicitDefEqProofs only [hci, hgA, sc_len, sc_take, sc_zl, stB_boxA, sc_ok, splice_all, srow_map, srow_len, bsE_sc,
    evx, true_and, Option.map_none, ofValue, ofCell, Option.map_some, List.range, List.range.loop, Array.size, List.length_cons, List.length_nil, List.size_toArray, Nat.reduceAdd, Nat.reduceSub, Nat.reduceEqDiff, List.getElem?_toArray, List.getElem?_cons_zero, List.getElem?_cons_succ, List.replicate, List.cons_append, List.nil_append, List.append_nil, List.set_cons_zero, List.set_cons_succ, List.getD_cons_zero, List.getD_cons_succ, decide_not, ne_eq, if_true, if_false, eq_self, ↓reduceIte, reduceCtorEq, splice_one, map_ite, elB, bind_ite, ite_ite, evParts, Option.bind_some, Option.some.injEq, Int.reduceToNat, Int.reduceLE, Int.reduceLT, Int.reduceEq, Nat.reduceMul, Nat.reduceLeDiff, Nat.reduceLT, List.drop_zero, List.take_succ_cons, List.take_zero, List.drop_succ_cons, List.take_nil, List.map_cons, List.map_nil, List.length_append, ty3, ty4, ty5, ty23, ty24, ty25, ty33, ty39, ty40, ty45, ty51, ty74]
      refine callK_ret _ _ _ _ (call_pure (h21) (fun _ => rfl) (fun _ => rfl)) (ok_nil _ _) ?_
      simp -implicitDefEqProofs only [hwn, sc_len, sc_take, sc_zl, stB_boxA, sc_ok, splice_all, srow_map, srow_len, bsE_sc,
    evx, true_and, Option.map_none, ofValue, ofCell, Option.map_some, List.range, List.range.loop, Array.size, List.length_cons, List.length_nil, List.size_toArray, Nat.reduceAdd, Nat.reduceSub, Nat.reduceEqDiff, List.getElem?_toArray, List.getElem?_cons_zero, List.getElem?_cons_succ, List.replicate, List.cons_append, List.nil_append, List.append_nil, List.set_cons_zero, List.set_cons_succ, List.getD_cons_zero, List.getD_cons_succ, decide_not, ne_eq, if_true, if_false, eq_self, ↓reduceIte, reduceCtorEq, splice_one, map_ite, elB, bind_ite, ite_ite, evParts, Option.bind_some, Option.some.injEq, Int.reduceToNat, Int.reduceLE, Int.reduceLT, Int.reduceEq, Nat.reduceMul, Nat.reduceLeDiff, Nat.reduceLT, List.drop_zero, List.take_succ_cons, List.take_zero, List.drop_succ_cons, List.take_nil, List.map_cons, List.map_nil, List.length_append, ty3, ty4, ty5, ty23, ty24, ty25, ty33, ty39, ty40, ty45, ty51, ty74]
      refine callK_ret _ _ _ _ (call_pure (ok13 al p) (fun _ => rfl) (fun _ => rfl)) (ok_nil _ _) ?_
      simp -implicitDefEqProofs only [sc_len, sc_take, sc_zl, stB_boxA, sc_ok, splice_all, srow_map, srow_len, bsE_sc,
    evx, true_and, Option.map_none, ofValue, ofCell, Option.map_some, List.range, List.range.loop, Array.size, List.length_cons, List.length_nil, List.size_toArray, Nat.reduceAdd, Nat.reduceSub, Nat.reduceEqDiff, List.getElem?_toArray, List.getElem?_cons_zero, List.getElem?_cons_succ, List.replicate, List.cons_append, List.nil_append, List.append_nil, List.set_cons_zero, List.set_cons_succ, List.getD_cons_zero, List.getD_cons_succ, decide_not, ne_eq, if_true, if_false, eq_self, ↓reduceIte, reduceCtorEq, splice_one, map_ite, elB, bind_ite, ite_ite, evParts, Option.bind_some, Option.some.injEq, Int.reduceToNat, Int.reduceLE, Int.reduceLT, Int.reduceEq, Nat.reduceMul, Nat.reduceLeDiff, Nat.reduceLT, List.drop_zero, List.take_succ_cons, List.take_zero, List.drop_succ_cons, List.take_nil, List.map_cons, List.map_nil, List.length_append, ty3, ty4, ty5, ty23, ty24, ty25, ty33, ty39, ty40, ty45, ty51, ty74]
      refine loop_rule (fun j : Nat => ⟨[.fv (.lst 4 (srows l)), .any, .any, .ptr 0 0 0 0, .fv (.int .i64 (n + c : Nat)), .any, .ptr 1 0 0 0, .any, .any, .any, .any, .any, .any, .any, .any, .any, .fv (.lst 4 (srows A)), .fv (.int .i64 (srows A).length), .fv (.int .i64 i), .any, .any, .any, .any, .any, .any, .any, .any, .any, .any, .fv (.lst 4 (srows l)), .fv (.int .i64 (srows l).length), .fv (.int .i64 j), .any, .any, .any, .any, .any, .any, .any, .any, .any, .any, .any, .any, .any, .any, .any, .any, .any, .any, .any, .any, .any, .any, .any, .any, .any, .any], [.box (sc (fun b => al b || p b)), .box (sc p)], []⟩)
        (fun j => j ≤ l.length) (fun j => l.length - j) 0 (le_wk (by simp [wk])) (by simp) (fun j hj s1 hs1 => ?_)
      by_cases hjl : j < l.length
      · have hcj : ((j : Int) < ((srows l).length : Int)) = True := by simp; omega
        have hgj := srows_get l j hjl
        have hwj : IntKind.wrap .i64 ((j : Int) + 1) = ((j + 1 : Nat) : Int) := wrap_small (by omega) (by omega)
        have hcut := class_cut hcl (List.getElem_mem hjl)
        generalize l[j] = s at *
        simp -implicitDefEqProofs only [hcj, hgj, sc_len, sc_take, sc_zl, stB_boxA, sc_ok, splice_all, srow_map, srow_len, bsE_sc,
    evx, true_and, Option.map_none, ofValue, ofCell, Option.map_some, List.range, List.range.loop, Array.size, List.length_cons, List.length_nil, List.size_toArray, Nat.reduceAdd, Nat.reduceSub, Nat.reduceEqDiff, List.getElem?_toArray, List.getElem?_cons_zero, List.getElem?_cons_succ, List.replicate, List.cons_append, List.nil_append, List.append_nil, List.set_cons_zero, List.set_cons_succ, List.getD_cons_zero, List.getD_cons_succ, decide_not, ne_eq, if_true, if_false, eq_self, ↓reduceIte, reduceCtorEq, splice_one, map_ite, elB, bind_ite, ite_ite, evParts, Option.bind_some, Option.some.injEq, Int.reduceToNat, Int.reduceLE, Int.reduceLT, Int.reduceEq, Nat.reduceMul, Nat.reduceLeDiff, Nat.reduceLT, List.drop_zero, List.take_succ_cons, List.take_zero, List.drop_succ_cons, List.take_nil, List.map_cons, List.map_nil, List.length_append, ty3, ty4, ty5, ty23, ty24, ty25, ty33, ty39, ty40, ty45, ty51, ty74]
        refine callK_ret _ _ _ _ (call_pure (ok15 p s) (fun _ => rfl) (fun _ => rfl)) (ok_nil _ _) ?_
        cases h1 : same (fun b => p b && s b) p with
        | true =>
          simp -implicitDefEqProofs only [neq_sc, h1, Bool.not_true, hwj, sc_len, sc_take, sc_zl, stB_boxA, sc_ok, splice_all, srow_map, srow_len, bsE_sc,
    evx, true_and, Option.map_none, ofValue, ofCell, Option.map_some, List.range, List.range.loop, Array.size, List.length_cons, List.length_nil, List.size_toArray, Nat.reduceAdd, Nat.reduceSub, Nat.reduceEqDiff, List.getElem?_toArray, List.getElem?_cons_zero, List.getElem?_cons_succ, List.replicate, List.cons_append, List.nil_append, List.append_nil, List.set_cons_zero, List.set_cons_succ, List.getD_cons_zero, List.getD_cons_succ, decide_not, ne_eq, if_true, if_false, eq_self, ↓reduceIte, reduceCtorEq, splice_one, map_ite, elB, bind_ite, ite_ite, evParts, Option.bind_some, Option.some.injEq, Int.reduceToNat, Int.reduceLE, Int.reduceLT, Int.reduceEq, Nat.reduceMul, Nat.reduceLeDiff, Nat.reduceLT, List.drop_zero, List.take_succ_cons, List.take_zero, List.drop_succ_cons, List.take_nil, List.map_cons, List.map_nil, List.length_append, ty3, ty4, ty5, ty23, ty24, ty25, ty33, ty39, ty40, ty45, ty51, ty74]
          refine back_intro hs1 (j + 1) ?_ (by omega) (by omega)
          refine le_sub_wk [0, 1] [] rfl (by simp) ?_ (by simp) (by simp) ?_ ?_ rfl
          · simp
          · simp [subSt, subAny, subA, mkSub, idx, wk]
          · simp [subSt, mkSub, subBlk, sub_scs]
        | false =>
          have h2 := hcut h1
          simp -implicitDefEqProofs only [neq_sc, h1, h2, Bool.not_true, Bool.not_false, hwj, sc_len, sc_take, sc_zl, stB_boxA, sc_ok, splice_all, srow_map, srow_len, bsE_sc,
    evx, true_and, Option.map_none, ofValue, ofCell, Option.map_some, List.range, List.range.loop, Array.size, List.length_cons, List.length_nil, List.size_toArray, Nat.reduceAdd, Nat.reduceSub, Nat.reduceEqDiff, List.getElem?_toArray, List.getElem?_cons_zero, List.getElem?_cons_succ, List.replicate, List.cons_append, List.nil_append, List.append_nil, List.set_cons_zero, List.set_cons_succ, List.getD_cons_zero, List.getD_cons_succ, decide_not, ne_eq, if_true, if_false, eq_self, ↓reduceIte, reduceCtorEq, splice_one, map_ite, elB, bind_ite, ite_ite, evParts, Option.bind_some, Option.some.injEq, Int.reduceToNat, Int.reduceLE, Int.reduceLT, Int.reduceEq, Nat.reduceMul, Nat.reduceLeDiff, Nat.reduceLT, List.drop_zero, List.take_succ_cons, List.take_zero, List.drop_succ_cons, List.take_nil, List.map_cons, List.map_nil, List.length_append, ty3, ty4, ty5, ty23, ty24, ty25, ty33, ty39, ty40, ty45, ty51, ty74]
          refine back_intro hs1 (j + 1) ?_ (by omega) (by omega)
          refine le_sub_wk [0, 1] [] rfl (by simp) ?_ (by simp) (by simp) ?_ ?_ rfl
          · simp
          · simp [subSt, subAny, subA, mkSub, idx, wk]
          · simp [subSt, mkSub, subBlk, sub_scs]
      · have hcj : ((j : Int) < ((srows l).length : Int)) = False := by simp; omega
        simp -implicitDefEqProofs only [hcj, sc_len, sc_take, sc_zl, stB_boxA, sc_ok, splice_all, srow_map, srow_len, bsE_sc,
    evx, true_and, Option.map_none, ofValue, ofCell, Option.map_some, List.range, List.range.loop, Array.size, List.length_cons, List.length_nil, List.size_toArray, Nat.reduceAdd, Nat.reduceSub, Nat.reduceEqDiff, List.getElem?_toArray, List.getElem?_cons_zero, List.getElem?_cons_succ, List.replicate, List.cons_append, List.nil_append, List.append_nil, List.set_cons_zero, List.set_cons_succ, List.getD_cons_zero, List.getD_cons_succ, decide_not, ne_eq, if_true, if_false, eq_self, ↓reduceIte, reduceCtorEq, splice_one, map_ite, elB, bind_ite, ite_ite, evParts, Option.bind_some, Option.some.injEq, Int.reduceToNat, Int.reduceLE, Int.reduceLT, Int.reduceEq, Nat.reduceMul, Nat.reduceLeDiff, Nat.reduceLT, List.drop_zero, List.take_succ_cons, List.take_zero, List.drop_succ_cons, List.take_nil, List.map_cons, List.map_nil, List.length_append, ty3, ty4, ty5, ty23, ty24, ty25, ty33, ty39, ty40, ty45, ty51, ty74]
        refine callK_ret _ _ _ _ (call_pure (h21) (fun _ => rfl) (fun _ => rfl)) (ok_nil _ _) ?_
        simp -implicitDefEqProofs only [hz, hwi,
    evx, true_and, Option.map_none, ofValue, ofCell, Option.map_some, List.range, List.range.loop, Array.size, List.length_cons, List.length_nil, List.size_toArray, Nat.reduceAdd, Nat.reduceSub, Nat.reduceEqDiff, List.getElem?_toArray, List.getElem?_cons_zero, List.getElem?_cons_succ, List.replicate, List.cons_append, List.nil_append, List.append_nil, List.set_cons_zero, List.set_cons_succ, List.getD_cons_zero, List.getD_cons_succ, decide_not, ne_eq, if_true, if_false, eq_self, ↓reduceIte, reduceCtorEq, splice_one, map_ite, elB, bind_ite, ite_ite, evParts, Option.bind_some, Option.some.injEq, Int.reduceToNat, Int.reduceLE, Int.reduceLT, Int.reduceEq, Nat.reduceMul, Nat.reduceLeDiff, Nat.reduceLT, List.drop_zero, List.take_succ_cons, List.take_zero, List.drop_succ_cons, List.take_nil, List.map_cons, List.map_nil, List.length_append, ty3, ty4, ty5, ty23, ty24, ty25, ty33, ty39, ty40, ty45, ty51, ty74]
        refine back_intro hs0 (i + 1, n + c, fun b => al b || p b) (le_sub_wk [0] [] rfl (by simp) (by simp) (by simp) (by simp) ?_ ?_ rfl) ⟨by simp only; omega, by simp only [hnx, hal], by simp only [hcp]; omega⟩ (by simp only; omega)
        · simp [subSt, subAny, subA, mkSub, idx, wk]
        · simp [subSt, mkSub, subBlk, sub_scs]
    · have hci : ((i : Int) < ((srows A).length : Int)) = False := by simp; omega
      have hie : i = A.length := by omega
      subst hie
      rw [List.take_length] at hal
      have hc256 : cnt al 256 = 256 := by rw [hal]; exact cnt_full 256 hall
      have hn256 : ((n : Int) = 256) = True := by simp; omega
      have h21 := ok21 al
      rw [hc256] at h21
      have hz : (((256 : Nat) : Int) = 256) = True := by simp
      simp -implicitDefEqProofs only [hci, hn256, sc_len, sc_take, sc_zl, stB_boxA, sc_ok, splice_all, srow_map, srow_len, bsE_sc,
    evx, true_and, Option.map_none, ofValue, ofCell, Option.map_some, List.range, List.range.loop, Array.size, List.length_cons, List.length_nil, List.size_toArray, Nat.reduceAdd, Nat.reduceSub, Nat.reduceEqDiff, List.getElem?_toArray, List.getElem?_cons_zero, List.getElem?_cons_succ, List.replicate, List.cons_append, List.nil_append, List.append_nil, List.set_cons_zero, List.set_cons_succ, List.getD_cons_zero, List.getD_cons_succ, decide_not, ne_eq, if_true, if_false, eq_self, ↓reduceIte, reduceCtorEq, splice_one, map_ite, elB, bind_ite, ite_ite, evParts, Option.bind_some, Option.some.injEq, Int.reduceToNat, Int.reduceLE, Int.reduceLT, Int.reduceEq, Nat.reduceMul, Nat.reduceLeDiff, Nat.reduceLT, List.drop_zero, List.take_succ_cons, List.take_zero, List.drop_succ_cons, List.take_nil, List.map_cons, List.map_nil, List.length_append, ty3, ty4, ty5, ty23, ty24, ty25, ty33, ty39, ty40, ty45, ty51, ty74]
      refine callK_ret _ _ _ _ (call_pure (h21) (fun _ => rfl) (fun _ => rfl)) (ok_nil _ _) ?_
      simp -implicitDefEqProofs only [hz,
    evx, true_and, Option.map_none, ofValue, ofCell, Option.map_some, List.range, List.range.loop, Array.size, List.length_cons, List.length_nil, List.size_toArray, Nat.reduceAdd, Nat.reduceSub, Nat.reduceEqDiff, List.getElem?_toArray, List.getElem?_cons_zero, List.getElem?_cons_succ, List.replicate, List.cons_append, List.nil_append, List.append_nil, List.set_cons_zero, List.set_cons_succ, List.getD_cons_zero, List.getD_cons_succ, decide_not, ne_eq, if_true, if_false, eq_self, ↓reduceIte, reduceCtorEq, splice_one, map_ite, elB, bind_ite, ite_ite, evParts, Option.bind_some, Option.some.injEq, Int.reduceToNat, Int.reduceLE, Int.reduceLT, Int.reduceEq, Nat.reduceMul, Nat.reduceLeDiff, Nat.reduceLT, List.drop_zero, List.take_succ_cons, List.take_zero, List.drop_succ_cons, List.take_nil, List.map_cons, List.map_nil, List.length_append, ty3, ty4, ty5, ty23, ty24, ty25, ty33, ty39, ty40, ty45, ty51, ty74]
      exact le_flat rfl
end Go.Abs
