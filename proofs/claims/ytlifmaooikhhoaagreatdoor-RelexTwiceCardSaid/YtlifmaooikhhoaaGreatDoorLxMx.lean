/- All tokens: the program's, the document's. -/
import Derived.Test.YtlifmaooikhhoaaGreatDoorTyTryzx
import Derived.Test.YtlifmaooikhhoaaGreatDoorDrTryzx
import Derived.Test.YtlifmaooikhhoaaGreatDoorLxIx
import Derived.Test.YtlifmaooikhhoaaGreatDoorLxA
import Derived.Test.YtlifmaooikhhoaaGreatDoorAbsW
namespace Go.Abs
open Go.Proofs
set_option linter.unusedVariables false
set_option linter.unusedSimpArgs false
set_option maxRecDepth 100000
set_option maxHeartbeats 4000000
def Tok.tk (t : Tok) : Tk := ⟨t.rule, t.at_, t.len⟩
def tokRow (t : Tok) : List FV := [.int .i64 t.rule, .int .i64 t.at_, .int .i64 t.len]
def seenRow (t : Tok) : List FV := [.int .i64 t.seen]
theorem tokRow_map (l : List Tok) : l.map tokRow = (l.map Tok.tk).map Tk.row := by rw [List.map_map]; rfl
theorem seenRow_map (l : List Tok) : l.map seenRow = (l.map fun t => (t.seen : Int)).map iRow := by rw [List.map_map]; rfl
theorem tok_snoc (l : List Tok) (t : Tok) : l.map tokRow ++ [[.int .i64 t.rule, .int .i64 t.at_, .int .i64 t.len]] = (l ++ [t]).map tokRow := by simp [tokRow]
theorem seen_snoc (l : List Tok) (t : Tok) : l.map seenRow ++ [[.int .i64 t.seen]] = (l ++ [t]).map seenRow := by simp [seenRow]
theorem le_nil2 {n0 : Nat} (k j : Nat) (x : AV) (h : List Blk) : Le n0 ⟨[.tuple [.fv .nils, .fv .nils, x]], h, []⟩ ⟨[.tuple [.fv (.lst k []), .fv (.lst j []), x]], h, []⟩ := by
  intro w0 S0 m0 w S m a hn hr
  refine ⟨S, m, ⟨hr.heap, ⟨hr.tmps.1, fun i v y hv hy => ?_⟩, hr.defs, hr.fr⟩⟩
  cases i with
  | zero =>
    have h0 := hr.tmps.2 0 v _ hv rfl
    simp only [List.getElem?_cons_zero, Option.some.injEq] at hy
    subst hy
    cases h0 with
    | tuple vs cs hs hc =>
      refine .tuple vs _ hs (fun i u z hu hz => ?_)
      match i with
      | 0 =>
        simp at hz
        subst hz
        exact nils_lst k (hc 0 u _ hu rfl)
      | 1 =>
        simp at hz
        subst hz
        exact nils_lst j (hc 1 u _ hu rfl)
      | 2 =>
        exact hc 2 u z hu (by simpa using hz)
      | i + 3 => simp at hz
  | succ i => simp at hy
theorem le_nil2a {n0 : Nat} (k j : Nat) (x : AV) (h : List Blk) : Le n0 ⟨[.agg [.fv .nils, .fv .nils, x]], h, []⟩ ⟨[.agg [.fv (.lst k []), .fv (.lst j []), x]], h, []⟩ := by
  intro w0 S0 m0 w S m a hn hr
  refine ⟨S, m, ⟨hr.heap, ⟨hr.tmps.1, fun i v y hv hy => ?_⟩, hr.defs, hr.fr⟩⟩
  cases i with
  | zero =>
    have h0 := hr.tmps.2 0 v _ hv rfl
    simp only [List.getElem?_cons_zero, Option.some.injEq] at hy
    subst hy
    cases h0 with
    | agg vs cs hs hc =>
      refine .agg vs _ hs (fun i u z hu hz => ?_)
      match i with
      | 0 =>
        simp at hz
        subst hz
        exact nils_lst k (hc 0 u _ hu rfl)
      | 1 =>
        simp at hz
        subst hz
        exact nils_lst j (hc 1 u _ hu rfl)
      | 2 =>
        exact hc 2 u z hu (by simpa using hz)
      | i + 3 => simp at hz
  | succ i => simp at hy
theorem le_two {i j e f n m : Nat} {h : List Blk} {r q : List (List FV)} {x : FV} (hi : h[i]? = some (.plain e r)) (hj : h[j]? = some (.plain f q)) (hn : n = r.length) (hm : m = q.length) :
    Le 0 ⟨[.tuple [.ref i e 0 n, .ref j f 0 m, .fv x]], h, []⟩ ⟨[.tuple [.fv (.lst e r), .fv (.lst f q), .fv x]], [], []⟩ := by
  subst hn; subst hm
  refine le_to [] [i, j] rfl List.nodup_nil (fun i hi => by simp at hi) (fun i _ hi => by simp at hi) (fun k hk => by
    simp at hk
    rcases hk with rfl | rfl
    · exact ⟨e, r, hi⟩
    · exact ⟨f, q, hj⟩) ?_
  simp [subSt, subAny, subA, subL, mkSub, idx, hi, hj]
theorem le_twoa {i j e f n m : Nat} {h : List Blk} {r q : List (List FV)} {x : FV} (hi : h[i]? = some (.plain e r)) (hj : h[j]? = some (.plain f q)) (hn : n = r.length) (hm : m = q.length) :
    Le 0 ⟨[.agg [.ref i e 0 n, .ref j f 0 m, .fv x]], h, []⟩ ⟨[.agg [.fv (.lst e r), .fv (.lst f q), .fv x]], [], []⟩ := by
  subst hn; subst hm
  refine le_to [] [i, j] rfl List.nodup_nil (fun i hi => by simp at hi) (fun i _ hi => by simp at hi) (fun k hk => by
    simp at hk
    rcases hk with rfl | rfl
    · exact ⟨e, r, hi⟩
    · exact ⟨f, q, hj⟩) ?_
  simp [subSt, subAny, subA, subL, mkSub, idx, hi, hj]
def lexedT (x : List Tok × Int) : AV := .tuple [.fv (.lst 3 (x.1.map tokRow)), .fv (.lst 1 (x.1.map seenRow)), .fv (.int .i64 x.2)]
def lexedA (x : List Tok × Int) : AV := .agg [.fv (.lst 3 (x.1.map tokRow)), .fv (.lst 1 (x.1.map seenRow)), .fv (.int .i64 x.2)]
theorem bsE_tok (b : Nat) (dd : TypeDesc) (z1 z2 z3 : FV) (x y z : FV) (h : List Blk) : bsE (some ⟨dd, 3, b, some [z1, z2, z3]⟩) 1 h (some [(0, .agg [.fv x, .fv y, .fv z])]) = some (.ref h.length 3 0 1, h ++ [.plain 3 [[x, y, z]]], []) :=
  bsE_r1 b dd 3 [z1, z2, z3] [x, y, z] h rfl (by omega) (by omega) rfl
theorem le_true {a b : Nat} (h : a ≤ b) : (a ≤ b) = True := by simpa using h
theorem wsum (a n : Nat) (h : a + n < 4611686018427387904) : IntKind.wrap .i64 ((a : Int) + (n : Int)) = ((a + n : Nat) : Int) := wrap_small (by omega) (by omega)
theorem ok40 (d : Aut) (hn : d.next.length ≤ 100000) (s : Bs) (hs : s.length ≤ 1000000) : Ok Tryz.prog 40 [d.av, .fv (.str s)] [] (.ret (lexedT (d.all s))) [] := by
  have hri := ok15 d hn
  unfold lexedT Aut.all
  refine ok_start (k := 44) (n0 := 0) (rs := [.tmp 4, .tmp 5, .tmp 6]) mix Tryz.func40 rfl rfl rfl rfl rfl rfl rfl ?_
  simp -implicitDefEqProofs only [Aut.av,
    evx, evy, ofValue, ofCell, List.range, List.range.loop, Array.size, Nat.reduceAdd, Nat.reduceSub, Nat.reduceEqDiff, List.replicate, if_true, if_false, ↓reduceIte, reduceCtorEq, elB, evParts, Int.reduceToNat, Int.reduceLE, Int.reduceLT, Int.reduceEq, Nat.reduceMul, Nat.reduceLeDiff, Nat.reduceLT, ty3, ty4, ty9, ty23, ty22, ty25, ty5, ty35, ty31, ty47, ty38, ty43]
  cases hb : d.rightB with
  | false =>
    rw [hb] at hri
    refine callK_ret _ _ _ _ (call_pure (hri) (fun _ => rfl) (fun _ => rfl)) (ok_nil _ _) ?_
    simp -implicitDefEqProofs only [evx, evy, ofValue, ofCell, List.range, List.range.loop, Array.size, Nat.reduceAdd, Nat.reduceSub, Nat.reduceEqDiff, List.replicate, if_true, if_false, ↓reduceIte, reduceCtorEq, elB, evParts, Int.reduceToNat, Int.reduceLE, Int.reduceLT, Int.reduceEq, Nat.reduceMul, Nat.reduceLeDiff, Nat.reduceLT, ty3, ty4, ty9, ty23, ty22, ty25, ty5, ty35, ty31, ty47, ty38, ty43]
    exact Le.trans (le_nil2 3 1 _ _) (le_to [] [] rfl (by simp) (by simp) (by simp) (by simp) rfl)
  | true =>
    have hR := Aut.right_iff.1 hb
    rw [hb] at hri
    rw [if_pos rfl]
    refine callK_ret _ _ _ _ (call_pure (hri) (fun _ => rfl) (fun _ => rfl)) (ok_nil _ _) ?_
    simp -implicitDefEqProofs only [evx, evy, ofValue, ofCell, List.range, List.range.loop, Array.size, Nat.reduceAdd, Nat.reduceSub, Nat.reduceEqDiff, List.replicate, if_true, if_false, ↓reduceIte, reduceCtorEq, elB, evParts, Int.reduceToNat, Int.reduceLE, Int.reduceLT, Int.reduceEq, Nat.reduceMul, Nat.reduceLeDiff, Nat.reduceLT, ty3, ty4, ty9, ty23, ty22, ty25, ty5, ty35, ty31, ty47, ty38, ty43]
    refine loop_rule (fun x : List Tok × Nat => ⟨[.any, .fv (.str s), .ptr 0 0 0 0, .any, .any, .any, .any, .ref 1 3 0 x.1.length, .ref 2 1 0 x.1.length, .fv (.int .i64 x.2), .any, .any, .any, .any, .any, .any, .any, .any, .any, .any, .any, .any, .any, .any, .any, .any, .any, .any, .any, .any, .any, .any, .any, .any, .any, .any, .any, .any, .any, .any, .any, .any, .any, .any, .any, .any], [.box d.cells, .plain 3 (x.1.map tokRow), .plain 1 (x.1.map seenRow)], []⟩)
      (fun x => x.2 ≤ s.length ∧ x.1.length ≤ x.2 ∧ d.allF s 0 = (x.1 ++ (d.allF (s.drop x.2) x.2).1, (d.allF (s.drop x.2) x.2).2)) (fun x => s.length - x.2) ([], 0)
      (Le.trans (le_virt 7 3 rfl) (Le.trans (le_virt 8 1 rfl) (le_wk (by simp [wk, Aut.cells])))) ⟨by simp, by simp, by simp⟩ (fun x hx st hst => ?_)
    obtain ⟨l, a⟩ := x
    obtain ⟨h1, h2, h3⟩ := hx
    simp only at h1 h2 h3 hst ⊢
    by_cases hlt : a < s.length
    · have hone := ok42 d hR s hs a h1
      have hle := d.one_le (s.drop a)
      rw [List.length_drop] at hle
      have hne : s.drop a ≠ [] := fun e => by have := congrArg List.length e; rw [List.length_drop] at this; simp at this; omega
      have hnone := @Aut.allF_none d (s.drop a) a hne
      have hsome := @Aut.allF_some d (s.drop a) a
      rw [List.drop_drop] at hsome
      generalize d.one (s.drop a) = o at hone hle hnone hsome
      obtain ⟨⟨r, k⟩, n⟩ := o
      simp only at hone hle hnone hsome
      simp -implicitDefEqProofs only [lt_true hlt, Aut.cells,
    evx, evy, ofValue, ofCell, List.range, List.range.loop, Array.size, Nat.reduceAdd, Nat.reduceSub, Nat.reduceEqDiff, List.replicate, if_true, if_false, ↓reduceIte, reduceCtorEq, elB, evParts, Int.reduceToNat, Int.reduceLE, Int.reduceLT, Int.reduceEq, Nat.reduceMul, Nat.reduceLeDiff, Nat.reduceLT, ty3, ty4, ty9, ty23, ty22, ty25, ty5, ty35, ty31, ty47, ty38, ty43]
      refine callK_ret _ _ _ _ (call_pure (hone) (fun _ => rfl) (fun _ => rfl)) (ok_nil _ _) ?_
      by_cases hk : k = 0
      · subst hk
        have h00 : (((0 : Nat) : Int) = 0) = True := eq_true rfl
        rw [hnone rfl, List.append_nil] at h3
        rw [h3]
        simp -implicitDefEqProofs only [stB_boxA, splice_all, List.all_cons, List.all_nil, Bool.and_self, h00,
    evx, evy, ofValue, ofCell, List.range, List.range.loop, Array.size, Nat.reduceAdd, Nat.reduceSub, Nat.reduceEqDiff, List.replicate, if_true, if_false, ↓reduceIte, reduceCtorEq, elB, evParts, Int.reduceToNat, Int.reduceLE, Int.reduceLT, Int.reduceEq, Nat.reduceMul, Nat.reduceLeDiff, Nat.reduceLT, ty3, ty4, ty9, ty23, ty22, ty25, ty5, ty35, ty31, ty47, ty38, ty43]
        exact le_two rfl rfl (by simp) (by simp)
      · have hkt : ((k : Int) = 0) = False := eq_false (by omega)
        have e1 := tok_snoc l ⟨r, a, k, a + n⟩
        have e2 := seen_snoc l ⟨r, a, k, a + n⟩
        simp only at e1 e2
        rw [hsome hk] at h3
        have tk1 : List.take l.length (l.map tokRow) = l.map tokRow := by rw [← List.length_map tokRow, List.take_length]
        have tk2 : List.take l.length (l.map seenRow) = l.map seenRow := by rw [← List.length_map seenRow, List.take_length]
        simp -implicitDefEqProofs only [stB_boxA, splice_all, List.all_cons, List.all_nil, Bool.and_self, hkt, bsE_tok, List.length_map, le_true (Nat.le_refl l.length), wsum a k (by omega),
    evx, evy, ofValue, ofCell, List.range, List.range.loop, Array.size, Nat.reduceAdd, Nat.reduceSub, Nat.reduceEqDiff, List.replicate, if_true, if_false, ↓reduceIte, reduceCtorEq, elB, evParts, Int.reduceToNat, Int.reduceLE, Int.reduceLT, Int.reduceEq, Nat.reduceMul, Nat.reduceLeDiff, Nat.reduceLT, ty3, ty4, ty9, ty23, ty22, ty25, ty5, ty35, ty31, ty47, ty38, ty43]
        refine ⟨by omega, by omega, ?_⟩
        refine back_intro hst (l ++ [⟨r, a, k, a + n⟩], a + k) (le_pk [0, 5, 7] rfl (by simp) (by simp) ?_ ?_) ⟨by simp only; omega, by simp only [List.length_append, List.length_cons, List.length_nil]; omega, ?_⟩ (by simp only; omega)
        · simp [subBlk, subAny, subA, mkSub, idx, Aut.cells, tk1, tk2, ← e1, ← e2]
        · simp [wk, subAny, subA, mkSub, idx]
        · rw [h3]
          simp
    · obtain rfl : a = s.length := by omega
      rw [List.drop_length, Aut.allF_nil, List.append_nil] at h3
      rw [h3]
      simp -implicitDefEqProofs only [lt_false hlt,
    evx, evy, ofValue, ofCell, List.range, List.range.loop, Array.size, Nat.reduceAdd, Nat.reduceSub, Nat.reduceEqDiff, List.replicate, if_true, if_false, ↓reduceIte, reduceCtorEq, elB, evParts, Int.reduceToNat, Int.reduceLE, Int.reduceLT, Int.reduceEq, Nat.reduceMul, Nat.reduceLeDiff, Nat.reduceLT, ty3, ty4, ty9, ty23, ty22, ty25, ty5, ty35, ty31, ty47, ty38, ty43]
      exact le_two rfl rfl (by simp) (by simp)
end Go.Abs
/- All tokens, as the document says; whether tokens are alike. -/
namespace Go.Abs
open Go.Proofs
set_option linter.unusedVariables false
set_option linter.unusedSimpArgs false
set_option maxRecDepth 100000
set_option maxHeartbeats 4000000
theorem ok20 (d : Aut) (hn : d.next.length ≤ 100000) (s : Bs) (hs : s.length ≤ 1000000) : Ok Tryz.prog 20 [d.av, .fv (.str s)] [] (.ret (.tuple [.fv (.lst 3 ((d.all s).1.map tokRow)), .fv (.int .i64 (d.all s).2)])) [] := by
  have hall := ok40 d hn s hs
  refine ok_start (k := 16) (n0 := 0) (rs := [.tmp 4, .tmp 5]) mix Tryz.func20 rfl rfl rfl rfl rfl rfl rfl ?_
  simp -implicitDefEqProofs only [Aut.av,
    evx, evy, ofValue, ofCell, List.range, List.range.loop, Array.size, Nat.reduceAdd, Nat.reduceSub, Nat.reduceEqDiff, List.replicate, if_true, if_false, ↓reduceIte, reduceCtorEq, elB, evParts, Int.reduceToNat, Int.reduceLE, Int.reduceLT, Int.reduceEq, Nat.reduceMul, Nat.reduceLeDiff, Nat.reduceLT, ty3, ty4, ty9, ty23, ty22, ty25, ty5, ty35, ty31, ty47, ty38, ty43]
  refine callK_ret _ _ _ _ (call_pure (hall) (fun _ => rfl) (fun _ => rfl)) (ok_nil _ _) ?_
  simp -implicitDefEqProofs only [lexedT,
    evx, evy, ofValue, ofCell, List.range, List.range.loop, Array.size, Nat.reduceAdd, Nat.reduceSub, Nat.reduceEqDiff, List.replicate, if_true, if_false, ↓reduceIte, reduceCtorEq, elB, evParts, Int.reduceToNat, Int.reduceLE, Int.reduceLT, Int.reduceEq, Nat.reduceMul, Nat.reduceLeDiff, Nat.reduceLT, ty3, ty4, ty9, ty23, ty22, ty25, ty5, ty35, ty31, ty47, ty38, ty43]
  exact le_sf (by simp [subAny, subA, subL])
theorem ok24 (d : Aut) (hn : d.next.length ≤ 100000) (s : Bs) (hs : s.length ≤ 1000000) : Ok Tryz.prog 24 [d.av, .fv (.str s)] [] (.ret (.fv (.lst 1 ((d.all s).1.map seenRow)))) [] := by
  have hall := ok40 d hn s hs
  refine ok_start (k := 14) (n0 := 0) (rs := [.tmp 4]) mix Tryz.func24 rfl rfl rfl rfl rfl rfl rfl ?_
  simp -implicitDefEqProofs only [Aut.av,
    evx, evy, ofValue, ofCell, List.range, List.range.loop, Array.size, Nat.reduceAdd, Nat.reduceSub, Nat.reduceEqDiff, List.replicate, if_true, if_false, ↓reduceIte, reduceCtorEq, elB, evParts, Int.reduceToNat, Int.reduceLE, Int.reduceLT, Int.reduceEq, Nat.reduceMul, Nat.reduceLeDiff, Nat.reduceLT, ty3, ty4, ty9, ty23, ty22, ty25, ty5, ty35, ty31, ty47, ty38, ty43]
  refine callK_ret _ _ _ _ (call_pure (hall) (fun _ => rfl) (fun _ => rfl)) (ok_nil _ _) ?_
  simp -implicitDefEqProofs only [lexedT,
    evx, evy, ofValue, ofCell, List.range, List.range.loop, Array.size, Nat.reduceAdd, Nat.reduceSub, Nat.reduceEqDiff, List.replicate, if_true, if_false, ↓reduceIte, reduceCtorEq, elB, evParts, Int.reduceToNat, Int.reduceLE, Int.reduceLT, Int.reduceEq, Nat.reduceMul, Nat.reduceLeDiff, Nat.reduceLT, ty3, ty4, ty9, ty23, ty22, ty25, ty5, ty35, ty31, ty47, ty38, ty43]
  exact le_sf (by simp [subAny, subA, subL])
theorem ok21 (d : Aut) (hn : d.next.length ≤ 100000) (s : Bs) (hs : s.length ≤ 1000000) : Ok Tryz.prog 21 [d.av, .fv (.str s)] [] (.ret (lexedA (d.all s))) [] := by
  have hri := ok14 d hn
  unfold lexedA Aut.all
  refine ok_start (k := 49) (n0 := 0) (rs := [.cell 4 38]) mix Tryz.func21 rfl rfl rfl rfl rfl rfl rfl ?_
  simp -implicitDefEqProofs only [Aut.av, stB_boxA, splice_all, List.all_cons, List.all_nil, Bool.and_self,
    evx, evy, ofValue, ofCell, List.range, List.range.loop, Array.size, Nat.reduceAdd, Nat.reduceSub, Nat.reduceEqDiff, List.replicate, if_true, if_false, ↓reduceIte, reduceCtorEq, elB, evParts, Int.reduceToNat, Int.reduceLE, Int.reduceLT, Int.reduceEq, Nat.reduceMul, Nat.reduceLeDiff, Nat.reduceLT, ty3, ty4, ty9, ty23, ty22, ty25, ty5, ty35, ty31, ty47, ty38, ty43]
  cases hb : d.rightB with
  | false =>
    rw [hb] at hri
    refine callK_ret _ _ _ _ (call_pure (hri) (fun _ => rfl) (fun _ => rfl)) (ok_nil _ _) ?_
    simp -implicitDefEqProofs only [stB_boxA, splice_all, List.all_cons, List.all_nil, Bool.and_self,
    evx, evy, ofValue, ofCell, List.range, List.range.loop, Array.size, Nat.reduceAdd, Nat.reduceSub, Nat.reduceEqDiff, List.replicate, if_true, if_false, ↓reduceIte, reduceCtorEq, elB, evParts, Int.reduceToNat, Int.reduceLE, Int.reduceLT, Int.reduceEq, Nat.reduceMul, Nat.reduceLeDiff, Nat.reduceLT, ty3, ty4, ty9, ty23, ty22, ty25, ty5, ty35, ty31, ty47, ty38, ty43]
    exact Le.trans (le_nil2a 3 1 _ _) (le_to [] [] rfl (by simp) (by simp) (by simp) (by simp) rfl)
  | true =>
    have hR := Aut.right_iff.1 hb
    rw [hb] at hri
    rw [if_pos rfl]
    refine callK_ret _ _ _ _ (call_pure (hri) (fun _ => rfl) (fun _ => rfl)) (ok_nil _ _) ?_
    simp -implicitDefEqProofs only [evx, evy, ofValue, ofCell, List.range, List.range.loop, Array.size, Nat.reduceAdd, Nat.reduceSub, Nat.reduceEqDiff, List.replicate, if_true, if_false, ↓reduceIte, reduceCtorEq, elB, evParts, Int.reduceToNat, Int.reduceLE, Int.reduceLT, Int.reduceEq, Nat.reduceMul, Nat.reduceLeDiff, Nat.reduceLT, ty3, ty4, ty9, ty23, ty22, ty25, ty5, ty35, ty31, ty47, ty38, ty43]
    refine loop_rule (fun x : List Tok × Nat => ⟨[.any, .fv (.str s), .ptr 0 0 0 0, .any, .ptr 1 0 0 0, .ptr 2 0 0 0, .fv (.int .i64 x.2), .any, .any, .any, .any, .any, .any, .any, .any, .any, .any, .any, .any, .any, .any, .any, .any, .any, .any, .any, .any, .any, .any, .any, .any, .any, .any, .any, .any, .any, .any, .any, .any, .any, .any, .any, .any, .any, .any, .any, .any, .any, .any, .any, .any], [.box d.cells, .box [.fv .nils, .fv .nils, .fv (.int .i64 0)], .box [.ref 3 3 0 x.1.length, .ref 4 1 0 x.1.length, .fv (.int .i64 (-1))], .plain 3 (x.1.map tokRow), .plain 1 (x.1.map seenRow)], []⟩)
      (fun x => x.2 ≤ s.length ∧ x.1.length ≤ x.2 ∧ d.allF s 0 = (x.1 ++ (d.allF (s.drop x.2) x.2).1, (d.allF (s.drop x.2) x.2).2)) (fun x => s.length - x.2) ([], 0)
      (Le.trans (le_virt_box 2 3 0 [.fv .nils, .fv .nils, .fv (.int .i64 (-1))] rfl rfl) (Le.trans (le_virt_box 2 1 1 [.ref 3 3 0 0, .fv .nils, .fv (.int .i64 (-1))] rfl rfl) (le_wk (by simp [wk, Aut.cells])))) ⟨by simp, by simp, by simp⟩ (fun x hx st hst => ?_)
    obtain ⟨l, a⟩ := x
    obtain ⟨h1, h2, h3⟩ := hx
    simp only at h1 h2 h3 hst ⊢
    by_cases hlt : a < s.length
    · have hone := ok26 d hR s hs a h1
      have hle := d.one_le (s.drop a)
      rw [List.length_drop] at hle
      have hne : s.drop a ≠ [] := fun e => by have := congrArg List.length e; rw [List.length_drop] at this; simp at this; omega
      have hnone := @Aut.allF_none d (s.drop a) a hne
      have hsome := @Aut.allF_some d (s.drop a) a
      rw [List.drop_drop] at hsome
      generalize d.one (s.drop a) = o at hone hle hnone hsome
      obtain ⟨⟨r, k⟩, n⟩ := o
      simp only at hone hle hnone hsome
      simp -implicitDefEqProofs only [lt_true hlt, Aut.cells,
    evx, evy, ofValue, ofCell, List.range, List.range.loop, Array.size, Nat.reduceAdd, Nat.reduceSub, Nat.reduceEqDiff, List.replicate, if_true, if_false, ↓reduceIte, reduceCtorEq, elB, evParts, Int.reduceToNat, Int.reduceLE, Int.reduceLT, Int.reduceEq, Nat.reduceMul, Nat.reduceLeDiff, Nat.reduceLT, ty3, ty4, ty9, ty23, ty22, ty25, ty5, ty35, ty31, ty47, ty38, ty43]
      refine callK_ret _ _ _ _ (call_pure (hone) (fun _ => rfl) (fun _ => rfl)) (ok_nil _ _) ?_
      by_cases hk : k = 0
      · subst hk
        have h00 : (((0 : Nat) : Int) = 0) = True := eq_true rfl
        rw [hnone rfl, List.append_nil] at h3
        rw [h3]
        simp -implicitDefEqProofs only [stB_boxA, splice_all, List.all_cons, List.all_nil, Bool.and_self, h00,
    evx, evy, ofValue, ofCell, List.range, List.range.loop, Array.size, Nat.reduceAdd, Nat.reduceSub, Nat.reduceEqDiff, List.replicate, if_true, if_false, ↓reduceIte, reduceCtorEq, elB, evParts, Int.reduceToNat, Int.reduceLE, Int.reduceLT, Int.reduceEq, Nat.reduceMul, Nat.reduceLeDiff, Nat.reduceLT, ty3, ty4, ty9, ty23, ty22, ty25, ty5, ty35, ty31, ty47, ty38, ty43]
        exact le_twoa rfl rfl (by simp) (by simp)
      · have hkt : ((k : Int) = 0) = False := eq_false (by omega)
        have e1 := tok_snoc l ⟨r, a, k, a + n⟩
        have e2 := seen_snoc l ⟨r, a, k, a + n⟩
        simp only at e1 e2
        rw [hsome hk] at h3
        have tk1 : List.take l.length (l.map tokRow) = l.map tokRow := by rw [← List.length_map tokRow, List.take_length]
        have tk2 : List.take l.length (l.map seenRow) = l.map seenRow := by rw [← List.length_map seenRow, List.take_length]
        simp -implicitDefEqProofs only [stB_boxA, splice_all, List.all_cons, List.all_nil, Bool.and_self, hkt, bsE_tok, List.length_map, le_true (Nat.le_refl l.length), wsum a k (by omega),
    evx, evy, ofValue, ofCell, List.range, List.range.loop, Array.size, Nat.reduceAdd, Nat.reduceSub, Nat.reduceEqDiff, List.replicate, if_true, if_false, ↓reduceIte, reduceCtorEq, elB, evParts, Int.reduceToNat, Int.reduceLE, Int.reduceLT, Int.reduceEq, Nat.reduceMul, Nat.reduceLeDiff, Nat.reduceLT, ty3, ty4, ty9, ty23, ty22, ty25, ty5, ty35, ty31, ty47, ty38, ty43]
        refine ⟨by omega, by omega, ?_⟩
        refine back_intro hst (l ++ [⟨r, a, k, a + n⟩], a + k) (le_pk [0, 1, 2, 7, 9] rfl (by simp) (by simp) ?_ ?_) ⟨by simp only; omega, by simp only [List.length_append, List.length_cons, List.length_nil]; omega, ?_⟩ (by simp only; omega)
        · simp [subBlk, subAny, subA, mkSub, idx, Aut.cells, tk1, tk2, ← e1, ← e2]
        · simp [wk, subAny, subA, mkSub, idx]
        · rw [h3]
          simp
    · obtain rfl : a = s.length := by omega
      rw [List.drop_length, Aut.allF_nil, List.append_nil] at h3
      rw [h3]
      simp -implicitDefEqProofs only [lt_false hlt, stB_boxA, splice_all, List.all_cons, List.all_nil, Bool.and_self,
    evx, evy, ofValue, ofCell, List.range, List.range.loop, Array.size, Nat.reduceAdd, Nat.reduceSub, Nat.reduceEqDiff, List.replicate, if_true, if_false, ↓reduceIte, reduceCtorEq, elB, evParts, Int.reduceToNat, Int.reduceLE, Int.reduceLT, Int.reduceEq, Nat.reduceMul, Nat.reduceLeDiff, Nat.reduceLT, ty3, ty4, ty9, ty23, ty22, ty25, ty5, ty35, ty31, ty47, ty38, ty43]
      exact le_twoa rfl rfl (by simp) (by simp)
instance : DecidableEq Tk := fun x y => decidable_of_iff (x.rule = y.rule ∧ x.at_ = y.at_ ∧ x.len = y.len) (by cases x; cases y; simp)
theorem aggTok : aggTy Tryz.prog 35 = some [.int .i64, .int .i64, .int .i64] := by kernel_rfl
theorem eqA_tok (a b c x y z : Int) (one : Bool) : eqA Tryz.prog 35 one (.agg [.fv (.int .i64 a), .fv (.int .i64 b), .fv (.int .i64 c)]) (.agg [.fv (.int .i64 x), .fv (.int .i64 y), .fv (.int .i64 z)]) = some (decide ((⟨a, b, c⟩ : Tk) = ⟨x, y, z⟩)) := by
  have h1 : conf [.int .i64, .int .i64, .int .i64] [.int .i64 a, .int .i64 b, .int .i64 c] = true := rfl
  have h2 : conf [.int .i64, .int .i64, .int .i64] [.int .i64 x, .int .i64 y, .int .i64 z] = true := rfl
  simp only [eqA, ty35, aggTok, toFs, Option.map_some, isAgg_struct, h1, h2, Bool.and_self, if_true, eqR, eqC, Bool.and_true, Tk.mk.injEq, Bool.decide_and]
  rfl
theorem neq_tok (a b c x y z : Int) (one : Bool) : binA Tryz.prog .neq 35 one (.agg [.fv (.int .i64 a), .fv (.int .i64 b), .fv (.int .i64 c)]) (.agg [.fv (.int .i64 x), .fv (.int .i64 y), .fv (.int .i64 z)]) = some (.fv (.bool (!decide ((⟨a, b, c⟩ : Tk) = ⟨x, y, z⟩)))) := by
  simp only [binA, eqA_tok, negB]
theorem eql_tok (a b c x y z : Int) (one : Bool) : binA Tryz.prog .eql 35 one (.agg [.fv (.int .i64 a), .fv (.int .i64 b), .fv (.int .i64 c)]) (.agg [.fv (.int .i64 x), .fv (.int .i64 y), .fv (.int .i64 z)]) = some (.fv (.bool (decide ((⟨a, b, c⟩ : Tk) = ⟨x, y, z⟩)))) := by
  simp only [binA, eqA_tok, negB]
theorem ok22 (a b : List Tk) (ha : a.length ≤ 4000000) (hb : b.length ≤ 4000000) : Ok Tryz.prog 22 [.fv (.lst 3 (a.map Tk.row)), .fv (.lst 3 (b.map Tk.row))] [] (.ret (.fv (.bool (decide (a = b))))) [] := by
  refine ok_start (k := 24) (n0 := 0) (rs := [.tmp 4]) mix Tryz.func22 rfl rfl rfl rfl rfl rfl rfl ?_
  by_cases hl : a.length = b.length
  · have hlt : ((a.length : Int) = (b.length : Int)) = True := eq_true (by omega)
    simp -implicitDefEqProofs only [awp_draw _ _ Tryzdr22_6, List.length_map, hlt,
    evx, evy, ofValue, ofCell, List.range, List.range.loop, Array.size, Nat.reduceAdd, Nat.reduceSub, Nat.reduceEqDiff, List.replicate, if_true, if_false, ↓reduceIte, reduceCtorEq, elB, evParts, Int.reduceToNat, Int.reduceLE, Int.reduceLT, Int.reduceEq, Nat.reduceMul, Nat.reduceLeDiff, Nat.reduceLT, ty3, ty4, ty9, ty23, ty22, ty25, ty5, ty35, ty31, ty47, ty38, ty43]
    refine loop_rule (fun i : Nat => ⟨[.fv (.lst 3 (a.map Tk.row)), .fv (.lst 3 (b.map Tk.row)), .any, .any, .any, .fv (.int .i64 i), .any, .any, .any, .any, .any, .any, .any, .any, .any, .any, .any, .any, .any, .any, .any, .any, .any, .any, .any, .any], [], []⟩)
      (fun i => i ≤ a.length ∧ a.take i = b.take i) (fun i => a.length - i) 0 (le_wk (by simp [wk])) (by simp) (fun i hi s hs => ?_)
    obtain ⟨hi, he⟩ := hi
    by_cases hlti : i < a.length
    · have hra := rows_at Tk.row a i hlti
      have hib : i < b.length := by omega
      have hrb := rows_at Tk.row b i hib
      have hca : a.take (i + 1) = a.take i ++ [a[i]] := List.take_succ_eq_append_getElem hlti
      have hcb : b.take (i + 1) = b.take i ++ [b[i]] := List.take_succ_eq_append_getElem hib
      have hne : a[i] ≠ b[i] → ¬ a = b := fun h e => h (by subst e; rfl)
      generalize a[i] = x at hra hca hne
      generalize b[i] = y at hrb hcb hne
      obtain ⟨x1, x2, x3⟩ := x
      obtain ⟨y1, y2, y3⟩ := y
      by_cases hxy : (⟨x1, x2, x3⟩ : Tk) = ⟨y1, y2, y3⟩
      · have hd : decide ((⟨x1, x2, x3⟩ : Tk) = ⟨y1, y2, y3⟩) = true := decide_eq_true hxy
        simp -implicitDefEqProofs only [awp_draw _ _ Tryzdr22_6, List.length_map, lt_true hlti, hra, hrb, Tk.row, neq_tok, hd, wsucc i (by omega),
    evx, evy, ofValue, ofCell, List.range, List.range.loop, Array.size, Nat.reduceAdd, Nat.reduceSub, Nat.reduceEqDiff, List.replicate, if_true, if_false, ↓reduceIte, reduceCtorEq, elB, evParts, Int.reduceToNat, Int.reduceLE, Int.reduceLT, Int.reduceEq, Nat.reduceMul, Nat.reduceLeDiff, Nat.reduceLT, ty3, ty4, ty9, ty23, ty22, ty25, ty5, ty35, ty31, ty47, ty38, ty43]
        exact back_intro hs (i + 1) (le_wk (by simp [wk])) ⟨by omega, by rw [hca, hcb, he, hxy]⟩ (by omega)
      · have hd : decide ((⟨x1, x2, x3⟩ : Tk) = ⟨y1, y2, y3⟩) = false := decide_eq_false hxy
        simp -implicitDefEqProofs only [awp_draw _ _ Tryzdr22_6, List.length_map, lt_true hlti, hra, hrb, Tk.row, neq_tok, hd,
    evx, evy, ofValue, ofCell, List.range, List.range.loop, Array.size, Nat.reduceAdd, Nat.reduceSub, Nat.reduceEqDiff, List.replicate, if_true, if_false, ↓reduceIte, reduceCtorEq, elB, evParts, Int.reduceToNat, Int.reduceLE, Int.reduceLT, Int.reduceEq, Nat.reduceMul, Nat.reduceLeDiff, Nat.reduceLT, ty3, ty4, ty9, ty23, ty22, ty25, ty5, ty35, ty31, ty47, ty38, ty43]
        rw [decide_eq_false (hne hxy)]
        exact le_flat rfl
    · obtain rfl : i = a.length := by omega
      simp -implicitDefEqProofs only [awp_draw _ _ Tryzdr22_6, List.length_map, lt_false hlti,
    evx, evy, ofValue, ofCell, List.range, List.range.loop, Array.size, Nat.reduceAdd, Nat.reduceSub, Nat.reduceEqDiff, List.replicate, if_true, if_false, ↓reduceIte, reduceCtorEq, elB, evParts, Int.reduceToNat, Int.reduceLE, Int.reduceLT, Int.reduceEq, Nat.reduceMul, Nat.reduceLeDiff, Nat.reduceLT, ty3, ty4, ty9, ty23, ty22, ty25, ty5, ty35, ty31, ty47, ty38, ty43]
      have : a = b := by
        rw [List.take_length, hl, List.take_length] at he
        exact he
      rw [decide_eq_true this]
      exact le_flat rfl
  · have hlt : ((a.length : Int) = (b.length : Int)) = False := eq_false (by omega)
    simp -implicitDefEqProofs only [awp_draw _ _ Tryzdr22_6, List.length_map, hlt,
    evx, evy, ofValue, ofCell, List.range, List.range.loop, Array.size, Nat.reduceAdd, Nat.reduceSub, Nat.reduceEqDiff, List.replicate, if_true, if_false, ↓reduceIte, reduceCtorEq, elB, evParts, Int.reduceToNat, Int.reduceLE, Int.reduceLT, Int.reduceEq, Nat.reduceMul, Nat.reduceLeDiff, Nat.reduceLT, ty3, ty4, ty9, ty23, ty22, ty25, ty5, ty35, ty31, ty47, ty38, ty43]
    rw [decide_eq_false (fun e : a = b => hl (by rw [e]))]
    exact le_flat rfl
end Go.Abs
