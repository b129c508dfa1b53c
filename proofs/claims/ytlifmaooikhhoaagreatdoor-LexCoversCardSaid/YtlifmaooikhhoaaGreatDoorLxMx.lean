/- All tokens: the program's, the document's. -/
import Derived.Test.YtlifmaooikhhoaaGreatDoorTyTryzx
import Derived.Test.YtlifmaooikhhoaaGreatDoorDrTryzx
import Derived.Test.YtlifmaooikhhoaaGreatDoorLxLx
import Derived.Test.YtlifmaooikhhoaaGreatDoorLxA
import Derived.Test.YtlifmaooikhhoaaGreatDoorAbsY
namespace Go.Abs
open Go.Proofs
set_option linter.unusedVariables false
set_option linter.unusedSimpArgs false
set_option maxRecDepth 100000
set_option maxHeartbeats 4000000
def Tok.tk (t : Tok) : Tk := ⟨t.rule, t.at_, t.len⟩
def tokRow (t : Tok) : List FV := [.int .i64 t.rule, .int .i64 t.at_, .int .i64 t.len]
def seenRow (t : Tok) : List FV := [.int .i64 t.seen]
theorem tokRow_map (l : List Tok) : l.map tokRow = (l.map Tok.tk).map Tk.row := by rw [List.map_map]; rfl
theorem seenRow_map (l : List Tok) : l.map seenRow = (l.map fun t => (t.seen : Int)).map iRow := by rw [List.map_map]; rfl
theorem tok_snoc (l : List Tok) (t : Tok) : l.map tokRow ++ [[.int .i64 t.rule, .int .i64 t.at_, .int .i64 t.len]] = (l ++ [t]).map tokRow := by simp [tokRow]
theorem seen_snoc (l : List Tok) (t : Tok) : l.map seenRow ++ [[.int .i64 t.seen]] = (l ++ [t]).map seenRow := by simp [seenRow]
theorem le_nil2 {n0 : Nat} (k j : Nat) (x : AV) (h : List Blk) : Le n0 ⟨[.tuple [.fv .nils, .fv .nils, x]], h, []⟩ ⟨[.tuple [.fv (.lst k []), .fv (.lst j []), x]], h, []⟩ := by
  intro w0 S0 m0 w S m a hn hr
  refine ⟨S, m, ⟨hr.heap, ⟨hr.tmps.1, fun i v y hv hy => ?_⟩, hr.defs, hr.fr⟩⟩
  cases i with
  | zero =>
    have h0 := hr.tmps.2 0 v _ hv rfl
    simp only [List.getElem?_cons_zero, Option.some.injEq] at hy
    subst hy
    cases h0 with
    | tuple vs cs hs hc =>
      refine .tuple vs _ hs (fun i u z hu hz => ?_)
      match i with
      | 0 =>
        simp at hz
        subst hz
        exact nils_lst k (hc 0 u _ hu rfl)
      | 1 =>
        simp at hz
        subst hz
        exact nils_lst j (hc 1 u _ hu rfl)
      | 2 =>
        exact hc 2 u z hu (by simpa using hz)
      | i + 3 => simp at hz
  | succ i => simp at hy
theorem le_nil2a {n0 : Nat} (k j : Nat) (x : AV) (h : List Blk) : Le n0 ⟨[.agg [.fv .nils, .fv .nils, x]], h, []⟩ ⟨[.agg [.fv (.lst k []), .fv (.lst j []), x]], h, []⟩ := by
  intro w0 S0 m0 w S m a hn hr
  refine ⟨S, m, ⟨hr.heap, ⟨hr.tmps.1, fun i v y hv hy => ?_⟩, hr.defs, hr.fr⟩⟩
  cases i with
  | zero =>
    have h0 := hr.tmps.2 0 v _ hv rfl
    simp only [List.getElem?_cons_zero, Option.some.injEq] at hy
    subst hy
    cases h0 with
    | agg vs cs hs hc =>
      refine .agg vs _ hs (fun i u z hu hz => ?_)
      match i with
      | 0 =>
        simp at hz
        subst hz
        exact nils_lst k (hc 0 u _ hu rfl)
      | 1 =>
        simp at hz
        subst hz
        exact nils_lst j (hc 1 u _ hu rfl)
      | 2 =>
        exact hc 2 u z hu (by simpa using hz)
      | i + 3 => simp at hz
  | succ i => simp at hy
theorem le_two {i j e f n m : Nat} {h : List Blk} {r q : List (List FV)} {x : FV} (hi : h[i]? = some (.plain e r)) (hj : h[j]? = some (.plain f q)) (hn : n = r.length) (hm : m = q.length) :
    Le 0 ⟨[.tuple [.ref i e 0 n, .ref j f 0 m, .fv x]], h, []⟩ ⟨[.tuple [.fv (.lst e r), .fv (.lst f q), .fv x]], [], []⟩ := by
  subst hn; subst hm
  refine le_to [] [i, j] rfl List.nodup_nil (fun i hi => by simp at hi) (fun i _ hi => by simp at hi) (fun k hk => by
    simp at hk
    rcases hk with rfl | rfl
    · exact ⟨e, r, hi⟩
    · exact ⟨f, q, hj⟩) ?_
  simp [subSt, subAny, subA, subL, mkSub, idx, hi, hj]
theorem le_twoa {i j e f n m : Nat} {h : List Blk} {r q : List (List FV)} {x : FV} (hi : h[i]? = some (.plain e r)) (hj : h[j]? = some (.plain f q)) (hn : n = r.length) (hm : m = q.length) :
    Le 0 ⟨[.agg [.ref i e 0 n, .ref j f 0 m, .fv x]], h, []⟩ ⟨[.agg [.fv (.lst e r), .fv (.lst f q), .fv x]], [], []⟩ := by
  subst hn; subst hm
  refine le_to [] [i, j] rfl List.nodup_nil (fun i hi => by simp at hi) (fun i _ hi => by simp at hi) (fun k hk => by
    simp at hk
    rcases hk with rfl | rfl
    · exact ⟨e, r, hi⟩
    · exact ⟨f, q, hj⟩) ?_
  simp [subSt, subAny, subA, subL, mkSub, idx, hi, hj]
def lexedT (x : List Tok × Int) : AV := .tuple [.fv (.lst 3 (x.1.map tokRow)), .fv (.lst 1 (x.1.map seenRow)), .fv (.int .i64 x.2)]
def lexedA (x : List Tok × Int) : AV := .agg [.fv (.lst 3 (x.1.map tokRow)), .fv (.lst 1 (x.1.map seenRow)), .fv (.int .i64 x.2)]
theorem bsE_tok (b : Nat) (dd : TypeDesc) (z1 z2 z3 : FV) (x y z : FV) (h : List Blk) : bsE (some ⟨dd, 3, b, some [z1, z2, z3]⟩) 1 h (some [(0, .agg [.fv x, .fv y, .fv z])]) = some (.ref h.length 3 0 1, h ++ [.plain 3 [[x, y, z]]], []) :=
  bsE_r1 b dd 3 [z1, z2, z3] [x, y, z] h rfl (by omega) (by omega) rfl
theorem le_true {a b : Nat} (h : a ≤ b) : (a ≤ b) = True := by simpa using h
theorem wsum (a n : Nat) (h : a + n < 4611686018427387904) : IntKind.wrap .i64 ((a : Int) + (n : Int)) = ((a + n : Nat) : Int) := wrap_small (by omega) (by omega)
theorem ok40 (d : Aut) (hn : d.next.length ≤ 100000) (s : Bs) (hs : s.length ≤ 1000000) : Ok Tryz.prog 40 [d.av, .fv (.str s)] [] (.ret (lexedT (d.all s))) [] := by
  have hri := ok15 d hn
  unfold lexedT Aut.all
  refine ok_start (k := 44) (n0 := 0) (rs := [.tmp 4, .tmp 5, .tmp 6]) mix Tryz.func40 rfl rfl rfl rfl rfl rfl rfl ?_
  simp -implicitDefEqProofs only [Aut.av,
    evx, evy, ofValue, ofCell, List.range, List.range.loop, Array.size, Nat.reduceAdd, Nat.reduceSub, Nat.reduceEqDiff, List.replicate, if_true, if_false, ↓reduceIte, reduceCtorEq, elB, evParts, Int.reduceToNat, Int.reduceLE, Int.reduceLT, Int.reduceEq, Nat.reduceMul, Nat.reduceLeDiff, Nat.reduceLT, ty3, ty4, ty9, ty23, ty22, ty25, ty5, ty35, ty31, ty47, ty38, ty43]
  cases hb : d.rightB with
  | false =>
    rw [hb] at hri
    refine callK_ret _ _ _ _ (call_pure (hri) (fun _ => rfl) (fun _ => rfl)) (ok_nil _ _) ?_
    simp -implicitDefEqProofs only [evx, evy, ofValue, ofCell, List.range, List.range.loop, Array.size, Nat.reduceAdd, Nat.reduceSub, Nat.reduceEqDiff, List.replicate, if_true, if_false, ↓reduceIte, reduceCtorEq, elB, evParts, Int.reduceToNat, Int.reduceLE, Int.reduceLT, Int.reduceEq, Nat.reduceMul, Nat.reduceLeDiff, Nat.reduceLT, ty3, ty4, ty9, ty23, ty22, ty25, ty5, ty35, ty31, ty47, ty38, ty43]
    exact Le.trans (le_nil2 3 1 _ _) (le_to [] [] rfl (by simp) (by simp) (by simp) (by simp) rfl)
  | true =>
    have hR := Aut.right_iff.1 hb
    rw [hb] at hri
    rw [if_pos rfl]
    refine callK_ret _ _ _ _ (call_pure (hri) (fun _ => rfl) (fun _ => rfl)) (ok_nil _ _) ?_
    simp -implicitDefEqProofs only [evx, evy, ofValue, ofCell, List.range, List.range.loop, Array.size, Nat.reduceAdd, Nat.reduceSub, Nat.reduceEqDiff, List.replicate, if_true, if_false, ↓reduceIte, reduceCtorEq, elB, evParts, Int.reduceToNat, Int.reduceLE, Int.reduceLT, Int.reduceEq, Nat.reduceMul, Nat.reduceLeDiff, Nat.reduceLT, ty3, ty4, ty9, ty23, ty22, ty25, ty5, ty35, ty31, ty47, ty38, ty43]
    refine loop_rule (fun x : List Tok × Nat => ⟨[.any, .fv (.str s), .ptr 0 0 0 0, .any, .any, .any, .any, .ref 1 3 0 x.1.length, .ref 2 1 0 x.1.length, .fv (.int .i64 x.2), .any, .any, .any, .any, .any, .any, .any, .any, .any, .any, .any, .any, .any, .any, .any, .any, .any, .any, .any, .any, .any, .any, .any, .any, .any, .any, .any, .any, .any, .any, .any, .any, .any, .any, .any, .any], [.box d.cells, .plain 3 (x.1.map tokRow), .plain 1 (x.1.map seenRow)], []⟩)
      (fun x => x.2 ≤ s.length ∧ x.1.length ≤ x.2 ∧ d.allF s 0 = (x.1 ++ (d.allF (s.drop x.2) x.2).1, (d.allF (s.drop x.2) x.2).2)) (fun x => s.length - x.2) ([], 0)
      (Le.trans (le_virt 7 3 rfl) (Le.trans (le_virt 8 1 rfl) (le_wk (by simp [wk, Aut.cells])))) ⟨by simp, by simp, by simp⟩ (fun x hx st hst => ?_)
    obtain ⟨l, a⟩ := x
    obtain ⟨h1, h2, h3⟩ := hx
    simp only at h1 h2 h3 hst ⊢
    by_cases hlt : a < s.length
    · have hone := ok42 d hR s hs a h1
      have hle := d.one_le (s.drop a)
      rw [List.length_drop] at hle
      have hne : s.drop a ≠ [] := fun e => by have := congrArg List.length e; rw [List.length_drop] at this; simp at this; omega
      have hnone := @Aut.allF_none d (s.drop a) a hne
      have hsome := @Aut.allF_some d (s.drop a) a
      rw [List.drop_drop] at hsome
      generalize d.one (s.drop a) = o at hone hle hnone hsome
      obtain ⟨⟨r, k⟩, n⟩ := o
      simp only at hone hle hnone hsome
      simp -implicitDefEqProofs only [lt_true hlt, Aut.cells,
    evx, evy, ofValue, ofCell, List.range, List.range.loop, Array.size, Nat.reduceAdd, Nat.reduceSub, Nat.reduceEqDiff, List.replicate, if_true, if_false, ↓reduceIte, reduceCtorEq, elB, evParts, Int.reduceToNat, Int.reduceLE, Int.reduceLT, Int.reduceEq, Nat.reduceMul, Nat.reduceLeDiff, Nat.reduceLT, ty3, ty4, ty9, ty23, ty22, ty25, ty5, ty35, ty31, ty47, ty38, ty43]
      refine callK_ret _ _ _ _ (call_pure (hone) (fun _ => rfl) (fun _ => rfl)) (ok_nil _ _) ?_
      by_cases hk : k = 0
      · subst hk
        have h00 : (((0 : Nat) : Int) = 0) = True := eq_true rfl
        rw [hnone rfl, List.append_nil] at h3
        rw [h3]
        simp -implicitDefEqProofs only [stB_boxA, splice_all, List.all_cons, List.all_nil, Bool.and_self, h00,
    evx, evy, ofValue, ofCell, List.range, List.range.loop, Array.size, Nat.reduceAdd, Nat.reduceSub, Nat.reduceEqDiff, List.replicate, if_true, if_false, ↓reduceIte, reduceCtorEq, elB, evParts, Int.reduceToNat, Int.reduceLE, Int.reduceLT, Int.reduceEq, Nat.reduceMul, Nat.reduceLeDiff, Nat.reduceLT, ty3, ty4, ty9, ty23, ty22, ty25, ty5, ty35, ty31, ty47, ty38, ty43]
        exact le_two rfl rfl (by simp) (by simp)
      · have hkt : ((k : Int) = 0) = False := eq_false (by omega)
        have e1 := tok_snoc l ⟨r, a, k, a + n⟩
        have e2 := seen_snoc l ⟨r, a, k, a + n⟩
        simp only at e1 e2
        rw [hsome hk] at h3
        have tk1 : List.take l.length (l.map tokRow) = l.map tokRow := by rw [← List.length_map tokRow, List.take_length]
        have tk2 : List.take l.length (l.map seenRow) = l.map seenRow := by rw [← List.length_map seenRow, List.take_length]
        simp -implicitDefEqProofs only [stB_boxA, splice_all, List.all_cons, List.all_nil, Bool.and_self, hkt, bsE_tok, List.length_map, le_true (Nat.le_refl l.length), wsum a k (by omega),
    evx, evy, ofValue, ofCell, List.range, List.range.loop, Array.size, Nat.reduceAdd, Nat.reduceSub, Nat.reduceEqDiff, List.replicate, if_true, if_false, ↓reduceIte, reduceCtorEq, elB, evParts, Int.reduceToNat, Int.reduceLE, Int.reduceLT, Int.reduceEq, Nat.reduceMul, Nat.reduceLeDiff, Nat.reduceLT, ty3, ty4, ty9, ty23, ty22, ty25, ty5, ty35, ty31, ty47, ty38, ty43]
        refine ⟨by omega, by omega, ?_⟩
        refine back_intro hst (l ++ [⟨r, a, k, a + n⟩], a + k) (le_pk [0, 5, 7] rfl (by simp) (by simp) ?_ ?_) ⟨by simp only; omega, by simp only [List.length_append, List.length_cons, List.length_nil]; omega, ?_⟩ (by simp only; omega)
        · simp [subBlk, subAny, subA, mkSub, idx, Aut.cells, tk1, tk2, ← e1, ← e2]
        · simp [wk, subAny, subA, mkSub, idx]
        · rw [h3]
          simp
    · obtain rfl : a = s.length := by omega
      rw [List.drop_length, Aut.allF_nil, List.append_nil] at h3
      rw [h3]
      simp -implicitDefEqProofs only [lt_false hlt,
    evx, evy, ofValue, ofCell, List.range, List.range.loop, Array.size, Nat.reduceAdd, Nat.reduceSub, Nat.reduceEqDiff, List.replicate, if_true, if_false, ↓reduceIte, reduceCtorEq, elB, evParts, Int.reduceToNat, Int.reduceLE, Int.reduceLT, Int.reduceEq, Nat.reduceMul, Nat.reduceLeDiff, Nat.reduceLT, ty3, ty4, ty9, ty23, ty22, ty25, ty5, ty35, ty31, ty47, ty38, ty43]
      exact le_two rfl rfl (by simp) (by simp)
end Go.Abs
