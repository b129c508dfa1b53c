/- A call of what asks for a frozen list, with a list that lies in a block of ours: the block is ours no more. -/
import Derived.Test.YtlifmaooikhhoaaGreatDoorAbsZ
import Derived.Test.YtlifmaooikhhoaaGreatDoorAbsGo
import Derived.Test.YtlifmaooikhhoaaGreatDoorAbsW
import Derived.Test.YtlifmaooikhhoaaGreatDoorAbsQ
namespace Go.Abs
set_option linter.unusedVariables false
set_option linter.unusedSimpArgs false
end Go.Abs
/- What a run gives back, frozen to the bottom: pieces of a greater run, each reckoned by itself. -/
namespace Go.Abs
set_option linter.unusedVariables false
set_option linter.unusedSimpArgs false
def eqFL (f : FV → FV → Bool) : List FV → List FV → Bool
  | [], [] => true
  | x :: l, y :: m => f x y && eqFL f l m
  | _, _ => false
def eqRL (f : FV → FV → Bool) : List (List FV) → List (List FV) → Bool
  | [], [] => true
  | x :: l, y :: m => eqFL f x y && eqRL f l m
  | _, _ => false
/-- The second says no more: a nil slice is an empty one. -/
def leFV : Nat → FV → FV → Bool
  | 0, x, y => eqFV 8 x y
  | n + 1, .nils, .lst _ [] => true
  | n + 1, .lst e xs, .lst e' ys => Nat.beq e e' && eqRL (leFV n) xs ys
  | n + 1, x, y => eqFV 8 x y
theorem eqFL_get {f : FV → FV → Bool} : ∀ {l m : List FV}, eqFL f l m = true → l.length = m.length ∧ ∀ (i : Nat) (x y : FV), l[i]? = some x → m[i]? = some y → f x y = true
  | [], [], _ => ⟨rfl, fun i x y h => by simp at h⟩
  | x :: l, y :: m, h => by
    simp only [eqFL, Bool.and_eq_true] at h
    obtain ⟨h1, h2⟩ := eqFL_get h.2
    refine ⟨by simp [h1], fun i a b ha hb => ?_⟩
    cases i with
    | zero => simp at ha hb; subst ha; subst hb; exact h.1
    | succ i => exact h2 i a b (by simpa using ha) (by simpa using hb)
  | [], _ :: _, h => by simp [eqFL] at h
  | _ :: _, [], h => by simp [eqFL] at h
theorem eqRL_get {f : FV → FV → Bool} : ∀ {l m : List (List FV)}, eqRL f l m = true → l.length = m.length ∧ ∀ (i : Nat) (x y : List FV), l[i]? = some x → m[i]? = some y → eqFL f x y = true
  | [], [], _ => ⟨rfl, fun i x y h => by simp at h⟩
  | x :: l, y :: m, h => by
    simp only [eqRL, Bool.and_eq_true] at h
    obtain ⟨h1, h2⟩ := eqRL_get h.2
    refine ⟨by simp [h1], fun i a b ha hb => ?_⟩
    cases i with
    | zero => simp at ha hb; subst ha; subst hb; exact h.1
    | succ i => exact h2 i a b (by simpa using ha) (by simpa using hb)
  | [], _ :: _, h => by simp [eqRL] at h
  | _ :: _, [], h => by simp [eqRL] at h
theorem leFV_rel {w : World} {S : Nat → Prop} : ∀ (n : Nat) (x y : FV) (v : Value), leFV n x y = true → FRel w S v x → FRel w S v y
  | 0, x, y, v, h, hv => by
    rw [leFV] at h
    rw [← eqFV_ok 8 x y h]
    exact hv
  | n + 1, x, y, v, h, hv => by
    unfold leFV at h
    split at h
    · omega
    · rename_i k
      cases hv
      exact .lst _ _ _ _ _ (fun _ _ => Go.undef) ⟨0, 0, none⟩ (by simp) (Nat.le_refl _) (fun i row hrow => by simp at hrow) (fun h => by omega) (fun h => by omega) (fun i j hi => by omega) (fun i j row x hrow => by simp at hrow)
    · rename_i hn
      injection hn with hn
      subst hn
      simp only [Bool.and_eq_true] at h
      obtain rfl := Nat.eq_of_beq_eq_true h.1
      obtain ⟨hl, hg⟩ := eqRL_get h.2
      cases hv with
      | lst a k c es xs u ad hn hcp hes ha hs hc hr =>
        refine .lst a k c _ _ u ad (by omega) hcp (fun i row hrow => ?_) ha hs hc (fun i j row x hrow hx => ?_)
        · have hi : i < _ := (List.getElem?_eq_some_iff.1 hrow).1
          have h1 := hg i _ row (List.getElem?_eq_getElem (by omega)) hrow
          rw [← (eqFL_get h1).1]
          exact hes i _ (List.getElem?_eq_getElem (by omega))
        · have hi : i < _ := (List.getElem?_eq_some_iff.1 hrow).1
          have e1 := List.getElem?_eq_getElem (l := (_ : List (List FV))) (show i < _ by exact hl ▸ hi)
          have h1 := hg i _ row e1 hrow
          have hlen := (eqFL_get h1).1
          have hj : j < row.length := (List.getElem?_eq_some_iff.1 hx).1
          have e2 := List.getElem?_eq_getElem (l := (_ : List FV)) (show j < _ by exact hlen ▸ hj)
          exact leFV_rel n _ x _ ((eqFL_get h1).2 j _ x e2 hx) (hr i j _ _ e1 e2)
    · rename_i hn _ _
      injection hn with hn
      exact (eqFV_ok 8 _ _ h) ▸ hv
def eqAL (f : AV → AV → Bool) : List AV → List AV → Bool
  | [], [] => true
  | x :: l, y :: m => f x y && eqAL f l m
  | _, _ => false
theorem eqAL_get {f : AV → AV → Bool} : ∀ {l m : List AV}, eqAL f l m = true → l.length = m.length ∧ ∀ (i : Nat) (x y : AV), l[i]? = some x → m[i]? = some y → f x y = true
  | [], [], _ => ⟨rfl, fun i x y h => by simp at h⟩
  | x :: l, y :: m, h => by
    simp only [eqAL, Bool.and_eq_true] at h
    obtain ⟨h1, h2⟩ := eqAL_get h.2
    refine ⟨by simp [h1], fun i a b ha hb => ?_⟩
    cases i with
    | zero => simp at ha hb; subst ha; subst hb; exact h.1
    | succ i => exact h2 i a b (by simpa using ha) (by simpa using hb)
  | [], _ :: _, h => by simp [eqAL] at h
  | _ :: _, [], h => by simp [eqAL] at h
def leAV : Nat → AV → AV → Bool
  | n + 1, .fv x, .fv y => leFV 8 x y
  | n + 1, .agg xs, .agg ys => eqAL (leAV n) xs ys
  | n + 1, .tuple xs, .tuple ys => eqAL (leAV n) xs ys
  | _, _, _ => false
theorem leAV_rel {w : World} {S : Nat → Prop} {m : List Loc} : ∀ (n : Nat) (x y : AV) (v : Value), leAV n x y = true → VRel w S m v x → VRel w S m v y
  | 0, x, y, v, h, hv => by simp [leAV] at h
  | n + 1, x, y, v, h, hv => by
    unfold leAV at h
    split at h
    · cases hv with
      | fv _ _ hf => exact .fv _ _ (leFV_rel 8 _ _ _ h hf)
    · rename_i n2 xs ys hn
      injection hn with hn
      subst hn
      obtain ⟨hl, hg⟩ := eqAL_get h
      cases hv with
      | agg vs _ hs hc =>
        refine .agg vs _ (by omega) (fun i u b hu hb => ?_)
        have hi : i < _ := (List.getElem?_eq_some_iff.1 hb).1
        have e1 := List.getElem?_eq_getElem (l := xs) (show i < xs.length by omega)
        exact leAV_rel n _ b u (hg i _ b e1 hb) (hc i u _ hu e1)
    · rename_i n2 xs ys hn
      injection hn with hn
      subst hn
      obtain ⟨hl, hg⟩ := eqAL_get h
      cases hv with
      | tuple vs _ hs hc =>
        refine .tuple vs _ (by omega) (fun i u b hu hb => ?_)
        have hi : i < _ := (List.getElem?_eq_some_iff.1 hb).1
        have e1 := List.getElem?_eq_getElem (l := xs) (show i < xs.length by omega)
        exact leAV_rel n _ b u (hg i _ b e1 hb) (hc i u _ hu e1)
    · cases h
def deepOut (h : List Blk) : AV → Option AV
  | .tuple vs => (subL (deepA 8 h) vs).map .tuple
  | v => deepA 8 h v
theorem subL_get2 {f : AV → Option AV} : ∀ {l m : List AV}, subL f l = some m → l.length = m.length ∧ ∀ (i : Nat) (y : AV), m[i]? = some y → ∃ x, l[i]? = some x ∧ f x = some y
  | [], m, h => by simp only [subL, Option.some.injEq] at h; subst h; exact ⟨rfl, fun i y hy => by simp at hy⟩
  | x :: l, m, h => by
    simp only [subL] at h
    cases hx : f x with
    | none => rw [hx] at h; simp at h
    | some a =>
      cases hl : subL f l with
      | none => rw [hx, hl] at h; simp at h
      | some r =>
        rw [hx, hl] at h
        simp at h
        subst h
        obtain ⟨h1, h2⟩ := subL_get2 hl
        refine ⟨by simp [h1], fun i y hy => ?_⟩
        cases i with
        | zero => simp at hy; subst hy; exact ⟨x, rfl, hx⟩
        | succ i =>
          obtain ⟨z, hz, e⟩ := h2 i y (by simpa using hy)
          exact ⟨z, by simpa using hz, e⟩
theorem deepOut_sound {w : World} {S : Nat → Prop} {m : List Loc} {h : List Blk} (hh : HRel w S m h) {v : Value} {y x : AV} (hd : deepOut h y = some x) (hv : VRel w S m v y) : VRel w (Deep S m h) [] v x := by
  have hh' : HRel w S m (⟨[], h, []⟩ : St).h := hh
  unfold deepOut at hd
  split at hd
  · rename_i vs
    rw [Option.map_eq_some_iff] at hd
    obtain ⟨ws, h1, rfl⟩ := hd
    obtain ⟨hl, hg⟩ := subL_get2 h1
    cases hv with
    | tuple us cs hs hc =>
      refine .tuple us ws (by omega) (fun i u b hu hb => ?_)
      obtain ⟨z, hz, e⟩ := hg i b hb
      exact deepA_sound hh' 8 u z b e (hc i u z hu hz)
  · exact deepA_sound hh' 8 v y x hd hv
theorem ok_deep {P : Program} {f : FuncId} {args : List AV} {y x z : AV} {h' : List Blk} (hok : Ok P f args [] (.ret y) h') (hd : deepOut h' y = some x) (hle : leAV 4 x z = true) : Ok P f args [] (.ret z) [] := by
  refine ⟨hok.1, fun w S m cargs hG hh hl => ?_⟩
  refine Calls.mono (hok.2 w S m cargs hG hh hl) fun e w' hq => ?_
  obtain ⟨S', m', h1, h2, h3⟩ := hq
  have hm0 : m = [] := List.eq_nil_of_length_eq_zero hh.len
  subst hm0
  refine ⟨Deep S' m' h', [], ⟨rfl, fun i l b hi => by simp at hi, fun i j bi bj b o o' _ hi => by simp at hi, fun i bi b o hi => by simp at hi, fun b hb => ?_, fun i b o hi => by simp at hi⟩, ?_, ?_⟩
  · rcases hb with hb | ⟨i, o, k, hm, _, _⟩
    · exact h1.low b hb
    · exact h1.lowm i b o hm
  · cases e with
    | returned v => exact leAV_rel 4 x z v hle (deepOut_sound h1 hd h2)
    | _ => exact h2.elim
  · refine ⟨h3.size, h3.os, h3.tape, h3.output, h3.same, h3.frozen, h3.shape, fun b hb => .inl (h3.up b hb), fun b hb => ?_, fun i b o hi => by simp at hi, fun _ _ => rfl⟩
    rcases hb with hb | ⟨i, o, k, hm, _, _⟩
    · exact h3.down b hb
    · rcases h3.locs i b o hm with ⟨j, o', hj⟩ | h
      · simp at hj
      · exact .inr (.inr h)
/-- Does the run come to that, frozen? -/
noncomputable def goDeep (P : Program) (ext : List (FuncId × Ext)) (hook : List (FuncId × Hook)) (lf n : Nat) (f : FuncId) (args : List AV) (z : AV) : Bool := match goFn P ext hook lf n f args [] with
  | some (.ret y, h') => match deepOut h' y with
    | some x => leAV 4 x z
    | none => false
  | _ => false
theorem goDeep_ok {P : Program} {ext : List (FuncId × Ext)} {hook : List (FuncId × Hook)} {lf n : Nat} {f : FuncId} {args : List AV} {z : AV} (hr : ∀ o h', goFn P ext hook lf n f args [] = some (o, h') → Ok P f args [] o h') (e : goDeep P ext hook lf n f args z = true) : Ok P f args [] (.ret z) [] := by
  unfold goDeep at e
  split at e
  · rename_i y h' hg
    split at e
    · rename_i x hx
      exact ok_deep (hr _ _ hg) hx e
    · cases e
  · cases e
end Go.Abs
/- A long run in steps: from a state that is written down to the next one. -/
namespace Go.Abs
set_option linter.unusedVariables false
set_option linter.unusedSimpArgs false
/-- The slots that are wanted. -/
def maskT : List Bool → List AV → List AV
  | true :: bs, x :: xs => x :: maskT bs xs
  | false :: bs, x :: xs => .any :: maskT bs xs
  | _, xs => xs
theorem wk_same : ∀ (t : List AV), wk t t
  | [] => trivial
  | x :: t => ⟨.inl rfl, wk_same t⟩
theorem maskT_wk : ∀ (m : List Bool) (t : List AV), wk t (maskT m t)
  | true :: bs, x :: xs => ⟨.inl rfl, maskT_wk bs xs⟩
  | false :: bs, x :: xs => ⟨.inr rfl, maskT_wk bs xs⟩
  | [], xs => by rw [maskT.eq_def]; exact wk_same xs
  | true :: _, [] => trivial
  | false :: _, [] => trivial
def packU (n0 : Nat) (u : St) : St := match u.d with
  | [] => gcWith n0 u (gcKeep n0 u.h (u.t ++ inner n0 u.h))
  | _ => u
theorem packU_le (n0 : Nat) (st : St) : Le n0 st (packU n0 st) := by
  unfold packU
  split
  · unfold gcWith
    split
    · rename_i h
      simp only [gcOk, Bool.and_eq_true] at h
      exact le_sub _ [] (eqN_ok h.1.1) (nodupB_ok h.1.2) (belowB_ok h.2) (fun i hi => by simp at hi) (fun i hi => by simp at hi)
    · exact Le.refl _ _
  · exact Le.refl _ _
def packAt (n0 : Nat) (m : List Bool) (st : St) : St := packU n0 ⟨maskT m st.t, st.h, st.d⟩
theorem packAt_le (n0 : Nat) (m : List Bool) (st : St) : Le n0 st (packAt n0 m st) := (le_wk (maskT_wk m st.t)).trans (packU_le n0 _)
noncomputable def piece1 (P : Program) (call : CallF) (n0 : Nat) (c : Code) (m : List Bool) (S : St) : Option (REx × St) := match gCode P call 100000 n0 c (mkFS S.t.length S.t S.h []) with
  | some (e, f) => some (e, packAt n0 m f.st)
  | none => none
theorem piece1_ok {P : Program} {call : CallF} {n0 : Nat} (hc : CallOk P call) {c : Code} {m : List Bool} {S S' : St} {e : REx} {Q : AEx → St → Prop} (hd : S.d = []) (h : piece1 P call n0 c m S = some (e, S')) (hq : ∀ s, Le n0 s S' → Q e.ex s) : awp P n0 c Q S := by
  obtain ⟨t, hp, d⟩ := S
  simp only at hd
  subst hd
  unfold piece1 at h
  obtain ⟨m1, m2⟩ := mkFS_ok (n := t.length) (Nat.le_refl _) hp []
  simp only [Nat.sub_self, List.replicate_zero, List.append_nil] at m2
  cases hr : gCode P call 100000 n0 c (mkFS t.length t hp []) with
  | none => rw [hr] at h; cases h
  | some p =>
    obtain ⟨e1, f⟩ := p
    rw [hr] at h
    cases h
    obtain ⟨h1, h2⟩ := gCode_says (P := P) (call := call) (lf := 100000) (n0 := n0) c _ m1 _ f hr
    rw [m2] at h1
    exact runCode_ok hc c h1 (hq _ (packAt_le n0 m f.st))
/-! ### A body's statements -/
def flatL : Code → List Code
  | .seq a b => flatL a ++ flatL b
  | c => [c]
def seqsL : List Code → Code
  | [] => .skip
  | c :: l => .seq c (seqsL l)
theorem then_then {X R : St → Prop} {Q : AEx → St → Prop} : AEx.then X (AEx.then R Q) = AEx.then X Q := by
  funext e s
  cases e <;> rfl
theorem then_self {Q : AEx → St → Prop} : AEx.then (Q .normal) Q = Q := by
  funext e s
  cases e <;> rfl
theorem flatL_awp {P : Program} {n0 : Nat} : ∀ (c : Code) (l : List Code), awp P n0 (seqsL (flatL c ++ l)) = awp P n0 (.seq c (seqsL l)) := by
  intro c
  induction c with
  | seq a b iha ihb =>
    intro l
    rw [flatL, List.append_assoc, iha]
    funext Q st
    rw [awp, ihb, awp, awp, then_then]
    rfl
  | _ => intro l; rfl
theorem body_awp {P : Program} {n0 : Nat} (c : Code) : awp P n0 c = awp P n0 (seqsL (flatL c)) := by
  have := flatL_awp (P := P) (n0 := n0) c []
  rw [List.append_nil] at this
  rw [this]
  funext Q st
  show _ = awp P n0 c (AEx.then (Q .normal) Q) st
  rw [then_self]
noncomputable def gL (P : Program) (call : CallF) (n0 : Nat) : List Code → FS → Option FS
  | [], f => some f
  | c :: l, f => match gCode P call 100000 n0 c f with
    | some (.normal, f') => gL P call n0 l f'
    | _ => none
theorem gL_ok {P : Program} {call : CallF} {n0 : Nat} (hc : CallOk P call) {rest : List Code} {Q : AEx → St → Prop} : ∀ (l : List Code) {f f' : FS}, gL P call n0 l f = some f' → f.ok → f'.ok ∧ (awp P n0 (seqsL rest) Q f'.st → awp P n0 (seqsL (l ++ rest)) Q f.st)
  | [], f, f', h, hf => by
    rw [gL] at h
    cases h
    exact ⟨hf, id⟩
  | c :: l, f, f', h, hf => by
    rw [gL] at h
    split at h
    · rename_i f1 hr
      obtain ⟨h1, h2⟩ := gCode_says (P := P) (call := call) (lf := 100000) (n0 := n0) c f hf _ f1 hr
      obtain ⟨h3, h4⟩ := gL_ok hc l h h2
      exact ⟨h3, fun hq => runCode_ok hc c h1 (h4 hq)⟩
    · cases h
/-- From a state through a list of statements, to the next loop's head. -/
noncomputable def pieceL (P : Program) (call : CallF) (n0 : Nat) (l : List Code) (m : List Bool) (S : St) : Option St := match gL P call n0 l (mkFS S.t.length S.t S.h []) with
  | some f => some (packAt n0 m f.st)
  | none => none
/-- A loop's last round, and on to the next loop's head. -/
noncomputable def pieceX (P : Program) (call : CallF) (n0 : Nat) (b : Code) (i : Nat) (l : List Code) (m : List Bool) (S : St) : Option St := match gCode P call 100000 n0 b (mkFS S.t.length S.t S.h []) with
  | some (.exit k, f) => match Nat.beq k i with
    | true => match gL P call n0 l f with
      | some f' => some (packAt n0 m f'.st)
      | none => none
    | false => none
  | _ => none
/-- A loop's last round, and on to the end. -/
noncomputable def pieceF (P : Program) (call : CallF) (n0 : Nat) (b : Code) (i : Nat) (l : List Code) (rs : List ResultVar) (S : St) : Option (AV × List Blk) := match gCode P call 100000 n0 b (mkFS S.t.length S.t S.h []) with
  | some (.exit k, f) => match Nat.beq k i with
    | true => match gL P call n0 l f with
      | some f' => plainG P rs n0 (some (.ret, f'))
      | none => none
    | false => none
  | _ => none
theorem mkSt {S : St} (hd : S.d = []) : (mkFS S.t.length S.t S.h []).ok ∧ (mkFS S.t.length S.t S.h []).st = S := by
  obtain ⟨t, h, d⟩ := S
  simp only at hd
  subst hd
  obtain ⟨m1, m2⟩ := mkFS_ok (n := t.length) (Nat.le_refl _) h []
  simp only [Nat.sub_self, List.replicate_zero, List.append_nil] at m2
  exact ⟨m1, m2⟩
theorem exit_piece {P : Program} {call : CallF} {n0 : Nat} (hc : CallOk P call) {b : Code} {S : St} {e : REx} {f : FS} (hd : S.d = []) (h : gCode P call 100000 n0 b (mkFS S.t.length S.t S.h []) = some (e, f)) {Q : AEx → St → Prop} (hq : Q e.ex f.st) : awp P n0 b Q S ∧ f.ok := by
  obtain ⟨m1, m2⟩ := mkSt hd
  obtain ⟨h1, h2⟩ := gCode_says (P := P) (call := call) (lf := 100000) (n0 := n0) b _ m1 e f h
  rw [m2] at h1
  exact ⟨runCode_ok hc b h1 hq, h2⟩
theorem loop_pieces2 {P : Program} {call : CallF} {n0 : Nat} (hc : CallOk P call) {b : Code} {i : Nat} {rest : List Code} {Q : AEx → St → Prop} {st : St} {m : List Bool} (S : Nat → St) (n : Nat) (h0 : Le n0 st (S 0)) (hd : ∀ k, (S k).d = [])
    (h1 : ∀ k, k < n → piece1 P call n0 b m (S k) = some (.normal, S (k + 1))) {f : FS} (h2 : gCode P call 100000 n0 b (mkFS (S n).t.length (S n).t (S n).h []) = some (.exit i, f)) (h3 : f.ok → awp P n0 (seqsL rest) Q f.st) :
    awp P n0 (seqsL (.block i (.loop b) :: rest)) Q st := by
  show LoopOk n0 (awp P n0 b) _ st
  refine loop_rule S (fun k => k ≤ n) (fun k => n - k) 0 h0 (Nat.zero_le _) (fun k hk s hs => ?_)
  by_cases hkn : k < n
  · refine piece1_ok hc (hd k) (h1 k hkn) (fun s' hs' => ?_)
    exact back_intro hs (k + 1) hs' (by omega) (by omega)
  · obtain rfl : k = n := by omega
    obtain ⟨m1, m2⟩ := mkSt (hd k)
    have hfo := (gCode_says (P := P) (call := call) (lf := 100000) (n0 := n0) b _ m1 _ f h2).2
    refine (exit_piece hc (hd k) h2 ?_).1
    show (if i = i then _ else _)
    rw [if_pos rfl]
    exact h3 hfo
/-- A function with two loops, one behind the other, whose heads are written down. -/
theorem two_loops {P : Program} {call : CallF} (hmix : P.follows .mixedOrders = true) {g : FuncId} {fn : Func} {c : Code} (hf : P.funcs[g]? = some fn) (hn : (fn.name == "runtime.NumGoroutine") = false) (hb : fn.body = some c) (hc : CallOk P call)
    {args : List AV} (ht : args.length ≤ fn.ntmps) {pre mid post : List Code} {ia ib : Nat} {ba bb : Code} (hL : flatL c = pre ++ .block ia (.loop ba) :: (mid ++ .block ib (.loop bb) :: (post ++ [.ret])))
    (SA SB : Nat → St) (na nb : Nat) (mA mB : List Bool) (hdA : ∀ k, (SA k).d = []) (hdB : ∀ k, (SB k).d = [])
    (h1 : pieceL P call 0 pre mA ⟨args ++ List.replicate (fn.ntmps - args.length) .undef, [], []⟩ = some (SA 0))
    (h2 : ∀ k, k < na → piece1 P call 0 ba mA (SA k) = some (.normal, SA (k + 1)))
    (h3 : pieceX P call 0 ba ia mid mB (SA na) = some (SB 0))
    (h4 : ∀ k, k < nb → piece1 P call 0 bb mB (SB k) = some (.normal, SB (k + 1)))
    {v : AV} {h' : List Blk} (h5 : pieceF P call 0 bb ib post fn.results.toList (SB nb) = some (v, h')) : Ok P g args [] (.ret v) h' := by
  refine ok_intro hmix hf hn hb ht ?_
  show awp P 0 c _ _
  rw [body_awp, hL]
  unfold pieceL at h1
  split at h1
  · rename_i f1 e1
    injection h1 with h1
    obtain ⟨m1, m2⟩ := mkSt (S := ⟨args ++ List.replicate (fn.ntmps - args.length) .undef, [], []⟩) rfl
    obtain ⟨ok1, go1⟩ := gL_ok hc (rest := .block ia (.loop ba) :: (mid ++ .block ib (.loop bb) :: (post ++ [.ret]))) (Q := retA P fn 0 (.ret v) h') pre e1 m1
    rw [m2] at go1
    refine go1 ?_
    unfold pieceX at h3
    split at h3
    · rename_i k f2 e2
      split at h3
      · rename_i hk
        obtain rfl := Nat.eq_of_beq_eq_true hk
        split at h3
        · rename_i f3 e3
          injection h3 with h3
          refine loop_pieces2 hc SA na (by rw [← h1]; exact packAt_le 0 mA f1.st) hdA h2 e2 (fun ok2 => ?_)
          obtain ⟨ok3, go3⟩ := gL_ok hc (rest := .block ib (.loop bb) :: (post ++ [.ret])) (Q := retA P fn 0 (.ret v) h') mid e3 ok2
          refine go3 ?_
          unfold pieceF at h5
          split at h5
          · rename_i k4 f4 e4
            split at h5
            · rename_i hk4
              obtain rfl := Nat.eq_of_beq_eq_true hk4
              split at h5
              · rename_i f5 e5
                refine loop_pieces2 hc SB nb (by rw [← h3]; exact packAt_le 0 mB f3.st) hdB h4 e4 (fun ok4 => ?_)
                obtain ⟨ok5, go5⟩ := gL_ok hc (rest := [.ret]) (Q := retA P fn 0 (.ret v) h') post e5 ok4
                refine go5 ?_
                obtain ⟨ex, s, hx, hq⟩ := plainR_ok (fn := fn) (plainG_says (y := some (.ret, f5.st)) (fun e f he => by cases he; exact ⟨rfl, ok5⟩) h5)
                cases hx
                exact hq
              · cases h5
            · cases h5
          · cases h5
        · cases h3
      · cases h3
    · cases h3
  · cases h1
/-- Runs of the same. -/
def rl {α : Type} : List (Nat × α) → List α
  | [] => []
  | (n, x) :: l => rlN n x (rl l)
where rlN : Nat → α → List α → List α
  | 0, _, l => l
  | n + 1, x, l => x :: rlN n x l
/-- A loop's last round, and on to the end: what comes back, frozen to the bottom. -/
noncomputable def pieceD (P : Program) (call : CallF) (n0 : Nat) (b : Code) (i : Nat) (l : List Code) (rs : List ResultVar) (S : St) (z : AV) : Bool := match pieceF P call n0 b i l rs S with
  | some (y, h') => match deepOut h' y with
    | some x => leAV 4 x z
    | none => false
  | none => false
theorem pieceD_spec {P : Program} {call : CallF} {n0 : Nat} {b : Code} {i : Nat} {l : List Code} {rs : List ResultVar} {S : St} {z : AV} (h : pieceD P call n0 b i l rs S z = true) :
    ∃ v h' x, pieceF P call n0 b i l rs S = some (v, h') ∧ deepOut h' v = some x ∧ leAV 4 x z = true := by
  unfold pieceD at h
  split at h
  · rename_i y h' e
    split at h
    · rename_i x hx
      exact ⟨y, h', x, e, hx, h⟩
    · cases h
  · cases h
end Go.Abs
