/- Returning and looping. -/
import Derived.Test.YtckpaaeilbgiiaaAbsQ
namespace Go.Abs
set_option linter.unusedVariables false
set_option linter.unusedSimpArgs false

section
variable {P : Program} {Q : AEx → St → Prop} {n0 : Nat} {st : St}

/-! ### Returning -/
def retR (P : Program) (rs : List ResultVar) (n0 : Nat) (o : AOut) (h' : List Blk) : AEx → St → Prop
  | .normal, st | .ret, st => st.d = [] ∧ ∃ vs, resAs P st rs = some vs ∧ outOk n0 o (pack vs) st.h h'
  | .pan v, st => st.d = [] ∧ match o with
    | .ret _ => False
    | .pan x => Le n0 { t := [v], h := st.h, d := [] } { t := [x], h := h', d := [] }
  | _, _ => False
theorem ok_start (hmix : P.follows .mixedOrders = true) {f : FuncId} {fn : Func} {c : Code} (hf : P.funcs[f]? = some fn) (hn : (fn.name == "runtime.NumGoroutine") = false) (hb : fn.body = some c) {nt : Nat} (hnt : fn.ntmps = nt)
    {rs : List ResultVar} (hrs : fn.results.toList = rs) {args : List AV} {h : List Blk} {o : AOut} {h' : List Blk} {n0 k : Nat} (hn0 : h.length = n0) (ht : args.length + k = nt) {t0 : List AV} (htt : args ++ List.replicate k .undef = t0)
    (hw : awp P n0 c (retR P rs n0 o h') ⟨t0, h, []⟩) : Ok P f args h o h' := by
  subst hnt; subst hrs; subst hn0; subst htt
  refine ok_intro hmix hf hn hb (by omega) ?_
  have hk : fn.ntmps - args.length = k := by omega
  rw [hk]
  have e : retA P fn h.length o h' = retR P fn.results.toList h.length o h' := by
    funext e st
    cases e <;> rfl
  rw [e]
  exact hw
def finK (n0 : Nat) (vs : Option (List AV)) (o : AOut) (h h' : List Blk) : Prop := bO vs fun vs => outOk n0 o (pack vs) h h'
theorem retR_ret (rs : List ResultVar) (o : AOut) (h' : List Blk) (t : List AV) (h : List Blk) : retR P rs n0 o h' .ret ⟨t, h, []⟩ = finK n0 (resAs P ⟨t, h, []⟩ rs) o h h' := by
  simp only [retR, finK, true_and]
  cases resAs P ⟨t, h, []⟩ rs <;> simp [bO]
theorem retR_normal (rs : List ResultVar) (o : AOut) (h' : List Blk) (t : List AV) (h : List Blk) : retR P rs n0 o h' .normal ⟨t, h, []⟩ = finK n0 (resAs P ⟨t, h, []⟩ rs) o h h' := retR_ret rs o h' t h
theorem retR_pan (rs : List ResultVar) (v x : AV) (h' : List Blk) (t : List AV) (h : List Blk) : retR P rs n0 (.pan x) h' (.pan v) ⟨t, h, []⟩ = Le n0 { t := [v], h := h, d := [] } { t := [x], h := h', d := [] } := by
  simp [retR]
theorem resAs_nil : resAs P st [] = some [] := rfl
theorem resAs_cons (r : ResultVar) (l : List ResultVar) : resAs P st (r :: l) = cons2 (resA P st r) (resAs P st l) := by
  show (match resA P st r, resAs P st l with
  | some a, some as => some (a :: as)
  | _, _ => none) = _
  cases resA P st r <;> cases resAs P st l <;> rfl
theorem resA_tmp (k : Nat) : resA P st (.tmp k) = some (st.t.getD k .any) := rfl
theorem resA_cell (k : Nat) (T : TypeId) : resA P st (.cell k T) = (ldK P T st.h (st.t.getD k .any)).map Prod.fst := by
  show (tiOf P T).bind _ = _
  unfold ldK
  cases tiOf P T <;> simp
  rename_i i
  generalize ldA P i st.h _ = z
  cases z <;> rfl
theorem fin_one (v x : AV) (h h' : List Blk) : finK n0 (some [v]) (.ret x) h h' = Le n0 { t := [v], h := h, d := [] } { t := [x], h := h', d := [] } := rfl
theorem fin_none (x : AV) (h h' : List Blk) : finK n0 (some []) (.ret x) h h' = Le n0 { t := [.tuple []], h := h, d := [] } { t := [x], h := h', d := [] } := rfl
theorem fin_two (v u x : AV) (l : List AV) (h h' : List Blk) : finK n0 (some (v :: u :: l)) (.ret x) h h' = Le n0 { t := [.tuple (v :: u :: l)], h := h, d := [] } { t := [x], h := h', d := [] } := rfl

/-! ### Saying less -/
theorem le_eq {s s' : St} (h : s = s') : Le n0 s s' := h ▸ Le.refl n0 s
theorem le_to (keep frz : List Nat) {st st' : St} (hpre : keep.take n0 = List.range n0) (hnd : keep.Nodup) (hlt : ∀ i ∈ keep, i < st.h.length) (hdis : ∀ i ∈ frz, i ∉ keep)
    (hfl : ∀ i ∈ frz, ∃ es rows, st.h[i]? = some (.plain es rows)) (he : subSt keep frz st = st') : Le n0 st st' := he ▸ le_sub keep frz hpre hnd hlt hdis hfl
theorem le_flat {v : AV} {h : List Blk} (hv : flatA v = true) : Le 0 { t := [v], h := h, d := [] } { t := [v], h := [], d := [] } := by
  intro w0 S0 m0 w S m a hn hr
  obtain ⟨S', m', hr'⟩ := le_sub (n0 := 0) (st := { t := [v], h := h, d := [] }) [] [] rfl List.nodup_nil (fun i hi => by simp at hi) (fun i hi => by simp at hi) (fun i hi => by simp at hi) w0 S0 m0 w S m a hn hr
  refine ⟨S', m', hr'.heap, ⟨by simpa [subSt] using hr'.tmps.1, fun i u x hu hx => ?_⟩, hr'.defs, hr'.fr⟩
  cases i with
  | zero => simp at hx; subst hx; exact (hr.tmps.2 0 u v hu rfl).flat hv
  | succ i => simp at hx
theorem le_lst {id es off len : Nat} {h : List Blk} {rows xs : List (List FV)} (hb : h[id]? = some (.plain es rows)) (hl : off + len ≤ rows.length) (hx : (rows.drop off).take len = xs) :
    Le 0 { t := [.ref id es off len], h := h, d := [] } { t := [.fv (.lst es xs)], h := [], d := [] } := by
  subst hx
  refine le_to [] [id] rfl List.nodup_nil (fun i hi => by simp at hi) (fun i _ hi => by simp at hi) (fun i hi => by simp at hi; subst hi; exact ⟨es, rows, hb⟩) ?_
  simp [subSt, subAny, subA, mkSub, idx, hb, hl]
/-- Slots are forgotten. -/
def wk : List AV → List AV → Prop
  | [], [] => True
  | x :: t, y :: t' => (y = x ∨ y = .any) ∧ wk t t'
  | _, _ => False
theorem wk_get : ∀ {t t' : List AV}, wk t t' → t.length = t'.length ∧ ∀ (i : Nat) (y : AV), t'[i]? = some y → t[i]? = some y ∨ y = .any
  | [], [], _ => ⟨rfl, fun i y h => by simp at h⟩
  | x :: t, y :: t', h => by
    obtain ⟨h1, h2⟩ := h
    obtain ⟨e, ih⟩ := wk_get h2
    refine ⟨by simp [e], fun i z hz => ?_⟩
    cases i with
    | zero => simp at hz; subst hz; rcases h1 with h1 | h1 <;> simp [h1]
    | succ i => exact ih i z (by simpa using hz)
  | [], _ :: _, h => h.elim
  | _ :: _, [], h => h.elim
theorem le_wk {t t' : List AV} {h : List Blk} {d : List (FuncId × List AV × List AV)} (hw : wk t t') : Le n0 ⟨t, h, d⟩ ⟨t', h, d⟩ := fun w0 S0 m0 w S m a _ hr => by
  obtain ⟨e, hg⟩ := wk_get hw
  refine ⟨S, m, hr.heap, ⟨by rw [← e]; exact hr.tmps.1, fun i v y hv hy => ?_⟩, hr.defs, hr.fr⟩
  rcases hg i y hy with h1 | h1
  · exact hr.tmps.2 i v y hv h1
  · subst h1; exact .any v

/-! ### Loops -/
theorem awp_loop (c : Code) : awp P n0 (.loop c) Q st = LoopOk n0 (awp P n0 c) Q st := rfl
theorem least (p : Nat → Prop) (h : ∃ n, p n) : ∃ n, p n ∧ ∀ k, p k → n ≤ k := by
  obtain ⟨n, hn⟩ := h
  induction n using Nat.strongRecOn with
  | _ n ih =>
    by_cases hc : ∃ k, k < n ∧ p k
    · obtain ⟨k, hk, hp⟩ := hc
      exact ih k hk hp
    · exact ⟨n, hn, fun k hp => Nat.le_of_not_lt fun hlt => hc ⟨k, hlt, hp⟩⟩
open Classical in
noncomputable def rank {α : Type} (S : α → St) (pre : α → Prop) (μ : α → Nat) (s : St) : Nat :=
  if h : ∃ n, ∃ a, pre a ∧ S a = s ∧ μ a = n then (least _ h).choose else 0
def headOf {α : Type} (S : α → St) (pre : α → Prop) (s : St) : Prop := ∃ a, pre a ∧ S a = s
theorem rank_le {α : Type} {S : α → St} {pre : α → Prop} {μ : α → Nat} {a : α} (h : pre a) : rank S pre μ (S a) ≤ μ a := by
  have hx : ∃ n, ∃ b, pre b ∧ S b = S a ∧ μ b = n := ⟨_, a, h, rfl, rfl⟩
  rw [rank, dif_pos hx]
  exact (least _ hx).choose_spec.2 _ ⟨a, h, rfl, rfl⟩
theorem rank_at {α : Type} {S : α → St} {pre : α → Prop} {μ : α → Nat} {s : St} (h : headOf S pre s) : ∃ a, pre a ∧ S a = s ∧ μ a = rank S pre μ s := by
  obtain ⟨a, h1, h2⟩ := h
  have hx : ∃ n, ∃ b, pre b ∧ S b = s ∧ μ b = n := ⟨_, a, h1, h2, rfl⟩
  rw [rank, dif_pos hx]
  exact (least _ hx).choose_spec.1
/-- A round is over: the loop's head again, further on. -/
def backK {α : Type} (n0 : Nat) (S : α → St) (pre : α → Prop) (μ : α → Nat) (s : St) (s1 : St) : Prop := ∃ s2, Le n0 s1 s2 ∧ headOf S pre s2 ∧ rank S pre μ s2 < rank S pre μ s
theorem back_intro {α : Type} {S : α → St} {pre : α → Prop} {μ : α → Nat} {s s1 : St} {n : Nat} (hn : n = rank S pre μ s) (a : α) (hle : Le n0 s1 (S a)) (hp : pre a) (hlt : μ a < n) : backK n0 S pre μ s s1 :=
  ⟨S a, hle, ⟨a, hp, rfl⟩, by rw [← hn]; exact Nat.lt_of_le_of_lt (rank_le hp) hlt⟩
theorem loop_rule {α : Type} (S : α → St) (pre : α → Prop) (μ : α → Nat) {c : Code} (a0 : α) (h0 : Le n0 st (S a0)) (p0 : pre a0)
    (step : ∀ a, pre a → ∀ s, μ a = rank S pre μ s → awp P n0 c (AEx.then (backK n0 S pre μ s) Q) (S a)) : LoopOk n0 (awp P n0 c) Q st := by
  refine ⟨headOf S pre, rank S pre μ, ⟨S a0, h0, a0, p0, rfl⟩, fun s hs => ?_⟩
  obtain ⟨a, h1, h2, h3⟩ := rank_at (μ := μ) hs
  have := step a h1 s h3
  rw [h2] at this
  exact this
end
end Go.Abs
