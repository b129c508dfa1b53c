/- What is known behind an edit: the program's. -/
import Derived.Test.YtlifmaooikhhoaaGreatDoorTyTryzx
import Derived.Test.YtlifmaooikhhoaaGreatDoorDrTryzx
import Derived.Test.YtlifmaooikhhoaaGreatDoorLyCx
import Derived.Test.YtlifmaooikhhoaaGreatDoorLzA
namespace Go.Abs
open Go.Proofs
set_option linter.unusedVariables false
set_option linter.unusedSimpArgs false
set_option maxRecDepth 100000
set_option maxHeartbeats 8000000
section
variable {P : Program} {ops : Array Oper} {Q : AEx → St → Prop} {st : St} (hs : Held) (i : Nat) (d : Option Tmp) (c : Cont)
theorem opK_mm (T : TypeId) : opK P ops Q (.makeMap T none) hs i d c st = effK P ops Q (some (.mp st.h.length, st.h ++ [.map []], [])) hs i d c st := opK_of_eff hs i d c (fun _ => rfl) rfl rfl rfl
def lkK (P : Program) (X : TypeId) (h : List Blk) (vx vk : Option AV) (ok : Bool) : Option (AV × List Blk × List Nat) := match tiOf P X with
    | some { desc := .map K E, .. } => match tiOf P K, tiOf P E with
      | some ik, some _ => vx.bind fun mv => vk.bind fun kv => match kv with
        | .fv kf => if keyD ik.desc kf then (mapOf h mv).bind fun es => (findA kf es 0).bind fun r => (lookA P E ok r).map fun v => (v, h, []) else none
        | _ => none
      | _, _ => none
    | _ => none
theorem opK_lk (X : TypeId) (x k : Operand) (ok : Bool) : opK P ops Q (.lookup X x k ok) hs i d c st = effK P ops Q (lkK P X st.h (ev st.t x) (ev st.t k) ok) hs i d c st := opK_of_eff hs i d c (fun _ => rfl) rfl rfl rfl
def muK (P : Program) (X : TypeId) (h : List Blk) (vx vk vy : Option AV) : Option (AV × List Blk × List Nat) := match tiOf P X with
    | some { desc := .map K _, .. } => match tiOf P K with
      | some ik => vx.bind fun mv => vk.bind fun kv => vy.bind fun v => match mv, kv with
        | .mp id, .fv kf => match h[id]? with
          | some (.map es) => if keyD ik.desc kf then (findA kf es 0).map fun r => (.undef, h.set id (.map (putE kf v es r)), [id]) else none
          | _ => none
        | _, _ => none
      | none => none
    | _ => none
theorem opK_mu (X : TypeId) (x k y : Operand) : opK P ops Q (.mapUpdate X x k y) hs i d c st = effK P ops Q (muK P X st.h (ev st.t x) (ev st.t k) (ev st.t y)) hs i d c st := opK_of_eff hs i d c (fun _ => rfl) rfl rfl rfl
end
def lkB (P : Program) (E : TypeId) (h : List Blk) (o : Option Blk) (n : Int) : Option (AV × List Blk × List Nat) := match o with
  | some (.map es) => (findA (.int .i64 n) es 0).bind fun r => (lookA P E true r).map fun v => (v, h, [])
  | _ => none
theorem lk_red {P : Program} {X K E : TypeId} {a b a' b' : Nat} {z z' : Option (List FV)} {iE : TI} (hX : tiOf P X = some ⟨.map K E, a, b, z⟩) (hK : tiOf P K = some ⟨.int .i64, a', b', z'⟩) (hE : tiOf P E = some iE) (h : List Blk) (id : Nat) (n : Int) :
    lkK P X h (some (.mp id)) (some (.fv (.int .i64 n))) true = lkB P E h h[id]? n := by
  simp only [lkK, hX, hK, hE, Option.bind_some, keyD, beq_self_eq_true, if_true, mapOf]
  unfold lkB
  cases h[id]? with
  | none => rfl
  | some k => cases k <;> rfl
theorem lkB_map {P : Program} {E : TypeId} (h : List Blk) (es : List (FV × AV)) (n : Int) : lkB P E h (some (.map es)) n = (findA (.int .i64 n) es 0).bind fun r => (lookA P E true r).map fun v => (v, h, []) := rfl
def muB (h : List Blk) (o : Option Blk) (id : Nat) (n : Int) (v : AV) : Option (AV × List Blk × List Nat) := match o with
  | some (.map es) => (findA (.int .i64 n) es 0).map fun r => (.undef, h.set id (.map (putE (.int .i64 n) v es r)), [id])
  | _ => none
theorem mu_red {P : Program} {X K E : TypeId} {a b a' b' : Nat} {z z' : Option (List FV)} (hX : tiOf P X = some ⟨.map K E, a, b, z⟩) (hK : tiOf P K = some ⟨.int .i64, a', b', z'⟩) (h : List Blk) (id : Nat) (n : Int) (v : AV) :
    muK P X h (some (.mp id)) (some (.fv (.int .i64 n))) (some v) = muB h h[id]? id n v := by
  simp only [muK, hX, hK, Option.bind_some, keyD, beq_self_eq_true, if_true]
  unfold muB
  cases h[id]? with
  | none => rfl
  | some k => cases k <;> rfl
theorem muB_map (h : List Blk) (es : List (FV × AV)) (id : Nat) (n : Int) (v : AV) : muB h (some (.map es)) id n v = (findA (.int .i64 n) es 0).map fun r => (.undef, h.set id (.map (putE (.int .i64 n) v es r)), [id]) := rfl
theorem zero_int : zeroV Tryz.prog 3 = some (.fv (.int .i64 0)) := by kernel_rfl
theorem look_none : lookA Tryz.prog 3 true none = some (.tuple [.fv (.int .i64 0), .fv (.bool false)]) := by simp [lookA, zero_int]
theorem look_some (j : Nat) (v : AV) : lookA Tryz.prog 3 true (some (j, v)) = some (.tuple [v, .fv (.bool true)]) := rfl
theorem putE_none (k : FV) (v : AV) (es : List (FV × AV)) : putE k v es none = es ++ [(k, v)] := rfl
theorem enc_snoc (l : List (Int × Nat)) (k : Int) (n : Nat) : l.map enc ++ [(FV.int .i64 k, AV.fv (.int .i64 (n : Nat)))] = (l ++ [(k, n)]).map enc := by simp [enc]
theorem le_nil3t {n0 : Nat} (k j : Nat) (x y z : AV) (h : List Blk) : Le n0 ⟨[.tuple [.agg [.fv .nils, .fv .nils, x], y, z]], h, []⟩ ⟨[.tuple [.agg [.fv (.lst k []), .fv (.lst j []), x], y, z]], h, []⟩ := by
  intro w0 S0 m0 w S m a hn hr
  refine ⟨S, m, ⟨hr.heap, ⟨hr.tmps.1, fun i v q hv hy => ?_⟩, hr.defs, hr.fr⟩⟩
  cases i with
  | zero =>
    have h0 := hr.tmps.2 0 v _ hv rfl
    simp only [List.getElem?_cons_zero, Option.some.injEq] at hy
    subst hy
    cases h0 with
    | tuple vs cs hs hc =>
      refine .tuple vs _ hs (fun i u q hu hz => ?_)
      match i with
      | 0 =>
        simp at hz
        subst hz
        have h1 := hc 0 u _ hu rfl
        cases h1 with
        | agg us cs hs2 hc2 =>
          refine .agg us _ hs2 (fun i u2 q hu2 hz2 => ?_)
          match i with
          | 0 => simp at hz2; subst hz2; exact nils_lst k (hc2 0 u2 _ hu2 rfl)
          | 1 => simp at hz2; subst hz2; exact nils_lst j (hc2 1 u2 _ hu2 rfl)
          | 2 => exact hc2 2 u2 q hu2 (by simpa using hz2)
          | i + 3 => simp at hz2
      | 1 => exact hc 1 u q hu (by simpa using hz)
      | 2 => exact hc 2 u q hu (by simpa using hz)
      | i + 3 => simp at hz
  | succ i => simp at hy
def Aut.editM (d : Aut) (s : Bs) (e : Edt) : (List Tok × Int) × Int × Int :=
  if (applyE s e).2 = 0 then ((d.editR (d.allF s 0) s (e.done s) e).1, ((d.editR (d.allF s 0) s (e.done s) e).2 : Int), 0) else (([], 0), 0, (applyE s e).2)
def Aut.editO (d : Aut) (s : Bs) (k : Knw) (e : Edt) : (List Tok × Int) × Int × Int := if d.rightB = true ∧ k = knw (d.all s) then d.editM s e else (([], 0), 0, 10)
theorem Aut.editR_eq {d : Aut} {k : List Tok × Int} {s t : Bs} {e : Edt} : d.editR k s t e = ((k.1.take (frontN k.1 e.at_) ++ (d.editF k (e.at_ + e.len) ((t.length : Int) - s.length) (t.drop (endT (k.1.take (frontN k.1 e.at_)) 0)) (endT (k.1.take (frontN k.1 e.at_)) 0) 0).1.1,
    (d.editF k (e.at_ + e.len) ((t.length : Int) - s.length) (t.drop (endT (k.1.take (frontN k.1 e.at_)) 0)) (endT (k.1.take (frontN k.1 e.at_)) 0) 0).1.2), (d.editF k (e.at_ + e.len) ((t.length : Int) - s.length) (t.drop (endT (k.1.take (frontN k.1 e.at_)) 0)) (endT (k.1.take (frontN k.1 e.at_)) 0) 0).2) := by
  unfold Aut.editR Aut.editF
  simp only
  rw [Aut.editG_fuel t.length _ _ _ (by rw [List.length_drop]; omega)]
end Go.Abs
