/- Sets of bytes: the program's Parts, but for the sort. -/
import Derived.Test.YtablmjophjjabaaDoorBytesC
namespace Go.Abs
open Go.Proofs
set_option linter.unusedVariables false
set_option linter.unusedSimpArgs false
set_option maxRecDepth 100000
set_option maxHeartbeats 1000000
/-- A set as a row. -/
def srow (p : Nat → Bool) : List FV := [.int .u64 (wd p 0), .int .u64 (wd p 1), .int .u64 (wd p 2), .int .u64 (wd p 3)]
theorem srow_map (p : Nat → Bool) : (srow p).map .fv = sc p := rfl
theorem srow_len (p : Nat → Bool) : (srow p).length = 4 := rfl
def srows (l : List (Nat → Bool)) : List (List FV) := l.map srow
theorem srows_len (l : List (Nat → Bool)) : (srows l).length = l.length := by simp [srows]
theorem srows_get (l : List (Nat → Bool)) (i : Nat) (h : i < l.length) : (srows l)[i]? = some (srow l[i]) := by simp [srows, h]
theorem srows_append (a b : List (Nat → Bool)) : srows (a ++ b) = srows a ++ srows b := by simp [srows]
/-- Are two sets the same? -/
def same (p q : Nat → Bool) : Bool := (List.range 256).all fun b => p b == q b
theorem same_iff (p q : Nat → Bool) : same p q = true ↔ ∀ b, b < 256 → p b = q b := by simp [same, List.all_eq_true]
theorem agg25 : aggTy Tryd.prog 25 = some [.int .u64, .int .u64, .int .u64, .int .u64] := by kernel_rfl
theorem toFs_sc (p : Nat → Bool) : toFs (sc p) = some (srow p) := rfl
theorem same_eqR (p q : Nat → Bool) : eqR (srow p) (srow q) = same p q := by
  have hw : ∀ i, i < 4 → ((wd p i : Int) == wd q i) = true → ∀ b, b / 64 = i → p b = q b := fun i hi h b hb => by
    have h1 : wd p i = wd q i := by have := beq_iff_eq.1 h; omega
    have h2 := wd_inj h1 (b % 64) (Nat.mod_lt _ (by omega))
    rwa [show 64 * i + b % 64 = b from by omega] at h2
  rw [Bool.eq_iff_iff]
  rw [same_iff]
  simp only [srow, eqR, eqC, Bool.and_true, Bool.and_eq_true]
  constructor
  · rintro ⟨h0, h1, h2, h3⟩ b hb
    rcases (by omega : b / 64 = 0 ∨ b / 64 = 1 ∨ b / 64 = 2 ∨ b / 64 = 3) with h | h | h | h
    · exact hw 0 (by omega) h0 b h
    · exact hw 1 (by omega) h1 b h
    · exact hw 2 (by omega) h2 b h
    · exact hw 3 (by omega) h3 b h
  · intro h
    have hk : ∀ i, i < 4 → ((wd p i : Int) == wd q i) = true := fun i hi => by
      rw [wd_congr (p := p) (q := q) (i := i) fun j hj => h _ (by omega)]
      exact beq_self_eq_true _
    exact ⟨hk 0 (by omega), hk 1 (by omega), hk 2 (by omega), hk 3 (by omega)⟩
theorem eqA_sc (p q : Nat → Bool) (one : Bool) : eqA Tryd.prog 25 one (.agg (sc p)) (.agg (sc q)) = some (same p q) := by
  have h1 : conf [.int .u64, .int .u64, .int .u64, .int .u64] (srow p) = true := rfl
  have h2 : conf [.int .u64, .int .u64, .int .u64, .int .u64] (srow q) = true := rfl
  simp only [eqA, ty25, agg25, toFs_sc, isAgg_array, h1, h2, Bool.and_self, if_true, same_eqR]
theorem eql_sc (p q : Nat → Bool) (one : Bool) : binA Tryd.prog .eql 25 one (.agg (sc p)) (.agg (sc q)) = some (.fv (.bool (same p q))) := by
  simp only [binA, eqA_sc, negB]
theorem neq_sc (p q : Nat → Bool) (one : Bool) : binA Tryd.prog .neq 25 one (.agg (sc p)) (.agg (sc q)) = some (.fv (.bool (!same p q))) := by
  simp only [binA, eqA_sc, negB]
theorem same_refl (p : Nat → Bool) : same p p = true := (same_iff p p).2 fun _ _ => rfl
/-- Has a set nothing? -/
def emp (p : Nat → Bool) : Bool := same p (fun _ => false)
/-- One set parts the others. -/
def part1 (p s : Nat → Bool) : List (Nat → Bool) := [fun b => p b && s b, fun b => p b && !s b].filter fun q => !emp q
def partS (out : List (Nat → Bool)) (s : Nat → Bool) : List (Nat → Bool) := out.flatMap fun p => part1 p s
def partsOf (l : List (Nat → Bool)) : List (Nat → Bool) := l.foldl partS [fun _ => true]
theorem bsE_sc (h : List Blk) (p : Nat → Bool) : bsE (some ⟨.array 4 23, 4, 32, some [.int .u64 0, .int .u64 0, .int .u64 0, .int .u64 0]⟩) 1 h (some [(0, .agg (sc p))]) = some (.ref h.length 4 0 1, h ++ [.plain 4 [srow p]], []) :=
  bsE_r1 32 (.array 4 23) 4 [.int .u64 0, .int .u64 0, .int .u64 0, .int .u64 0] (srow p) h rfl (by omega) (by omega) rfl
theorem sp8a (p : Nat → Bool) : splice [AV.fv (.int .u64 0), .fv (.int .u64 0), .fv (.int .u64 0), .fv (.int .u64 0), .fv (.int .u64 0), .fv (.int .u64 0), .fv (.int .u64 0), .fv (.int .u64 0)] 0 (sc p) = some (sc p ++ sc (fun _ => false)) := by
  rw [sc_zero]; rfl
theorem sp8b (p q r : Nat → Bool) : splice (sc p ++ sc r) 4 (sc q) = some (sc p ++ sc q) := rfl
theorem tk0 (p q : Nat → Bool) : (sc p ++ sc q).take 4 = sc p := rfl
theorem tk4 (p q : Nat → Bool) : ((sc p ++ sc q).drop 4).take 4 = sc q := rfl
theorem sc2_len (p q : Nat → Bool) : (sc p ++ sc q).length = 8 := rfl
theorem stp_len (p : Nat → Bool) (s : Nat → Bool) : (part1 p s).length ≤ 2 := List.length_filter_le _ _
theorem stp_one (p s : Nat → Bool) : part1 p s = (if emp (fun b => p b && s b) then [] else [fun b => p b && s b]) ++ (if emp (fun b => p b && !s b) then [] else [fun b => p b && !s b]) := by
  unfold part1
  cases h1 : emp (fun b => p b && s b) <;> cases h2 : emp (fun b => p b && !s b) <;> simp [h1, h2]
/-- The first k of the two. -/
def two (p s : Nat → Bool) (k : Nat) : List (Nat → Bool) := ([fun b => p b && s b, fun b => p b && !s b].take k).filter fun q => !emp q
theorem two2 (p s : Nat → Bool) : two p s 2 = part1 p s := rfl
theorem two0 (p s : Nat → Bool) : two p s 0 = [] := rfl
theorem srow_one (p : Nat → Bool) : [srow p] = srows [p] := rfl
end Go.Abs
