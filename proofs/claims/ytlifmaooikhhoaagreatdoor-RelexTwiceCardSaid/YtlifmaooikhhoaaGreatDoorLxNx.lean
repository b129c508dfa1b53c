/- What the listed variables hold, for the machine. -/
import Derived.Test.YtlifmaooikhhoaaGreatDoorTyTryzx
import Derived.Test.YtlifmaooikhhoaaGreatDoorTopRx
import Derived.Test.YtlifmaooikhhoaaGreatDoorLxA
import Derived.Test.YtlifmaooikhhoaaGreatDoorTie
import Derived.WalkKit
import Derived.ProofKit
import Derived.OpenShut
import Derived.Below
import Derived.LaidMore
import Derived.Stop.Joined
namespace Go.Abs
open Go.Proofs Go.RowKit Go.Proofs.YtlifmaooikhhoaaGreatDoor Go.ChangeShapes Go.WideShapes Go.ChangeAt
set_option maxRecDepth 100000
def tab64 : List Nat := [0, 1, 56, 2, 57, 49, 28, 3, 61, 58, 42, 50, 38, 29, 17, 4, 62, 47, 59, 36, 45, 43, 51, 22, 53, 39, 33, 30, 24, 18, 12, 5, 63, 55, 48, 27, 60, 41, 37, 16, 46, 35, 44, 21, 52, 32, 23, 11, 54, 26, 40, 15, 34, 20, 31, 10, 25, 14, 19, 9, 13, 8, 7, 6]
theorem gn64 : Tryz.prog.globalNamed "math/bits.deBruijn64tab" = some 0 := by kernel_rfl
theorem gt64 : (Tryz.prog.globals[0]?).map (·.type) = some 181 := by kernel_rfl
theorem g0tab : gdata Tryz.prog 0 = some (tab64.map fun n : Nat => FV.int .u8 (n : Int)) := by kernel_rfl
theorem gonly : ((List.range Tryz.prog.globals.size).all fun g => (gdata Tryz.prog g).isNone || g == 0) = true := by kernel_rfl
theorem gbound (g : Nat) (row : List FV) (h : gdata Tryz.prog g = some row) : g = 0 ∧ row = tab64.map fun n : Nat => FV.int .u8 (n : Int) := by
  have hlt : g < Tryz.prog.globals.size := by
    rcases Nat.lt_or_ge g Tryz.prog.globals.size with h1 | h1
    · exact h1
    · unfold gdata at h
      rw [Array.getElem?_eq_none h1] at h
      cases h
  have h2 := List.all_eq_true.1 gonly g (List.mem_range.2 hlt)
  rw [h] at h2
  have h3 : g = 0 := by simpa using h2
  subst h3
  rw [g0tab] at h
  exact ⟨rfl, (Option.some.inj h).symm⟩
theorem laid64 : (Rows.laid_math_bits_deBruijn64tab : DataW Unit) = .agg (tab64.map fun n : Nat => .lit (.int .u8 (n : Int))) := by kernel_rfl
theorem gok {W : World} (h : laidMetH Tryz.prog [("math/bits.deBruijn32tab", Rows.laid_math_bits_deBruijn32tab), ("math/bits.deBruijn64tab", Rows.laid_math_bits_deBruijn64tab), ("internal/strconv.uint64pow10", Rows.laid_internal_strconv_uint64pow10)] W) : GOk Tryz.prog W (fun b => b < W.heap.size) := by
  rw [MakeChecks.laidMetH_plain _ _ _ (by kernel_rfl)] at h
  obtain ⟨ps, ⟨_, _, _, _, _, _, _, _, _, _, ⟨g0', t0, cs0, f0, p0, q0, hg0, ht0, hv0, hd0, _, _⟩, _⟩, _, _⟩ := h
  obtain rfl := Option.some.inj (gn64.symm.trans hg0)
  obtain rfl := Option.some.inj (gt64.symm.trans ht0)
  obtain ⟨xs, m, rfl, hx, hlen, hn, hel⟩ := DataW.trod_array Tryz.underlying181 hd0
  intro g row hg
  obtain ⟨rfl, rfl⟩ := gbound g row hg
  have c5 : Tryz.prog.cellsOf 5 = 1 := by kernel_rfl
  have hx1 : xs.map (·.1) = tab64.map fun n : Nat => DataW.lit (.int .u8 (n : Int)) := by
    have h1 : (Rows.laid_math_bits_deBruijn64tab : DataW Unit) = .agg (xs.map (·.1)) := congrArg Prod.fst hx
    rw [laid64] at h1
    injection h1 with h1
    exact h1.symm
  have hcell : ∀ j, j < 64 → W.cell? ⟨0, j, none⟩ = some (.int .u8 ((tab64.getD j 0 : Nat) : Int)) := fun j hj => by
    have h1 := hel j hj
    rw [c5, Nat.mul_one] at h1
    have hjx : j < xs.length := by omega
    rw [List.getElem?_eq_getElem hjx] at h1
    obtain ⟨k, e1, e2, _⟩ := DataW.trod_int Tryz.underlying5 h1
    have h2 := congrArg (fun l => l[j]?) hx1
    simp only [List.getElem?_map, List.getElem?_eq_getElem hjx, e2, Option.map_some] at h2
    have htl : j < tab64.length := hj
    rw [List.getElem?_eq_getElem htl] at h2
    simp only [Option.map_some, Option.some.injEq, DataW.lit.injEq, Lit.int.injEq, true_and] at h2
    have h3 := World.var?_cell hg0 hv0 j
    rw [h3]
    have h4 : (cs0.toList.drop j)[0]? = some (.int .u8 k) := by
      have h5 := congrArg (fun l => l[0]?) e1
      simpa [List.getElem?_take] using h5
    rw [List.getElem?_drop, Nat.add_zero] at h4
    rw [← Array.getElem?_toList, h4, h2, List.getD_eq_getElem?_getD, List.getElem?_eq_getElem htl]
    rfl
  refine .fptr _ _ (fun j => .int .u8 ((tab64.getD j 0 : Nat) : Int)) ?_ (fun j hj => ?_) (fun j x hx => ?_)
  · have := block_of_cell? (hcell 0 (by omega))
    exact this
  · have hj' : j < 64 := by rw [List.length_map] at hj; exact hj
    have := hcell j hj'
    rw [show (⟨0, 0, none⟩ : Addr).add j = ⟨0, j, none⟩ by unfold Addr.add; simp; omega]
    exact this
  · simp only [List.getElem?_map, Option.map_eq_some_iff] at hx
    obtain ⟨n, hn, rfl⟩ := hx
    rw [List.getD_eq_getElem?_getD, hn]
    exact .int _ _
/-- The door's own heap meets the condition: three closed facts. -/
theorem door_met (os : Os) (args : Array Value) : laidMetH Tryz.prog [("math/bits.deBruijn32tab", Rows.laid_math_bits_deBruijn32tab), ("math/bits.deBruijn64tab", Rows.laid_math_bits_deBruijn64tab), ("internal/strconv.uint64pow10", Rows.laid_internal_strconv_uint64pow10)] ((World.doorLaid Tryz.prog 400 os).forCall (fun _ _ => 0) ⟨#[], args, []⟩).memory :=
  laidMetH_of_parts3 (fuel := 8) (laidMet_of_run' 8 (by kernel_rfl) (by kernel_rfl)) (by kernel_rfl) (by kernel_rfl)
end Go.Abs
