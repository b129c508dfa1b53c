/- A list's text. -/
import Derived.Test.YtlifmaooikhhoaaGreatDoorLxE0
import Derived.Test.YtlifmaooikhhoaaGreatDoorLxE1
import Derived.Test.YtlifmaooikhhoaaGreatDoorLxLay
import Derived.WalkKit
import Derived.BigCall
import Derived.BigGuard
namespace Go.Proofs
open Go.RowKit
set_option linter.unusedVariables false
set_option maxHeartbeats 2000000
set_option maxRecDepth 100000
def keyT (zs : List Int) : List UInt8 := zs.flatMap fun n => [digS.getD n.toNat 0, 44]
theorem keyT_succ (zs : List Int) (k : Nat) (h : k < zs.length) : keyT (zs.take (k + 1)) = keyT (zs.take k) ++ [digS.getD zs[k].toNat 0] ++ [44] := by
  unfold keyT
  rw [List.take_succ_eq_append_getElem h, List.flatMap_append]
  simp
theorem keyT_len (zs : List Int) : (keyT zs).length = 2 * zs.length := by
  unfold keyT
  induction zs with
  | nil => rfl
  | cons x l ih => rw [List.flatMap_cons, List.length_append, ih]; simp; omega
theorem key_at (a : Option Addr) (cap : Nat) (zs : List Int) (hz : ∀ n ∈ zs, 0 ≤ n ∧ n < 10) (hl : zs.length < 1000000) (w : World) (B : Nat) (hB : B ≤ w.heap.size)
    (hc : ∀ j, j < zs.length → ∃ b off, a = some ⟨b, off, none⟩ ∧ b < B ∧ w.cell? ⟨b, off + j, none⟩ = some (.int .i64 (zs[j]?.getD 0))) :
    Calls Tryz.prog 58 #[.slice a zs.length cap] w fun e w' => e = .returned (.string ⟨(keyT zs).toArray⟩) ∧ Below B w w' := by
  have h0 : Lib.IsBuilder 151 5 w.heap.size w.heap.size [] (w.alloc (.cells #[.pointer none, .slice none 0 0] 151)) := Lib.fresh_isBuilder 151 5 w
  have b0 : Below w.heap.size w (w.alloc (.cells #[.pointer none, .slice none 0 0] 151)) := (Below.refl _ w).alloc (Nat.le_refl _) _
  go_enter Tryz.func58, Tryz.ntmps58
  go_wp2_with fail
  go_loopw [8] (fun i wr => ∃ k : Nat, k ≤ zs.length ∧ i = .int .i64 k ∧ Hid (Lib.IsBuilder 151 5 w.heap.size w.heap.size (Lib.byteCells (keyT (zs.take k))) wr) ∧ Hid (Below w.heap.size w wr)) (fun i _ => zs.length - (intOf i).toNat)
  case atStart => exact ⟨0, Nat.zero_le _, rfl, h0, b0⟩
  case round =>
    obtain ⟨k, hk, rfl, HB, HW⟩ := hrel
    by_cases hkr : k < zs.length
    · obtain ⟨b, off, rfl, hb, hcell⟩ := hc k hkr
      have hcw : wr.cell? ⟨b, off + k, none⟩ = some (.int .i64 (zs[k]?.getD 0)) := by rw [HW.out.cell (p := ⟨b, off + k, none⟩) (by show b < w.heap.size; omega)]; exact hcell
      have hzk := hz zs[k] (List.getElem_mem hkr)
      rw [List.getElem?_eq_getElem hkr, Option.getD_some] at hcw
      have hsucc := keyT_succ zs k hkr
      have hlk := keyT_len (zs.take k)
      rw [List.length_take_of_le hk] at hlk
      generalize zs[k] = z at hcw hzk hsucc
      obtain ⟨n, rfl⟩ : ∃ n : Nat, z = n := ⟨z.toNat, by omega⟩
      simp only [Int.toNat_natCast] at hsucc
      have hBw : w.heap.size ≤ wr.heap.size := HW.out.size
      go_wp2_with (go_at_call 80; refine (itoa_at n (by omega) wr).mono ?_; rintro e w' ⟨rfl, rfl⟩)
      refine (bld_string w.heap.size w.heap.size _ ⟨#[digS.getD n 0]⟩ _ HB.out (by rw [Lib.byteCells_length, hlk]; show 2 * k + 1 ≤ _; omega) hBw).mono ?_
      rintro e w3 ⟨rfl, h3, hb3⟩
      have hBw3 : w.heap.size ≤ w3.heap.size := Nat.le_trans hBw hb3.size
      go_wp2_with fail
      refine (bld_byte w.heap.size w.heap.size _ 44 w3 (Or.inr h3) (by rw [List.length_append, Lib.byteCells_length, hlk, Lib.strCells_length]; show 2 * k + 1 + 1 ≤ _; omega) hBw3).mono ?_
      rintro e w4 ⟨rfl, h4, hb4⟩
      have hn2 : Lib.byteCells (keyT (zs.take k)) ++ Lib.strCells ⟨#[digS.getD n 0]⟩ ++ [.int .u8 44] = Lib.byteCells (keyT (zs.take (k + 1))) := by
        rw [hsucc, Lib.byteCells_append, Lib.byteCells_append, Lib.strCells_eq]
        rfl
      rw [hn2] at h4
      have H4 : Hid (Lib.IsBuilder 151 5 w.heap.size w.heap.size (Lib.byteCells (keyT (zs.take (k + 1)))) w4) := Or.inr h4
      have Hb4 : Hid (Below w.heap.size w w4) := (HW.out.trans hb3).trans hb4
      go_wp2
      exact ⟨⟨k + 1, by omega, by go_num, H4, Hb4⟩, by simp [intOf]; omega⟩
    · have hke : k = zs.length := by omega
      subst hke
      have hB' := HB.out
      rw [List.take_length] at hB'
      have hBw : w.heap.size ≤ wr.heap.size := HW.out.size
      go_wp2_with fail
      refine (Tryz.Builder_String_any w.heap.size w.heap.size _ wr hB' hBw).mono ?_
      rintro e w5 ⟨rfl, hb5⟩
      have Hb5 : Hid (Below B w w5) := (HW.out.trans hb5).mono hB
      go_wp2
      go_ret
      exact ⟨rfl, Hb5.out⟩
end Go.Proofs
