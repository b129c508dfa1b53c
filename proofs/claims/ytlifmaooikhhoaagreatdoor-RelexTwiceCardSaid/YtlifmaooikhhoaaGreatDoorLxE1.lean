/- A number's text. -/
import Derived.WalkKit
import Derived.BigCall
import Derived.Test.YtlifmaooikhhoaaGreatDoorProg
namespace Go.Proofs
open Go.RowKit
set_option linter.unusedVariables false
set_option maxHeartbeats 1000000
set_option maxRecDepth 100000
def digS : List UInt8 := [48, 49, 50, 51, 52, 53, 54, 55, 56, 57]
theorem small_at (n : Nat) (hn : n < 10) (w : World) : Calls Tryz.prog 131 #[.int .i64 n] w fun e w' => e = .returned (.string ⟨#[(digS.getD n 0)]⟩) ∧ w' = w := by
  have h : n = 0 ∨ n = 1 ∨ n = 2 ∨ n = 3 ∨ n = 4 ∨ n = 5 ∨ n = 6 ∨ n = 7 ∨ n = 8 ∨ n = 9 := by omega
  rcases h with rfl | rfl | rfl | rfl | rfl | rfl | rfl | rfl | rfl | rfl
  all_goals (
    go_enter Tryz.func131, Tryz.ntmps131
    go_wp2
    go_ret
    exact ⟨rfl, rfl⟩)
theorem fmt_at (n : Nat) (hn : n < 10) (w : World) : Calls Tryz.prog 111 #[.int .i64 n, .int .i64 10] w fun e w' => e = .returned (.string ⟨#[(digS.getD n 0)]⟩) ∧ w' = w := by
  have h1 := small_at n hn w
  go_enter Tryz.func111, Tryz.ntmps111
  go_wp2_with (go_at_call 131; refine h1.mono ?_; rintro e w' ⟨rfl, rfl⟩)
  all_goals (go_wp2; go_ret; exact ⟨rfl, rfl⟩)
theorem itoa1_at (n : Nat) (hn : n < 10) (w : World) : Calls Tryz.prog 95 #[.int .i64 n] w fun e w' => e = .returned (.string ⟨#[(digS.getD n 0)]⟩) ∧ w' = w := by
  go_enter Tryz.func95, Tryz.ntmps95
  go_wp2_with (go_at_call 111; refine (fmt_at n hn w).mono ?_; rintro e w' ⟨rfl, rfl⟩)
  go_wp2
  go_ret
  exact ⟨rfl, rfl⟩
theorem itoa_at (n : Nat) (hn : n < 10) (w : World) : Calls Tryz.prog 80 #[.int .i64 n] w fun e w' => e = .returned (.string ⟨#[(digS.getD n 0)]⟩) ∧ w' = w := by
  go_enter Tryz.func80, Tryz.ntmps80
  go_wp2_with (go_at_call 95; refine (itoa1_at n hn w).mono ?_; rintro e w' ⟨rfl, rfl⟩)
  go_wp2
  go_ret
  exact ⟨rfl, rfl⟩
end Go.Proofs
