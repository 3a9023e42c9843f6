/- Contracts of range tests. -/
import Derived.Test.YtmphjojhfmikeaaDoorProg
import Derived.Test.YtmphjojhfmikeaaDoorBase
set_option linter.unusedVariables false
set_option linter.unusedSimpArgs false
namespace Go.Proofs.YtmphjojhfmikeaaDoor
open Go.RowKit

set_option maxHeartbeats 400000 in
theorem inRange_c (a lo hi : Int) (w : World) :
    Calls Tryd.prog 37 #[.int .i64 a, .int .i64 lo, .int .i64 hi] w fun e w' => e = .returned (.bool (decide (lo ≤ a ∧ a ≤ hi))) ∧ w = w' := by
  by_cases h1 : lo ≤ a
  · go_enter Tryd.func37, Tryd.ntmps37
    go_wp2
    go_ret
    exact ⟨ret_bool (by simp [h1]), rfl⟩
  · have h1' : decide (lo ≤ a) = false := by simpa using h1
    go_enter Tryd.func37, Tryd.ntmps37
    go_wp2
    go_ret
    exact ⟨ret_bool (by simp [h1]), rfl⟩
set_option maxHeartbeats 400000 in
theorem in_c (a lo hi : Int) (w : World) :
    Calls Tryd.prog 29 #[.int .i64 a, .int .i64 lo, .int .i64 hi] w fun e w' => e = .returned (.bool (decide (lo ≤ a ∧ a ≤ hi))) ∧ w = w' := by
  by_cases h1 : lo ≤ a
  · go_enter Tryd.func29, Tryd.ntmps29
    go_wp2
    go_ret
    exact ⟨ret_bool (by simp [h1]), rfl⟩
  · have h1' : decide (lo ≤ a) = false := by simpa using h1
    go_enter Tryd.func29, Tryd.ntmps29
    go_wp2
    go_ret
    exact ⟨ret_bool (by simp [h1]), rfl⟩
end Go.Proofs.YtmphjojhfmikeaaDoor
