/- Contracts of range tests. -/
import Derived.Test.YtmphjojhfmikeaaProg
import Derived.Test.YtmphjojhfmikeaaBase
set_option linter.unusedVariables false
set_option linter.unusedSimpArgs false
namespace Go.Proofs.Ytmphjojhfmikeaa
open Go.RowKit

set_option maxHeartbeats 400000 in
theorem inRange_c (a lo hi : Int) (w : World) :
    Calls Try.prog 18 #[.int .i64 a, .int .i64 lo, .int .i64 hi] w fun e w' => e = .returned (.bool (decide (lo ≤ a ∧ a ≤ hi))) ∧ w = w' := by
  by_cases h1 : lo ≤ a
  · go_enter Try.func18, Try.ntmps18
    go_wp2
    go_ret
    exact ⟨ret_bool (by simp [h1]), rfl⟩
  · have h1' : decide (lo ≤ a) = false := by simpa using h1
    go_enter Try.func18, Try.ntmps18
    go_wp2
    go_ret
    exact ⟨ret_bool (by simp [h1]), rfl⟩
set_option maxHeartbeats 400000 in
theorem in_c (a lo hi : Int) (w : World) :
    Calls Try.prog 20 #[.int .i64 a, .int .i64 lo, .int .i64 hi] w fun e w' => e = .returned (.bool (decide (lo ≤ a ∧ a ≤ hi))) ∧ w = w' := by
  by_cases h1 : lo ≤ a
  · go_enter Try.func20, Try.ntmps20
    go_wp2
    go_ret
    exact ⟨ret_bool (by simp [h1]), rfl⟩
  · have h1' : decide (lo ≤ a) = false := by simpa using h1
    go_enter Try.func20, Try.ntmps20
    go_wp2
    go_ret
    exact ⟨ret_bool (by simp [h1]), rfl⟩
end Go.Proofs.Ytmphjojhfmikeaa
