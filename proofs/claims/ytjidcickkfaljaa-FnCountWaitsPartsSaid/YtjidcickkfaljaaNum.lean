/- Contracts of range tests. -/
import Derived.Test.YtjidcickkfaljaaProg
import Derived.Test.YtjidcickkfaljaaBase
set_option linter.unusedVariables false
set_option linter.unusedSimpArgs false
namespace Go.Proofs.Ytjidcickkfaljaa
open Go.RowKit

set_option maxHeartbeats 400000 in
theorem inRange_c (a lo hi : Int) (w : World) :
    Calls Try.prog 31 #[.int .i64 a, .int .i64 lo, .int .i64 hi] w fun e w' => e = .returned (.bool (decide (lo ≤ a ∧ a ≤ hi))) ∧ w = w' := by
  by_cases h1 : lo ≤ a
  · go_enter Try.func31, Try.ntmps31
    go_wp2
    go_ret
    exact ⟨ret_bool (by simp [h1]), rfl⟩
  · have h1' : decide (lo ≤ a) = false := by simpa using h1
    go_enter Try.func31, Try.ntmps31
    go_wp2
    go_ret
    exact ⟨ret_bool (by simp [h1]), rfl⟩
set_option maxHeartbeats 400000 in
theorem in_c (a lo hi : Int) (w : World) :
    Calls Try.prog 34 #[.int .i64 a, .int .i64 lo, .int .i64 hi] w fun e w' => e = .returned (.bool (decide (lo ≤ a ∧ a ≤ hi))) ∧ w = w' := by
  by_cases h1 : lo ≤ a
  · go_enter Try.func34, Try.ntmps34
    go_wp2
    go_ret
    exact ⟨ret_bool (by simp [h1]), rfl⟩
  · have h1' : decide (lo ≤ a) = false := by simpa using h1
    go_enter Try.func34, Try.ntmps34
    go_wp2
    go_ret
    exact ⟨ret_bool (by simp [h1]), rfl⟩
set_option maxHeartbeats 400000 in
theorem isTime_c (a : Int) (w : World) :
    Calls Try.prog 45 #[.int .i64 a] w fun e w' => e = .returned (.bool (decide (0 ≤ a ∧ a ≤ 1000))) ∧ w = w' := by
  go_enter Try.func45, Try.ntmps45
  go_wp2_with fail
  refine (in_c _ _ _ _).mono ?_
  rintro e w' ⟨rfl, rfl⟩
  go_wp2_with fail
  go_ret
  exact ⟨ret_bool (by simp), rfl⟩
end Go.Proofs.Ytjidcickkfaljaa
