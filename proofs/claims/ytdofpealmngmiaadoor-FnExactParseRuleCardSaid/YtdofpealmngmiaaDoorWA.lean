/- Walks: ranges and valid histories. Conditions: none. -/
import Derived.Test.YtdofpealmngmiaaDoorRows
import Derived.Test.YtdofpealmngmiaaDoorPure
import Derived.Deep.QuietTactic
import Derived.BigQuiet
import Derived.Handy
namespace Go.Proofs.YtdofpealmngmiaaDoor
open Go.RowKit

set_option maxHeartbeats 400000 in
theorem within_any (n lo hi : Int) (w : World) :
    Calls Tryd.prog 35 #[.int .i64 n, .int .i64 lo, .int .i64 hi] w fun e w' => e = .returned (.bool (wi n lo hi)) ∧ w' = w := by
  go_enter Tryd.func35, Tryd.ntmps35
  go_wp2
  all_goals go_ret
  · have h : lo ≤ n := by assumption
    exact ⟨by simp [wi, h], rfl⟩
  · have h : n < lo := by assumption
    exact ⟨by simp [wi, show ¬ lo ≤ n by omega], rfl⟩

set_option maxHeartbeats 400000 in
theorem inRange_any (n lo hi : Int) (w : World) :
    Calls Tryd.prog 50 #[.int .i64 n, .int .i64 lo, .int .i64 hi] w fun e w' => e = .returned (.bool (wi n lo hi)) ∧ w' = w := by
  go_enter Tryd.func50, Tryd.ntmps50
  go_wp2
  all_goals go_ret
  · have h : lo ≤ n := by assumption
    exact ⟨by simp [wi, h], rfl⟩
  · have h : n < lo := by assumption
    exact ⟨by simp [wi, show ¬ lo ≤ n by omega], rfl⟩

end Go.Proofs.YtdofpealmngmiaaDoor
