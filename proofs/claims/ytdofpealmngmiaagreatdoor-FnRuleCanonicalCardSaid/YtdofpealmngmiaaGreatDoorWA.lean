/- Walks: ranges and valid histories. Conditions: none. -/
import Derived.Test.YtdofpealmngmiaaGreatDoorRows
import Derived.Test.YtdofpealmngmiaaGreatDoorPure
import Derived.Deep.QuietTactic
import Derived.BigQuiet
import Derived.Handy
namespace Go.Proofs.YtdofpealmngmiaaGreatDoor
open Go.RowKit

set_option maxHeartbeats 400000 in
theorem within_any (n lo hi : Int) (w : World) :
    Calls Tryz.prog 19 #[.int .i64 n, .int .i64 lo, .int .i64 hi] w fun e w' => e = .returned (.bool (wi n lo hi)) ∧ w' = w := by
  go_enter Tryz.func19, Tryz.ntmps19
  go_wp2
  all_goals go_ret
  · have h : lo ≤ n := by assumption
    exact ⟨by simp [wi, h], rfl⟩
  · have h : n < lo := by assumption
    exact ⟨by simp [wi, show ¬ lo ≤ n by omega], rfl⟩

set_option maxHeartbeats 400000 in
theorem inRange_any (n lo hi : Int) (w : World) :
    Calls Tryz.prog 25 #[.int .i64 n, .int .i64 lo, .int .i64 hi] w fun e w' => e = .returned (.bool (wi n lo hi)) ∧ w' = w := by
  go_enter Tryz.func25, Tryz.ntmps25
  go_wp2
  all_goals go_ret
  · have h : lo ≤ n := by assumption
    exact ⟨by simp [wi, h], rfl⟩
  · have h : n < lo := by assumption
    exact ⟨by simp [wi, show ¬ lo ≤ n by omega], rfl⟩

end Go.Proofs.YtdofpealmngmiaaGreatDoor
