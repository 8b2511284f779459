/- Walks: ranges and valid histories. Conditions: none. -/
import Derived.Test.YtomapdedajdkkaaRows
import Derived.Test.YtomapdedajdkkaaPure
import Derived.Deep.QuietTactic
import Derived.BigQuiet
import Derived.Handy
namespace Go.Proofs.Ytomapdedajdkkaa
open Go.RowKit

set_option maxHeartbeats 400000 in
theorem within_any (n lo hi : Int) (w : World) :
    Calls Try.prog 54 #[.int .i64 n, .int .i64 lo, .int .i64 hi] w fun e w' => e = .returned (.bool (wi n lo hi)) ∧ w' = w := by
  go_enter Try.func54, Try.ntmps54
  go_wp2
  all_goals go_ret
  · have h : lo ≤ n := by assumption
    exact ⟨by simp [wi, h], rfl⟩
  · have h : n < lo := by assumption
    exact ⟨by simp [wi, show ¬ lo ≤ n by omega], rfl⟩

set_option maxHeartbeats 400000 in
theorem inRange_any (n lo hi : Int) (w : World) :
    Calls Try.prog 55 #[.int .i64 n, .int .i64 lo, .int .i64 hi] w fun e w' => e = .returned (.bool (wi n lo hi)) ∧ w' = w := by
  go_enter Try.func55, Try.ntmps55
  go_wp2
  all_goals go_ret
  · have h : lo ≤ n := by assumption
    exact ⟨by simp [wi, h], rfl⟩
  · have h : n < lo := by assumption
    exact ⟨by simp [wi, show ¬ lo ≤ n by omega], rfl⟩

end Go.Proofs.Ytomapdedajdkkaa
