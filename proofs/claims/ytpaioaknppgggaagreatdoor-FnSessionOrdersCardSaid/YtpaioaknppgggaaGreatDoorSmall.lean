/- within, inRange, toInt, each proved once. -/
import Derived.Test.YtpaioaknppgggaaGreatDoorProg
import Derived.Test.YtpaioaknppgggaaGreatDoorKit
namespace Go.Proofs.YtpaioaknppgggaaGreatDoor
open Go.RowKit

theorem within_any (a b c : Int) (w : World) :
    Calls Tryz.prog 50 #[.int .i64 a, .int .i64 b, .int .i64 c] w fun e w' => e = .returned (.bool (decide (b ≤ a) && decide (a ≤ c))) ∧ w = w' := by
  go_enter Tryz.func50, Tryz.ntmps50
  go_wp2
  all_goals go_ret
  · have h : b ≤ a := by assumption
    simp [h]
  · have h : a < b := by assumption
    have h' : ¬ b ≤ a := by omega
    simp [h']

theorem inRange_any (a b c : Int) (w : World) :
    Calls Tryz.prog 61 #[.int .i64 a, .int .i64 b, .int .i64 c] w fun e w' => e = .returned (.bool (decide (b ≤ a) && decide (a ≤ c))) ∧ w = w' := by
  go_enter Tryz.func61, Tryz.ntmps61
  go_wp2
  all_goals go_ret
  · have h : b ≤ a := by assumption
    simp [h]
  · have h : a < b := by assumption
    have h' : ¬ b ≤ a := by omega
    simp [h']

end Go.Proofs.YtpaioaknppgggaaGreatDoor
