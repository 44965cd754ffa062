/- within, inRange, toInt, each proved once. -/
import Derived.Test.YtbojkhmlfflakaaProg
import Derived.Test.YtbojkhmlfflakaaKit
namespace Go.Proofs.Ytbojkhmlfflakaa
open Go.RowKit

theorem within_any (a b c : Int) (w : World) :
    Calls Try.prog 24 #[.int .i64 a, .int .i64 b, .int .i64 c] w fun e w' => e = .returned (.bool (decide (b ≤ a) && decide (a ≤ c))) ∧ w = w' := by
  go_enter Try.func24, Try.ntmps24
  go_wp2
  all_goals go_ret
  · have h : b ≤ a := by assumption
    simp [h]
  · have h : a < b := by assumption
    have h' : ¬ b ≤ a := by omega
    simp [h']

theorem inRange_any (a b c : Int) (w : World) :
    Calls Try.prog 26 #[.int .i64 a, .int .i64 b, .int .i64 c] w fun e w' => e = .returned (.bool (decide (b ≤ a) && decide (a ≤ c))) ∧ w = w' := by
  go_enter Try.func26, Try.ntmps26
  go_wp2
  all_goals go_ret
  · have h : b ≤ a := by assumption
    simp [h]
  · have h : a < b := by assumption
    have h' : ¬ b ≤ a := by omega
    simp [h']

end Go.Proofs.Ytbojkhmlfflakaa
