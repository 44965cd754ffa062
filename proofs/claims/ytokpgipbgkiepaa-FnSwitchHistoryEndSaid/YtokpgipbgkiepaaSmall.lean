/- within, inRange, toInt, each proved once. -/
import Derived.Test.YtokpgipbgkiepaaProg
import Derived.Test.YtokpgipbgkiepaaKit
namespace Go.Proofs.Ytokpgipbgkiepaa
open Go.RowKit

theorem within_any (a b c : Int) (w : World) :
    Calls Try.prog 63 #[.int .i64 a, .int .i64 b, .int .i64 c] w fun e w' => e = .returned (.bool (decide (b ≤ a) && decide (a ≤ c))) ∧ w = w' := by
  go_enter Try.func63, Try.ntmps63
  go_wp2
  all_goals go_ret
  · have h : b ≤ a := by assumption
    simp [h]
  · have h : a < b := by assumption
    have h' : ¬ b ≤ a := by omega
    simp [h']

theorem inRange_any (a b c : Int) (w : World) :
    Calls Try.prog 90 #[.int .i64 a, .int .i64 b, .int .i64 c] w fun e w' => e = .returned (.bool (decide (b ≤ a) && decide (a ≤ c))) ∧ w = w' := by
  go_enter Try.func90, Try.ntmps90
  go_wp2
  all_goals go_ret
  · have h : b ≤ a := by assumption
    simp [h]
  · have h : a < b := by assumption
    have h' : ¬ b ≤ a := by omega
    simp [h']

end Go.Proofs.Ytokpgipbgkiepaa
