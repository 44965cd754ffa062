/- within, inRange, toInt, each proved once. -/
import Derived.Test.YteeikhkcdlcnhaaDoorProg
import Derived.Test.YteeikhkcdlcnhaaDoorKit
namespace Go.Proofs.YteeikhkcdlcnhaaDoor
open Go.RowKit

theorem within_any (a b c : Int) (w : World) :
    Calls Tryd.prog 23 #[.int .i64 a, .int .i64 b, .int .i64 c] w fun e w' => e = .returned (.bool (decide (b ≤ a) && decide (a ≤ c))) ∧ w = w' := by
  go_enter Tryd.func23, Tryd.ntmps23
  go_wp2
  all_goals go_ret
  · have h : b ≤ a := by assumption
    simp [h]
  · have h : a < b := by assumption
    have h' : ¬ b ≤ a := by omega
    simp [h']

theorem inRange_any (a b c : Int) (w : World) :
    Calls Tryd.prog 44 #[.int .i64 a, .int .i64 b, .int .i64 c] w fun e w' => e = .returned (.bool (decide (b ≤ a) && decide (a ≤ c))) ∧ w = w' := by
  go_enter Tryd.func44, Tryd.ntmps44
  go_wp2
  all_goals go_ret
  · have h : b ≤ a := by assumption
    simp [h]
  · have h : a < b := by assumption
    have h' : ¬ b ≤ a := by omega
    simp [h']

end Go.Proofs.YteeikhkcdlcnhaaDoor
