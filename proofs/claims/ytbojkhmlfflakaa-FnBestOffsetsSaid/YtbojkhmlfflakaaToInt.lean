/- toInt, proved once. -/
import Derived.Test.YtbojkhmlfflakaaProg
import Derived.Test.YtbojkhmlfflakaaKit
namespace Go.Proofs.Ytbojkhmlfflakaa
open Go.RowKit

theorem toInt_any (b : Bool) (w : World) : Calls Try.prog 33 #[.bool b] w fun e w' => e = .returned (.int .i64 (b2i b)) ∧ w = w' := by
  cases b
  all_goals
    go_enter Try.func33, Try.ntmps33
    go_wp2
    go_ret
    exact ⟨rfl, rfl⟩

end Go.Proofs.Ytbojkhmlfflakaa
