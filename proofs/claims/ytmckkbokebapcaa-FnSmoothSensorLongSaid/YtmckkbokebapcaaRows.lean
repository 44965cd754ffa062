/-
  No cell of these rows narrows 'for every input' (looked for: loops, veiled, ifaces, maps, wideKeys, modest, calm, conditions, laid).
  DERIVED. THE GIVEN ROWS OF THIS SEAT. 10 by the template 'for every input the law returns true; each argument reads behind the call as it read before'; 0 by the template 'total and deterministic' (their statements: YtmckkbokebapcaaTotals.lean).
  GIVEN WITH THE SEED: the statements are not yours to turn. If you find one false, say at which input.
  Laid BY PROGRAM, IN A SANDBOX (cutbox-rows.mjs): the forced cells as the released guide's own fill.sh prints them over the translation 5b2b7c6a9cd17f04… (all of the seat's roots in one cut). By AI agents, Wed Nov 11 2026. No macro, syntax, notation, axiom, sorry.
-/
import Derived.Test.YtmckkbokebapcaaChecked
import GoSem.Claim
import GoSem.ClaimJoined
import GoSem.ClaimMapViews
import Derived.JoinedTies
import Derived.KernelRfl
namespace Go.Proofs.Ytmckkbokebapcaa
/- THE CELL 'sum', in the pinned program and in every row, IS THE sha256 OF THE DUMP (.gsa) THAT YtmckkbokebapcaaProg.lean LOADS. Nothing in Lean hashes anything: it is a label: what it is worth is what the hold of that sum in a sandbox is worth. -/
noncomputable def Try.pinned : Pinned := { name := "ytmckkbokebapcaa", sum := "5b2b7c6a9cd17f04f633404bcf0a61c98486ceebef057518ba876448b6de4199", checked := Try.checked }
namespace Rows
def none {H : Type} : Left H := { results := [], args := [] }

/-- 'laws.FnExactStuckSensor': WHATEVER THE INPUT: true; the input reads as it did. -/
def fnExactStuckSensorSpec : ChangeSpec := { name := "fnExactStuckSensor", fn := fun _ => fun
  | [d1, d2] => { results := [.lit (.bool true)], args := [d1, d2] }
  | _ => none }
def fnExactStuckSensorRow : OpenClaim := { program := "ytmckkbokebapcaa", sum := "5b2b7c6a9cd17f04f633404bcf0a61c98486ceebef057518ba876448b6de4199", func := "loop.example/liftsandlights/laws.FnExactStuckSensor", spec := "fnExactStuckSensor", apart := false }
def FnExactStuckSensorSaid : Prop := fnExactStuckSensorRow.holds Try.pinned (OpenSpec.ofChange fnExactStuckSensorSpec)

/-- ITS FALSE NEIGHBOUR: 'it returns false'. Refute it at one input. -/
def fnExactStuckSensorWrong : ChangeSpec := { name := "fnExactStuckSensor", fn := fun _ => fun
  | [d1, d2] => { results := [.lit (.bool false)], args := [d1, d2] }
  | _ => none }
def FnExactStuckSensorWrongFalsely : Prop := fnExactStuckSensorRow.holds Try.pinned (OpenSpec.ofChange fnExactStuckSensorWrong)

/-- 'laws.FnExactCountRises': WHATEVER THE INPUT: true; the input reads as it did. -/
def fnExactCountRisesSpec : ChangeSpec := { name := "fnExactCountRises", fn := fun _ => fun
  | [d] => { results := [.lit (.bool true)], args := [d] }
  | _ => none }
def fnExactCountRisesRow : OpenClaim := { program := "ytmckkbokebapcaa", sum := "5b2b7c6a9cd17f04f633404bcf0a61c98486ceebef057518ba876448b6de4199", func := "loop.example/liftsandlights/laws.FnExactCountRises", spec := "fnExactCountRises", apart := false }
def FnExactCountRisesSaid : Prop := fnExactCountRisesRow.holds Try.pinned (OpenSpec.ofChange fnExactCountRisesSpec)

/-- ITS FALSE NEIGHBOUR: 'it returns false'. Refute it at one input. -/
def fnExactCountRisesWrong : ChangeSpec := { name := "fnExactCountRises", fn := fun _ => fun
  | [d] => { results := [.lit (.bool false)], args := [d] }
  | _ => none }
def FnExactCountRisesWrongFalsely : Prop := fnExactCountRisesRow.holds Try.pinned (OpenSpec.ofChange fnExactCountRisesWrong)

/-- 'laws.FnExactBusyShare': WHATEVER THE INPUT: true; the input reads as it did. -/
def fnExactBusyShareSpec : ChangeSpec := { name := "fnExactBusyShare", fn := fun _ => fun
  | [d] => { results := [.lit (.bool true)], args := [d] }
  | _ => none }
def fnExactBusyShareRow : OpenClaim := { program := "ytmckkbokebapcaa", sum := "5b2b7c6a9cd17f04f633404bcf0a61c98486ceebef057518ba876448b6de4199", func := "loop.example/liftsandlights/laws.FnExactBusyShare", spec := "fnExactBusyShare", apart := false }
def FnExactBusyShareSaid : Prop := fnExactBusyShareRow.holds Try.pinned (OpenSpec.ofChange fnExactBusyShareSpec)

/-- ITS FALSE NEIGHBOUR: 'it returns false'. Refute it at one input. -/
def fnExactBusyShareWrong : ChangeSpec := { name := "fnExactBusyShare", fn := fun _ => fun
  | [d] => { results := [.lit (.bool false)], args := [d] }
  | _ => none }
def FnExactBusyShareWrongFalsely : Prop := fnExactBusyShareRow.holds Try.pinned (OpenSpec.ofChange fnExactBusyShareWrong)

/-- 'laws.FnStuckSensor': WHATEVER THE INPUT: true; the input reads as it did. -/
def fnStuckSensorSpec : ChangeSpec := { name := "fnStuckSensor", fn := fun _ => fun
  | [d] => { results := [.lit (.bool true)], args := [d] }
  | _ => none }
def fnStuckSensorRow : OpenClaim := { program := "ytmckkbokebapcaa", sum := "5b2b7c6a9cd17f04f633404bcf0a61c98486ceebef057518ba876448b6de4199", func := "loop.example/liftsandlights/laws.FnStuckSensor", spec := "fnStuckSensor", apart := false }
def FnStuckSensorSaid : Prop := fnStuckSensorRow.holds Try.pinned (OpenSpec.ofChange fnStuckSensorSpec)

/-- ITS FALSE NEIGHBOUR: 'it returns false'. Refute it at one input. -/
def fnStuckSensorWrong : ChangeSpec := { name := "fnStuckSensor", fn := fun _ => fun
  | [d] => { results := [.lit (.bool false)], args := [d] }
  | _ => none }
def FnStuckSensorWrongFalsely : Prop := fnStuckSensorRow.holds Try.pinned (OpenSpec.ofChange fnStuckSensorWrong)

/-- 'laws.FnBusyShare': WHATEVER THE INPUT: true; the input reads as it did. -/
def fnBusyShareSpec : ChangeSpec := { name := "fnBusyShare", fn := fun _ => fun
  | [d] => { results := [.lit (.bool true)], args := [d] }
  | _ => none }
def fnBusyShareRow : OpenClaim := { program := "ytmckkbokebapcaa", sum := "5b2b7c6a9cd17f04f633404bcf0a61c98486ceebef057518ba876448b6de4199", func := "loop.example/liftsandlights/laws.FnBusyShare", spec := "fnBusyShare", apart := false }
def FnBusyShareSaid : Prop := fnBusyShareRow.holds Try.pinned (OpenSpec.ofChange fnBusyShareSpec)

/-- ITS FALSE NEIGHBOUR: 'it returns false'. Refute it at one input. -/
def fnBusyShareWrong : ChangeSpec := { name := "fnBusyShare", fn := fun _ => fun
  | [d] => { results := [.lit (.bool false)], args := [d] }
  | _ => none }
def FnBusyShareWrongFalsely : Prop := fnBusyShareRow.holds Try.pinned (OpenSpec.ofChange fnBusyShareWrong)

/-- 'laws.FnCountRises': WHATEVER THE INPUT: true; the input reads as it did. -/
def fnCountRisesSpec : ChangeSpec := { name := "fnCountRises", fn := fun _ => fun
  | [d] => { results := [.lit (.bool true)], args := [d] }
  | _ => none }
def fnCountRisesRow : OpenClaim := { program := "ytmckkbokebapcaa", sum := "5b2b7c6a9cd17f04f633404bcf0a61c98486ceebef057518ba876448b6de4199", func := "loop.example/liftsandlights/laws.FnCountRises", spec := "fnCountRises", apart := false }
def FnCountRisesSaid : Prop := fnCountRisesRow.holds Try.pinned (OpenSpec.ofChange fnCountRisesSpec)

/-- ITS FALSE NEIGHBOUR: 'it returns false'. Refute it at one input. -/
def fnCountRisesWrong : ChangeSpec := { name := "fnCountRises", fn := fun _ => fun
  | [d] => { results := [.lit (.bool false)], args := [d] }
  | _ => none }
def FnCountRisesWrongFalsely : Prop := fnCountRisesRow.holds Try.pinned (OpenSpec.ofChange fnCountRisesWrong)

/-- 'laws.FnExactSmoothSensor': WHATEVER THE INPUT: true; the input reads as it did. -/
def fnExactSmoothSensorSpec : ChangeSpec := { name := "fnExactSmoothSensor", fn := fun _ => fun
  | [d1, d2] => { results := [.lit (.bool true)], args := [d1, d2] }
  | _ => none }
def fnExactSmoothSensorRow : OpenClaim := { program := "ytmckkbokebapcaa", sum := "5b2b7c6a9cd17f04f633404bcf0a61c98486ceebef057518ba876448b6de4199", func := "loop.example/liftsandlights/laws.FnExactSmoothSensor", spec := "fnExactSmoothSensor", unfollowed := true, recurses := true, apart := false }
def FnExactSmoothSensorSaid : Prop := fnExactSmoothSensorRow.holds Try.pinned (OpenSpec.ofChange fnExactSmoothSensorSpec)

/-- ITS FALSE NEIGHBOUR: 'it returns false'. Refute it at one input. -/
def fnExactSmoothSensorWrong : ChangeSpec := { name := "fnExactSmoothSensor", fn := fun _ => fun
  | [d1, d2] => { results := [.lit (.bool false)], args := [d1, d2] }
  | _ => none }
def FnExactSmoothSensorWrongFalsely : Prop := fnExactSmoothSensorRow.holds Try.pinned (OpenSpec.ofChange fnExactSmoothSensorWrong)

/-- 'laws.FnSmoothSensorCalm': WHATEVER THE INPUT: true; the input reads as it did. -/
def fnSmoothSensorCalmSpec : ChangeSpec := { name := "fnSmoothSensorCalm", fn := fun _ => fun
  | [d] => { results := [.lit (.bool true)], args := [d] }
  | _ => none }
def fnSmoothSensorCalmRow : OpenClaim := { program := "ytmckkbokebapcaa", sum := "5b2b7c6a9cd17f04f633404bcf0a61c98486ceebef057518ba876448b6de4199", func := "loop.example/liftsandlights/laws.FnSmoothSensorCalm", spec := "fnSmoothSensorCalm", unfollowed := true, recurses := true, apart := false }
def FnSmoothSensorCalmSaid : Prop := fnSmoothSensorCalmRow.holds Try.pinned (OpenSpec.ofChange fnSmoothSensorCalmSpec)

/-- ITS FALSE NEIGHBOUR: 'it returns false'. Refute it at one input. -/
def fnSmoothSensorCalmWrong : ChangeSpec := { name := "fnSmoothSensorCalm", fn := fun _ => fun
  | [d] => { results := [.lit (.bool false)], args := [d] }
  | _ => none }
def FnSmoothSensorCalmWrongFalsely : Prop := fnSmoothSensorCalmRow.holds Try.pinned (OpenSpec.ofChange fnSmoothSensorCalmWrong)

/-- 'laws.FnSmoothSensor': WHATEVER THE INPUT: true; the input reads as it did. -/
def fnSmoothSensorSpec : ChangeSpec := { name := "fnSmoothSensor", fn := fun _ => fun
  | [d] => { results := [.lit (.bool true)], args := [d] }
  | _ => none }
def fnSmoothSensorRow : OpenClaim := { program := "ytmckkbokebapcaa", sum := "5b2b7c6a9cd17f04f633404bcf0a61c98486ceebef057518ba876448b6de4199", func := "loop.example/liftsandlights/laws.FnSmoothSensor", spec := "fnSmoothSensor", unfollowed := true, recurses := true, apart := false }
def FnSmoothSensorSaid : Prop := fnSmoothSensorRow.holds Try.pinned (OpenSpec.ofChange fnSmoothSensorSpec)

/-- ITS FALSE NEIGHBOUR: 'it returns false'. Refute it at one input. -/
def fnSmoothSensorWrong : ChangeSpec := { name := "fnSmoothSensor", fn := fun _ => fun
  | [d] => { results := [.lit (.bool false)], args := [d] }
  | _ => none }
def FnSmoothSensorWrongFalsely : Prop := fnSmoothSensorRow.holds Try.pinned (OpenSpec.ofChange fnSmoothSensorWrong)

/-- 'laws.FnSmoothSensorLong': WHATEVER THE INPUT: true; the input reads as it did. -/
def fnSmoothSensorLongSpec : ChangeSpec := { name := "fnSmoothSensorLong", fn := fun _ => fun
  | [d] => { results := [.lit (.bool true)], args := [d] }
  | _ => none }
def fnSmoothSensorLongRow : OpenClaim := { program := "ytmckkbokebapcaa", sum := "5b2b7c6a9cd17f04f633404bcf0a61c98486ceebef057518ba876448b6de4199", func := "loop.example/liftsandlights/laws.FnSmoothSensorLong", spec := "fnSmoothSensorLong", unfollowed := true, recurses := true, apart := false }
def FnSmoothSensorLongSaid : Prop := fnSmoothSensorLongRow.holds Try.pinned (OpenSpec.ofChange fnSmoothSensorLongSpec)

/-- ITS FALSE NEIGHBOUR: 'it returns false'. Refute it at one input. -/
def fnSmoothSensorLongWrong : ChangeSpec := { name := "fnSmoothSensorLong", fn := fun _ => fun
  | [d] => { results := [.lit (.bool false)], args := [d] }
  | _ => none }
def FnSmoothSensorLongWrongFalsely : Prop := fnSmoothSensorLongRow.holds Try.pinned (OpenSpec.ofChange fnSmoothSensorLongWrong)

/- THE SECOND FORM. 'bulk': how many values and letters a reading holds, each counted each time it is reached (what is shared counts as often as it is met; a slice's spare places count too). A statement '..UptoSaid' is the law's where the arguments, and the package variables that the reading takes, are together of bulk at most 1048576: NARROWER than '..Said'. Prove '..Said' where nothing that the law and all that it calls make is longer than what came in: it says more and counts as full. Else prove '..UptoSaid'. A law counts once. -/
mutual
def uptoBulk {H : Type} : DataW H → Nat
  | .lit (.string bytes) => bytes.length + 1
  | .lit _ => 1
  | .nil => 1
  | .ptr d => uptoBulk d + 1
  | .slice elems spare => uptoBulkAll elems + uptoBulkAll spare + 1
  | .agg parts => uptoBulkAll parts + 1
  | .iface _ d => uptoBulk d + 1
  | .map entries => uptoBulkEntries entries + 1
  | .held _ => 1
def uptoBulkAll {H : Type} : List (DataW H) → Nat
  | [] => 0
  | d :: r => uptoBulk d + uptoBulkAll r
def uptoBulkEntries {H : Type} : List (Lit × DataW H) → Nat
  | [] => 0
  | x :: r => uptoBulkEntry x + uptoBulkEntries r
def uptoBulkEntry {H : Type} : Lit × DataW H → Nat
  | (.string bytes, d) => bytes.length + uptoBulk d + 1
  | (_, d) => uptoBulk d + 1
 end
def uptoSmall : (H : Type) → List (DataW H) → Bool := fun _ ds => decide (uptoBulkAll ds ≤ 1048576)
def OpenSpec.upto (s : _root_.Go.ChangeSpec) : _root_.Go.OpenSpec := { _root_.Go.OpenSpec.ofChange s with cond := some uptoSmall }

/-- 'laws.FnExactStuckSensor', WHERE WHAT IT READS IS OF BULK AT MOST 1048576: true; the input reads as it did. -/
def fnExactStuckSensorUptoRow : OpenClaim := { program := "ytmckkbokebapcaa", sum := "5b2b7c6a9cd17f04f633404bcf0a61c98486ceebef057518ba876448b6de4199", func := "loop.example/liftsandlights/laws.FnExactStuckSensor", spec := "fnExactStuckSensor", apart := false, narrowed := true }
def FnExactStuckSensorUptoSaid : Prop := fnExactStuckSensorUptoRow.holds Try.pinned (OpenSpec.upto fnExactStuckSensorSpec)

/-- 'laws.FnExactCountRises', WHERE WHAT IT READS IS OF BULK AT MOST 1048576: true; the input reads as it did. -/
def fnExactCountRisesUptoRow : OpenClaim := { program := "ytmckkbokebapcaa", sum := "5b2b7c6a9cd17f04f633404bcf0a61c98486ceebef057518ba876448b6de4199", func := "loop.example/liftsandlights/laws.FnExactCountRises", spec := "fnExactCountRises", apart := false, narrowed := true }
def FnExactCountRisesUptoSaid : Prop := fnExactCountRisesUptoRow.holds Try.pinned (OpenSpec.upto fnExactCountRisesSpec)

/-- 'laws.FnExactBusyShare', WHERE WHAT IT READS IS OF BULK AT MOST 1048576: true; the input reads as it did. -/
def fnExactBusyShareUptoRow : OpenClaim := { program := "ytmckkbokebapcaa", sum := "5b2b7c6a9cd17f04f633404bcf0a61c98486ceebef057518ba876448b6de4199", func := "loop.example/liftsandlights/laws.FnExactBusyShare", spec := "fnExactBusyShare", apart := false, narrowed := true }
def FnExactBusyShareUptoSaid : Prop := fnExactBusyShareUptoRow.holds Try.pinned (OpenSpec.upto fnExactBusyShareSpec)

/-- 'laws.FnStuckSensor', WHERE WHAT IT READS IS OF BULK AT MOST 1048576: true; the input reads as it did. -/
def fnStuckSensorUptoRow : OpenClaim := { program := "ytmckkbokebapcaa", sum := "5b2b7c6a9cd17f04f633404bcf0a61c98486ceebef057518ba876448b6de4199", func := "loop.example/liftsandlights/laws.FnStuckSensor", spec := "fnStuckSensor", apart := false, narrowed := true }
def FnStuckSensorUptoSaid : Prop := fnStuckSensorUptoRow.holds Try.pinned (OpenSpec.upto fnStuckSensorSpec)

/-- 'laws.FnBusyShare', WHERE WHAT IT READS IS OF BULK AT MOST 1048576: true; the input reads as it did. -/
def fnBusyShareUptoRow : OpenClaim := { program := "ytmckkbokebapcaa", sum := "5b2b7c6a9cd17f04f633404bcf0a61c98486ceebef057518ba876448b6de4199", func := "loop.example/liftsandlights/laws.FnBusyShare", spec := "fnBusyShare", apart := false, narrowed := true }
def FnBusyShareUptoSaid : Prop := fnBusyShareUptoRow.holds Try.pinned (OpenSpec.upto fnBusyShareSpec)

/-- 'laws.FnCountRises', WHERE WHAT IT READS IS OF BULK AT MOST 1048576: true; the input reads as it did. -/
def fnCountRisesUptoRow : OpenClaim := { program := "ytmckkbokebapcaa", sum := "5b2b7c6a9cd17f04f633404bcf0a61c98486ceebef057518ba876448b6de4199", func := "loop.example/liftsandlights/laws.FnCountRises", spec := "fnCountRises", apart := false, narrowed := true }
def FnCountRisesUptoSaid : Prop := fnCountRisesUptoRow.holds Try.pinned (OpenSpec.upto fnCountRisesSpec)

/-- 'laws.FnExactSmoothSensor', WHERE WHAT IT READS IS OF BULK AT MOST 1048576: true; the input reads as it did. -/
def fnExactSmoothSensorUptoRow : OpenClaim := { program := "ytmckkbokebapcaa", sum := "5b2b7c6a9cd17f04f633404bcf0a61c98486ceebef057518ba876448b6de4199", func := "loop.example/liftsandlights/laws.FnExactSmoothSensor", spec := "fnExactSmoothSensor", unfollowed := true, recurses := true, apart := false, narrowed := true }
def FnExactSmoothSensorUptoSaid : Prop := fnExactSmoothSensorUptoRow.holds Try.pinned (OpenSpec.upto fnExactSmoothSensorSpec)

/-- 'laws.FnSmoothSensorCalm', WHERE WHAT IT READS IS OF BULK AT MOST 1048576: true; the input reads as it did. -/
def fnSmoothSensorCalmUptoRow : OpenClaim := { program := "ytmckkbokebapcaa", sum := "5b2b7c6a9cd17f04f633404bcf0a61c98486ceebef057518ba876448b6de4199", func := "loop.example/liftsandlights/laws.FnSmoothSensorCalm", spec := "fnSmoothSensorCalm", unfollowed := true, recurses := true, apart := false, narrowed := true }
def FnSmoothSensorCalmUptoSaid : Prop := fnSmoothSensorCalmUptoRow.holds Try.pinned (OpenSpec.upto fnSmoothSensorCalmSpec)

/-- 'laws.FnSmoothSensor', WHERE WHAT IT READS IS OF BULK AT MOST 1048576: true; the input reads as it did. -/
def fnSmoothSensorUptoRow : OpenClaim := { program := "ytmckkbokebapcaa", sum := "5b2b7c6a9cd17f04f633404bcf0a61c98486ceebef057518ba876448b6de4199", func := "loop.example/liftsandlights/laws.FnSmoothSensor", spec := "fnSmoothSensor", unfollowed := true, recurses := true, apart := false, narrowed := true }
def FnSmoothSensorUptoSaid : Prop := fnSmoothSensorUptoRow.holds Try.pinned (OpenSpec.upto fnSmoothSensorSpec)

/-- 'laws.FnSmoothSensorLong', WHERE WHAT IT READS IS OF BULK AT MOST 1048576: true; the input reads as it did. -/
def fnSmoothSensorLongUptoRow : OpenClaim := { program := "ytmckkbokebapcaa", sum := "5b2b7c6a9cd17f04f633404bcf0a61c98486ceebef057518ba876448b6de4199", func := "loop.example/liftsandlights/laws.FnSmoothSensorLong", spec := "fnSmoothSensorLong", unfollowed := true, recurses := true, apart := false, narrowed := true }
def FnSmoothSensorLongUptoSaid : Prop := fnSmoothSensorLongUptoRow.holds Try.pinned (OpenSpec.upto fnSmoothSensorLongSpec)

end Rows
end Go.Proofs.Ytmckkbokebapcaa
