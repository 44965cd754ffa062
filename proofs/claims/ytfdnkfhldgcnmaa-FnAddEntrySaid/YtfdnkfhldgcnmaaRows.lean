/-
  No cell of these rows narrows 'for every input' (looked for: loops, veiled, ifaces, maps, wideKeys, modest, calm, conditions, laid).
  DERIVED. THE GIVEN ROWS OF THIS SEAT. 9 by the template 'for every input the law returns true; each argument reads behind the call as it read before'; 0 by the template 'total and deterministic' (their statements: YtfdnkfhldgcnmaaTotals.lean).
  GIVEN WITH THE SEED: the statements are not yours to turn. If you find one false, say at which input.
  Laid BY PROGRAM, IN A SANDBOX (cutbox-rows.mjs): the forced cells as the released guide's own fill.sh prints them over the translation b9e1b3326cb9e9cd… (all of the seat's roots in one cut). By AI agents, Wed Nov 11 2026. No macro, syntax, notation, axiom, sorry.
-/
import Derived.Test.YtfdnkfhldgcnmaaChecked
import GoSem.Claim
import GoSem.ClaimJoined
import GoSem.ClaimMapViews
import Derived.JoinedTies
import Derived.KernelRfl
namespace Go.Proofs.Ytfdnkfhldgcnmaa
/- THE CELL 'sum', in the pinned program and in every row, IS THE sha256 OF THE DUMP (.gsa) THAT YtfdnkfhldgcnmaaProg.lean LOADS. Nothing in Lean hashes anything: it is a label: what it is worth is what the hold of that sum in a sandbox is worth. -/
noncomputable def Try.pinned : Pinned := { name := "ytfdnkfhldgcnmaa", sum := "b9e1b3326cb9e9cdc8b1c34008270886ef436944cf6164f2e1da2cd6cab52fd1", checked := Try.checked }
namespace Rows
def none {H : Type} : Left H := { results := [], args := [] }

/-- 'laws.FnExactValidLog': WHATEVER THE INPUT: true; the input reads as it did. -/
def fnExactValidLogSpec : ChangeSpec := { name := "fnExactValidLog", fn := fun _ => fun
  | [d] => { results := [.lit (.bool true)], args := [d] }
  | _ => none }
def fnExactValidLogRow : OpenClaim := { program := "ytfdnkfhldgcnmaa", sum := "b9e1b3326cb9e9cdc8b1c34008270886ef436944cf6164f2e1da2cd6cab52fd1", func := "loop.example/liftsandlights/laws.FnExactValidLog", spec := "fnExactValidLog", apart := false }
def FnExactValidLogSaid : Prop := fnExactValidLogRow.holds Try.pinned (OpenSpec.ofChange fnExactValidLogSpec)

/-- ITS FALSE NEIGHBOUR: 'it returns false'. Refute it at one input. -/
def fnExactValidLogWrong : ChangeSpec := { name := "fnExactValidLog", fn := fun _ => fun
  | [d] => { results := [.lit (.bool false)], args := [d] }
  | _ => none }
def FnExactValidLogWrongFalsely : Prop := fnExactValidLogRow.holds Try.pinned (OpenSpec.ofChange fnExactValidLogWrong)

/-- 'laws.FnValidLog': WHATEVER THE INPUT: true; the input reads as it did. -/
def fnValidLogSpec : ChangeSpec := { name := "fnValidLog", fn := fun _ => fun
  | [d] => { results := [.lit (.bool true)], args := [d] }
  | _ => none }
def fnValidLogRow : OpenClaim := { program := "ytfdnkfhldgcnmaa", sum := "b9e1b3326cb9e9cdc8b1c34008270886ef436944cf6164f2e1da2cd6cab52fd1", func := "loop.example/liftsandlights/laws.FnValidLog", spec := "fnValidLog", apart := false }
def FnValidLogSaid : Prop := fnValidLogRow.holds Try.pinned (OpenSpec.ofChange fnValidLogSpec)

/-- ITS FALSE NEIGHBOUR: 'it returns false'. Refute it at one input. -/
def fnValidLogWrong : ChangeSpec := { name := "fnValidLog", fn := fun _ => fun
  | [d] => { results := [.lit (.bool false)], args := [d] }
  | _ => none }
def FnValidLogWrongFalsely : Prop := fnValidLogRow.holds Try.pinned (OpenSpec.ofChange fnValidLogWrong)

/-- 'laws.FnExactAddEntry': WHATEVER THE INPUT: true; the input reads as it did. -/
def fnExactAddEntrySpec : ChangeSpec := { name := "fnExactAddEntry", fn := fun _ => fun
  | [d1, d2] => { results := [.lit (.bool true)], args := [d1, d2] }
  | _ => none }
def fnExactAddEntryRow : OpenClaim := { program := "ytfdnkfhldgcnmaa", sum := "b9e1b3326cb9e9cdc8b1c34008270886ef436944cf6164f2e1da2cd6cab52fd1", func := "loop.example/liftsandlights/laws.FnExactAddEntry", spec := "fnExactAddEntry", apart := false }
def FnExactAddEntrySaid : Prop := fnExactAddEntryRow.holds Try.pinned (OpenSpec.ofChange fnExactAddEntrySpec)

/-- ITS FALSE NEIGHBOUR: 'it returns false'. Refute it at one input. -/
def fnExactAddEntryWrong : ChangeSpec := { name := "fnExactAddEntry", fn := fun _ => fun
  | [d1, d2] => { results := [.lit (.bool false)], args := [d1, d2] }
  | _ => none }
def FnExactAddEntryWrongFalsely : Prop := fnExactAddEntryRow.holds Try.pinned (OpenSpec.ofChange fnExactAddEntryWrong)

/-- 'laws.FnAddEntry': WHATEVER THE INPUT: true; the input reads as it did. -/
def fnAddEntrySpec : ChangeSpec := { name := "fnAddEntry", fn := fun _ => fun
  | [d] => { results := [.lit (.bool true)], args := [d] }
  | _ => none }
def fnAddEntryRow : OpenClaim := { program := "ytfdnkfhldgcnmaa", sum := "b9e1b3326cb9e9cdc8b1c34008270886ef436944cf6164f2e1da2cd6cab52fd1", func := "loop.example/liftsandlights/laws.FnAddEntry", spec := "fnAddEntry", apart := false }
def FnAddEntrySaid : Prop := fnAddEntryRow.holds Try.pinned (OpenSpec.ofChange fnAddEntrySpec)

/-- ITS FALSE NEIGHBOUR: 'it returns false'. Refute it at one input. -/
def fnAddEntryWrong : ChangeSpec := { name := "fnAddEntry", fn := fun _ => fun
  | [d] => { results := [.lit (.bool false)], args := [d] }
  | _ => none }
def FnAddEntryWrongFalsely : Prop := fnAddEntryRow.holds Try.pinned (OpenSpec.ofChange fnAddEntryWrong)

/-- 'laws.FnExactStopsOf': WHATEVER THE INPUT: true; the input reads as it did. -/
def fnExactStopsOfSpec : ChangeSpec := { name := "fnExactStopsOf", fn := fun _ => fun
  | [d] => { results := [.lit (.bool true)], args := [d] }
  | _ => none }
def fnExactStopsOfRow : OpenClaim := { program := "ytfdnkfhldgcnmaa", sum := "b9e1b3326cb9e9cdc8b1c34008270886ef436944cf6164f2e1da2cd6cab52fd1", func := "loop.example/liftsandlights/laws.FnExactStopsOf", spec := "fnExactStopsOf", apart := false }
def FnExactStopsOfSaid : Prop := fnExactStopsOfRow.holds Try.pinned (OpenSpec.ofChange fnExactStopsOfSpec)

/-- ITS FALSE NEIGHBOUR: 'it returns false'. Refute it at one input. -/
def fnExactStopsOfWrong : ChangeSpec := { name := "fnExactStopsOf", fn := fun _ => fun
  | [d] => { results := [.lit (.bool false)], args := [d] }
  | _ => none }
def FnExactStopsOfWrongFalsely : Prop := fnExactStopsOfRow.holds Try.pinned (OpenSpec.ofChange fnExactStopsOfWrong)

/-- 'laws.FnStopsOf': WHATEVER THE INPUT: true; the input reads as it did. -/
def fnStopsOfSpec : ChangeSpec := { name := "fnStopsOf", fn := fun _ => fun
  | [d] => { results := [.lit (.bool true)], args := [d] }
  | _ => none }
def fnStopsOfRow : OpenClaim := { program := "ytfdnkfhldgcnmaa", sum := "b9e1b3326cb9e9cdc8b1c34008270886ef436944cf6164f2e1da2cd6cab52fd1", func := "loop.example/liftsandlights/laws.FnStopsOf", spec := "fnStopsOf", apart := false }
def FnStopsOfSaid : Prop := fnStopsOfRow.holds Try.pinned (OpenSpec.ofChange fnStopsOfSpec)

/-- ITS FALSE NEIGHBOUR: 'it returns false'. Refute it at one input. -/
def fnStopsOfWrong : ChangeSpec := { name := "fnStopsOf", fn := fun _ => fun
  | [d] => { results := [.lit (.bool false)], args := [d] }
  | _ => none }
def FnStopsOfWrongFalsely : Prop := fnStopsOfRow.holds Try.pinned (OpenSpec.ofChange fnStopsOfWrong)

/-- 'laws.FnExactStoppedTime': WHATEVER THE INPUT: true; the input reads as it did. -/
def fnExactStoppedTimeSpec : ChangeSpec := { name := "fnExactStoppedTime", fn := fun _ => fun
  | [d1, d2, d3] => { results := [.lit (.bool true)], args := [d1, d2, d3] }
  | _ => none }
def fnExactStoppedTimeRow : OpenClaim := { program := "ytfdnkfhldgcnmaa", sum := "b9e1b3326cb9e9cdc8b1c34008270886ef436944cf6164f2e1da2cd6cab52fd1", func := "loop.example/liftsandlights/laws.FnExactStoppedTime", spec := "fnExactStoppedTime", apart := false }
def FnExactStoppedTimeSaid : Prop := fnExactStoppedTimeRow.holds Try.pinned (OpenSpec.ofChange fnExactStoppedTimeSpec)

/-- ITS FALSE NEIGHBOUR: 'it returns false'. Refute it at one input. -/
def fnExactStoppedTimeWrong : ChangeSpec := { name := "fnExactStoppedTime", fn := fun _ => fun
  | [d1, d2, d3] => { results := [.lit (.bool false)], args := [d1, d2, d3] }
  | _ => none }
def FnExactStoppedTimeWrongFalsely : Prop := fnExactStoppedTimeRow.holds Try.pinned (OpenSpec.ofChange fnExactStoppedTimeWrong)

/-- 'laws.FnStoppedTime': WHATEVER THE INPUT: true; the input reads as it did. -/
def fnStoppedTimeSpec : ChangeSpec := { name := "fnStoppedTime", fn := fun _ => fun
  | [d] => { results := [.lit (.bool true)], args := [d] }
  | _ => none }
def fnStoppedTimeRow : OpenClaim := { program := "ytfdnkfhldgcnmaa", sum := "b9e1b3326cb9e9cdc8b1c34008270886ef436944cf6164f2e1da2cd6cab52fd1", func := "loop.example/liftsandlights/laws.FnStoppedTime", spec := "fnStoppedTime", apart := false }
def FnStoppedTimeSaid : Prop := fnStoppedTimeRow.holds Try.pinned (OpenSpec.ofChange fnStoppedTimeSpec)

/-- ITS FALSE NEIGHBOUR: 'it returns false'. Refute it at one input. -/
def fnStoppedTimeWrong : ChangeSpec := { name := "fnStoppedTime", fn := fun _ => fun
  | [d] => { results := [.lit (.bool false)], args := [d] }
  | _ => none }
def FnStoppedTimeWrongFalsely : Prop := fnStoppedTimeRow.holds Try.pinned (OpenSpec.ofChange fnStoppedTimeWrong)

/-- 'laws.FnStoppedTimeUnits': WHATEVER THE INPUT: true; the input reads as it did. -/
def fnStoppedTimeUnitsSpec : ChangeSpec := { name := "fnStoppedTimeUnits", fn := fun _ => fun
  | [d] => { results := [.lit (.bool true)], args := [d] }
  | _ => none }
def fnStoppedTimeUnitsRow : OpenClaim := { program := "ytfdnkfhldgcnmaa", sum := "b9e1b3326cb9e9cdc8b1c34008270886ef436944cf6164f2e1da2cd6cab52fd1", func := "loop.example/liftsandlights/laws.FnStoppedTimeUnits", spec := "fnStoppedTimeUnits", apart := false }
def FnStoppedTimeUnitsSaid : Prop := fnStoppedTimeUnitsRow.holds Try.pinned (OpenSpec.ofChange fnStoppedTimeUnitsSpec)

/-- ITS FALSE NEIGHBOUR: 'it returns false'. Refute it at one input. -/
def fnStoppedTimeUnitsWrong : ChangeSpec := { name := "fnStoppedTimeUnits", fn := fun _ => fun
  | [d] => { results := [.lit (.bool false)], args := [d] }
  | _ => none }
def FnStoppedTimeUnitsWrongFalsely : Prop := fnStoppedTimeUnitsRow.holds Try.pinned (OpenSpec.ofChange fnStoppedTimeUnitsWrong)

/- THE SECOND FORM. 'bulk': how many values and letters a reading holds, each counted each time it is reached (what is shared counts as often as it is met; a slice's spare places count too). A statement '..UptoSaid' is the law's where the arguments, and the package variables that the reading takes, are together of bulk at most 1048576: NARROWER than '..Said'. Prove '..Said' where nothing that the law and all that it calls make is longer than what came in: it says more and counts as full. Else prove '..UptoSaid'. A law counts once. -/
mutual
def uptoBulk {H : Type} : DataW H → Nat
  | .lit (.string bytes) => bytes.length + 1
  | .lit _ => 1
  | .nil => 1
  | .ptr d => uptoBulk d + 1
  | .slice elems spare => uptoBulkAll elems + uptoBulkAll spare + 1
  | .agg parts => uptoBulkAll parts + 1
  | .iface _ d => uptoBulk d + 1
  | .map entries => uptoBulkEntries entries + 1
  | .held _ => 1
def uptoBulkAll {H : Type} : List (DataW H) → Nat
  | [] => 0
  | d :: r => uptoBulk d + uptoBulkAll r
def uptoBulkEntries {H : Type} : List (Lit × DataW H) → Nat
  | [] => 0
  | x :: r => uptoBulkEntry x + uptoBulkEntries r
def uptoBulkEntry {H : Type} : Lit × DataW H → Nat
  | (.string bytes, d) => bytes.length + uptoBulk d + 1
  | (_, d) => uptoBulk d + 1
 end
def uptoSmall : (H : Type) → List (DataW H) → Bool := fun _ ds => decide (uptoBulkAll ds ≤ 1048576)
def OpenSpec.upto (s : _root_.Go.ChangeSpec) : _root_.Go.OpenSpec := { _root_.Go.OpenSpec.ofChange s with cond := some uptoSmall }

/-- 'laws.FnExactValidLog', WHERE WHAT IT READS IS OF BULK AT MOST 1048576: true; the input reads as it did. -/
def fnExactValidLogUptoRow : OpenClaim := { program := "ytfdnkfhldgcnmaa", sum := "b9e1b3326cb9e9cdc8b1c34008270886ef436944cf6164f2e1da2cd6cab52fd1", func := "loop.example/liftsandlights/laws.FnExactValidLog", spec := "fnExactValidLog", apart := false, narrowed := true }
def FnExactValidLogUptoSaid : Prop := fnExactValidLogUptoRow.holds Try.pinned (OpenSpec.upto fnExactValidLogSpec)

/-- 'laws.FnValidLog', WHERE WHAT IT READS IS OF BULK AT MOST 1048576: true; the input reads as it did. -/
def fnValidLogUptoRow : OpenClaim := { program := "ytfdnkfhldgcnmaa", sum := "b9e1b3326cb9e9cdc8b1c34008270886ef436944cf6164f2e1da2cd6cab52fd1", func := "loop.example/liftsandlights/laws.FnValidLog", spec := "fnValidLog", apart := false, narrowed := true }
def FnValidLogUptoSaid : Prop := fnValidLogUptoRow.holds Try.pinned (OpenSpec.upto fnValidLogSpec)

/-- 'laws.FnExactAddEntry', WHERE WHAT IT READS IS OF BULK AT MOST 1048576: true; the input reads as it did. -/
def fnExactAddEntryUptoRow : OpenClaim := { program := "ytfdnkfhldgcnmaa", sum := "b9e1b3326cb9e9cdc8b1c34008270886ef436944cf6164f2e1da2cd6cab52fd1", func := "loop.example/liftsandlights/laws.FnExactAddEntry", spec := "fnExactAddEntry", apart := false, narrowed := true }
def FnExactAddEntryUptoSaid : Prop := fnExactAddEntryUptoRow.holds Try.pinned (OpenSpec.upto fnExactAddEntrySpec)

/-- 'laws.FnAddEntry', WHERE WHAT IT READS IS OF BULK AT MOST 1048576: true; the input reads as it did. -/
def fnAddEntryUptoRow : OpenClaim := { program := "ytfdnkfhldgcnmaa", sum := "b9e1b3326cb9e9cdc8b1c34008270886ef436944cf6164f2e1da2cd6cab52fd1", func := "loop.example/liftsandlights/laws.FnAddEntry", spec := "fnAddEntry", apart := false, narrowed := true }
def FnAddEntryUptoSaid : Prop := fnAddEntryUptoRow.holds Try.pinned (OpenSpec.upto fnAddEntrySpec)

/-- 'laws.FnExactStopsOf', WHERE WHAT IT READS IS OF BULK AT MOST 1048576: true; the input reads as it did. -/
def fnExactStopsOfUptoRow : OpenClaim := { program := "ytfdnkfhldgcnmaa", sum := "b9e1b3326cb9e9cdc8b1c34008270886ef436944cf6164f2e1da2cd6cab52fd1", func := "loop.example/liftsandlights/laws.FnExactStopsOf", spec := "fnExactStopsOf", apart := false, narrowed := true }
def FnExactStopsOfUptoSaid : Prop := fnExactStopsOfUptoRow.holds Try.pinned (OpenSpec.upto fnExactStopsOfSpec)

/-- 'laws.FnStopsOf', WHERE WHAT IT READS IS OF BULK AT MOST 1048576: true; the input reads as it did. -/
def fnStopsOfUptoRow : OpenClaim := { program := "ytfdnkfhldgcnmaa", sum := "b9e1b3326cb9e9cdc8b1c34008270886ef436944cf6164f2e1da2cd6cab52fd1", func := "loop.example/liftsandlights/laws.FnStopsOf", spec := "fnStopsOf", apart := false, narrowed := true }
def FnStopsOfUptoSaid : Prop := fnStopsOfUptoRow.holds Try.pinned (OpenSpec.upto fnStopsOfSpec)

/-- 'laws.FnExactStoppedTime', WHERE WHAT IT READS IS OF BULK AT MOST 1048576: true; the input reads as it did. -/
def fnExactStoppedTimeUptoRow : OpenClaim := { program := "ytfdnkfhldgcnmaa", sum := "b9e1b3326cb9e9cdc8b1c34008270886ef436944cf6164f2e1da2cd6cab52fd1", func := "loop.example/liftsandlights/laws.FnExactStoppedTime", spec := "fnExactStoppedTime", apart := false, narrowed := true }
def FnExactStoppedTimeUptoSaid : Prop := fnExactStoppedTimeUptoRow.holds Try.pinned (OpenSpec.upto fnExactStoppedTimeSpec)

/-- 'laws.FnStoppedTime', WHERE WHAT IT READS IS OF BULK AT MOST 1048576: true; the input reads as it did. -/
def fnStoppedTimeUptoRow : OpenClaim := { program := "ytfdnkfhldgcnmaa", sum := "b9e1b3326cb9e9cdc8b1c34008270886ef436944cf6164f2e1da2cd6cab52fd1", func := "loop.example/liftsandlights/laws.FnStoppedTime", spec := "fnStoppedTime", apart := false, narrowed := true }
def FnStoppedTimeUptoSaid : Prop := fnStoppedTimeUptoRow.holds Try.pinned (OpenSpec.upto fnStoppedTimeSpec)

/-- 'laws.FnStoppedTimeUnits', WHERE WHAT IT READS IS OF BULK AT MOST 1048576: true; the input reads as it did. -/
def fnStoppedTimeUnitsUptoRow : OpenClaim := { program := "ytfdnkfhldgcnmaa", sum := "b9e1b3326cb9e9cdc8b1c34008270886ef436944cf6164f2e1da2cd6cab52fd1", func := "loop.example/liftsandlights/laws.FnStoppedTimeUnits", spec := "fnStoppedTimeUnits", apart := false, narrowed := true }
def FnStoppedTimeUnitsUptoSaid : Prop := fnStoppedTimeUnitsUptoRow.holds Try.pinned (OpenSpec.upto fnStoppedTimeUnitsSpec)

end Rows
end Go.Proofs.Ytfdnkfhldgcnmaa
