/-
  No cell of these rows narrows 'for every input' (looked for: loops, veiled, ifaces, maps, wideKeys, modest, calm, conditions, laid).
  DERIVED. THE GIVEN ROWS OF THIS SEAT. 8 by the template 'for every input the law returns true; each argument reads behind the call as it read before'; 0 by the template 'total and deterministic' (their statements: YtfacedmdpbddcaaTotals.lean).
  GIVEN WITH THE SEED: the statements are not yours to turn. If you find one false, say at which input.
  Laid BY PROGRAM, IN A SANDBOX (cutbox-rows.mjs): the forced cells as the released guide's own fill.sh prints them over the translation 64f644da6ee2a2b6… (all of the seat's roots in one cut). By AI agents, Wed Nov 11 2026. No macro, syntax, notation, axiom, sorry.
-/
import Derived.Test.YtfacedmdpbddcaaChecked
import GoSem.Claim
import GoSem.ClaimJoined
import GoSem.ClaimMapViews
import Derived.JoinedTies
import Derived.KernelRfl
namespace Go.Proofs.Ytfacedmdpbddcaa
/- THE CELL 'sum', in the pinned program and in every row, IS THE sha256 OF THE DUMP (.gsa) THAT YtfacedmdpbddcaaProg.lean LOADS. Nothing in Lean hashes anything: it is a label: what it is worth is what the hold of that sum in a sandbox is worth. -/
noncomputable def Try.pinned : Pinned := { name := "ytfacedmdpbddcaa", sum := "64f644da6ee2a2b6f47a27abd9b349ed354b4c9535d912d76188e7c1c31a7b72", checked := Try.checked }
namespace Rows
def none {H : Type} : Left H := { results := [], args := [] }

/-- 'laws.FnExactValidRoads': WHATEVER THE INPUT: true; the input reads as it did. -/
def fnExactValidRoadsSpec : ChangeSpec := { name := "fnExactValidRoads", fn := fun _ => fun
  | [d1, d2] => { results := [.lit (.bool true)], args := [d1, d2] }
  | _ => none }
def fnExactValidRoadsRow : OpenClaim := { program := "ytfacedmdpbddcaa", sum := "64f644da6ee2a2b6f47a27abd9b349ed354b4c9535d912d76188e7c1c31a7b72", func := "loop.example/liftsandlights/laws.FnExactValidRoads", spec := "fnExactValidRoads", apart := false }
def FnExactValidRoadsSaid : Prop := fnExactValidRoadsRow.holds Try.pinned (OpenSpec.ofChange fnExactValidRoadsSpec)

/-- ITS FALSE NEIGHBOUR: 'it returns false'. Refute it at one input. -/
def fnExactValidRoadsWrong : ChangeSpec := { name := "fnExactValidRoads", fn := fun _ => fun
  | [d1, d2] => { results := [.lit (.bool false)], args := [d1, d2] }
  | _ => none }
def FnExactValidRoadsWrongFalsely : Prop := fnExactValidRoadsRow.holds Try.pinned (OpenSpec.ofChange fnExactValidRoadsWrong)

/-- 'laws.FnValidRoads': WHATEVER THE INPUT: true; the input reads as it did. -/
def fnValidRoadsSpec : ChangeSpec := { name := "fnValidRoads", fn := fun _ => fun
  | [d] => { results := [.lit (.bool true)], args := [d] }
  | _ => none }
def fnValidRoadsRow : OpenClaim := { program := "ytfacedmdpbddcaa", sum := "64f644da6ee2a2b6f47a27abd9b349ed354b4c9535d912d76188e7c1c31a7b72", func := "loop.example/liftsandlights/laws.FnValidRoads", spec := "fnValidRoads", apart := false }
def FnValidRoadsSaid : Prop := fnValidRoadsRow.holds Try.pinned (OpenSpec.ofChange fnValidRoadsSpec)

/-- ITS FALSE NEIGHBOUR: 'it returns false'. Refute it at one input. -/
def fnValidRoadsWrong : ChangeSpec := { name := "fnValidRoads", fn := fun _ => fun
  | [d] => { results := [.lit (.bool false)], args := [d] }
  | _ => none }
def FnValidRoadsWrongFalsely : Prop := fnValidRoadsRow.holds Try.pinned (OpenSpec.ofChange fnValidRoadsWrong)

/-- 'laws.FnTravelTimes': WHATEVER THE INPUT: true; the input reads as it did. -/
def fnTravelTimesSpec : ChangeSpec := { name := "fnTravelTimes", fn := fun _ => fun
  | [d] => { results := [.lit (.bool true)], args := [d] }
  | _ => none }
def fnTravelTimesRow : OpenClaim := { program := "ytfacedmdpbddcaa", sum := "64f644da6ee2a2b6f47a27abd9b349ed354b4c9535d912d76188e7c1c31a7b72", func := "loop.example/liftsandlights/laws.FnTravelTimes", spec := "fnTravelTimes", apart := false }
def FnTravelTimesSaid : Prop := fnTravelTimesRow.holds Try.pinned (OpenSpec.ofChange fnTravelTimesSpec)

/-- ITS FALSE NEIGHBOUR: 'it returns false'. Refute it at one input. -/
def fnTravelTimesWrong : ChangeSpec := { name := "fnTravelTimes", fn := fun _ => fun
  | [d] => { results := [.lit (.bool false)], args := [d] }
  | _ => none }
def FnTravelTimesWrongFalsely : Prop := fnTravelTimesRow.holds Try.pinned (OpenSpec.ofChange fnTravelTimesWrong)

/-- 'laws.FnTravelTimesScale': WHATEVER THE INPUT: true; the input reads as it did. -/
def fnTravelTimesScaleSpec : ChangeSpec := { name := "fnTravelTimesScale", fn := fun _ => fun
  | [d] => { results := [.lit (.bool true)], args := [d] }
  | _ => none }
def fnTravelTimesScaleRow : OpenClaim := { program := "ytfacedmdpbddcaa", sum := "64f644da6ee2a2b6f47a27abd9b349ed354b4c9535d912d76188e7c1c31a7b72", func := "loop.example/liftsandlights/laws.FnTravelTimesScale", spec := "fnTravelTimesScale", apart := false }
def FnTravelTimesScaleSaid : Prop := fnTravelTimesScaleRow.holds Try.pinned (OpenSpec.ofChange fnTravelTimesScaleSpec)

/-- ITS FALSE NEIGHBOUR: 'it returns false'. Refute it at one input. -/
def fnTravelTimesScaleWrong : ChangeSpec := { name := "fnTravelTimesScale", fn := fun _ => fun
  | [d] => { results := [.lit (.bool false)], args := [d] }
  | _ => none }
def FnTravelTimesScaleWrongFalsely : Prop := fnTravelTimesScaleRow.holds Try.pinned (OpenSpec.ofChange fnTravelTimesScaleWrong)

/-- 'laws.FnExactTravelTimes': WHATEVER THE INPUT: true; the input reads as it did. -/
def fnExactTravelTimesSpec : ChangeSpec := { name := "fnExactTravelTimes", fn := fun _ => fun
  | [d1, d2, d3] => { results := [.lit (.bool true)], args := [d1, d2, d3] }
  | _ => none }
def fnExactTravelTimesRow : OpenClaim := { program := "ytfacedmdpbddcaa", sum := "64f644da6ee2a2b6f47a27abd9b349ed354b4c9535d912d76188e7c1c31a7b72", func := "loop.example/liftsandlights/laws.FnExactTravelTimes", spec := "fnExactTravelTimes", apart := false }
def FnExactTravelTimesSaid : Prop := fnExactTravelTimesRow.holds Try.pinned (OpenSpec.ofChange fnExactTravelTimesSpec)

/-- ITS FALSE NEIGHBOUR: 'it returns false'. Refute it at one input. -/
def fnExactTravelTimesWrong : ChangeSpec := { name := "fnExactTravelTimes", fn := fun _ => fun
  | [d1, d2, d3] => { results := [.lit (.bool false)], args := [d1, d2, d3] }
  | _ => none }
def FnExactTravelTimesWrongFalsely : Prop := fnExactTravelTimesRow.holds Try.pinned (OpenSpec.ofChange fnExactTravelTimesWrong)

/-- 'laws.FnRouteOf': WHATEVER THE INPUT: true; the input reads as it did. -/
def fnRouteOfSpec : ChangeSpec := { name := "fnRouteOf", fn := fun _ => fun
  | [d] => { results := [.lit (.bool true)], args := [d] }
  | _ => none }
def fnRouteOfRow : OpenClaim := { program := "ytfacedmdpbddcaa", sum := "64f644da6ee2a2b6f47a27abd9b349ed354b4c9535d912d76188e7c1c31a7b72", func := "loop.example/liftsandlights/laws.FnRouteOf", spec := "fnRouteOf", apart := false }
def FnRouteOfSaid : Prop := fnRouteOfRow.holds Try.pinned (OpenSpec.ofChange fnRouteOfSpec)

/-- ITS FALSE NEIGHBOUR: 'it returns false'. Refute it at one input. -/
def fnRouteOfWrong : ChangeSpec := { name := "fnRouteOf", fn := fun _ => fun
  | [d] => { results := [.lit (.bool false)], args := [d] }
  | _ => none }
def FnRouteOfWrongFalsely : Prop := fnRouteOfRow.holds Try.pinned (OpenSpec.ofChange fnRouteOfWrong)

/-- 'laws.FnRouteOfPart': WHATEVER THE INPUT: true; the input reads as it did. -/
def fnRouteOfPartSpec : ChangeSpec := { name := "fnRouteOfPart", fn := fun _ => fun
  | [d] => { results := [.lit (.bool true)], args := [d] }
  | _ => none }
def fnRouteOfPartRow : OpenClaim := { program := "ytfacedmdpbddcaa", sum := "64f644da6ee2a2b6f47a27abd9b349ed354b4c9535d912d76188e7c1c31a7b72", func := "loop.example/liftsandlights/laws.FnRouteOfPart", spec := "fnRouteOfPart", apart := false }
def FnRouteOfPartSaid : Prop := fnRouteOfPartRow.holds Try.pinned (OpenSpec.ofChange fnRouteOfPartSpec)

/-- ITS FALSE NEIGHBOUR: 'it returns false'. Refute it at one input. -/
def fnRouteOfPartWrong : ChangeSpec := { name := "fnRouteOfPart", fn := fun _ => fun
  | [d] => { results := [.lit (.bool false)], args := [d] }
  | _ => none }
def FnRouteOfPartWrongFalsely : Prop := fnRouteOfPartRow.holds Try.pinned (OpenSpec.ofChange fnRouteOfPartWrong)

/-- 'laws.FnExactRouteOf': WHATEVER THE INPUT: true; the input reads as it did. -/
def fnExactRouteOfSpec : ChangeSpec := { name := "fnExactRouteOf", fn := fun _ => fun
  | [d1, d2, d3, d4] => { results := [.lit (.bool true)], args := [d1, d2, d3, d4] }
  | _ => none }
def fnExactRouteOfRow : OpenClaim := { program := "ytfacedmdpbddcaa", sum := "64f644da6ee2a2b6f47a27abd9b349ed354b4c9535d912d76188e7c1c31a7b72", func := "loop.example/liftsandlights/laws.FnExactRouteOf", spec := "fnExactRouteOf", apart := false }
def FnExactRouteOfSaid : Prop := fnExactRouteOfRow.holds Try.pinned (OpenSpec.ofChange fnExactRouteOfSpec)

/-- ITS FALSE NEIGHBOUR: 'it returns false'. Refute it at one input. -/
def fnExactRouteOfWrong : ChangeSpec := { name := "fnExactRouteOf", fn := fun _ => fun
  | [d1, d2, d3, d4] => { results := [.lit (.bool false)], args := [d1, d2, d3, d4] }
  | _ => none }
def FnExactRouteOfWrongFalsely : Prop := fnExactRouteOfRow.holds Try.pinned (OpenSpec.ofChange fnExactRouteOfWrong)

/- THE SECOND FORM. 'bulk': how many values and letters a reading holds, each counted each time it is reached (what is shared counts as often as it is met; a slice's spare places count too). A statement '..UptoSaid' is the law's where the arguments, and the package variables that the reading takes, are together of bulk at most 1048576: NARROWER than '..Said'. Prove '..Said' where nothing that the law and all that it calls make is longer than what came in: it says more and counts as full. Else prove '..UptoSaid'. A law counts once. -/
mutual
def uptoBulk {H : Type} : DataW H → Nat
  | .lit (.string bytes) => bytes.length + 1
  | .lit _ => 1
  | .nil => 1
  | .ptr d => uptoBulk d + 1
  | .slice elems spare => uptoBulkAll elems + uptoBulkAll spare + 1
  | .agg parts => uptoBulkAll parts + 1
  | .iface _ d => uptoBulk d + 1
  | .map entries => uptoBulkEntries entries + 1
  | .held _ => 1
def uptoBulkAll {H : Type} : List (DataW H) → Nat
  | [] => 0
  | d :: r => uptoBulk d + uptoBulkAll r
def uptoBulkEntries {H : Type} : List (Lit × DataW H) → Nat
  | [] => 0
  | x :: r => uptoBulkEntry x + uptoBulkEntries r
def uptoBulkEntry {H : Type} : Lit × DataW H → Nat
  | (.string bytes, d) => bytes.length + uptoBulk d + 1
  | (_, d) => uptoBulk d + 1
 end
def uptoSmall : (H : Type) → List (DataW H) → Bool := fun _ ds => decide (uptoBulkAll ds ≤ 1048576)
def OpenSpec.upto (s : _root_.Go.ChangeSpec) : _root_.Go.OpenSpec := { _root_.Go.OpenSpec.ofChange s with cond := some uptoSmall }

/-- 'laws.FnExactValidRoads', WHERE WHAT IT READS IS OF BULK AT MOST 1048576: true; the input reads as it did. -/
def fnExactValidRoadsUptoRow : OpenClaim := { program := "ytfacedmdpbddcaa", sum := "64f644da6ee2a2b6f47a27abd9b349ed354b4c9535d912d76188e7c1c31a7b72", func := "loop.example/liftsandlights/laws.FnExactValidRoads", spec := "fnExactValidRoads", apart := false, narrowed := true }
def FnExactValidRoadsUptoSaid : Prop := fnExactValidRoadsUptoRow.holds Try.pinned (OpenSpec.upto fnExactValidRoadsSpec)

/-- 'laws.FnValidRoads', WHERE WHAT IT READS IS OF BULK AT MOST 1048576: true; the input reads as it did. -/
def fnValidRoadsUptoRow : OpenClaim := { program := "ytfacedmdpbddcaa", sum := "64f644da6ee2a2b6f47a27abd9b349ed354b4c9535d912d76188e7c1c31a7b72", func := "loop.example/liftsandlights/laws.FnValidRoads", spec := "fnValidRoads", apart := false, narrowed := true }
def FnValidRoadsUptoSaid : Prop := fnValidRoadsUptoRow.holds Try.pinned (OpenSpec.upto fnValidRoadsSpec)

/-- 'laws.FnTravelTimes', WHERE WHAT IT READS IS OF BULK AT MOST 1048576: true; the input reads as it did. -/
def fnTravelTimesUptoRow : OpenClaim := { program := "ytfacedmdpbddcaa", sum := "64f644da6ee2a2b6f47a27abd9b349ed354b4c9535d912d76188e7c1c31a7b72", func := "loop.example/liftsandlights/laws.FnTravelTimes", spec := "fnTravelTimes", apart := false, narrowed := true }
def FnTravelTimesUptoSaid : Prop := fnTravelTimesUptoRow.holds Try.pinned (OpenSpec.upto fnTravelTimesSpec)

/-- 'laws.FnTravelTimesScale', WHERE WHAT IT READS IS OF BULK AT MOST 1048576: true; the input reads as it did. -/
def fnTravelTimesScaleUptoRow : OpenClaim := { program := "ytfacedmdpbddcaa", sum := "64f644da6ee2a2b6f47a27abd9b349ed354b4c9535d912d76188e7c1c31a7b72", func := "loop.example/liftsandlights/laws.FnTravelTimesScale", spec := "fnTravelTimesScale", apart := false, narrowed := true }
def FnTravelTimesScaleUptoSaid : Prop := fnTravelTimesScaleUptoRow.holds Try.pinned (OpenSpec.upto fnTravelTimesScaleSpec)

/-- 'laws.FnExactTravelTimes', WHERE WHAT IT READS IS OF BULK AT MOST 1048576: true; the input reads as it did. -/
def fnExactTravelTimesUptoRow : OpenClaim := { program := "ytfacedmdpbddcaa", sum := "64f644da6ee2a2b6f47a27abd9b349ed354b4c9535d912d76188e7c1c31a7b72", func := "loop.example/liftsandlights/laws.FnExactTravelTimes", spec := "fnExactTravelTimes", apart := false, narrowed := true }
def FnExactTravelTimesUptoSaid : Prop := fnExactTravelTimesUptoRow.holds Try.pinned (OpenSpec.upto fnExactTravelTimesSpec)

/-- 'laws.FnRouteOf', WHERE WHAT IT READS IS OF BULK AT MOST 1048576: true; the input reads as it did. -/
def fnRouteOfUptoRow : OpenClaim := { program := "ytfacedmdpbddcaa", sum := "64f644da6ee2a2b6f47a27abd9b349ed354b4c9535d912d76188e7c1c31a7b72", func := "loop.example/liftsandlights/laws.FnRouteOf", spec := "fnRouteOf", apart := false, narrowed := true }
def FnRouteOfUptoSaid : Prop := fnRouteOfUptoRow.holds Try.pinned (OpenSpec.upto fnRouteOfSpec)

/-- 'laws.FnRouteOfPart', WHERE WHAT IT READS IS OF BULK AT MOST 1048576: true; the input reads as it did. -/
def fnRouteOfPartUptoRow : OpenClaim := { program := "ytfacedmdpbddcaa", sum := "64f644da6ee2a2b6f47a27abd9b349ed354b4c9535d912d76188e7c1c31a7b72", func := "loop.example/liftsandlights/laws.FnRouteOfPart", spec := "fnRouteOfPart", apart := false, narrowed := true }
def FnRouteOfPartUptoSaid : Prop := fnRouteOfPartUptoRow.holds Try.pinned (OpenSpec.upto fnRouteOfPartSpec)

/-- 'laws.FnExactRouteOf', WHERE WHAT IT READS IS OF BULK AT MOST 1048576: true; the input reads as it did. -/
def fnExactRouteOfUptoRow : OpenClaim := { program := "ytfacedmdpbddcaa", sum := "64f644da6ee2a2b6f47a27abd9b349ed354b4c9535d912d76188e7c1c31a7b72", func := "loop.example/liftsandlights/laws.FnExactRouteOf", spec := "fnExactRouteOf", apart := false, narrowed := true }
def FnExactRouteOfUptoSaid : Prop := fnExactRouteOfUptoRow.holds Try.pinned (OpenSpec.upto fnExactRouteOfSpec)

end Rows
end Go.Proofs.Ytfacedmdpbddcaa
