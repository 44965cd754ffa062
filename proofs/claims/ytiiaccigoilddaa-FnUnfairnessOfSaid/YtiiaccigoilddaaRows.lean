/-
  No cell of these rows narrows 'for every input' (looked for: loops, veiled, ifaces, maps, wideKeys, modest, calm, conditions, laid).
  DERIVED. THE GIVEN ROWS OF THIS SEAT. 10 by the template 'for every input the law returns true; each argument reads behind the call as it read before'; 0 by the template 'total and deterministic' (their statements: YtiiaccigoilddaaTotals.lean).
  GIVEN WITH THE SEED: the statements are not yours to turn. If you find one false, say at which input.
  Laid BY PROGRAM, IN A SANDBOX (cutbox-rows.mjs): the forced cells as the released guide's own fill.sh prints them over the translation 6c86335d659c87ca… (all of the seat's roots in one cut). By AI agents, Wed Nov 11 2026. No macro, syntax, notation, axiom, sorry.
-/
import Derived.Test.YtiiaccigoilddaaChecked
import GoSem.Claim
import GoSem.ClaimJoined
import GoSem.ClaimMapViews
import Derived.JoinedTies
import Derived.KernelRfl
namespace Go.Proofs.Ytiiaccigoilddaa
/- THE CELL 'sum', in the pinned program and in every row, IS THE sha256 OF THE DUMP (.gsa) THAT YtiiaccigoilddaaProg.lean LOADS. Nothing in Lean hashes anything: it is a label: what it is worth is what the hold of that sum in a sandbox is worth. -/
noncomputable def Try.pinned : Pinned := { name := "ytiiaccigoilddaa", sum := "6c86335d659c87ca367224e0883f1213ff5248034d2d0de8553b815e171fe332", checked := Try.checked }
namespace Rows
def none {H : Type} : Left H := { results := [], args := [] }

/-- 'laws.FnExactLongestWait': WHATEVER THE INPUT: true; the input reads as it did. -/
def fnExactLongestWaitSpec : ChangeSpec := { name := "fnExactLongestWait", fn := fun _ => fun
  | [d] => { results := [.lit (.bool true)], args := [d] }
  | _ => none }
def fnExactLongestWaitRow : OpenClaim := { program := "ytiiaccigoilddaa", sum := "6c86335d659c87ca367224e0883f1213ff5248034d2d0de8553b815e171fe332", func := "loop.example/liftsandlights/laws.FnExactLongestWait", spec := "fnExactLongestWait", apart := false }
def FnExactLongestWaitSaid : Prop := fnExactLongestWaitRow.holds Try.pinned (OpenSpec.ofChange fnExactLongestWaitSpec)

/-- ITS FALSE NEIGHBOUR: 'it returns false'. Refute it at one input. -/
def fnExactLongestWaitWrong : ChangeSpec := { name := "fnExactLongestWait", fn := fun _ => fun
  | [d] => { results := [.lit (.bool false)], args := [d] }
  | _ => none }
def FnExactLongestWaitWrongFalsely : Prop := fnExactLongestWaitRow.holds Try.pinned (OpenSpec.ofChange fnExactLongestWaitWrong)

/-- 'laws.FnLongestWaitParts': WHATEVER THE INPUT: true; the input reads as it did. -/
def fnLongestWaitPartsSpec : ChangeSpec := { name := "fnLongestWaitParts", fn := fun _ => fun
  | [d] => { results := [.lit (.bool true)], args := [d] }
  | _ => none }
def fnLongestWaitPartsRow : OpenClaim := { program := "ytiiaccigoilddaa", sum := "6c86335d659c87ca367224e0883f1213ff5248034d2d0de8553b815e171fe332", func := "loop.example/liftsandlights/laws.FnLongestWaitParts", spec := "fnLongestWaitParts", apart := false }
def FnLongestWaitPartsSaid : Prop := fnLongestWaitPartsRow.holds Try.pinned (OpenSpec.ofChange fnLongestWaitPartsSpec)

/-- ITS FALSE NEIGHBOUR: 'it returns false'. Refute it at one input. -/
def fnLongestWaitPartsWrong : ChangeSpec := { name := "fnLongestWaitParts", fn := fun _ => fun
  | [d] => { results := [.lit (.bool false)], args := [d] }
  | _ => none }
def FnLongestWaitPartsWrongFalsely : Prop := fnLongestWaitPartsRow.holds Try.pinned (OpenSpec.ofChange fnLongestWaitPartsWrong)

/-- 'laws.FnLongestWait': WHATEVER THE INPUT: true; the input reads as it did. -/
def fnLongestWaitSpec : ChangeSpec := { name := "fnLongestWait", fn := fun _ => fun
  | [d] => { results := [.lit (.bool true)], args := [d] }
  | _ => none }
def fnLongestWaitRow : OpenClaim := { program := "ytiiaccigoilddaa", sum := "6c86335d659c87ca367224e0883f1213ff5248034d2d0de8553b815e171fe332", func := "loop.example/liftsandlights/laws.FnLongestWait", spec := "fnLongestWait", apart := false }
def FnLongestWaitSaid : Prop := fnLongestWaitRow.holds Try.pinned (OpenSpec.ofChange fnLongestWaitSpec)

/-- ITS FALSE NEIGHBOUR: 'it returns false'. Refute it at one input. -/
def fnLongestWaitWrong : ChangeSpec := { name := "fnLongestWait", fn := fun _ => fun
  | [d] => { results := [.lit (.bool false)], args := [d] }
  | _ => none }
def FnLongestWaitWrongFalsely : Prop := fnLongestWaitRow.holds Try.pinned (OpenSpec.ofChange fnLongestWaitWrong)

/-- 'laws.FnExactShareWithin': WHATEVER THE INPUT: true; the input reads as it did. -/
def fnExactShareWithinSpec : ChangeSpec := { name := "fnExactShareWithin", fn := fun _ => fun
  | [d1, d2] => { results := [.lit (.bool true)], args := [d1, d2] }
  | _ => none }
def fnExactShareWithinRow : OpenClaim := { program := "ytiiaccigoilddaa", sum := "6c86335d659c87ca367224e0883f1213ff5248034d2d0de8553b815e171fe332", func := "loop.example/liftsandlights/laws.FnExactShareWithin", spec := "fnExactShareWithin", apart := false }
def FnExactShareWithinSaid : Prop := fnExactShareWithinRow.holds Try.pinned (OpenSpec.ofChange fnExactShareWithinSpec)

/-- ITS FALSE NEIGHBOUR: 'it returns false'. Refute it at one input. -/
def fnExactShareWithinWrong : ChangeSpec := { name := "fnExactShareWithin", fn := fun _ => fun
  | [d1, d2] => { results := [.lit (.bool false)], args := [d1, d2] }
  | _ => none }
def FnExactShareWithinWrongFalsely : Prop := fnExactShareWithinRow.holds Try.pinned (OpenSpec.ofChange fnExactShareWithinWrong)

/-- 'laws.FnShareWithinParts': WHATEVER THE INPUT: true; the input reads as it did. -/
def fnShareWithinPartsSpec : ChangeSpec := { name := "fnShareWithinParts", fn := fun _ => fun
  | [d] => { results := [.lit (.bool true)], args := [d] }
  | _ => none }
def fnShareWithinPartsRow : OpenClaim := { program := "ytiiaccigoilddaa", sum := "6c86335d659c87ca367224e0883f1213ff5248034d2d0de8553b815e171fe332", func := "loop.example/liftsandlights/laws.FnShareWithinParts", spec := "fnShareWithinParts", apart := false }
def FnShareWithinPartsSaid : Prop := fnShareWithinPartsRow.holds Try.pinned (OpenSpec.ofChange fnShareWithinPartsSpec)

/-- ITS FALSE NEIGHBOUR: 'it returns false'. Refute it at one input. -/
def fnShareWithinPartsWrong : ChangeSpec := { name := "fnShareWithinParts", fn := fun _ => fun
  | [d] => { results := [.lit (.bool false)], args := [d] }
  | _ => none }
def FnShareWithinPartsWrongFalsely : Prop := fnShareWithinPartsRow.holds Try.pinned (OpenSpec.ofChange fnShareWithinPartsWrong)

/-- 'laws.FnShareWithin': WHATEVER THE INPUT: true; the input reads as it did. -/
def fnShareWithinSpec : ChangeSpec := { name := "fnShareWithin", fn := fun _ => fun
  | [d] => { results := [.lit (.bool true)], args := [d] }
  | _ => none }
def fnShareWithinRow : OpenClaim := { program := "ytiiaccigoilddaa", sum := "6c86335d659c87ca367224e0883f1213ff5248034d2d0de8553b815e171fe332", func := "loop.example/liftsandlights/laws.FnShareWithin", spec := "fnShareWithin", apart := false }
def FnShareWithinSaid : Prop := fnShareWithinRow.holds Try.pinned (OpenSpec.ofChange fnShareWithinSpec)

/-- ITS FALSE NEIGHBOUR: 'it returns false'. Refute it at one input. -/
def fnShareWithinWrong : ChangeSpec := { name := "fnShareWithin", fn := fun _ => fun
  | [d] => { results := [.lit (.bool false)], args := [d] }
  | _ => none }
def FnShareWithinWrongFalsely : Prop := fnShareWithinRow.holds Try.pinned (OpenSpec.ofChange fnShareWithinWrong)

/-- 'laws.FnExactWaitRank': WHATEVER THE INPUT: true; the input reads as it did. -/
def fnExactWaitRankSpec : ChangeSpec := { name := "fnExactWaitRank", fn := fun _ => fun
  | [d1, d2] => { results := [.lit (.bool true)], args := [d1, d2] }
  | _ => none }
def fnExactWaitRankRow : OpenClaim := { program := "ytiiaccigoilddaa", sum := "6c86335d659c87ca367224e0883f1213ff5248034d2d0de8553b815e171fe332", func := "loop.example/liftsandlights/laws.FnExactWaitRank", spec := "fnExactWaitRank", apart := false }
def FnExactWaitRankSaid : Prop := fnExactWaitRankRow.holds Try.pinned (OpenSpec.ofChange fnExactWaitRankSpec)

/-- ITS FALSE NEIGHBOUR: 'it returns false'. Refute it at one input. -/
def fnExactWaitRankWrong : ChangeSpec := { name := "fnExactWaitRank", fn := fun _ => fun
  | [d1, d2] => { results := [.lit (.bool false)], args := [d1, d2] }
  | _ => none }
def FnExactWaitRankWrongFalsely : Prop := fnExactWaitRankRow.holds Try.pinned (OpenSpec.ofChange fnExactWaitRankWrong)

/-- 'laws.FnWaitRank': WHATEVER THE INPUT: true; the input reads as it did. -/
def fnWaitRankSpec : ChangeSpec := { name := "fnWaitRank", fn := fun _ => fun
  | [d] => { results := [.lit (.bool true)], args := [d] }
  | _ => none }
def fnWaitRankRow : OpenClaim := { program := "ytiiaccigoilddaa", sum := "6c86335d659c87ca367224e0883f1213ff5248034d2d0de8553b815e171fe332", func := "loop.example/liftsandlights/laws.FnWaitRank", spec := "fnWaitRank", apart := false }
def FnWaitRankSaid : Prop := fnWaitRankRow.holds Try.pinned (OpenSpec.ofChange fnWaitRankSpec)

/-- ITS FALSE NEIGHBOUR: 'it returns false'. Refute it at one input. -/
def fnWaitRankWrong : ChangeSpec := { name := "fnWaitRank", fn := fun _ => fun
  | [d] => { results := [.lit (.bool false)], args := [d] }
  | _ => none }
def FnWaitRankWrongFalsely : Prop := fnWaitRankRow.holds Try.pinned (OpenSpec.ofChange fnWaitRankWrong)

/-- 'laws.FnExactUnfairnessOf': WHATEVER THE INPUT: true; the input reads as it did. -/
def fnExactUnfairnessOfSpec : ChangeSpec := { name := "fnExactUnfairnessOf", fn := fun _ => fun
  | [d] => { results := [.lit (.bool true)], args := [d] }
  | _ => none }
def fnExactUnfairnessOfRow : OpenClaim := { program := "ytiiaccigoilddaa", sum := "6c86335d659c87ca367224e0883f1213ff5248034d2d0de8553b815e171fe332", func := "loop.example/liftsandlights/laws.FnExactUnfairnessOf", spec := "fnExactUnfairnessOf", apart := false }
def FnExactUnfairnessOfSaid : Prop := fnExactUnfairnessOfRow.holds Try.pinned (OpenSpec.ofChange fnExactUnfairnessOfSpec)

/-- ITS FALSE NEIGHBOUR: 'it returns false'. Refute it at one input. -/
def fnExactUnfairnessOfWrong : ChangeSpec := { name := "fnExactUnfairnessOf", fn := fun _ => fun
  | [d] => { results := [.lit (.bool false)], args := [d] }
  | _ => none }
def FnExactUnfairnessOfWrongFalsely : Prop := fnExactUnfairnessOfRow.holds Try.pinned (OpenSpec.ofChange fnExactUnfairnessOfWrong)

/-- 'laws.FnUnfairnessOf': WHATEVER THE INPUT: true; the input reads as it did. -/
def fnUnfairnessOfSpec : ChangeSpec := { name := "fnUnfairnessOf", fn := fun _ => fun
  | [d] => { results := [.lit (.bool true)], args := [d] }
  | _ => none }
def fnUnfairnessOfRow : OpenClaim := { program := "ytiiaccigoilddaa", sum := "6c86335d659c87ca367224e0883f1213ff5248034d2d0de8553b815e171fe332", func := "loop.example/liftsandlights/laws.FnUnfairnessOf", spec := "fnUnfairnessOf", apart := false }
def FnUnfairnessOfSaid : Prop := fnUnfairnessOfRow.holds Try.pinned (OpenSpec.ofChange fnUnfairnessOfSpec)

/-- ITS FALSE NEIGHBOUR: 'it returns false'. Refute it at one input. -/
def fnUnfairnessOfWrong : ChangeSpec := { name := "fnUnfairnessOf", fn := fun _ => fun
  | [d] => { results := [.lit (.bool false)], args := [d] }
  | _ => none }
def FnUnfairnessOfWrongFalsely : Prop := fnUnfairnessOfRow.holds Try.pinned (OpenSpec.ofChange fnUnfairnessOfWrong)

/- THE SECOND FORM. 'bulk': how many values and letters a reading holds, each counted each time it is reached (what is shared counts as often as it is met; a slice's spare places count too). A statement '..UptoSaid' is the law's where the arguments, and the package variables that the reading takes, are together of bulk at most 1048576: NARROWER than '..Said'. Prove '..Said' where nothing that the law and all that it calls make is longer than what came in: it says more and counts as full. Else prove '..UptoSaid'. A law counts once. -/
mutual
def uptoBulk {H : Type} : DataW H → Nat
  | .lit (.string bytes) => bytes.length + 1
  | .lit _ => 1
  | .nil => 1
  | .ptr d => uptoBulk d + 1
  | .slice elems spare => uptoBulkAll elems + uptoBulkAll spare + 1
  | .agg parts => uptoBulkAll parts + 1
  | .iface _ d => uptoBulk d + 1
  | .map entries => uptoBulkEntries entries + 1
  | .held _ => 1
def uptoBulkAll {H : Type} : List (DataW H) → Nat
  | [] => 0
  | d :: r => uptoBulk d + uptoBulkAll r
def uptoBulkEntries {H : Type} : List (Lit × DataW H) → Nat
  | [] => 0
  | x :: r => uptoBulkEntry x + uptoBulkEntries r
def uptoBulkEntry {H : Type} : Lit × DataW H → Nat
  | (.string bytes, d) => bytes.length + uptoBulk d + 1
  | (_, d) => uptoBulk d + 1
 end
def uptoSmall : (H : Type) → List (DataW H) → Bool := fun _ ds => decide (uptoBulkAll ds ≤ 1048576)
def OpenSpec.upto (s : _root_.Go.ChangeSpec) : _root_.Go.OpenSpec := { _root_.Go.OpenSpec.ofChange s with cond := some uptoSmall }

/-- 'laws.FnExactLongestWait', WHERE WHAT IT READS IS OF BULK AT MOST 1048576: true; the input reads as it did. -/
def fnExactLongestWaitUptoRow : OpenClaim := { program := "ytiiaccigoilddaa", sum := "6c86335d659c87ca367224e0883f1213ff5248034d2d0de8553b815e171fe332", func := "loop.example/liftsandlights/laws.FnExactLongestWait", spec := "fnExactLongestWait", apart := false, narrowed := true }
def FnExactLongestWaitUptoSaid : Prop := fnExactLongestWaitUptoRow.holds Try.pinned (OpenSpec.upto fnExactLongestWaitSpec)

/-- 'laws.FnLongestWaitParts', WHERE WHAT IT READS IS OF BULK AT MOST 1048576: true; the input reads as it did. -/
def fnLongestWaitPartsUptoRow : OpenClaim := { program := "ytiiaccigoilddaa", sum := "6c86335d659c87ca367224e0883f1213ff5248034d2d0de8553b815e171fe332", func := "loop.example/liftsandlights/laws.FnLongestWaitParts", spec := "fnLongestWaitParts", apart := false, narrowed := true }
def FnLongestWaitPartsUptoSaid : Prop := fnLongestWaitPartsUptoRow.holds Try.pinned (OpenSpec.upto fnLongestWaitPartsSpec)

/-- 'laws.FnLongestWait', WHERE WHAT IT READS IS OF BULK AT MOST 1048576: true; the input reads as it did. -/
def fnLongestWaitUptoRow : OpenClaim := { program := "ytiiaccigoilddaa", sum := "6c86335d659c87ca367224e0883f1213ff5248034d2d0de8553b815e171fe332", func := "loop.example/liftsandlights/laws.FnLongestWait", spec := "fnLongestWait", apart := false, narrowed := true }
def FnLongestWaitUptoSaid : Prop := fnLongestWaitUptoRow.holds Try.pinned (OpenSpec.upto fnLongestWaitSpec)

/-- 'laws.FnExactShareWithin', WHERE WHAT IT READS IS OF BULK AT MOST 1048576: true; the input reads as it did. -/
def fnExactShareWithinUptoRow : OpenClaim := { program := "ytiiaccigoilddaa", sum := "6c86335d659c87ca367224e0883f1213ff5248034d2d0de8553b815e171fe332", func := "loop.example/liftsandlights/laws.FnExactShareWithin", spec := "fnExactShareWithin", apart := false, narrowed := true }
def FnExactShareWithinUptoSaid : Prop := fnExactShareWithinUptoRow.holds Try.pinned (OpenSpec.upto fnExactShareWithinSpec)

/-- 'laws.FnShareWithinParts', WHERE WHAT IT READS IS OF BULK AT MOST 1048576: true; the input reads as it did. -/
def fnShareWithinPartsUptoRow : OpenClaim := { program := "ytiiaccigoilddaa", sum := "6c86335d659c87ca367224e0883f1213ff5248034d2d0de8553b815e171fe332", func := "loop.example/liftsandlights/laws.FnShareWithinParts", spec := "fnShareWithinParts", apart := false, narrowed := true }
def FnShareWithinPartsUptoSaid : Prop := fnShareWithinPartsUptoRow.holds Try.pinned (OpenSpec.upto fnShareWithinPartsSpec)

/-- 'laws.FnShareWithin', WHERE WHAT IT READS IS OF BULK AT MOST 1048576: true; the input reads as it did. -/
def fnShareWithinUptoRow : OpenClaim := { program := "ytiiaccigoilddaa", sum := "6c86335d659c87ca367224e0883f1213ff5248034d2d0de8553b815e171fe332", func := "loop.example/liftsandlights/laws.FnShareWithin", spec := "fnShareWithin", apart := false, narrowed := true }
def FnShareWithinUptoSaid : Prop := fnShareWithinUptoRow.holds Try.pinned (OpenSpec.upto fnShareWithinSpec)

/-- 'laws.FnExactWaitRank', WHERE WHAT IT READS IS OF BULK AT MOST 1048576: true; the input reads as it did. -/
def fnExactWaitRankUptoRow : OpenClaim := { program := "ytiiaccigoilddaa", sum := "6c86335d659c87ca367224e0883f1213ff5248034d2d0de8553b815e171fe332", func := "loop.example/liftsandlights/laws.FnExactWaitRank", spec := "fnExactWaitRank", apart := false, narrowed := true }
def FnExactWaitRankUptoSaid : Prop := fnExactWaitRankUptoRow.holds Try.pinned (OpenSpec.upto fnExactWaitRankSpec)

/-- 'laws.FnWaitRank', WHERE WHAT IT READS IS OF BULK AT MOST 1048576: true; the input reads as it did. -/
def fnWaitRankUptoRow : OpenClaim := { program := "ytiiaccigoilddaa", sum := "6c86335d659c87ca367224e0883f1213ff5248034d2d0de8553b815e171fe332", func := "loop.example/liftsandlights/laws.FnWaitRank", spec := "fnWaitRank", apart := false, narrowed := true }
def FnWaitRankUptoSaid : Prop := fnWaitRankUptoRow.holds Try.pinned (OpenSpec.upto fnWaitRankSpec)

/-- 'laws.FnExactUnfairnessOf', WHERE WHAT IT READS IS OF BULK AT MOST 1048576: true; the input reads as it did. -/
def fnExactUnfairnessOfUptoRow : OpenClaim := { program := "ytiiaccigoilddaa", sum := "6c86335d659c87ca367224e0883f1213ff5248034d2d0de8553b815e171fe332", func := "loop.example/liftsandlights/laws.FnExactUnfairnessOf", spec := "fnExactUnfairnessOf", apart := false, narrowed := true }
def FnExactUnfairnessOfUptoSaid : Prop := fnExactUnfairnessOfUptoRow.holds Try.pinned (OpenSpec.upto fnExactUnfairnessOfSpec)

/-- 'laws.FnUnfairnessOf', WHERE WHAT IT READS IS OF BULK AT MOST 1048576: true; the input reads as it did. -/
def fnUnfairnessOfUptoRow : OpenClaim := { program := "ytiiaccigoilddaa", sum := "6c86335d659c87ca367224e0883f1213ff5248034d2d0de8553b815e171fe332", func := "loop.example/liftsandlights/laws.FnUnfairnessOf", spec := "fnUnfairnessOf", apart := false, narrowed := true }
def FnUnfairnessOfUptoSaid : Prop := fnUnfairnessOfUptoRow.holds Try.pinned (OpenSpec.upto fnUnfairnessOfSpec)

end Rows
end Go.Proofs.Ytiiaccigoilddaa
