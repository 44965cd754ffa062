/-
  No cell of these rows narrows 'for every input' (looked for: loops, veiled, ifaces, maps, wideKeys, modest, calm, conditions, laid).
  DERIVED. THE GIVEN ROWS OF THIS SEAT. 5 by the template 'for every input the law returns true; each argument reads behind the call as it read before'; 0 by the template 'total and deterministic' (their statements: YtmccdmlfaaphkaaTotals.lean).
  GIVEN WITH THE SEED: the statements are not yours to turn. If you find one false, say at which input.
  Laid BY PROGRAM, IN A SANDBOX (cutbox-rows.mjs): the forced cells as the released guide's own fill.sh prints them over the translation bc8ecba9ff238296… (all of the seat's roots in one cut). By AI agents, Wed Nov 11 2026. No macro, syntax, notation, axiom, sorry.
-/
import Derived.Test.YtmccdmlfaaphkaaChecked
import GoSem.Claim
import GoSem.ClaimJoined
import GoSem.ClaimMapViews
import Derived.JoinedTies
import Derived.KernelRfl
namespace Go.Proofs.Ytmccdmlfaaphkaa
/- THE CELL 'sum', in the pinned program and in every row, IS THE sha256 OF THE DUMP (.gsa) THAT YtmccdmlfaaphkaaProg.lean LOADS. Nothing in Lean hashes anything: it is a label: what it is worth is what the hold of that sum in a sandbox is worth. -/
noncomputable def Try.pinned : Pinned := { name := "ytmccdmlfaaphkaa", sum := "bc8ecba9ff238296d4e385e663a8ccd58e2f10af062f2f61aca1d4acb5173aad", checked := Try.checked }
namespace Rows
def none {H : Type} : Left H := { results := [], args := [] }

/-- 'laws.FnSwitchTime': WHATEVER THE INPUT: true; the input reads as it did. -/
def fnSwitchTimeSpec : ChangeSpec := { name := "fnSwitchTime", fn := fun _ => fun
  | [d] => { results := [.lit (.bool true)], args := [d] }
  | _ => none }
def fnSwitchTimeRow : OpenClaim := { program := "ytmccdmlfaaphkaa", sum := "bc8ecba9ff238296d4e385e663a8ccd58e2f10af062f2f61aca1d4acb5173aad", func := "loop.example/liftsandlights/laws.FnSwitchTime", spec := "fnSwitchTime", apart := false }
def FnSwitchTimeSaid : Prop := fnSwitchTimeRow.holds Try.pinned (OpenSpec.ofChange fnSwitchTimeSpec)

/-- ITS FALSE NEIGHBOUR: 'it returns false'. Refute it at one input. -/
def fnSwitchTimeWrong : ChangeSpec := { name := "fnSwitchTime", fn := fun _ => fun
  | [d] => { results := [.lit (.bool false)], args := [d] }
  | _ => none }
def FnSwitchTimeWrongFalsely : Prop := fnSwitchTimeRow.holds Try.pinned (OpenSpec.ofChange fnSwitchTimeWrong)

/-- 'laws.FnExactSwitchTime': WHATEVER THE INPUT: true; the input reads as it did. -/
def fnExactSwitchTimeSpec : ChangeSpec := { name := "fnExactSwitchTime", fn := fun _ => fun
  | [d1, d2] => { results := [.lit (.bool true)], args := [d1, d2] }
  | _ => none }
def fnExactSwitchTimeRow : OpenClaim := { program := "ytmccdmlfaaphkaa", sum := "bc8ecba9ff238296d4e385e663a8ccd58e2f10af062f2f61aca1d4acb5173aad", func := "loop.example/liftsandlights/laws.FnExactSwitchTime", spec := "fnExactSwitchTime", apart := false }
def FnExactSwitchTimeSaid : Prop := fnExactSwitchTimeRow.holds Try.pinned (OpenSpec.ofChange fnExactSwitchTimeSpec)

/-- ITS FALSE NEIGHBOUR: 'it returns false'. Refute it at one input. -/
def fnExactSwitchTimeWrong : ChangeSpec := { name := "fnExactSwitchTime", fn := fun _ => fun
  | [d1, d2] => { results := [.lit (.bool false)], args := [d1, d2] }
  | _ => none }
def FnExactSwitchTimeWrongFalsely : Prop := fnExactSwitchTimeRow.holds Try.pinned (OpenSpec.ofChange fnExactSwitchTimeWrong)

/-- 'laws.FnTramWaitCycle': WHATEVER THE INPUT: true; the input reads as it did. -/
def fnTramWaitCycleSpec : ChangeSpec := { name := "fnTramWaitCycle", fn := fun _ => fun
  | [d] => { results := [.lit (.bool true)], args := [d] }
  | _ => none }
def fnTramWaitCycleRow : OpenClaim := { program := "ytmccdmlfaaphkaa", sum := "bc8ecba9ff238296d4e385e663a8ccd58e2f10af062f2f61aca1d4acb5173aad", func := "loop.example/liftsandlights/laws.FnTramWaitCycle", spec := "fnTramWaitCycle", apart := false }
def FnTramWaitCycleSaid : Prop := fnTramWaitCycleRow.holds Try.pinned (OpenSpec.ofChange fnTramWaitCycleSpec)

/-- ITS FALSE NEIGHBOUR: 'it returns false'. Refute it at one input. -/
def fnTramWaitCycleWrong : ChangeSpec := { name := "fnTramWaitCycle", fn := fun _ => fun
  | [d] => { results := [.lit (.bool false)], args := [d] }
  | _ => none }
def FnTramWaitCycleWrongFalsely : Prop := fnTramWaitCycleRow.holds Try.pinned (OpenSpec.ofChange fnTramWaitCycleWrong)

/-- 'laws.FnExactTramWait': WHATEVER THE INPUT: true; the input reads as it did. -/
def fnExactTramWaitSpec : ChangeSpec := { name := "fnExactTramWait", fn := fun _ => fun
  | [d1, d2, d3] => { results := [.lit (.bool true)], args := [d1, d2, d3] }
  | _ => none }
def fnExactTramWaitRow : OpenClaim := { program := "ytmccdmlfaaphkaa", sum := "bc8ecba9ff238296d4e385e663a8ccd58e2f10af062f2f61aca1d4acb5173aad", func := "loop.example/liftsandlights/laws.FnExactTramWait", spec := "fnExactTramWait", apart := false }
def FnExactTramWaitSaid : Prop := fnExactTramWaitRow.holds Try.pinned (OpenSpec.ofChange fnExactTramWaitSpec)

/-- ITS FALSE NEIGHBOUR: 'it returns false'. Refute it at one input. -/
def fnExactTramWaitWrong : ChangeSpec := { name := "fnExactTramWait", fn := fun _ => fun
  | [d1, d2, d3] => { results := [.lit (.bool false)], args := [d1, d2, d3] }
  | _ => none }
def FnExactTramWaitWrongFalsely : Prop := fnExactTramWaitRow.holds Try.pinned (OpenSpec.ofChange fnExactTramWaitWrong)

/-- 'laws.FnTramWait': WHATEVER THE INPUT: true; the input reads as it did. -/
def fnTramWaitSpec : ChangeSpec := { name := "fnTramWait", fn := fun _ => fun
  | [d] => { results := [.lit (.bool true)], args := [d] }
  | _ => none }
def fnTramWaitRow : OpenClaim := { program := "ytmccdmlfaaphkaa", sum := "bc8ecba9ff238296d4e385e663a8ccd58e2f10af062f2f61aca1d4acb5173aad", func := "loop.example/liftsandlights/laws.FnTramWait", spec := "fnTramWait", apart := false }
def FnTramWaitSaid : Prop := fnTramWaitRow.holds Try.pinned (OpenSpec.ofChange fnTramWaitSpec)

/-- ITS FALSE NEIGHBOUR: 'it returns false'. Refute it at one input. -/
def fnTramWaitWrong : ChangeSpec := { name := "fnTramWait", fn := fun _ => fun
  | [d] => { results := [.lit (.bool false)], args := [d] }
  | _ => none }
def FnTramWaitWrongFalsely : Prop := fnTramWaitRow.holds Try.pinned (OpenSpec.ofChange fnTramWaitWrong)

/- THE SECOND FORM. 'bulk': how many values and letters a reading holds, each counted each time it is reached (what is shared counts as often as it is met; a slice's spare places count too). A statement '..UptoSaid' is the law's where the arguments, and the package variables that the reading takes, are together of bulk at most 1048576: NARROWER than '..Said'. Prove '..Said' where nothing that the law and all that it calls make is longer than what came in: it says more and counts as full. Else prove '..UptoSaid'. A law counts once. -/
mutual
def uptoBulk {H : Type} : DataW H → Nat
  | .lit (.string bytes) => bytes.length + 1
  | .lit _ => 1
  | .nil => 1
  | .ptr d => uptoBulk d + 1
  | .slice elems spare => uptoBulkAll elems + uptoBulkAll spare + 1
  | .agg parts => uptoBulkAll parts + 1
  | .iface _ d => uptoBulk d + 1
  | .map entries => uptoBulkEntries entries + 1
  | .held _ => 1
def uptoBulkAll {H : Type} : List (DataW H) → Nat
  | [] => 0
  | d :: r => uptoBulk d + uptoBulkAll r
def uptoBulkEntries {H : Type} : List (Lit × DataW H) → Nat
  | [] => 0
  | x :: r => uptoBulkEntry x + uptoBulkEntries r
def uptoBulkEntry {H : Type} : Lit × DataW H → Nat
  | (.string bytes, d) => bytes.length + uptoBulk d + 1
  | (_, d) => uptoBulk d + 1
 end
def uptoSmall : (H : Type) → List (DataW H) → Bool := fun _ ds => decide (uptoBulkAll ds ≤ 1048576)
def OpenSpec.upto (s : _root_.Go.ChangeSpec) : _root_.Go.OpenSpec := { _root_.Go.OpenSpec.ofChange s with cond := some uptoSmall }

/-- 'laws.FnSwitchTime', WHERE WHAT IT READS IS OF BULK AT MOST 1048576: true; the input reads as it did. -/
def fnSwitchTimeUptoRow : OpenClaim := { program := "ytmccdmlfaaphkaa", sum := "bc8ecba9ff238296d4e385e663a8ccd58e2f10af062f2f61aca1d4acb5173aad", func := "loop.example/liftsandlights/laws.FnSwitchTime", spec := "fnSwitchTime", apart := false, narrowed := true }
def FnSwitchTimeUptoSaid : Prop := fnSwitchTimeUptoRow.holds Try.pinned (OpenSpec.upto fnSwitchTimeSpec)

/-- 'laws.FnExactSwitchTime', WHERE WHAT IT READS IS OF BULK AT MOST 1048576: true; the input reads as it did. -/
def fnExactSwitchTimeUptoRow : OpenClaim := { program := "ytmccdmlfaaphkaa", sum := "bc8ecba9ff238296d4e385e663a8ccd58e2f10af062f2f61aca1d4acb5173aad", func := "loop.example/liftsandlights/laws.FnExactSwitchTime", spec := "fnExactSwitchTime", apart := false, narrowed := true }
def FnExactSwitchTimeUptoSaid : Prop := fnExactSwitchTimeUptoRow.holds Try.pinned (OpenSpec.upto fnExactSwitchTimeSpec)

/-- 'laws.FnTramWaitCycle', WHERE WHAT IT READS IS OF BULK AT MOST 1048576: true; the input reads as it did. -/
def fnTramWaitCycleUptoRow : OpenClaim := { program := "ytmccdmlfaaphkaa", sum := "bc8ecba9ff238296d4e385e663a8ccd58e2f10af062f2f61aca1d4acb5173aad", func := "loop.example/liftsandlights/laws.FnTramWaitCycle", spec := "fnTramWaitCycle", apart := false, narrowed := true }
def FnTramWaitCycleUptoSaid : Prop := fnTramWaitCycleUptoRow.holds Try.pinned (OpenSpec.upto fnTramWaitCycleSpec)

/-- 'laws.FnExactTramWait', WHERE WHAT IT READS IS OF BULK AT MOST 1048576: true; the input reads as it did. -/
def fnExactTramWaitUptoRow : OpenClaim := { program := "ytmccdmlfaaphkaa", sum := "bc8ecba9ff238296d4e385e663a8ccd58e2f10af062f2f61aca1d4acb5173aad", func := "loop.example/liftsandlights/laws.FnExactTramWait", spec := "fnExactTramWait", apart := false, narrowed := true }
def FnExactTramWaitUptoSaid : Prop := fnExactTramWaitUptoRow.holds Try.pinned (OpenSpec.upto fnExactTramWaitSpec)

/-- 'laws.FnTramWait', WHERE WHAT IT READS IS OF BULK AT MOST 1048576: true; the input reads as it did. -/
def fnTramWaitUptoRow : OpenClaim := { program := "ytmccdmlfaaphkaa", sum := "bc8ecba9ff238296d4e385e663a8ccd58e2f10af062f2f61aca1d4acb5173aad", func := "loop.example/liftsandlights/laws.FnTramWait", spec := "fnTramWait", apart := false, narrowed := true }
def FnTramWaitUptoSaid : Prop := fnTramWaitUptoRow.holds Try.pinned (OpenSpec.upto fnTramWaitSpec)

end Rows
end Go.Proofs.Ytmccdmlfaaphkaa
