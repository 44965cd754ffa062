/-
  No cell of these rows narrows 'for every input' (looked for: loops, veiled, ifaces, maps, wideKeys, modest, calm, conditions, laid).
  DERIVED. THE GIVEN ROWS OF THIS SEAT. 11 by the template 'for every input the law returns true; each argument reads behind the call as it read before'; 0 by the template 'total and deterministic' (their statements: YtokpgipbgkiepaaTotals.lean).
  GIVEN WITH THE SEED: the statements are not yours to turn. If you find one false, say at which input.
  Laid BY PROGRAM, IN A SANDBOX (cutbox-rows.mjs): the forced cells as the released guide's own fill.sh prints them over the translation 539b8b8bb38c4892… (all of the seat's roots in one cut). By AI agents, Wed Nov 11 2026. No macro, syntax, notation, axiom, sorry.
-/
import Derived.Test.YtokpgipbgkiepaaChecked
import GoSem.Claim
import GoSem.ClaimJoined
import GoSem.ClaimMapViews
import Derived.JoinedTies
import Derived.KernelRfl
namespace Go.Proofs.Ytokpgipbgkiepaa
/- THE CELL 'sum', in the pinned program and in every row, IS THE sha256 OF THE DUMP (.gsa) THAT YtokpgipbgkiepaaProg.lean LOADS. Nothing in Lean hashes anything: it is a label: what it is worth is what the hold of that sum in a sandbox is worth. -/
noncomputable def Try.pinned : Pinned := { name := "ytokpgipbgkiepaa", sum := "539b8b8bb38c489226a8d554398546f8651e646fdd098ff28e642c8130789182", checked := Try.checked }
namespace Rows
def none {H : Type} : Left H := { results := [], args := [] }

/-- 'laws.FnSetGreens': WHATEVER THE INPUT: true; the input reads as it did. -/
def fnSetGreensSpec : ChangeSpec := { name := "fnSetGreens", fn := fun _ => fun
  | [d] => { results := [.lit (.bool true)], args := [d] }
  | _ => none }
def fnSetGreensRow : OpenClaim := { program := "ytokpgipbgkiepaa", sum := "539b8b8bb38c489226a8d554398546f8651e646fdd098ff28e642c8130789182", func := "loop.example/liftsandlights/laws.FnSetGreens", spec := "fnSetGreens", apart := false }
def FnSetGreensSaid : Prop := fnSetGreensRow.holds Try.pinned (OpenSpec.ofChange fnSetGreensSpec)

/-- ITS FALSE NEIGHBOUR: 'it returns false'. Refute it at one input. -/
def fnSetGreensWrong : ChangeSpec := { name := "fnSetGreens", fn := fun _ => fun
  | [d] => { results := [.lit (.bool false)], args := [d] }
  | _ => none }
def FnSetGreensWrongFalsely : Prop := fnSetGreensRow.holds Try.pinned (OpenSpec.ofChange fnSetGreensWrong)

/-- 'laws.FnExactSetGreens': WHATEVER THE INPUT: true; the input reads as it did. -/
def fnExactSetGreensSpec : ChangeSpec := { name := "fnExactSetGreens", fn := fun _ => fun
  | [d1, d2] => { results := [.lit (.bool true)], args := [d1, d2] }
  | _ => none }
def fnExactSetGreensRow : OpenClaim := { program := "ytokpgipbgkiepaa", sum := "539b8b8bb38c489226a8d554398546f8651e646fdd098ff28e642c8130789182", func := "loop.example/liftsandlights/laws.FnExactSetGreens", spec := "fnExactSetGreens", apart := false }
def FnExactSetGreensSaid : Prop := fnExactSetGreensRow.holds Try.pinned (OpenSpec.ofChange fnExactSetGreensSpec)

/-- ITS FALSE NEIGHBOUR: 'it returns false'. Refute it at one input. -/
def fnExactSetGreensWrong : ChangeSpec := { name := "fnExactSetGreens", fn := fun _ => fun
  | [d1, d2] => { results := [.lit (.bool false)], args := [d1, d2] }
  | _ => none }
def FnExactSetGreensWrongFalsely : Prop := fnExactSetGreensRow.holds Try.pinned (OpenSpec.ofChange fnExactSetGreensWrong)

/-- 'laws.FnFavourTramSmall': WHATEVER THE INPUT: true; the input reads as it did. -/
def fnFavourTramSmallSpec : ChangeSpec := { name := "fnFavourTramSmall", fn := fun _ => fun
  | [d] => { results := [.lit (.bool true)], args := [d] }
  | _ => none }
def fnFavourTramSmallRow : OpenClaim := { program := "ytokpgipbgkiepaa", sum := "539b8b8bb38c489226a8d554398546f8651e646fdd098ff28e642c8130789182", func := "loop.example/liftsandlights/laws.FnFavourTramSmall", spec := "fnFavourTramSmall", unfollowed := true, recurses := true, apart := false }
def FnFavourTramSmallSaid : Prop := fnFavourTramSmallRow.holds Try.pinned (OpenSpec.ofChange fnFavourTramSmallSpec)

/-- ITS FALSE NEIGHBOUR: 'it returns false'. Refute it at one input. -/
def fnFavourTramSmallWrong : ChangeSpec := { name := "fnFavourTramSmall", fn := fun _ => fun
  | [d] => { results := [.lit (.bool false)], args := [d] }
  | _ => none }
def FnFavourTramSmallWrongFalsely : Prop := fnFavourTramSmallRow.holds Try.pinned (OpenSpec.ofChange fnFavourTramSmallWrong)

/-- 'laws.FnFavourTram': WHATEVER THE INPUT: true; the input reads as it did. -/
def fnFavourTramSpec : ChangeSpec := { name := "fnFavourTram", fn := fun _ => fun
  | [d] => { results := [.lit (.bool true)], args := [d] }
  | _ => none }
def fnFavourTramRow : OpenClaim := { program := "ytokpgipbgkiepaa", sum := "539b8b8bb38c489226a8d554398546f8651e646fdd098ff28e642c8130789182", func := "loop.example/liftsandlights/laws.FnFavourTram", spec := "fnFavourTram", unfollowed := true, recurses := true, apart := false }
def FnFavourTramSaid : Prop := fnFavourTramRow.holds Try.pinned (OpenSpec.ofChange fnFavourTramSpec)

/-- ITS FALSE NEIGHBOUR: 'it returns false'. Refute it at one input. -/
def fnFavourTramWrong : ChangeSpec := { name := "fnFavourTram", fn := fun _ => fun
  | [d] => { results := [.lit (.bool false)], args := [d] }
  | _ => none }
def FnFavourTramWrongFalsely : Prop := fnFavourTramRow.holds Try.pinned (OpenSpec.ofChange fnFavourTramWrong)

/-- 'laws.FnExactFavourTram': WHATEVER THE INPUT: true; the input reads as it did. -/
def fnExactFavourTramSpec : ChangeSpec := { name := "fnExactFavourTram", fn := fun _ => fun
  | [d1, d2, d3] => { results := [.lit (.bool true)], args := [d1, d2, d3] }
  | _ => none }
def fnExactFavourTramRow : OpenClaim := { program := "ytokpgipbgkiepaa", sum := "539b8b8bb38c489226a8d554398546f8651e646fdd098ff28e642c8130789182", func := "loop.example/liftsandlights/laws.FnExactFavourTram", spec := "fnExactFavourTram", unfollowed := true, recurses := true, apart := false }
def FnExactFavourTramSaid : Prop := fnExactFavourTramRow.holds Try.pinned (OpenSpec.ofChange fnExactFavourTramSpec)

/-- ITS FALSE NEIGHBOUR: 'it returns false'. Refute it at one input. -/
def fnExactFavourTramWrong : ChangeSpec := { name := "fnExactFavourTram", fn := fun _ => fun
  | [d1, d2, d3] => { results := [.lit (.bool false)], args := [d1, d2, d3] }
  | _ => none }
def FnExactFavourTramWrongFalsely : Prop := fnExactFavourTramRow.holds Try.pinned (OpenSpec.ofChange fnExactFavourTramWrong)

/-- 'laws.FnSwitchedGreen': WHATEVER THE INPUT: true; the input reads as it did. -/
def fnSwitchedGreenSpec : ChangeSpec := { name := "fnSwitchedGreen", fn := fun _ => fun
  | [d] => { results := [.lit (.bool true)], args := [d] }
  | _ => none }
def fnSwitchedGreenRow : OpenClaim := { program := "ytokpgipbgkiepaa", sum := "539b8b8bb38c489226a8d554398546f8651e646fdd098ff28e642c8130789182", func := "loop.example/liftsandlights/laws.FnSwitchedGreen", spec := "fnSwitchedGreen", unfollowed := true, recurses := true, apart := false }
def FnSwitchedGreenSaid : Prop := fnSwitchedGreenRow.holds Try.pinned (OpenSpec.ofChange fnSwitchedGreenSpec)

/-- ITS FALSE NEIGHBOUR: 'it returns false'. Refute it at one input. -/
def fnSwitchedGreenWrong : ChangeSpec := { name := "fnSwitchedGreen", fn := fun _ => fun
  | [d] => { results := [.lit (.bool false)], args := [d] }
  | _ => none }
def FnSwitchedGreenWrongFalsely : Prop := fnSwitchedGreenRow.holds Try.pinned (OpenSpec.ofChange fnSwitchedGreenWrong)

/-- 'laws.FnSwitchedGreenSame': WHATEVER THE INPUT: true; the input reads as it did. -/
def fnSwitchedGreenSameSpec : ChangeSpec := { name := "fnSwitchedGreenSame", fn := fun _ => fun
  | [d] => { results := [.lit (.bool true)], args := [d] }
  | _ => none }
def fnSwitchedGreenSameRow : OpenClaim := { program := "ytokpgipbgkiepaa", sum := "539b8b8bb38c489226a8d554398546f8651e646fdd098ff28e642c8130789182", func := "loop.example/liftsandlights/laws.FnSwitchedGreenSame", spec := "fnSwitchedGreenSame", unfollowed := true, recurses := true, apart := false }
def FnSwitchedGreenSameSaid : Prop := fnSwitchedGreenSameRow.holds Try.pinned (OpenSpec.ofChange fnSwitchedGreenSameSpec)

/-- ITS FALSE NEIGHBOUR: 'it returns false'. Refute it at one input. -/
def fnSwitchedGreenSameWrong : ChangeSpec := { name := "fnSwitchedGreenSame", fn := fun _ => fun
  | [d] => { results := [.lit (.bool false)], args := [d] }
  | _ => none }
def FnSwitchedGreenSameWrongFalsely : Prop := fnSwitchedGreenSameRow.holds Try.pinned (OpenSpec.ofChange fnSwitchedGreenSameWrong)

/-- 'laws.FnExactSwitchedGreen': WHATEVER THE INPUT: true; the input reads as it did. -/
def fnExactSwitchedGreenSpec : ChangeSpec := { name := "fnExactSwitchedGreen", fn := fun _ => fun
  | [d1, d2, d3, d4] => { results := [.lit (.bool true)], args := [d1, d2, d3, d4] }
  | _ => none }
def fnExactSwitchedGreenRow : OpenClaim := { program := "ytokpgipbgkiepaa", sum := "539b8b8bb38c489226a8d554398546f8651e646fdd098ff28e642c8130789182", func := "loop.example/liftsandlights/laws.FnExactSwitchedGreen", spec := "fnExactSwitchedGreen", unfollowed := true, recurses := true, apart := false }
def FnExactSwitchedGreenSaid : Prop := fnExactSwitchedGreenRow.holds Try.pinned (OpenSpec.ofChange fnExactSwitchedGreenSpec)

/-- ITS FALSE NEIGHBOUR: 'it returns false'. Refute it at one input. -/
def fnExactSwitchedGreenWrong : ChangeSpec := { name := "fnExactSwitchedGreen", fn := fun _ => fun
  | [d1, d2, d3, d4] => { results := [.lit (.bool false)], args := [d1, d2, d3, d4] }
  | _ => none }
def FnExactSwitchedGreenWrongFalsely : Prop := fnExactSwitchedGreenRow.holds Try.pinned (OpenSpec.ofChange fnExactSwitchedGreenWrong)

/-- 'laws.FnSwitchHistoryEnd': WHATEVER THE INPUT: true; the input reads as it did. -/
def fnSwitchHistoryEndSpec : ChangeSpec := { name := "fnSwitchHistoryEnd", fn := fun _ => fun
  | [d] => { results := [.lit (.bool true)], args := [d] }
  | _ => none }
def fnSwitchHistoryEndRow : OpenClaim := { program := "ytokpgipbgkiepaa", sum := "539b8b8bb38c489226a8d554398546f8651e646fdd098ff28e642c8130789182", func := "loop.example/liftsandlights/laws.FnSwitchHistoryEnd", spec := "fnSwitchHistoryEnd", unfollowed := true, recurses := true, apart := false }
def FnSwitchHistoryEndSaid : Prop := fnSwitchHistoryEndRow.holds Try.pinned (OpenSpec.ofChange fnSwitchHistoryEndSpec)

/-- ITS FALSE NEIGHBOUR: 'it returns false'. Refute it at one input. -/
def fnSwitchHistoryEndWrong : ChangeSpec := { name := "fnSwitchHistoryEnd", fn := fun _ => fun
  | [d] => { results := [.lit (.bool false)], args := [d] }
  | _ => none }
def FnSwitchHistoryEndWrongFalsely : Prop := fnSwitchHistoryEndRow.holds Try.pinned (OpenSpec.ofChange fnSwitchHistoryEndWrong)

/-- 'laws.FnExactSwitchHistory': WHATEVER THE INPUT: true; the input reads as it did. -/
def fnExactSwitchHistorySpec : ChangeSpec := { name := "fnExactSwitchHistory", fn := fun _ => fun
  | [d1, d2, d3, d4, d5] => { results := [.lit (.bool true)], args := [d1, d2, d3, d4, d5] }
  | _ => none }
def fnExactSwitchHistoryRow : OpenClaim := { program := "ytokpgipbgkiepaa", sum := "539b8b8bb38c489226a8d554398546f8651e646fdd098ff28e642c8130789182", func := "loop.example/liftsandlights/laws.FnExactSwitchHistory", spec := "fnExactSwitchHistory", unfollowed := true, recurses := true, apart := false }
def FnExactSwitchHistorySaid : Prop := fnExactSwitchHistoryRow.holds Try.pinned (OpenSpec.ofChange fnExactSwitchHistorySpec)

/-- ITS FALSE NEIGHBOUR: 'it returns false'. Refute it at one input. -/
def fnExactSwitchHistoryWrong : ChangeSpec := { name := "fnExactSwitchHistory", fn := fun _ => fun
  | [d1, d2, d3, d4, d5] => { results := [.lit (.bool false)], args := [d1, d2, d3, d4, d5] }
  | _ => none }
def FnExactSwitchHistoryWrongFalsely : Prop := fnExactSwitchHistoryRow.holds Try.pinned (OpenSpec.ofChange fnExactSwitchHistoryWrong)

/-- 'laws.FnSwitchHistory': WHATEVER THE INPUT: true; the input reads as it did. -/
def fnSwitchHistorySpec : ChangeSpec := { name := "fnSwitchHistory", fn := fun _ => fun
  | [d] => { results := [.lit (.bool true)], args := [d] }
  | _ => none }
def fnSwitchHistoryRow : OpenClaim := { program := "ytokpgipbgkiepaa", sum := "539b8b8bb38c489226a8d554398546f8651e646fdd098ff28e642c8130789182", func := "loop.example/liftsandlights/laws.FnSwitchHistory", spec := "fnSwitchHistory", unfollowed := true, recurses := true, apart := false }
def FnSwitchHistorySaid : Prop := fnSwitchHistoryRow.holds Try.pinned (OpenSpec.ofChange fnSwitchHistorySpec)

/-- ITS FALSE NEIGHBOUR: 'it returns false'. Refute it at one input. -/
def fnSwitchHistoryWrong : ChangeSpec := { name := "fnSwitchHistory", fn := fun _ => fun
  | [d] => { results := [.lit (.bool false)], args := [d] }
  | _ => none }
def FnSwitchHistoryWrongFalsely : Prop := fnSwitchHistoryRow.holds Try.pinned (OpenSpec.ofChange fnSwitchHistoryWrong)

/- THE SECOND FORM. 'bulk': how many values and letters a reading holds, each counted each time it is reached (what is shared counts as often as it is met; a slice's spare places count too). A statement '..UptoSaid' is the law's where the arguments, and the package variables that the reading takes, are together of bulk at most 1048576: NARROWER than '..Said'. Prove '..Said' where nothing that the law and all that it calls make is longer than what came in: it says more and counts as full. Else prove '..UptoSaid'. A law counts once. -/
mutual
def uptoBulk {H : Type} : DataW H → Nat
  | .lit (.string bytes) => bytes.length + 1
  | .lit _ => 1
  | .nil => 1
  | .ptr d => uptoBulk d + 1
  | .slice elems spare => uptoBulkAll elems + uptoBulkAll spare + 1
  | .agg parts => uptoBulkAll parts + 1
  | .iface _ d => uptoBulk d + 1
  | .map entries => uptoBulkEntries entries + 1
  | .held _ => 1
def uptoBulkAll {H : Type} : List (DataW H) → Nat
  | [] => 0
  | d :: r => uptoBulk d + uptoBulkAll r
def uptoBulkEntries {H : Type} : List (Lit × DataW H) → Nat
  | [] => 0
  | x :: r => uptoBulkEntry x + uptoBulkEntries r
def uptoBulkEntry {H : Type} : Lit × DataW H → Nat
  | (.string bytes, d) => bytes.length + uptoBulk d + 1
  | (_, d) => uptoBulk d + 1
 end
def uptoSmall : (H : Type) → List (DataW H) → Bool := fun _ ds => decide (uptoBulkAll ds ≤ 1048576)
def OpenSpec.upto (s : _root_.Go.ChangeSpec) : _root_.Go.OpenSpec := { _root_.Go.OpenSpec.ofChange s with cond := some uptoSmall }

/-- 'laws.FnSetGreens', WHERE WHAT IT READS IS OF BULK AT MOST 1048576: true; the input reads as it did. -/
def fnSetGreensUptoRow : OpenClaim := { program := "ytokpgipbgkiepaa", sum := "539b8b8bb38c489226a8d554398546f8651e646fdd098ff28e642c8130789182", func := "loop.example/liftsandlights/laws.FnSetGreens", spec := "fnSetGreens", apart := false, narrowed := true }
def FnSetGreensUptoSaid : Prop := fnSetGreensUptoRow.holds Try.pinned (OpenSpec.upto fnSetGreensSpec)

/-- 'laws.FnExactSetGreens', WHERE WHAT IT READS IS OF BULK AT MOST 1048576: true; the input reads as it did. -/
def fnExactSetGreensUptoRow : OpenClaim := { program := "ytokpgipbgkiepaa", sum := "539b8b8bb38c489226a8d554398546f8651e646fdd098ff28e642c8130789182", func := "loop.example/liftsandlights/laws.FnExactSetGreens", spec := "fnExactSetGreens", apart := false, narrowed := true }
def FnExactSetGreensUptoSaid : Prop := fnExactSetGreensUptoRow.holds Try.pinned (OpenSpec.upto fnExactSetGreensSpec)

/-- 'laws.FnFavourTramSmall', WHERE WHAT IT READS IS OF BULK AT MOST 1048576: true; the input reads as it did. -/
def fnFavourTramSmallUptoRow : OpenClaim := { program := "ytokpgipbgkiepaa", sum := "539b8b8bb38c489226a8d554398546f8651e646fdd098ff28e642c8130789182", func := "loop.example/liftsandlights/laws.FnFavourTramSmall", spec := "fnFavourTramSmall", unfollowed := true, recurses := true, apart := false, narrowed := true }
def FnFavourTramSmallUptoSaid : Prop := fnFavourTramSmallUptoRow.holds Try.pinned (OpenSpec.upto fnFavourTramSmallSpec)

/-- 'laws.FnFavourTram', WHERE WHAT IT READS IS OF BULK AT MOST 1048576: true; the input reads as it did. -/
def fnFavourTramUptoRow : OpenClaim := { program := "ytokpgipbgkiepaa", sum := "539b8b8bb38c489226a8d554398546f8651e646fdd098ff28e642c8130789182", func := "loop.example/liftsandlights/laws.FnFavourTram", spec := "fnFavourTram", unfollowed := true, recurses := true, apart := false, narrowed := true }
def FnFavourTramUptoSaid : Prop := fnFavourTramUptoRow.holds Try.pinned (OpenSpec.upto fnFavourTramSpec)

/-- 'laws.FnExactFavourTram', WHERE WHAT IT READS IS OF BULK AT MOST 1048576: true; the input reads as it did. -/
def fnExactFavourTramUptoRow : OpenClaim := { program := "ytokpgipbgkiepaa", sum := "539b8b8bb38c489226a8d554398546f8651e646fdd098ff28e642c8130789182", func := "loop.example/liftsandlights/laws.FnExactFavourTram", spec := "fnExactFavourTram", unfollowed := true, recurses := true, apart := false, narrowed := true }
def FnExactFavourTramUptoSaid : Prop := fnExactFavourTramUptoRow.holds Try.pinned (OpenSpec.upto fnExactFavourTramSpec)

/-- 'laws.FnSwitchedGreen', WHERE WHAT IT READS IS OF BULK AT MOST 1048576: true; the input reads as it did. -/
def fnSwitchedGreenUptoRow : OpenClaim := { program := "ytokpgipbgkiepaa", sum := "539b8b8bb38c489226a8d554398546f8651e646fdd098ff28e642c8130789182", func := "loop.example/liftsandlights/laws.FnSwitchedGreen", spec := "fnSwitchedGreen", unfollowed := true, recurses := true, apart := false, narrowed := true }
def FnSwitchedGreenUptoSaid : Prop := fnSwitchedGreenUptoRow.holds Try.pinned (OpenSpec.upto fnSwitchedGreenSpec)

/-- 'laws.FnSwitchedGreenSame', WHERE WHAT IT READS IS OF BULK AT MOST 1048576: true; the input reads as it did. -/
def fnSwitchedGreenSameUptoRow : OpenClaim := { program := "ytokpgipbgkiepaa", sum := "539b8b8bb38c489226a8d554398546f8651e646fdd098ff28e642c8130789182", func := "loop.example/liftsandlights/laws.FnSwitchedGreenSame", spec := "fnSwitchedGreenSame", unfollowed := true, recurses := true, apart := false, narrowed := true }
def FnSwitchedGreenSameUptoSaid : Prop := fnSwitchedGreenSameUptoRow.holds Try.pinned (OpenSpec.upto fnSwitchedGreenSameSpec)

/-- 'laws.FnExactSwitchedGreen', WHERE WHAT IT READS IS OF BULK AT MOST 1048576: true; the input reads as it did. -/
def fnExactSwitchedGreenUptoRow : OpenClaim := { program := "ytokpgipbgkiepaa", sum := "539b8b8bb38c489226a8d554398546f8651e646fdd098ff28e642c8130789182", func := "loop.example/liftsandlights/laws.FnExactSwitchedGreen", spec := "fnExactSwitchedGreen", unfollowed := true, recurses := true, apart := false, narrowed := true }
def FnExactSwitchedGreenUptoSaid : Prop := fnExactSwitchedGreenUptoRow.holds Try.pinned (OpenSpec.upto fnExactSwitchedGreenSpec)

/-- 'laws.FnSwitchHistoryEnd', WHERE WHAT IT READS IS OF BULK AT MOST 1048576: true; the input reads as it did. -/
def fnSwitchHistoryEndUptoRow : OpenClaim := { program := "ytokpgipbgkiepaa", sum := "539b8b8bb38c489226a8d554398546f8651e646fdd098ff28e642c8130789182", func := "loop.example/liftsandlights/laws.FnSwitchHistoryEnd", spec := "fnSwitchHistoryEnd", unfollowed := true, recurses := true, apart := false, narrowed := true }
def FnSwitchHistoryEndUptoSaid : Prop := fnSwitchHistoryEndUptoRow.holds Try.pinned (OpenSpec.upto fnSwitchHistoryEndSpec)

/-- 'laws.FnExactSwitchHistory', WHERE WHAT IT READS IS OF BULK AT MOST 1048576: true; the input reads as it did. -/
def fnExactSwitchHistoryUptoRow : OpenClaim := { program := "ytokpgipbgkiepaa", sum := "539b8b8bb38c489226a8d554398546f8651e646fdd098ff28e642c8130789182", func := "loop.example/liftsandlights/laws.FnExactSwitchHistory", spec := "fnExactSwitchHistory", unfollowed := true, recurses := true, apart := false, narrowed := true }
def FnExactSwitchHistoryUptoSaid : Prop := fnExactSwitchHistoryUptoRow.holds Try.pinned (OpenSpec.upto fnExactSwitchHistorySpec)

/-- 'laws.FnSwitchHistory', WHERE WHAT IT READS IS OF BULK AT MOST 1048576: true; the input reads as it did. -/
def fnSwitchHistoryUptoRow : OpenClaim := { program := "ytokpgipbgkiepaa", sum := "539b8b8bb38c489226a8d554398546f8651e646fdd098ff28e642c8130789182", func := "loop.example/liftsandlights/laws.FnSwitchHistory", spec := "fnSwitchHistory", unfollowed := true, recurses := true, apart := false, narrowed := true }
def FnSwitchHistoryUptoSaid : Prop := fnSwitchHistoryUptoRow.holds Try.pinned (OpenSpec.upto fnSwitchHistorySpec)

end Rows
end Go.Proofs.Ytokpgipbgkiepaa
