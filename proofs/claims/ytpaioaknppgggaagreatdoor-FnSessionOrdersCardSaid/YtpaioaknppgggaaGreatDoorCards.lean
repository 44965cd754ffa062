/-
  DERIVED. GIVEN WITH THE SEED: THE CARDS: each row of YtpaioaknppgggaaGreatDoorRows.lean that lists a variable, with what it lists TIED to the program's text (the seventh form; the later family's looks); each row that meets fmt, with fmt's text TOLD by the authors' own Lean function (tested against real Go, not proved from fmt's source: count such statements apart). THE CARD IS WHAT COUNTS. Prove the row's statement (the work); the ties are given (YtpaioaknppgggaaGreatDoorTie.lean); close each card by the builder's one call (the guide's Derived/Test/ToyasCard.lean, 'card_holds'). Laid BY PROGRAM, IN A SANDBOX (cutbox-door.mjs). By AI agents, Wed Nov 11 2026. No macro, syntax, notation, axiom, sorry.
-/
import Derived.Test.YtpaioaknppgggaaGreatDoorRows
import GoSem.ClaimSeven
namespace Go.Proofs.YtpaioaknppgggaaGreatDoor
namespace Rows

/-- THE TIED CARD OF 'laws.FnSessionPrefix'. -/
def fnSessionPrefixCard : Claim7 := { stood := { row := fnSessionPrefixRow, standIns := [], harness := (true, "9cbd44a75299e49966f605af7cc2e029a0a8aab44662ff6fa7db54a3dedbe4c5"), looks := false }, kinds := [], alts := [], laidByText := true, laidKinds := [.data, .data, .data, .data, .pinned], laidTests := true, laidLooks := .later }
def FnSessionPrefixCardSaid : Prop := Claim7.holds Tryz.pinned (.plain (OpenSpec.ofChange fnSessionPrefixSpec)) fnSessionPrefixCard

/-- THE TIED CARD OF 'laws.FnSessionQuestions'. -/
def fnSessionQuestionsCard : Claim7 := { stood := { row := fnSessionQuestionsRow, standIns := [], harness := (true, "9cbd44a75299e49966f605af7cc2e029a0a8aab44662ff6fa7db54a3dedbe4c5"), looks := false }, kinds := [], alts := [], laidByText := true, laidKinds := [.data, .data, .data, .data, .pinned], laidTests := true, laidLooks := .later }
def FnSessionQuestionsCardSaid : Prop := Claim7.holds Tryz.pinned (.plain (OpenSpec.ofChange fnSessionQuestionsSpec)) fnSessionQuestionsCard

/-- THE TIED CARD OF 'laws.FnSessionOrders'. -/
def fnSessionOrdersCard : Claim7 := { stood := { row := fnSessionOrdersRow, standIns := [], harness := (true, "9cbd44a75299e49966f605af7cc2e029a0a8aab44662ff6fa7db54a3dedbe4c5"), looks := false }, kinds := [], alts := [], laidByText := true, laidKinds := [.data, .data, .data, .data, .pinned], laidTests := true, laidLooks := .later }
def FnSessionOrdersCardSaid : Prop := Claim7.holds Tryz.pinned (.plain (OpenSpec.ofChange fnSessionOrdersSpec)) fnSessionOrdersCard

/-- THE TIED CARD OF 'laws.FnExactRunSession'. -/
def fnExactRunSessionCard : Claim7 := { stood := { row := fnExactRunSessionRow, standIns := [], harness := (true, "9cbd44a75299e49966f605af7cc2e029a0a8aab44662ff6fa7db54a3dedbe4c5"), looks := false }, kinds := [], alts := [], laidByText := true, laidKinds := [.data, .data, .data, .data, .pinned], laidTests := true, laidLooks := .later }
def FnExactRunSessionCardSaid : Prop := Claim7.holds Tryz.pinned (.plain (OpenSpec.ofChange fnExactRunSessionSpec)) fnExactRunSessionCard

/-- THE TIED CARD OF 'laws.FnSessionCalls'. -/
def fnSessionCallsCard : Claim7 := { stood := { row := fnSessionCallsRow, standIns := [], harness := (true, "9cbd44a75299e49966f605af7cc2e029a0a8aab44662ff6fa7db54a3dedbe4c5"), looks := false }, kinds := [], alts := [], laidByText := true, laidKinds := [.data, .data, .data, .data, .pinned], laidTests := true, laidLooks := .later }
def FnSessionCallsCardSaid : Prop := Claim7.holds Tryz.pinned (.plain (OpenSpec.ofChange fnSessionCallsSpec)) fnSessionCallsCard

/-- THE SECOND FORM's CARD OF 'laws.FnSessionPrefix'. -/
def fnSessionPrefixUptoCard : Claim7 := { stood := { row := fnSessionPrefixUptoRow, standIns := [], harness := (true, "9cbd44a75299e49966f605af7cc2e029a0a8aab44662ff6fa7db54a3dedbe4c5"), looks := false }, kinds := [], alts := [], laidByText := true, laidKinds := [.data, .data, .data, .data, .pinned], laidTests := true, laidLooks := .later }
def FnSessionPrefixUptoCardSaid : Prop := Claim7.holds Tryz.pinned (.plain (OpenSpec.upto fnSessionPrefixSpec)) fnSessionPrefixUptoCard

/-- THE SECOND FORM's CARD OF 'laws.FnSessionQuestions'. -/
def fnSessionQuestionsUptoCard : Claim7 := { stood := { row := fnSessionQuestionsUptoRow, standIns := [], harness := (true, "9cbd44a75299e49966f605af7cc2e029a0a8aab44662ff6fa7db54a3dedbe4c5"), looks := false }, kinds := [], alts := [], laidByText := true, laidKinds := [.data, .data, .data, .data, .pinned], laidTests := true, laidLooks := .later }
def FnSessionQuestionsUptoCardSaid : Prop := Claim7.holds Tryz.pinned (.plain (OpenSpec.upto fnSessionQuestionsSpec)) fnSessionQuestionsUptoCard

/-- THE SECOND FORM's CARD OF 'laws.FnSessionOrders'. -/
def fnSessionOrdersUptoCard : Claim7 := { stood := { row := fnSessionOrdersUptoRow, standIns := [], harness := (true, "9cbd44a75299e49966f605af7cc2e029a0a8aab44662ff6fa7db54a3dedbe4c5"), looks := false }, kinds := [], alts := [], laidByText := true, laidKinds := [.data, .data, .data, .data, .pinned], laidTests := true, laidLooks := .later }
def FnSessionOrdersUptoCardSaid : Prop := Claim7.holds Tryz.pinned (.plain (OpenSpec.upto fnSessionOrdersSpec)) fnSessionOrdersUptoCard

/-- THE SECOND FORM's CARD OF 'laws.FnExactRunSession'. -/
def fnExactRunSessionUptoCard : Claim7 := { stood := { row := fnExactRunSessionUptoRow, standIns := [], harness := (true, "9cbd44a75299e49966f605af7cc2e029a0a8aab44662ff6fa7db54a3dedbe4c5"), looks := false }, kinds := [], alts := [], laidByText := true, laidKinds := [.data, .data, .data, .data, .pinned], laidTests := true, laidLooks := .later }
def FnExactRunSessionUptoCardSaid : Prop := Claim7.holds Tryz.pinned (.plain (OpenSpec.upto fnExactRunSessionSpec)) fnExactRunSessionUptoCard

/-- THE SECOND FORM's CARD OF 'laws.FnSessionCalls'. -/
def fnSessionCallsUptoCard : Claim7 := { stood := { row := fnSessionCallsUptoRow, standIns := [], harness := (true, "9cbd44a75299e49966f605af7cc2e029a0a8aab44662ff6fa7db54a3dedbe4c5"), looks := false }, kinds := [], alts := [], laidByText := true, laidKinds := [.data, .data, .data, .data, .pinned], laidTests := true, laidLooks := .later }
def FnSessionCallsUptoCardSaid : Prop := Claim7.holds Tryz.pinned (.plain (OpenSpec.upto fnSessionCallsSpec)) fnSessionCallsUptoCard
end Rows
end Go.Proofs.YtpaioaknppgggaaGreatDoor
