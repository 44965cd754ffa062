/-
  DERIVED. GIVEN WITH THE SEED: THE CARDS: each row of YteeikhkcdlcnhaaDoorRows.lean that lists a variable, with what it lists TIED to the program's text (the seventh form; the later family's looks); each row that meets fmt, with fmt's text TOLD by the authors' own Lean function (tested against real Go, not proved from fmt's source: count such statements apart). THE CARD IS WHAT COUNTS. Prove the row's statement (the work); the ties are given (YteeikhkcdlcnhaaDoorTie.lean); close each card by the builder's one call (the guide's Derived/Test/ToyasCard.lean, 'card_holds'). Laid BY PROGRAM, IN A SANDBOX (cutbox-door.mjs). By AI agents, Wed Nov 11 2026. No macro, syntax, notation, axiom, sorry.
-/
import Derived.Test.YteeikhkcdlcnhaaDoorRows
import GoSem.ClaimSeven
namespace Go.Proofs.YteeikhkcdlcnhaaDoor
namespace Rows

/-- THE TIED CARD OF 'laws.FnExactFormatStages'. -/
def fnExactFormatStagesCard : Claim7 := { stood := { row := fnExactFormatStagesRow, standIns := [], harness := (true, "c7939ba39f97e0ee21e14a62a6f01cd19968a0d7995bee4578dc7827926f6f32"), looks := false }, kinds := [], alts := [], laidByText := true, laidKinds := [.data, .data, .data], laidTests := true, laidLooks := .later }
def FnExactFormatStagesCardSaid : Prop := Claim7.holds Tryd.pinned (.plain (OpenSpec.ofChange fnExactFormatStagesSpec)) fnExactFormatStagesCard

/-- THE TIED CARD OF 'laws.FnExactParseStages'. -/
def fnExactParseStagesCard : Claim7 := { stood := { row := fnExactParseStagesRow, standIns := [], harness := (true, "c7939ba39f97e0ee21e14a62a6f01cd19968a0d7995bee4578dc7827926f6f32"), looks := false }, kinds := [], alts := [], laidByText := true, laidKinds := [.data, .pinned], laidTests := true, laidLooks := .later }
def FnExactParseStagesCardSaid : Prop := Claim7.holds Tryd.pinned (.plain (OpenSpec.ofChange fnExactParseStagesSpec)) fnExactParseStagesCard

/-- THE TIED CARD OF 'laws.FnStagesRoundTrip'. -/
def fnStagesRoundTripCard : Claim7 := { stood := { row := fnStagesRoundTripRow, standIns := [], harness := (true, "c7939ba39f97e0ee21e14a62a6f01cd19968a0d7995bee4578dc7827926f6f32"), looks := false }, kinds := [], alts := [], laidByText := true, laidKinds := [.data, .data, .data, .data, .pinned], laidTests := true, laidLooks := .later }
def FnStagesRoundTripCardSaid : Prop := Claim7.holds Tryd.pinned (.plain (OpenSpec.ofChange fnStagesRoundTripSpec)) fnStagesRoundTripCard

/-- THE TIED CARD OF 'laws.FnStagesCanonical'. -/
def fnStagesCanonicalCard : Claim7 := { stood := { row := fnStagesCanonicalRow, standIns := [], harness := (true, "c7939ba39f97e0ee21e14a62a6f01cd19968a0d7995bee4578dc7827926f6f32"), looks := false }, kinds := [], alts := [], laidByText := true, laidKinds := [.data, .data, .data, .data, .pinned], laidTests := true, laidLooks := .later }
def FnStagesCanonicalCardSaid : Prop := Claim7.holds Tryd.pinned (.plain (OpenSpec.ofChange fnStagesCanonicalSpec)) fnStagesCanonicalCard

/-- THE SECOND FORM's CARD OF 'laws.FnExactFormatStages'. -/
def fnExactFormatStagesUptoCard : Claim7 := { stood := { row := fnExactFormatStagesUptoRow, standIns := [], harness := (true, "c7939ba39f97e0ee21e14a62a6f01cd19968a0d7995bee4578dc7827926f6f32"), looks := false }, kinds := [], alts := [], laidByText := true, laidKinds := [.data, .data, .data], laidTests := true, laidLooks := .later }
def FnExactFormatStagesUptoCardSaid : Prop := Claim7.holds Tryd.pinned (.plain (OpenSpec.upto fnExactFormatStagesSpec)) fnExactFormatStagesUptoCard

/-- THE SECOND FORM's CARD OF 'laws.FnExactParseStages'. -/
def fnExactParseStagesUptoCard : Claim7 := { stood := { row := fnExactParseStagesUptoRow, standIns := [], harness := (true, "c7939ba39f97e0ee21e14a62a6f01cd19968a0d7995bee4578dc7827926f6f32"), looks := false }, kinds := [], alts := [], laidByText := true, laidKinds := [.data, .pinned], laidTests := true, laidLooks := .later }
def FnExactParseStagesUptoCardSaid : Prop := Claim7.holds Tryd.pinned (.plain (OpenSpec.upto fnExactParseStagesSpec)) fnExactParseStagesUptoCard

/-- THE SECOND FORM's CARD OF 'laws.FnStagesRoundTrip'. -/
def fnStagesRoundTripUptoCard : Claim7 := { stood := { row := fnStagesRoundTripUptoRow, standIns := [], harness := (true, "c7939ba39f97e0ee21e14a62a6f01cd19968a0d7995bee4578dc7827926f6f32"), looks := false }, kinds := [], alts := [], laidByText := true, laidKinds := [.data, .data, .data, .data, .pinned], laidTests := true, laidLooks := .later }
def FnStagesRoundTripUptoCardSaid : Prop := Claim7.holds Tryd.pinned (.plain (OpenSpec.upto fnStagesRoundTripSpec)) fnStagesRoundTripUptoCard

/-- THE SECOND FORM's CARD OF 'laws.FnStagesCanonical'. -/
def fnStagesCanonicalUptoCard : Claim7 := { stood := { row := fnStagesCanonicalUptoRow, standIns := [], harness := (true, "c7939ba39f97e0ee21e14a62a6f01cd19968a0d7995bee4578dc7827926f6f32"), looks := false }, kinds := [], alts := [], laidByText := true, laidKinds := [.data, .data, .data, .data, .pinned], laidTests := true, laidLooks := .later }
def FnStagesCanonicalUptoCardSaid : Prop := Claim7.holds Tryd.pinned (.plain (OpenSpec.upto fnStagesCanonicalSpec)) fnStagesCanonicalUptoCard
end Rows
end Go.Proofs.YteeikhkcdlcnhaaDoor
