/-
  DERIVED. GIVEN WITH THE SEED: THE CARDS: each row of YtmphjojhfmikeaaDoorRows.lean that lists a variable, with what it lists TIED to the program's text (the seventh form; the later family's looks); each row that meets fmt, with fmt's text TOLD by the authors' own Lean function (tested against real Go, not proved from fmt's source: count such statements apart). THE CARD IS WHAT COUNTS. Prove the row's statement (the work); the ties are given (YtmphjojhfmikeaaDoorTie.lean); close each card by the builder's one call (the guide's Derived/Test/ToyasCard.lean, 'card_holds'). Laid BY PROGRAM, IN A SANDBOX (cutbox-door.mjs). By AI agents, Wed Nov 11 2026. No macro, syntax, notation, axiom, sorry.
-/
import Derived.Test.YtmphjojhfmikeaaDoorRows
import GoSem.ClaimSeven
namespace Go.Proofs.YtmphjojhfmikeaaDoor
namespace Rows

/-- THE TIED CARD OF 'laws.FnExactFormatSettings'. -/
def fnExactFormatSettingsCard : Claim7 := { stood := { row := fnExactFormatSettingsRow, standIns := [], harness := (true, "1746d617ea578d28f593b839795a868390241190724b0a501b3599ab15e98489"), looks := true }, kinds := [], alts := [], laidByText := true, laidKinds := [.data, .data, .data], laidTests := true, laidLooks := .later }
def FnExactFormatSettingsCardSaid : Prop := Claim7.holds Tryd.pinned (.plain (OpenSpec.ofChange fnExactFormatSettingsSpec)) fnExactFormatSettingsCard

/-- THE TIED CARD OF 'laws.FnSettingsText'. -/
def fnSettingsTextCard : Claim7 := { stood := { row := fnSettingsTextRow, standIns := [], harness := (true, "1746d617ea578d28f593b839795a868390241190724b0a501b3599ab15e98489"), looks := true }, kinds := [], alts := [], laidByText := true, laidKinds := [.data, .data, .data], laidTests := true, laidLooks := .later }
def FnSettingsTextCardSaid : Prop := Claim7.holds Tryd.pinned (.plain (OpenSpec.ofChange fnSettingsTextSpec)) fnSettingsTextCard

/-- THE TIED CARD OF 'laws.FnSettingsRoundTrip'. -/
def fnSettingsRoundTripCard : Claim7 := { stood := { row := fnSettingsRoundTripRow, standIns := [], harness := (true, "1746d617ea578d28f593b839795a868390241190724b0a501b3599ab15e98489"), looks := true }, kinds := [], alts := [], laidByText := true, laidKinds := [.data, .data, .data, .data, .sentinel, .sentinel, .pinned], laidTests := true, laidLooks := .later }
def FnSettingsRoundTripCardSaid : Prop := Claim7.holds Tryd.pinned (.plain (OpenSpec.ofChange fnSettingsRoundTripSpec)) fnSettingsRoundTripCard

/-- THE TIED CARD OF 'laws.FnExactParseSettings'. -/
def fnExactParseSettingsCard : Claim7 := { stood := { row := fnExactParseSettingsRow, standIns := [], harness := (true, "1746d617ea578d28f593b839795a868390241190724b0a501b3599ab15e98489"), looks := true }, kinds := [], alts := [], laidByText := true, laidKinds := [.data, .data, .data, .data, .sentinel, .sentinel, .pinned], laidTests := true, laidLooks := .later }
def FnExactParseSettingsCardSaid : Prop := Claim7.holds Tryd.pinned (.plain (OpenSpec.ofChange fnExactParseSettingsSpec)) fnExactParseSettingsCard

/-- THE TIED CARD OF 'laws.FnSettingsCanonical'. -/
def fnSettingsCanonicalCard : Claim7 := { stood := { row := fnSettingsCanonicalRow, standIns := [], harness := (true, "1746d617ea578d28f593b839795a868390241190724b0a501b3599ab15e98489"), looks := true }, kinds := [], alts := [], laidByText := true, laidKinds := [.data, .data, .data, .data, .sentinel, .sentinel, .pinned], laidTests := true, laidLooks := .later }
def FnSettingsCanonicalCardSaid : Prop := Claim7.holds Tryd.pinned (.plain (OpenSpec.ofChange fnSettingsCanonicalSpec)) fnSettingsCanonicalCard

/-- THE SECOND FORM's CARD OF 'laws.FnExactFormatSettings'. -/
def fnExactFormatSettingsUptoCard : Claim7 := { stood := { row := fnExactFormatSettingsUptoRow, standIns := [], harness := (true, "1746d617ea578d28f593b839795a868390241190724b0a501b3599ab15e98489"), looks := true }, kinds := [], alts := [], laidByText := true, laidKinds := [.data, .data, .data], laidTests := true, laidLooks := .later }
def FnExactFormatSettingsUptoCardSaid : Prop := Claim7.holds Tryd.pinned (.plain (OpenSpec.upto fnExactFormatSettingsSpec)) fnExactFormatSettingsUptoCard

/-- THE SECOND FORM's CARD OF 'laws.FnSettingsText'. -/
def fnSettingsTextUptoCard : Claim7 := { stood := { row := fnSettingsTextUptoRow, standIns := [], harness := (true, "1746d617ea578d28f593b839795a868390241190724b0a501b3599ab15e98489"), looks := true }, kinds := [], alts := [], laidByText := true, laidKinds := [.data, .data, .data], laidTests := true, laidLooks := .later }
def FnSettingsTextUptoCardSaid : Prop := Claim7.holds Tryd.pinned (.plain (OpenSpec.upto fnSettingsTextSpec)) fnSettingsTextUptoCard

/-- THE SECOND FORM's CARD OF 'laws.FnSettingsRoundTrip'. -/
def fnSettingsRoundTripUptoCard : Claim7 := { stood := { row := fnSettingsRoundTripUptoRow, standIns := [], harness := (true, "1746d617ea578d28f593b839795a868390241190724b0a501b3599ab15e98489"), looks := true }, kinds := [], alts := [], laidByText := true, laidKinds := [.data, .data, .data, .data, .sentinel, .sentinel, .pinned], laidTests := true, laidLooks := .later }
def FnSettingsRoundTripUptoCardSaid : Prop := Claim7.holds Tryd.pinned (.plain (OpenSpec.upto fnSettingsRoundTripSpec)) fnSettingsRoundTripUptoCard

/-- THE SECOND FORM's CARD OF 'laws.FnExactParseSettings'. -/
def fnExactParseSettingsUptoCard : Claim7 := { stood := { row := fnExactParseSettingsUptoRow, standIns := [], harness := (true, "1746d617ea578d28f593b839795a868390241190724b0a501b3599ab15e98489"), looks := true }, kinds := [], alts := [], laidByText := true, laidKinds := [.data, .data, .data, .data, .sentinel, .sentinel, .pinned], laidTests := true, laidLooks := .later }
def FnExactParseSettingsUptoCardSaid : Prop := Claim7.holds Tryd.pinned (.plain (OpenSpec.upto fnExactParseSettingsSpec)) fnExactParseSettingsUptoCard

/-- THE SECOND FORM's CARD OF 'laws.FnSettingsCanonical'. -/
def fnSettingsCanonicalUptoCard : Claim7 := { stood := { row := fnSettingsCanonicalUptoRow, standIns := [], harness := (true, "1746d617ea578d28f593b839795a868390241190724b0a501b3599ab15e98489"), looks := true }, kinds := [], alts := [], laidByText := true, laidKinds := [.data, .data, .data, .data, .sentinel, .sentinel, .pinned], laidTests := true, laidLooks := .later }
def FnSettingsCanonicalUptoCardSaid : Prop := Claim7.holds Tryd.pinned (.plain (OpenSpec.upto fnSettingsCanonicalSpec)) fnSettingsCanonicalUptoCard
end Rows
end Go.Proofs.YtmphjojhfmikeaaDoor
