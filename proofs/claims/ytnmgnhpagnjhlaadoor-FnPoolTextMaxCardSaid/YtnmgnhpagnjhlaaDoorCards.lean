/-
  DERIVED. GIVEN WITH THE SEED: THE CARDS: each row of YtnmgnhpagnjhlaaDoorRows.lean that lists a variable, with what it lists TIED to the program's text (the seventh form; the later family's looks); each row that meets fmt, with fmt's text TOLD by the authors' own Lean function (tested against real Go, not proved from fmt's source: count such statements apart). THE CARD IS WHAT COUNTS. Prove the row's statement (the work); the ties are given (YtnmgnhpagnjhlaaDoorTie.lean); close each card by the builder's one call (the guide's Derived/Test/ToyasCard.lean, 'card_holds'). Laid BY PROGRAM, IN A SANDBOX (cutbox-door.mjs). By AI agents, Wed Nov 11 2026. No macro, syntax, notation, axiom, sorry.
-/
import Derived.Test.YtnmgnhpagnjhlaaDoorRows
import GoSem.ClaimSeven
namespace Go.Proofs.YtnmgnhpagnjhlaaDoor
namespace Rows

/-- THE TIED CARD OF 'laws.FnExactFormatPool'. -/
def fnExactFormatPoolCard : Claim7 := { stood := { row := fnExactFormatPoolRow, standIns := [], harness := (true, "addf9c7cac5bcf0a956d53dd88fdb6867cd31fffb845a34dfe585dc92098f1d3"), looks := false }, kinds := [], alts := [], laidByText := true, laidKinds := [.data, .data, .data], laidTests := true, laidLooks := .later }
def FnExactFormatPoolCardSaid : Prop := Claim7.holds Tryd.pinned (.plain (OpenSpec.ofChange fnExactFormatPoolSpec)) fnExactFormatPoolCard

/-- THE TIED CARD OF 'laws.FnPoolText'. -/
def fnPoolTextCard : Claim7 := { stood := { row := fnPoolTextRow, standIns := [], harness := (true, "addf9c7cac5bcf0a956d53dd88fdb6867cd31fffb845a34dfe585dc92098f1d3"), looks := false }, kinds := [], alts := [], laidByText := true, laidKinds := [.data, .data, .data], laidTests := true, laidLooks := .later }
def FnPoolTextCardSaid : Prop := Claim7.holds Tryd.pinned (.plain (OpenSpec.ofChange fnPoolTextSpec)) fnPoolTextCard

/-- THE TIED CARD OF 'laws.FnPoolTextMax'. -/
def fnPoolTextMaxCard : Claim7 := { stood := { row := fnPoolTextMaxRow, standIns := [], harness := (true, "addf9c7cac5bcf0a956d53dd88fdb6867cd31fffb845a34dfe585dc92098f1d3"), looks := false }, kinds := [], alts := [], laidByText := true, laidKinds := [.data, .data, .data], laidTests := true, laidLooks := .later }
def FnPoolTextMaxCardSaid : Prop := Claim7.holds Tryd.pinned (.plain (OpenSpec.ofChange fnPoolTextMaxSpec)) fnPoolTextMaxCard

/-- THE SECOND FORM's CARD OF 'laws.FnExactFormatPool'. -/
def fnExactFormatPoolUptoCard : Claim7 := { stood := { row := fnExactFormatPoolUptoRow, standIns := [], harness := (true, "addf9c7cac5bcf0a956d53dd88fdb6867cd31fffb845a34dfe585dc92098f1d3"), looks := false }, kinds := [], alts := [], laidByText := true, laidKinds := [.data, .data, .data], laidTests := true, laidLooks := .later }
def FnExactFormatPoolUptoCardSaid : Prop := Claim7.holds Tryd.pinned (.plain (OpenSpec.upto fnExactFormatPoolSpec)) fnExactFormatPoolUptoCard

/-- THE SECOND FORM's CARD OF 'laws.FnPoolText'. -/
def fnPoolTextUptoCard : Claim7 := { stood := { row := fnPoolTextUptoRow, standIns := [], harness := (true, "addf9c7cac5bcf0a956d53dd88fdb6867cd31fffb845a34dfe585dc92098f1d3"), looks := false }, kinds := [], alts := [], laidByText := true, laidKinds := [.data, .data, .data], laidTests := true, laidLooks := .later }
def FnPoolTextUptoCardSaid : Prop := Claim7.holds Tryd.pinned (.plain (OpenSpec.upto fnPoolTextSpec)) fnPoolTextUptoCard

/-- THE SECOND FORM's CARD OF 'laws.FnPoolTextMax'. -/
def fnPoolTextMaxUptoCard : Claim7 := { stood := { row := fnPoolTextMaxUptoRow, standIns := [], harness := (true, "addf9c7cac5bcf0a956d53dd88fdb6867cd31fffb845a34dfe585dc92098f1d3"), looks := false }, kinds := [], alts := [], laidByText := true, laidKinds := [.data, .data, .data], laidTests := true, laidLooks := .later }
def FnPoolTextMaxUptoCardSaid : Prop := Claim7.holds Tryd.pinned (.plain (OpenSpec.upto fnPoolTextMaxSpec)) fnPoolTextMaxUptoCard
end Rows
end Go.Proofs.YtnmgnhpagnjhlaaDoor
