/-
  DERIVED. GIVEN WITH THE SEED: THE CARDS: each row of YtmehmpammjcnkaaDoorRows.lean that lists a variable, with what it lists TIED to the program's text (the seventh form; the later family's looks); each row that meets fmt, with fmt's text TOLD by the authors' own Lean function (tested against real Go, not proved from fmt's source: count such statements apart). THE CARD IS WHAT COUNTS. Prove the row's statement (the work); the ties are given (YtmehmpammjcnkaaDoorTie.lean); close each card by the builder's one call (the guide's Derived/Test/ToyasCard.lean, 'card_holds'). Laid BY PROGRAM, IN A SANDBOX (cutbox-door.mjs). By AI agents, Wed Nov 11 2026. No macro, syntax, notation, axiom, sorry.
-/
import Derived.Test.YtmehmpammjcnkaaDoorRows
import GoSem.ClaimSeven
namespace Go.Proofs.YtmehmpammjcnkaaDoor
namespace Rows

/-- THE TIED CARD OF 'laws.FnExactParseRegion'. -/
def fnExactParseRegionCard : Claim7 := { stood := { row := fnExactParseRegionRow, standIns := [], harness := (true, "a6b14ef39112b41401db2f5e2bc977a5a48b0a28486931c1089efb9b77b6bc1e"), looks := false }, kinds := [], alts := [], laidByText := true, laidKinds := [.data, .pinned], laidTests := true, laidLooks := .later }
def FnExactParseRegionCardSaid : Prop := Claim7.holds Tryd.pinned (.plain (OpenSpec.ofChange fnExactParseRegionSpec)) fnExactParseRegionCard

/-- THE TIED CARD OF 'laws.FnExactFormatRecurrence'. -/
def fnExactFormatRecurrenceCard : Claim7 := { stood := { row := fnExactFormatRecurrenceRow, standIns := [], harness := (true, "a6b14ef39112b41401db2f5e2bc977a5a48b0a28486931c1089efb9b77b6bc1e"), looks := false }, kinds := [], alts := [], laidByText := true, laidKinds := [.data, .data, .data], laidTests := true, laidLooks := .later }
def FnExactFormatRecurrenceCardSaid : Prop := Claim7.holds Tryd.pinned (.plain (OpenSpec.ofChange fnExactFormatRecurrenceSpec)) fnExactFormatRecurrenceCard

/-- THE SECOND FORM's CARD OF 'laws.FnExactParseRegion'. -/
def fnExactParseRegionUptoCard : Claim7 := { stood := { row := fnExactParseRegionUptoRow, standIns := [], harness := (true, "a6b14ef39112b41401db2f5e2bc977a5a48b0a28486931c1089efb9b77b6bc1e"), looks := false }, kinds := [], alts := [], laidByText := true, laidKinds := [.data, .pinned], laidTests := true, laidLooks := .later }
def FnExactParseRegionUptoCardSaid : Prop := Claim7.holds Tryd.pinned (.plain (OpenSpec.upto fnExactParseRegionSpec)) fnExactParseRegionUptoCard

/-- THE SECOND FORM's CARD OF 'laws.FnExactFormatRecurrence'. -/
def fnExactFormatRecurrenceUptoCard : Claim7 := { stood := { row := fnExactFormatRecurrenceUptoRow, standIns := [], harness := (true, "a6b14ef39112b41401db2f5e2bc977a5a48b0a28486931c1089efb9b77b6bc1e"), looks := false }, kinds := [], alts := [], laidByText := true, laidKinds := [.data, .data, .data], laidTests := true, laidLooks := .later }
def FnExactFormatRecurrenceUptoCardSaid : Prop := Claim7.holds Tryd.pinned (.plain (OpenSpec.upto fnExactFormatRecurrenceSpec)) fnExactFormatRecurrenceUptoCard
end Rows
end Go.Proofs.YtmehmpammjcnkaaDoor
