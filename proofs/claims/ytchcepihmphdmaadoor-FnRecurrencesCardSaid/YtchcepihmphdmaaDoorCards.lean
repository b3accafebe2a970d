/-
  DERIVED. GIVEN WITH THE SEED: THE CARDS: each row of YtchcepihmphdmaaDoorRows.lean that lists a variable, with what it lists TIED to the program's text (the seventh form; the later family's looks); each row that meets fmt, with fmt's text TOLD by the authors' own Lean function (tested against real Go, not proved from fmt's source: count such statements apart). THE CARD IS WHAT COUNTS. Prove the row's statement (the work); the ties are given (YtchcepihmphdmaaDoorTie.lean); close each card by the builder's one call (the guide's Derived/Test/ToyasCard.lean, 'card_holds'). Laid BY PROGRAM, IN A SANDBOX (cutbox-door.mjs). By AI agents, Wed Nov 11 2026. No macro, syntax, notation, axiom, sorry.
-/
import Derived.Test.YtchcepihmphdmaaDoorRows
import GoSem.ClaimSeven
namespace Go.Proofs.YtchcepihmphdmaaDoor
namespace Rows

/-- THE TIED CARD OF 'laws.FnExactParseRegion'. -/
def fnExactParseRegionCard : Claim7 := { stood := { row := fnExactParseRegionRow, standIns := [], harness := (true, "59b094985a372f3e3200420a7450fb435c3c5064e04060c81e6b61a6efca475a"), looks := false }, kinds := [], alts := [], laidByText := true, laidKinds := [.data, .pinned], laidTests := true, laidLooks := .later }
def FnExactParseRegionCardSaid : Prop := Claim7.holds Tryd.pinned (.plain (OpenSpec.ofChange fnExactParseRegionSpec)) fnExactParseRegionCard

/-- THE TIED CARD OF 'laws.FnRecurrences'. -/
def fnRecurrencesCard : Claim7 := { stood := { row := fnRecurrencesRow, standIns := [], harness := (true, "59b094985a372f3e3200420a7450fb435c3c5064e04060c81e6b61a6efca475a"), looks := false }, kinds := [], alts := [], laidByText := true, laidKinds := [.data, .data, .data], laidTests := true, laidLooks := .later }
def FnRecurrencesCardSaid : Prop := Claim7.holds Tryd.pinned (.plain (OpenSpec.ofChange fnRecurrencesSpec)) fnRecurrencesCard

/-- THE SECOND FORM's CARD OF 'laws.FnExactParseRegion'. -/
def fnExactParseRegionUptoCard : Claim7 := { stood := { row := fnExactParseRegionUptoRow, standIns := [], harness := (true, "59b094985a372f3e3200420a7450fb435c3c5064e04060c81e6b61a6efca475a"), looks := false }, kinds := [], alts := [], laidByText := true, laidKinds := [.data, .pinned], laidTests := true, laidLooks := .later }
def FnExactParseRegionUptoCardSaid : Prop := Claim7.holds Tryd.pinned (.plain (OpenSpec.upto fnExactParseRegionSpec)) fnExactParseRegionUptoCard

/-- THE SECOND FORM's CARD OF 'laws.FnRecurrences'. -/
def fnRecurrencesUptoCard : Claim7 := { stood := { row := fnRecurrencesUptoRow, standIns := [], harness := (true, "59b094985a372f3e3200420a7450fb435c3c5064e04060c81e6b61a6efca475a"), looks := false }, kinds := [], alts := [], laidByText := true, laidKinds := [.data, .data, .data], laidTests := true, laidLooks := .later }
def FnRecurrencesUptoCardSaid : Prop := Claim7.holds Tryd.pinned (.plain (OpenSpec.upto fnRecurrencesSpec)) fnRecurrencesUptoCard
end Rows
end Go.Proofs.YtchcepihmphdmaaDoor
