/-
  DERIVED. GIVEN WITH THE SEED: THE CARDS: each row of YtmehmpammjcnkaaGreatDoorRows.lean that lists a variable, with what it lists TIED to the program's text (the seventh form; the later family's looks); each row that meets fmt, with fmt's text TOLD by the authors' own Lean function (tested against real Go, not proved from fmt's source: count such statements apart). THE CARD IS WHAT COUNTS. Prove the row's statement (the work); the ties are given (YtmehmpammjcnkaaGreatDoorTie.lean); close each card by the builder's one call (the guide's Derived/Test/ToyasCard.lean, 'card_holds'). Laid BY PROGRAM, IN A SANDBOX (cutbox-door.mjs). By AI agents, Wed Nov 11 2026. No macro, syntax, notation, axiom, sorry.
-/
import Derived.Test.YtmehmpammjcnkaaGreatDoorRows
import GoSem.ClaimSeven
namespace Go.Proofs.YtmehmpammjcnkaaGreatDoor
namespace Rows

/-- THE TIED CARD OF 'laws.FnExactSearchNodes'. -/
def fnExactSearchNodesCard : Claim7 := { stood := { row := fnExactSearchNodesRow, standIns := [], harness := (true, "8d5bcfe3de13291564d8266e082bc8c21259d2118fc02f10284f65c698a854ea"), looks := false }, kinds := [], alts := [], laidByText := true, laidKinds := [.data, .data], laidTests := true, laidLooks := .later }
def FnExactSearchNodesCardSaid : Prop := Claim7.holds Tryz.pinned (.plain (OpenSpec.ofChange fnExactSearchNodesSpec)) fnExactSearchNodesCard

/-- THE TIED CARD OF 'laws.FnExactRefutationOf'. -/
def fnExactRefutationOfCard : Claim7 := { stood := { row := fnExactRefutationOfRow, standIns := [], harness := (true, "8d5bcfe3de13291564d8266e082bc8c21259d2118fc02f10284f65c698a854ea"), looks := false }, kinds := [], alts := [], laidByText := true, laidKinds := [.data, .data], laidTests := true, laidLooks := .later }
def FnExactRefutationOfCardSaid : Prop := Claim7.holds Tryz.pinned (.plain (OpenSpec.ofChange fnExactRefutationOfSpec)) fnExactRefutationOfCard

/-- THE TIED CARD OF 'laws.FnExactCountTilings'. -/
def fnExactCountTilingsCard : Claim7 := { stood := { row := fnExactCountTilingsRow, standIns := [], harness := (true, "8d5bcfe3de13291564d8266e082bc8c21259d2118fc02f10284f65c698a854ea"), looks := false }, kinds := [], alts := [], laidByText := true, laidKinds := [.data, .data], laidTests := true, laidLooks := .later }
def FnExactCountTilingsCardSaid : Prop := Claim7.holds Tryz.pinned (.plain (OpenSpec.ofChange fnExactCountTilingsSpec)) fnExactCountTilingsCard

/-- THE TIED CARD OF 'laws.FnExactIsRefutation'. -/
def fnExactIsRefutationCard : Claim7 := { stood := { row := fnExactIsRefutationRow, standIns := [], harness := (true, "8d5bcfe3de13291564d8266e082bc8c21259d2118fc02f10284f65c698a854ea"), looks := false }, kinds := [], alts := [], laidByText := true, laidKinds := [.data, .data], laidTests := true, laidLooks := .later }
def FnExactIsRefutationCardSaid : Prop := Claim7.holds Tryz.pinned (.plain (OpenSpec.ofChange fnExactIsRefutationSpec)) fnExactIsRefutationCard

/-- THE TIED CARD OF 'laws.FnExactHasTiling'. -/
def fnExactHasTilingCard : Claim7 := { stood := { row := fnExactHasTilingRow, standIns := [], harness := (true, "8d5bcfe3de13291564d8266e082bc8c21259d2118fc02f10284f65c698a854ea"), looks := false }, kinds := [], alts := [], laidByText := true, laidKinds := [.data, .data], laidTests := true, laidLooks := .later }
def FnExactHasTilingCardSaid : Prop := Claim7.holds Tryz.pinned (.plain (OpenSpec.ofChange fnExactHasTilingSpec)) fnExactHasTilingCard

/-- THE TIED CARD OF 'laws.FnExactFindTiling'. -/
def fnExactFindTilingCard : Claim7 := { stood := { row := fnExactFindTilingRow, standIns := [], harness := (true, "8d5bcfe3de13291564d8266e082bc8c21259d2118fc02f10284f65c698a854ea"), looks := false }, kinds := [], alts := [], laidByText := true, laidKinds := [.data, .data], laidTests := true, laidLooks := .later }
def FnExactFindTilingCardSaid : Prop := Claim7.holds Tryz.pinned (.plain (OpenSpec.ofChange fnExactFindTilingSpec)) fnExactFindTilingCard

/-- THE TIED CARD OF 'laws.FnExactTilingNumber'. -/
def fnExactTilingNumberCard : Claim7 := { stood := { row := fnExactTilingNumberRow, standIns := [], harness := (true, "8d5bcfe3de13291564d8266e082bc8c21259d2118fc02f10284f65c698a854ea"), looks := false }, kinds := [], alts := [], laidByText := true, laidKinds := [.data, .data], laidTests := true, laidLooks := .later }
def FnExactTilingNumberCardSaid : Prop := Claim7.holds Tryz.pinned (.plain (OpenSpec.ofChange fnExactTilingNumberSpec)) fnExactTilingNumberCard

/-- THE SECOND FORM's CARD OF 'laws.FnExactSearchNodes'. -/
def fnExactSearchNodesUptoCard : Claim7 := { stood := { row := fnExactSearchNodesUptoRow, standIns := [], harness := (true, "8d5bcfe3de13291564d8266e082bc8c21259d2118fc02f10284f65c698a854ea"), looks := false }, kinds := [], alts := [], laidByText := true, laidKinds := [.data, .data], laidTests := true, laidLooks := .later }
def FnExactSearchNodesUptoCardSaid : Prop := Claim7.holds Tryz.pinned (.plain (OpenSpec.upto fnExactSearchNodesSpec)) fnExactSearchNodesUptoCard

/-- THE SECOND FORM's CARD OF 'laws.FnExactRefutationOf'. -/
def fnExactRefutationOfUptoCard : Claim7 := { stood := { row := fnExactRefutationOfUptoRow, standIns := [], harness := (true, "8d5bcfe3de13291564d8266e082bc8c21259d2118fc02f10284f65c698a854ea"), looks := false }, kinds := [], alts := [], laidByText := true, laidKinds := [.data, .data], laidTests := true, laidLooks := .later }
def FnExactRefutationOfUptoCardSaid : Prop := Claim7.holds Tryz.pinned (.plain (OpenSpec.upto fnExactRefutationOfSpec)) fnExactRefutationOfUptoCard

/-- THE SECOND FORM's CARD OF 'laws.FnExactCountTilings'. -/
def fnExactCountTilingsUptoCard : Claim7 := { stood := { row := fnExactCountTilingsUptoRow, standIns := [], harness := (true, "8d5bcfe3de13291564d8266e082bc8c21259d2118fc02f10284f65c698a854ea"), looks := false }, kinds := [], alts := [], laidByText := true, laidKinds := [.data, .data], laidTests := true, laidLooks := .later }
def FnExactCountTilingsUptoCardSaid : Prop := Claim7.holds Tryz.pinned (.plain (OpenSpec.upto fnExactCountTilingsSpec)) fnExactCountTilingsUptoCard

/-- THE SECOND FORM's CARD OF 'laws.FnExactIsRefutation'. -/
def fnExactIsRefutationUptoCard : Claim7 := { stood := { row := fnExactIsRefutationUptoRow, standIns := [], harness := (true, "8d5bcfe3de13291564d8266e082bc8c21259d2118fc02f10284f65c698a854ea"), looks := false }, kinds := [], alts := [], laidByText := true, laidKinds := [.data, .data], laidTests := true, laidLooks := .later }
def FnExactIsRefutationUptoCardSaid : Prop := Claim7.holds Tryz.pinned (.plain (OpenSpec.upto fnExactIsRefutationSpec)) fnExactIsRefutationUptoCard

/-- THE SECOND FORM's CARD OF 'laws.FnExactHasTiling'. -/
def fnExactHasTilingUptoCard : Claim7 := { stood := { row := fnExactHasTilingUptoRow, standIns := [], harness := (true, "8d5bcfe3de13291564d8266e082bc8c21259d2118fc02f10284f65c698a854ea"), looks := false }, kinds := [], alts := [], laidByText := true, laidKinds := [.data, .data], laidTests := true, laidLooks := .later }
def FnExactHasTilingUptoCardSaid : Prop := Claim7.holds Tryz.pinned (.plain (OpenSpec.upto fnExactHasTilingSpec)) fnExactHasTilingUptoCard

/-- THE SECOND FORM's CARD OF 'laws.FnExactFindTiling'. -/
def fnExactFindTilingUptoCard : Claim7 := { stood := { row := fnExactFindTilingUptoRow, standIns := [], harness := (true, "8d5bcfe3de13291564d8266e082bc8c21259d2118fc02f10284f65c698a854ea"), looks := false }, kinds := [], alts := [], laidByText := true, laidKinds := [.data, .data], laidTests := true, laidLooks := .later }
def FnExactFindTilingUptoCardSaid : Prop := Claim7.holds Tryz.pinned (.plain (OpenSpec.upto fnExactFindTilingSpec)) fnExactFindTilingUptoCard

/-- THE SECOND FORM's CARD OF 'laws.FnExactTilingNumber'. -/
def fnExactTilingNumberUptoCard : Claim7 := { stood := { row := fnExactTilingNumberUptoRow, standIns := [], harness := (true, "8d5bcfe3de13291564d8266e082bc8c21259d2118fc02f10284f65c698a854ea"), looks := false }, kinds := [], alts := [], laidByText := true, laidKinds := [.data, .data], laidTests := true, laidLooks := .later }
def FnExactTilingNumberUptoCardSaid : Prop := Claim7.holds Tryz.pinned (.plain (OpenSpec.upto fnExactTilingNumberSpec)) fnExactTilingNumberUptoCard
end Rows
end Go.Proofs.YtmehmpammjcnkaaGreatDoor
