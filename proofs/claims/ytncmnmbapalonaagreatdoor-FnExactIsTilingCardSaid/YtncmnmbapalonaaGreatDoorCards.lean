/-
  DERIVED. GIVEN WITH THE SEED: THE CARDS: each row of YtncmnmbapalonaaGreatDoorRows.lean that lists a variable, with what it lists TIED to the program's text (the seventh form; the later family's looks); each row that meets fmt, with fmt's text TOLD by the authors' own Lean function (tested against real Go, not proved from fmt's source: count such statements apart). THE CARD IS WHAT COUNTS. Prove the row's statement (the work); the ties are given (YtncmnmbapalonaaGreatDoorTie.lean); close each card by the builder's one call (the guide's Derived/Test/ToyasCard.lean, 'card_holds'). Laid BY PROGRAM, IN A SANDBOX (cutbox-door.mjs). By AI agents, Wed Nov 11 2026. No macro, syntax, notation, axiom, sorry.
-/
import Derived.Test.YtncmnmbapalonaaGreatDoorRows
import GoSem.ClaimSeven
namespace Go.Proofs.YtncmnmbapalonaaGreatDoor
namespace Rows

/-- THE TIED CARD OF 'laws.FnExactIsTiling'. -/
def fnExactIsTilingCard : Claim7 := { stood := { row := fnExactIsTilingRow, standIns := [], harness := (true, "bc6ff20e51aca7a0aa66c0738b8f54e61a2e832dbf3e467a2ed4ba2404cff8e1"), looks := false }, kinds := [], alts := [], laidByText := true, laidKinds := [.data, .data], laidTests := true, laidLooks := .later }
def FnExactIsTilingCardSaid : Prop := Claim7.holds Tryz.pinned (.plain (OpenSpec.ofChange fnExactIsTilingSpec)) fnExactIsTilingCard

/-- THE TIED CARD OF 'laws.FnExactSearchNodes'. -/
def fnExactSearchNodesCard : Claim7 := { stood := { row := fnExactSearchNodesRow, standIns := [], harness := (true, "bc6ff20e51aca7a0aa66c0738b8f54e61a2e832dbf3e467a2ed4ba2404cff8e1"), looks := false }, kinds := [], alts := [], laidByText := true, laidKinds := [.data, .data], laidTests := true, laidLooks := .later }
def FnExactSearchNodesCardSaid : Prop := Claim7.holds Tryz.pinned (.plain (OpenSpec.ofChange fnExactSearchNodesSpec)) fnExactSearchNodesCard

/-- THE SECOND FORM's CARD OF 'laws.FnExactIsTiling'. -/
def fnExactIsTilingUptoCard : Claim7 := { stood := { row := fnExactIsTilingUptoRow, standIns := [], harness := (true, "bc6ff20e51aca7a0aa66c0738b8f54e61a2e832dbf3e467a2ed4ba2404cff8e1"), looks := false }, kinds := [], alts := [], laidByText := true, laidKinds := [.data, .data], laidTests := true, laidLooks := .later }
def FnExactIsTilingUptoCardSaid : Prop := Claim7.holds Tryz.pinned (.plain (OpenSpec.upto fnExactIsTilingSpec)) fnExactIsTilingUptoCard

/-- THE SECOND FORM's CARD OF 'laws.FnExactSearchNodes'. -/
def fnExactSearchNodesUptoCard : Claim7 := { stood := { row := fnExactSearchNodesUptoRow, standIns := [], harness := (true, "bc6ff20e51aca7a0aa66c0738b8f54e61a2e832dbf3e467a2ed4ba2404cff8e1"), looks := false }, kinds := [], alts := [], laidByText := true, laidKinds := [.data, .data], laidTests := true, laidLooks := .later }
def FnExactSearchNodesUptoCardSaid : Prop := Claim7.holds Tryz.pinned (.plain (OpenSpec.upto fnExactSearchNodesSpec)) fnExactSearchNodesUptoCard
end Rows
end Go.Proofs.YtncmnmbapalonaaGreatDoor
