/-
  DERIVED. GIVEN WITH THE SEED: THE CARDS: each row of YtbgepjggclhfiaaGreatDoorRows.lean that lists a variable, with what it lists TIED to the program's text (the seventh form; the later family's looks); each row that meets fmt, with fmt's text TOLD by the authors' own Lean function (tested against real Go, not proved from fmt's source: count such statements apart). THE CARD IS WHAT COUNTS. Prove the row's statement (the work); the ties are given (YtbgepjggclhfiaaGreatDoorTie.lean); close each card by the builder's one call (the guide's Derived/Test/ToyasCard.lean, 'card_holds'). Laid BY PROGRAM, IN A SANDBOX (cutbox-door.mjs). By AI agents, Wed Nov 11 2026. No macro, syntax, notation, axiom, sorry.
-/
import Derived.Test.YtbgepjggclhfiaaGreatDoorRows
import GoSem.ClaimSeven
namespace Go.Proofs.YtbgepjggclhfiaaGreatDoor
namespace Rows

/-- THE TIED CARD OF 'wapentakelaw22.WardWants'. -/
def wardWantsCard : Claim7 := { stood := { row := wardWantsRow, standIns := [], harness := (true, "fc56c7d4c967c1b072916d5e879c3a2d4c030054d9f057313d5cf752345f8372"), looks := true }, kinds := [], alts := [], laidByText := true, laidKinds := [.data, .data, .data, .sentinel, .sentinel, .data, .data], laidTests := true, laidLooks := .later }
def WardWantsCardSaid : Prop := Claim7.holds Tryz.pinned (.plain (OpenSpec.ofChange wardWantsSpec)) wardWantsCard

/-- THE TIED CARD OF 'wapentakelaw22.WardNil'. -/
def wardNilCard : Claim7 := { stood := { row := wardNilRow, standIns := [], harness := (true, "fc56c7d4c967c1b072916d5e879c3a2d4c030054d9f057313d5cf752345f8372"), looks := true }, kinds := [], alts := [], laidByText := true, laidKinds := [.data, .data, .data, .sentinel, .sentinel, .data, .data], laidTests := true, laidLooks := .later }
def WardNilCardSaid : Prop := Claim7.holds Tryz.pinned (.plain (OpenSpec.ofChange wardNilSpec)) wardNilCard

/-- THE SECOND FORM's CARD OF 'wapentakelaw22.WardWants'. -/
def wardWantsUptoCard : Claim7 := { stood := { row := wardWantsUptoRow, standIns := [], harness := (true, "fc56c7d4c967c1b072916d5e879c3a2d4c030054d9f057313d5cf752345f8372"), looks := true }, kinds := [], alts := [], laidByText := true, laidKinds := [.data, .data, .data, .sentinel, .sentinel, .data, .data], laidTests := true, laidLooks := .later }
def WardWantsUptoCardSaid : Prop := Claim7.holds Tryz.pinned (.plain (OpenSpec.upto wardWantsSpec)) wardWantsUptoCard

/-- THE SECOND FORM's CARD OF 'wapentakelaw22.WardNil'. -/
def wardNilUptoCard : Claim7 := { stood := { row := wardNilUptoRow, standIns := [], harness := (true, "fc56c7d4c967c1b072916d5e879c3a2d4c030054d9f057313d5cf752345f8372"), looks := true }, kinds := [], alts := [], laidByText := true, laidKinds := [.data, .data, .data, .sentinel, .sentinel, .data, .data], laidTests := true, laidLooks := .later }
def WardNilUptoCardSaid : Prop := Claim7.holds Tryz.pinned (.plain (OpenSpec.upto wardNilSpec)) wardNilUptoCard
end Rows
end Go.Proofs.YtbgepjggclhfiaaGreatDoor
