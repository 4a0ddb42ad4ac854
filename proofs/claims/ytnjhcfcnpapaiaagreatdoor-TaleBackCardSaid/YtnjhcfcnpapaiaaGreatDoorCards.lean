/-
  DERIVED. GIVEN WITH THE SEED: THE CARDS: each row of YtnjhcfcnpapaiaaGreatDoorRows.lean that lists a variable, with what it lists TIED to the program's text (the seventh form; the later family's looks); each row that meets fmt, with fmt's text TOLD by the authors' own Lean function (tested against real Go, not proved from fmt's source: count such statements apart). THE CARD IS WHAT COUNTS. Prove the row's statement (the work); the ties are given (YtnjhcfcnpapaiaaGreatDoorTie.lean); close each card by the builder's one call (the guide's Derived/Test/ToyasCard.lean, 'card_holds'). Laid BY PROGRAM, IN A SANDBOX (cutbox-door.mjs). By AI agents, Wed Nov 11 2026. No macro, syntax, notation, axiom, sorry.
-/
import Derived.Test.YtnjhcfcnpapaiaaGreatDoorRows
import GoSem.ClaimSeven
namespace Go.Proofs.YtnjhcfcnpapaiaaGreatDoor
namespace Rows

/-- THE TIED CARD OF 'wapentakelaw26.TaleBack'. -/
def taleBackCard : Claim7 := { stood := { row := taleBackRow, standIns := [], harness := (true, "dec21e73420cbfa47ac3ff278dc81c4a115de7b6c25339f4c1af606c7b501378"), looks := true }, kinds := [], alts := [], laidByText := true, laidKinds := [.data, .data, .data, .sentinel, .sentinel, .data, .data], laidTests := true, laidLooks := .later }
def TaleBackCardSaid : Prop := Claim7.holds Tryz.pinned (.plain (OpenSpec.ofChange taleBackSpec)) taleBackCard

/-- THE TIED CARD OF 'wapentakelaw26.TaleChoices'. -/
def taleChoicesCard : Claim7 := { stood := { row := taleChoicesRow, standIns := [], harness := (true, "dec21e73420cbfa47ac3ff278dc81c4a115de7b6c25339f4c1af606c7b501378"), looks := true }, kinds := [], alts := [], laidByText := true, laidKinds := [.data, .data, .data, .sentinel, .sentinel, .data, .data], laidTests := true, laidLooks := .later }
def TaleChoicesCardSaid : Prop := Claim7.holds Tryz.pinned (.plain (OpenSpec.ofChange taleChoicesSpec)) taleChoicesCard

/-- THE SECOND FORM's CARD OF 'wapentakelaw26.TaleBack'. -/
def taleBackUptoCard : Claim7 := { stood := { row := taleBackUptoRow, standIns := [], harness := (true, "dec21e73420cbfa47ac3ff278dc81c4a115de7b6c25339f4c1af606c7b501378"), looks := true }, kinds := [], alts := [], laidByText := true, laidKinds := [.data, .data, .data, .sentinel, .sentinel, .data, .data], laidTests := true, laidLooks := .later }
def TaleBackUptoCardSaid : Prop := Claim7.holds Tryz.pinned (.plain (OpenSpec.upto taleBackSpec)) taleBackUptoCard

/-- THE SECOND FORM's CARD OF 'wapentakelaw26.TaleChoices'. -/
def taleChoicesUptoCard : Claim7 := { stood := { row := taleChoicesUptoRow, standIns := [], harness := (true, "dec21e73420cbfa47ac3ff278dc81c4a115de7b6c25339f4c1af606c7b501378"), looks := true }, kinds := [], alts := [], laidByText := true, laidKinds := [.data, .data, .data, .sentinel, .sentinel, .data, .data], laidTests := true, laidLooks := .later }
def TaleChoicesUptoCardSaid : Prop := Claim7.holds Tryz.pinned (.plain (OpenSpec.upto taleChoicesSpec)) taleChoicesUptoCard
end Rows
end Go.Proofs.YtnjhcfcnpapaiaaGreatDoor
