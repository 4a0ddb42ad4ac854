/-
  DERIVED. GIVEN WITH THE SEED: THE CARDS: each row of YtikpakgffldgdaaGreatDoorRows.lean that lists a variable, with what it lists TIED to the program's text (the seventh form; the later family's looks); each row that meets fmt, with fmt's text TOLD by the authors' own Lean function (tested against real Go, not proved from fmt's source: count such statements apart). THE CARD IS WHAT COUNTS. Prove the row's statement (the work); the ties are given (YtikpakgffldgdaaGreatDoorTie.lean); close each card by the builder's one call (the guide's Derived/Test/ToyasCard.lean, 'card_holds'). Laid BY PROGRAM, IN A SANDBOX (cutbox-door.mjs). By AI agents, Wed Nov 11 2026. No macro, syntax, notation, axiom, sorry.
-/
import Derived.Test.YtikpakgffldgdaaGreatDoorRows
import GoSem.ClaimSeven
namespace Go.Proofs.YtikpakgffldgdaaGreatDoor
namespace Rows

/-- THE TIED CARD OF 'wapentakelaw20.PeerKeys'. -/
def peerKeysCard : Claim7 := { stood := { row := peerKeysRow, standIns := [], harness := (true, "5b91b516c265910f0f9f5d60677baf3020cf45b35d069f527a23e2d57f98d74f"), looks := true }, kinds := [], alts := [], laidByText := true, laidKinds := [.data, .data, .data, .sentinel, .sentinel, .data, .data], laidTests := true, laidLooks := .later }
def PeerKeysCardSaid : Prop := Claim7.holds Tryz.pinned (.plain (OpenSpec.ofChange peerKeysSpec)) peerKeysCard

/-- THE TIED CARD OF 'wapentakelaw20.PeerTotal'. -/
def peerTotalCard : Claim7 := { stood := { row := peerTotalRow, standIns := [], harness := (true, "5b91b516c265910f0f9f5d60677baf3020cf45b35d069f527a23e2d57f98d74f"), looks := true }, kinds := [], alts := [], laidByText := true, laidKinds := [.data, .data, .data, .sentinel, .sentinel, .data, .data], laidTests := true, laidLooks := .later }
def PeerTotalCardSaid : Prop := Claim7.holds Tryz.pinned (.plain (OpenSpec.ofChange peerTotalSpec)) peerTotalCard

/-- THE TIED CARD OF 'wapentakelaw20.PeerAlone'. -/
def peerAloneCard : Claim7 := { stood := { row := peerAloneRow, standIns := [], harness := (true, "5b91b516c265910f0f9f5d60677baf3020cf45b35d069f527a23e2d57f98d74f"), looks := true }, kinds := [], alts := [], laidByText := true, laidKinds := [.data, .data, .data, .sentinel, .sentinel, .data, .data], laidTests := true, laidLooks := .later }
def PeerAloneCardSaid : Prop := Claim7.holds Tryz.pinned (.plain (OpenSpec.ofChange peerAloneSpec)) peerAloneCard

/-- THE TIED CARD OF 'wapentakelaw20.PeerNil'. -/
def peerNilCard : Claim7 := { stood := { row := peerNilRow, standIns := [], harness := (true, "5b91b516c265910f0f9f5d60677baf3020cf45b35d069f527a23e2d57f98d74f"), looks := true }, kinds := [], alts := [], laidByText := true, laidKinds := [.data, .data, .data, .sentinel, .sentinel, .data, .data], laidTests := true, laidLooks := .later }
def PeerNilCardSaid : Prop := Claim7.holds Tryz.pinned (.plain (OpenSpec.ofChange peerNilSpec)) peerNilCard

/-- THE SECOND FORM's CARD OF 'wapentakelaw20.PeerKeys'. -/
def peerKeysUptoCard : Claim7 := { stood := { row := peerKeysUptoRow, standIns := [], harness := (true, "5b91b516c265910f0f9f5d60677baf3020cf45b35d069f527a23e2d57f98d74f"), looks := true }, kinds := [], alts := [], laidByText := true, laidKinds := [.data, .data, .data, .sentinel, .sentinel, .data, .data], laidTests := true, laidLooks := .later }
def PeerKeysUptoCardSaid : Prop := Claim7.holds Tryz.pinned (.plain (OpenSpec.upto peerKeysSpec)) peerKeysUptoCard

/-- THE SECOND FORM's CARD OF 'wapentakelaw20.PeerTotal'. -/
def peerTotalUptoCard : Claim7 := { stood := { row := peerTotalUptoRow, standIns := [], harness := (true, "5b91b516c265910f0f9f5d60677baf3020cf45b35d069f527a23e2d57f98d74f"), looks := true }, kinds := [], alts := [], laidByText := true, laidKinds := [.data, .data, .data, .sentinel, .sentinel, .data, .data], laidTests := true, laidLooks := .later }
def PeerTotalUptoCardSaid : Prop := Claim7.holds Tryz.pinned (.plain (OpenSpec.upto peerTotalSpec)) peerTotalUptoCard

/-- THE SECOND FORM's CARD OF 'wapentakelaw20.PeerAlone'. -/
def peerAloneUptoCard : Claim7 := { stood := { row := peerAloneUptoRow, standIns := [], harness := (true, "5b91b516c265910f0f9f5d60677baf3020cf45b35d069f527a23e2d57f98d74f"), looks := true }, kinds := [], alts := [], laidByText := true, laidKinds := [.data, .data, .data, .sentinel, .sentinel, .data, .data], laidTests := true, laidLooks := .later }
def PeerAloneUptoCardSaid : Prop := Claim7.holds Tryz.pinned (.plain (OpenSpec.upto peerAloneSpec)) peerAloneUptoCard

/-- THE SECOND FORM's CARD OF 'wapentakelaw20.PeerNil'. -/
def peerNilUptoCard : Claim7 := { stood := { row := peerNilUptoRow, standIns := [], harness := (true, "5b91b516c265910f0f9f5d60677baf3020cf45b35d069f527a23e2d57f98d74f"), looks := true }, kinds := [], alts := [], laidByText := true, laidKinds := [.data, .data, .data, .sentinel, .sentinel, .data, .data], laidTests := true, laidLooks := .later }
def PeerNilUptoCardSaid : Prop := Claim7.holds Tryz.pinned (.plain (OpenSpec.upto peerNilSpec)) peerNilUptoCard
end Rows
end Go.Proofs.YtikpakgffldgdaaGreatDoor
