/- A nil peer does nothing: whatever text is told, PeerNil returns true and leaves its argument as it was. The program's variables start as its text lays them: the card ties them. No other condition. -/
import Derived.Test.YtikpakgffldgdaaGreatDoorPNilRow
import Derived.Test.YtikpakgffldgdaaGreatDoorPNgoes
import Derived.Test.YtikpakgffldgdaaGreatDoorPNmain
namespace Go.Proofs.YtikpakgffldgdaaGreatDoor
open Go
set_option maxRecDepth 100000
/-- The tied card. -/
theorem peerNil_holds : Rows.PeerNilCardSaid :=
  Claim7.holds_tied_plain_at .later [] [.data, .data, .data, .sentinel, .sentinel, .data, .data] true Rows.peerNilCard.stood.harness true PeerNil.said (fun _ h => by cases h) peerNil_wf (fun _ h => by cases h) peerNil_row_tie rfl ⟨rfl, rfl⟩ peerNil_main rfl PeerNil.plain peerNil_goes
#print axioms peerNil_holds
end Go.Proofs.YtikpakgffldgdaaGreatDoor
