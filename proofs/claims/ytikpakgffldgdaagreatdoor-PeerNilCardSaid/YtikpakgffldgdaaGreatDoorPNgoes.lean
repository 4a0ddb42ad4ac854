/- PeerNil: what goes by. -/
import Derived.Test.YtikpakgffldgdaaGreatDoorCards
import Derived.KernelRfl
namespace Go.Proofs.YtikpakgffldgdaaGreatDoor
open Go
set_option maxRecDepth 100000
theorem peerNil_goes : false = Rows.peerNilRow.goesBy Tryz.pinned.checked.prog := by kernel_rfl
end Go.Proofs.YtikpakgffldgdaaGreatDoor
