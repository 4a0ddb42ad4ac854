/- PeerNil: what the row says of the functions that are reached (recurses). -/
import Derived.Test.YtikpakgffldgdaaGreatDoorRows
import Derived.JoinedCond
import Derived.KernelRfl
namespace Go.Proofs.YtikpakgffldgdaaGreatDoor
open Go
set_option maxRecDepth 100000
theorem peerNil_recurses : (Rows.peerNilRow.recurses == Tryz.prog.recurses 6) = true := by kernel_rfl
end Go.Proofs.YtikpakgffldgdaaGreatDoor
