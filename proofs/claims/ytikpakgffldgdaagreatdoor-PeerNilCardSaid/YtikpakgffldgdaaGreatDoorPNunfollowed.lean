/- PeerNil: what the row says of the functions that are reached (unfollowed). -/
import Derived.Test.YtikpakgffldgdaaGreatDoorRows
import Derived.JoinedCond
import Derived.KernelRfl
namespace Go.Proofs.YtikpakgffldgdaaGreatDoor
open Go
set_option maxRecDepth 100000
theorem peerNil_unfollowed : (Rows.peerNilRow.unfollowed == Tryz.prog.unfollowed 6) = true := by kernel_rfl
end Go.Proofs.YtikpakgffldgdaaGreatDoor
