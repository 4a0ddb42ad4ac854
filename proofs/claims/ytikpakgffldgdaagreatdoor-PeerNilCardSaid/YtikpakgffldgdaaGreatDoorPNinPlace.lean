/- PeerNil: what the row says of the functions that are reached (inPlace). -/
import Derived.Test.YtikpakgffldgdaaGreatDoorRows
import Derived.JoinedCond
import Derived.KernelRfl
namespace Go.Proofs.YtikpakgffldgdaaGreatDoor
open Go
set_option maxRecDepth 100000
theorem peerNil_inPlace : (Rows.peerNilRow.inPlace == Tryz.prog.inPlace 6) = true := by kernel_rfl
end Go.Proofs.YtikpakgffldgdaaGreatDoor
