/- PeerNil: what the row says of the functions that are reached (named). -/
import Derived.Test.YtikpakgffldgdaaGreatDoorRows
import Derived.JoinedCond
import Derived.KernelRfl
namespace Go.Proofs.YtikpakgffldgdaaGreatDoor
open Go
set_option maxRecDepth 100000
theorem peerNil_varsNamed : (Rows.peerNilRow.named == Tryz.prog.varsNamed 6) = true := by kernel_rfl
end Go.Proofs.YtikpakgffldgdaaGreatDoor
