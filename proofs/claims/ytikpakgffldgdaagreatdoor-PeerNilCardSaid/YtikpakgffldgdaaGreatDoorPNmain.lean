/- PeerNil: the harness. -/
import Derived.Test.YtikpakgffldgdaaGreatDoorCards
import Derived.KernelRfl
namespace Go.Proofs.YtikpakgffldgdaaGreatDoor
open Go
set_option maxRecDepth 100000
theorem peerNil_main : Tryz.pinned.checked.prog.mainIs = some (Rows.peerNilCard.stood.harness.1, Rows.peerNilCard.stood.harness.2.toList) := by kernel_rfl
theorem peerNil_wf : Rows.peerNilRow.wfByText (OpenSpec.ofChange Rows.peerNilSpec) = true := by kernel_rfl
end Go.Proofs.YtikpakgffldgdaaGreatDoor
