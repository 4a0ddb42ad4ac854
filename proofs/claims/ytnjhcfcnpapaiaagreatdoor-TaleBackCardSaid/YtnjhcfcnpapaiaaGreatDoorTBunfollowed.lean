/- TaleBack: what the row says of the functions that are reached (unfollowed). -/
import Derived.Test.YtnjhcfcnpapaiaaGreatDoorRows
import Derived.JoinedCond
import Derived.KernelRfl
namespace Go.Proofs.YtnjhcfcnpapaiaaGreatDoor
open Go
set_option maxRecDepth 100000
theorem taleBack_unfollowed : (Rows.taleBackRow.unfollowed == Tryz.prog.unfollowed 3) = true := by kernel_rfl
end Go.Proofs.YtnjhcfcnpapaiaaGreatDoor
