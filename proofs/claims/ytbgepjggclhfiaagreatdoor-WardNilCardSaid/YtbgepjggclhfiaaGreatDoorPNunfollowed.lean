/- WardNil: what the row says of the functions that are reached (unfollowed). -/
import Derived.Test.YtbgepjggclhfiaaGreatDoorRows
import Derived.JoinedCond
import Derived.KernelRfl
namespace Go.Proofs.YtbgepjggclhfiaaGreatDoor
open Go
set_option maxRecDepth 100000
theorem wardNil_unfollowed : (Rows.wardNilRow.unfollowed == Tryz.prog.unfollowed 4) = true := by kernel_rfl
end Go.Proofs.YtbgepjggclhfiaaGreatDoor
