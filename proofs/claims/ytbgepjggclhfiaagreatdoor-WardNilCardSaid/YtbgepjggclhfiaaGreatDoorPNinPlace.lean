/- WardNil: what the row says of the functions that are reached (inPlace). -/
import Derived.Test.YtbgepjggclhfiaaGreatDoorRows
import Derived.JoinedCond
import Derived.KernelRfl
namespace Go.Proofs.YtbgepjggclhfiaaGreatDoor
open Go
set_option maxRecDepth 100000
theorem wardNil_inPlace : (Rows.wardNilRow.inPlace == Tryz.prog.inPlace 4) = true := by kernel_rfl
end Go.Proofs.YtbgepjggclhfiaaGreatDoor
