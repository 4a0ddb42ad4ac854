/- TaleBack: what the row says of the functions that are reached (recurses). -/
import Derived.Test.YtnjhcfcnpapaiaaGreatDoorRows
import Derived.JoinedCond
import Derived.KernelRfl
namespace Go.Proofs.YtnjhcfcnpapaiaaGreatDoor
open Go
set_option maxRecDepth 100000
theorem taleBack_recurses : (Rows.taleBackRow.recurses == Tryz.prog.recurses 3) = true := by kernel_rfl
end Go.Proofs.YtnjhcfcnpapaiaaGreatDoor
