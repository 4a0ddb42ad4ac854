/- TaleBack: what the row says of the functions that are reached (inPlace). -/
import Derived.Test.YtnjhcfcnpapaiaaGreatDoorRows
import Derived.JoinedCond
import Derived.KernelRfl
namespace Go.Proofs.YtnjhcfcnpapaiaaGreatDoor
open Go
set_option maxRecDepth 100000
theorem taleBack_inPlace : (Rows.taleBackRow.inPlace == Tryz.prog.inPlace 3) = true := by kernel_rfl
end Go.Proofs.YtnjhcfcnpapaiaaGreatDoor
