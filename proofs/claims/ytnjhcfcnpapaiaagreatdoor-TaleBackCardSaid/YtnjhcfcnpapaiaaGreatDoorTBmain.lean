/- TaleBack: the harness. -/
import Derived.Test.YtnjhcfcnpapaiaaGreatDoorCards
import Derived.KernelRfl
namespace Go.Proofs.YtnjhcfcnpapaiaaGreatDoor
open Go
set_option maxRecDepth 100000
theorem taleBack_main : Tryz.pinned.checked.prog.mainIs = some (Rows.taleBackCard.stood.harness.1, Rows.taleBackCard.stood.harness.2.toList) := by kernel_rfl
theorem taleBack_wf : Rows.taleBackRow.wfByText (OpenSpec.ofChange Rows.taleBackSpec) = true := by kernel_rfl
end Go.Proofs.YtnjhcfcnpapaiaaGreatDoor
