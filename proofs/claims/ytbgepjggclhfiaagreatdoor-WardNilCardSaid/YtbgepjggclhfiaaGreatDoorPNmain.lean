/- WardNil: the harness. -/
import Derived.Test.YtbgepjggclhfiaaGreatDoorCards
import Derived.KernelRfl
namespace Go.Proofs.YtbgepjggclhfiaaGreatDoor
open Go
set_option maxRecDepth 100000
theorem wardNil_main : Tryz.pinned.checked.prog.mainIs = some (Rows.wardNilCard.stood.harness.1, Rows.wardNilCard.stood.harness.2.toList) := by kernel_rfl
theorem wardNil_wf : Rows.wardNilRow.wfByText (OpenSpec.ofChange Rows.wardNilSpec) = true := by kernel_rfl
end Go.Proofs.YtbgepjggclhfiaaGreatDoor
