/- WardNil: what goes by. -/
import Derived.Test.YtbgepjggclhfiaaGreatDoorCards
import Derived.KernelRfl
namespace Go.Proofs.YtbgepjggclhfiaaGreatDoor
open Go
set_option maxRecDepth 100000
theorem wardNil_goes : false = Rows.wardNilRow.goesBy Tryz.pinned.checked.prog := by kernel_rfl
end Go.Proofs.YtbgepjggclhfiaaGreatDoor
