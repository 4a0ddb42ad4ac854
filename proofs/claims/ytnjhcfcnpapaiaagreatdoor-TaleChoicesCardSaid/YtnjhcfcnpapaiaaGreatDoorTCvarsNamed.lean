/- TaleChoices: what the row says of the functions that are reached (named). -/
import Derived.Test.YtnjhcfcnpapaiaaGreatDoorRows
import Derived.JoinedCond
import Derived.KernelRfl
namespace Go.Proofs.YtnjhcfcnpapaiaaGreatDoor
open Go
set_option maxRecDepth 100000
theorem taleChoices_varsNamed : (Rows.taleChoicesRow.named == Tryz.prog.varsNamed 4) = true := by kernel_rfl
end Go.Proofs.YtnjhcfcnpapaiaaGreatDoor
