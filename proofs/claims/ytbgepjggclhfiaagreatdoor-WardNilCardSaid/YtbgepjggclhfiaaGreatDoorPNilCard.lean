/- A nil ward does nothing: whatever text is told, WardNil returns true and leaves its argument as it was. The program's variables start as its text lays them: the card ties them. No other condition. -/
import Derived.Test.YtbgepjggclhfiaaGreatDoorPNilRow
import Derived.Test.YtbgepjggclhfiaaGreatDoorPNgoes
import Derived.Test.YtbgepjggclhfiaaGreatDoorPNmain
namespace Go.Proofs.YtbgepjggclhfiaaGreatDoor
open Go
set_option maxRecDepth 100000
/-- The tied card. -/
theorem wardNil_holds : Rows.WardNilCardSaid :=
  Claim7.holds_tied_plain_at .later [] [.data, .data, .data, .sentinel, .sentinel, .data, .data] true Rows.wardNilCard.stood.harness true WardNil.said (fun _ h => by cases h) wardNil_wf (fun _ h => by cases h) wardNil_row_tie rfl ⟨rfl, rfl⟩ wardNil_main rfl WardNil.plain wardNil_goes
#print axioms wardNil_holds
end Go.Proofs.YtbgepjggclhfiaaGreatDoor
