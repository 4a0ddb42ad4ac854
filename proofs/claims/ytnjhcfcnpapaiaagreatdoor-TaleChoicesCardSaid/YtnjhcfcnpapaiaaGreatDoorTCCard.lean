/- Each choice comes back as it was: whatever choice is handed over, TaleChoices returns true and leaves its argument as it was. The program's variables start as its text lays them: the card ties them. No other condition. -/
import Derived.Test.YtnjhcfcnpapaiaaGreatDoorTCRow
import Derived.Test.YtnjhcfcnpapaiaaGreatDoorTCmain
namespace Go.Proofs.YtnjhcfcnpapaiaaGreatDoor
open Go
set_option maxRecDepth 100000
/-- The tied card. -/
theorem taleChoices_holds : Rows.TaleChoicesCardSaid :=
  Claim7.holds_tied_plain_at .later [] [.data, .data, .data, .sentinel, .sentinel, .data, .data] true Rows.taleChoicesCard.stood.harness true TaleChoices.said (fun _ h => by cases h) taleChoices_wf (fun _ h => by cases h) taleChoices_row_tie rfl ⟨rfl, rfl⟩ taleChoices_main rfl TaleChoices.plain taleChoices_goes
#print axioms taleChoices_holds
end Go.Proofs.YtnjhcfcnpapaiaaGreatDoor
