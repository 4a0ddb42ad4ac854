/- TaleBack: the row's closed facts. -/
import Derived.Test.YtnjhcfcnpapaiaaGreatDoorTBinPlace
import Derived.Test.YtnjhcfcnpapaiaaGreatDoorTBunfollowed
import Derived.Test.YtnjhcfcnpapaiaaGreatDoorTBrecurses
import Derived.Test.YtnjhcfcnpapaiaaGreatDoorTBvarsNamed
namespace Go.Proofs.YtnjhcfcnpapaiaaGreatDoor
open Go
set_option maxRecDepth 100000
theorem taleBack_facts : joinedFacts Tryz.prog 3 Tryz.f3 (OpenSpec.ofChange Rows.taleBackSpec).bare Rows.taleBackRow = true := by
  unfold joinedFacts
  simp only [Bool.and_eq_true]
  and_intros
  · kernel_rfl
  · kernel_rfl
  · kernel_rfl
  · kernel_rfl
  · kernel_rfl
  · kernel_rfl
  · kernel_rfl
  · kernel_rfl
  · kernel_rfl
  · exact taleBack_inPlace
  · exact taleBack_unfollowed
  · exact taleBack_recurses
  · exact taleBack_varsNamed
  all_goals kernel_rfl
end Go.Proofs.YtnjhcfcnpapaiaaGreatDoor
