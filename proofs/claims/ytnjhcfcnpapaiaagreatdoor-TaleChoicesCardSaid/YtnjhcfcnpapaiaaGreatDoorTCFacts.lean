/- TaleChoices: the row's closed facts. -/
import Derived.Test.YtnjhcfcnpapaiaaGreatDoorTCinPlace
import Derived.Test.YtnjhcfcnpapaiaaGreatDoorTCunfollowed
import Derived.Test.YtnjhcfcnpapaiaaGreatDoorTCrecurses
import Derived.Test.YtnjhcfcnpapaiaaGreatDoorTCvarsNamed
namespace Go.Proofs.YtnjhcfcnpapaiaaGreatDoor
open Go
set_option maxRecDepth 100000
theorem taleChoices_facts : joinedFacts Tryz.prog 4 Tryz.f4 (OpenSpec.ofChange Rows.taleChoicesSpec).bare Rows.taleChoicesRow = true := by
  unfold joinedFacts
  simp only [Bool.and_eq_true]
  and_intros
  · kernel_rfl
  · kernel_rfl
  · kernel_rfl
  · kernel_rfl
  · kernel_rfl
  · kernel_rfl
  · kernel_rfl
  · kernel_rfl
  · kernel_rfl
  · exact taleChoices_inPlace
  · exact taleChoices_unfollowed
  · exact taleChoices_recurses
  · exact taleChoices_varsNamed
  all_goals kernel_rfl
end Go.Proofs.YtnjhcfcnpapaiaaGreatDoor
