/- WardNil: the row's closed facts. -/
import Derived.Test.YtbgepjggclhfiaaGreatDoorPNinPlace
import Derived.Test.YtbgepjggclhfiaaGreatDoorPNunfollowed
import Derived.Test.YtbgepjggclhfiaaGreatDoorPNrecurses
import Derived.Test.YtbgepjggclhfiaaGreatDoorPNvarsNamed
namespace Go.Proofs.YtbgepjggclhfiaaGreatDoor
open Go
set_option maxRecDepth 100000
theorem wardNil_facts : joinedFacts Tryz.prog 4 Tryz.f4 (OpenSpec.ofChange Rows.wardNilSpec).bare Rows.wardNilRow = true := by
  unfold joinedFacts
  simp only [Bool.and_eq_true]
  and_intros
  · kernel_rfl
  · kernel_rfl
  · kernel_rfl
  · kernel_rfl
  · kernel_rfl
  · kernel_rfl
  · kernel_rfl
  · kernel_rfl
  · kernel_rfl
  · exact wardNil_inPlace
  · exact wardNil_unfollowed
  · exact wardNil_recurses
  · exact wardNil_varsNamed
  all_goals kernel_rfl
end Go.Proofs.YtbgepjggclhfiaaGreatDoor
