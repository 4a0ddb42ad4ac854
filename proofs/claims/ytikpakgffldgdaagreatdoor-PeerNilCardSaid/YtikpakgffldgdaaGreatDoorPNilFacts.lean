/- PeerNil: the row's closed facts. -/
import Derived.Test.YtikpakgffldgdaaGreatDoorPNinPlace
import Derived.Test.YtikpakgffldgdaaGreatDoorPNunfollowed
import Derived.Test.YtikpakgffldgdaaGreatDoorPNrecurses
import Derived.Test.YtikpakgffldgdaaGreatDoorPNvarsNamed
namespace Go.Proofs.YtikpakgffldgdaaGreatDoor
open Go
set_option maxRecDepth 100000
theorem peerNil_facts : joinedFacts Tryz.prog 6 Tryz.f6 (OpenSpec.ofChange Rows.peerNilSpec).bare Rows.peerNilRow = true := by
  unfold joinedFacts
  simp only [Bool.and_eq_true]
  and_intros
  · kernel_rfl
  · kernel_rfl
  · kernel_rfl
  · kernel_rfl
  · kernel_rfl
  · kernel_rfl
  · kernel_rfl
  · kernel_rfl
  · kernel_rfl
  · exact peerNil_inPlace
  · exact peerNil_unfollowed
  · exact peerNil_recurses
  · exact peerNil_varsNamed
  all_goals kernel_rfl
end Go.Proofs.YtikpakgffldgdaaGreatDoor
