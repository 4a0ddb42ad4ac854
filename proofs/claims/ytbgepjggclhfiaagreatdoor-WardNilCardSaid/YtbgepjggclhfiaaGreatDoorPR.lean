/- WardNil: the run. -/
import Derived.Test.YtbgepjggclhfiaaGreatDoorPS
import Derived.KernelRfl
namespace Go.Proofs.YtbgepjggclhfiaaGreatDoor
open Go.AM Go.RowKit
set_option maxRecDepth 1000000

def tabAV : List AV := Lib.pow10Tab.map (AV.int .u64)
def σ0 (t1 t2 : TypeId) (m : Int) : St := ((((⟨.leaf, 0⟩ : St).new (.glob 1 [.iface t1 .undef])).new (.glob 2 [.iface t2 .undef])).new (.glob 5 tabAV)).new (.glob 4 [.int .i64 m])

theorem run (t1 t2 : TypeId) (m : Int) (s : ByteArray) : callK (S := peerSpec) Tryz.prog 300 (fun _ => .o) 40 true 4 [.str s] (σ0 t1 t2 m) yes = some () := by kernel_rfl
end Go.Proofs.YtbgepjggclhfiaaGreatDoor
