/- ticks: a script of one tick, run by the kernel. -/
import Derived.Test.YtnjhcfcnpapaiaaGreatDoorPM
import Derived.KernelRfl
namespace Go.Proofs.YtnjhcfcnpapaiaaGreatDoor
open Go.AM Go.RowKit
set_option maxRecDepth 1000000

/-- What is known ahead of closed runs. -/
abbrev runSpec : AM.Spec := ⟨fun _ f args σ => specOf [(15, packSpec), (16, unpackSpec), (27, numSpec), (35, toNumSpec)] f args σ⟩
theorem run_sound (B : Nat) : SpecSound runSpec B Tryz.prog :=
  ⟨fresh_sound, fun _ _ _ _ _ _ h => specOf_sound (B := B) (fun p hp => by
    simp only [List.mem_cons, List.not_mem_nil, or_false] at hp
    rcases hp with rfl | rfl | rfl | rfl
    · exact pack_sound B
    · exact unpack_sound B
    · exact num_sound B
    · exact toNum_sound B) h⟩

theorem ticks_run (t1 t2 : TypeId) (m : Int) : callK (S := runSpec) Tryz.prog 300 (fun _ => .o) 40 true 6 [] (σ0 t1 t2 m) yes = some () := by kernel_rfl
end Go.Proofs.YtnjhcfcnpapaiaaGreatDoor
