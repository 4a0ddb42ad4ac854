/- batch.New and bell.New lay one new row each. -/
import Derived.Test.YtikpakgffldgdaaGreatDoorA32
import Derived.Test.YtikpakgffldgdaaGreatDoorProg
import Derived.WalkKit
namespace Go.Proofs.YtikpakgffldgdaaGreatDoor
open Go.AM Go.RowKit
set_option maxRecDepth 100000

def z64 : List Value := List.replicate 64 (.int .i64 0)
theorem batch_new (w : World) : Calls Tryz.prog 40 #[] w fun e w' => e = .returned (.pointer (some ⟨w.heap.size, 0, none⟩)) ∧ w' = w.alloc (.cells Tryz.zeroCells176 176) := by
  go_enter Tryz.func40, Tryz.ntmps40
  go_wp2
  go_ret
  exact ⟨rfl, rfl⟩
theorem bell_new (w : World) : Calls Tryz.prog 41 #[] w fun e w' => e = .returned (.pointer (some ⟨w.heap.size, 0, none⟩)) ∧ w' = w.alloc (.cells Tryz.zeroCells183 183) := by
  go_enter Tryz.func41, Tryz.ntmps41
  go_wp2
  go_ret
  exact ⟨rfl, rfl⟩
theorem rep_z (m : Mp) (w : World) : ∀ n, RepL m w (List.replicate n (.int .i64 0)) (List.replicate n (.int .i64 0)) := by
  intro n
  induction n with
  | zero => exact .nil
  | succ n ih => rw [List.replicate_succ, List.replicate_succ]; exact .cons _ _ _ _ (.int _ _) ih
theorem zc176 : Tryz.zeroCells176.toList = .slice none 0 0 :: z64 := by kernel_rfl
theorem zc183 : Tryz.zeroCells183.toList = .int .i64 0 :: .int .i64 0 :: .slice none 0 0 :: z64 := by kernel_rfl
theorem fresh_sound : FreshSound Tryz.prog := by
  intro f cs h
  unfold freshOf at h
  split at h
  · injection h with h
    subst h
    refine ⟨by decide, ⟨Tryz.f40, Tryz.func40, by kernel_rfl, by kernel_rfl⟩, Tryz.zeroCells176, 176, fun m w => ?_, fun w => (batch_new w).mono ?_⟩
    · rw [zc176]; exact .cons _ _ _ _ (.snil _) (rep_z m w 64)
    · rintro e w' ⟨rfl, rfl⟩; exact ⟨rfl, rfl, rfl, rfl, rfl⟩
  · injection h with h
    subst h
    refine ⟨by decide, ⟨Tryz.f41, Tryz.func41, by kernel_rfl, by kernel_rfl⟩, Tryz.zeroCells183, 183, fun m w => ?_, fun w => (bell_new w).mono ?_⟩
    · rw [zc183]; exact .cons _ _ _ _ (.int _ _) (.cons _ _ _ _ (.int _ _) (.cons _ _ _ _ (.snil _) (rep_z m w 64)))
    · rintro e w' ⟨rfl, rfl⟩; exact ⟨rfl, rfl, rfl, rfl, rfl⟩
  · cases h
end Go.Proofs.YtikpakgffldgdaaGreatDoor
