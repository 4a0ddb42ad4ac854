/- batch.New and bell.New lay one new row each. -/
import Derived.Test.YtbgepjggclhfiaaGreatDoorA32
import Derived.Test.YtbgepjggclhfiaaGreatDoorProg
import Derived.WalkKit
namespace Go.Proofs.YtbgepjggclhfiaaGreatDoor
open Go.AM Go.RowKit
set_option maxRecDepth 100000

def z64 : List Value := List.replicate 64 (.int .i64 0)
theorem batch_new (w : World) : Calls Tryz.prog 55 #[] w fun e w' => e = .returned (.pointer (some ⟨w.heap.size, 0, none⟩)) ∧ w' = w.alloc (.cells Tryz.zeroCells213 213) := by
  go_enter Tryz.func55, Tryz.ntmps55
  go_wp2
  go_ret
  exact ⟨rfl, rfl⟩
theorem bell_new (w : World) : Calls Tryz.prog 56 #[] w fun e w' => e = .returned (.pointer (some ⟨w.heap.size, 0, none⟩)) ∧ w' = w.alloc (.cells Tryz.zeroCells220 220) := by
  go_enter Tryz.func56, Tryz.ntmps56
  go_wp2
  go_ret
  exact ⟨rfl, rfl⟩
theorem rep_z (m : Mp) (w : World) : ∀ n, RepL m w (List.replicate n (.int .i64 0)) (List.replicate n (.int .i64 0)) := by
  intro n
  induction n with
  | zero => exact .nil
  | succ n ih => rw [List.replicate_succ, List.replicate_succ]; exact .cons _ _ _ _ (.int _ _) ih
theorem zc176 : Tryz.zeroCells213.toList = .slice none 0 0 :: z64 := by kernel_rfl
theorem zc183 : Tryz.zeroCells220.toList = .int .i64 0 :: .int .i64 0 :: .slice none 0 0 :: z64 := by kernel_rfl
theorem fresh_sound : FreshSound Tryz.prog := by
  intro f cs h
  unfold freshOf at h
  split at h
  · injection h with h
    subst h
    refine ⟨by decide, ⟨Tryz.f55, Tryz.func55, by kernel_rfl, by kernel_rfl⟩, Tryz.zeroCells213, 213, fun m w => ?_, fun w => (batch_new w).mono ?_⟩
    · rw [zc176]; exact .cons _ _ _ _ (.snil _) (rep_z m w 64)
    · rintro e w' ⟨rfl, rfl⟩; exact ⟨rfl, rfl, rfl, rfl, rfl⟩
  · injection h with h
    subst h
    refine ⟨by decide, ⟨Tryz.f56, Tryz.func56, by kernel_rfl, by kernel_rfl⟩, Tryz.zeroCells220, 220, fun m w => ?_, fun w => (bell_new w).mono ?_⟩
    · rw [zc183]; exact .cons _ _ _ _ (.int _ _) (.cons _ _ _ _ (.int _ _) (.cons _ _ _ _ (.snil _) (rep_z m w 64)))
    · rintro e w' ⟨rfl, rfl⟩; exact ⟨rfl, rfl, rfl, rfl, rfl⟩
  · cases h
end Go.Proofs.YtbgepjggclhfiaaGreatDoor
