/- The bag that is full: whatever number of further texts is asked for, BagFull returns true and leaves its argument as it was. No condition. -/
import Derived.Test.YtdebkakkeaanaaaRows
import Derived.Test.YtdebkakkeaanaaaBFull
import Derived.JoinedOf
import Derived.Handed
namespace Go.Proofs.Ytdebkakkeaanaaa
open Go.ChangeShapes Go.WideShapes Go.ChangeAt Go.RowKit Go.AM

namespace BagFull
set_option maxRecDepth 100000

theorem HasH_empty : HasH ⟨.leaf, 0⟩ [] := HasH.nil
theorem run (more : Int) : callK Try.prog 5000 ann (0 + 5) 4 [.int .i64 more] ⟨.leaf, 0⟩ yes = some () :=
  full_ok HasH_empty (by decide) (fun _ _ => rfl)

theorem own : ownKnob Try.prog.godebug = none := by kernel_rfl
theorem laidOut : laidOutB Try.prog = true := by kernel_rfl

theorem lifted (os : Os) (started : os.Started) (H : Type) (enc : TypeId × Value → H) :
    ReturnsInHanded {} Try.checked os 4 .any (Rows.bagFullSpec.pre6 enc Try.prog Try.f4 Rows.bagFullRow.domain false) (Rows.bagFullSpec.post enc Try.prog Try.f4 false true false false) := by
  refine law_lifted (C := Try.checked) (fn := Try.f4) (s := Rows.bagFullSpec) (rt := 4) own started (by kernel_rfl) Try.func4
    (ChangeSpec.witness6 (enc := enc) (C := Try.checked) false ⟨#[], #[.int .i64 0], []⟩ 8 (by kernel_rfl) (by kernel_rfl) (by kernel_rfl) (by kernel_rfl)) laidOut rfl ?_ (by kernel_rfl) Try.underlying4 ?_ ?_
  · intro ds h
    match ds, h with
    | [d], _ => rfl
  · intro t ht
    have : t = 3 := by simpa [Try.params4] using ht
    subst this
    exact ⟨by kernel_rfl, of_decide_eq_true (by kernel_rfl)⟩
  · intro W args ds p hA hval
    have hA' : DataW.TrodAll enc Try.prog W 0 (fun _ => true) true Try.f4.params.toList args.toList ds p := hA
    rw [Try.params4] at hA'
    obtain ⟨v0, vs0, d0, ds0, p0, q0, hargs, rfl, rfl, h0, r0⟩ := trodAll_cons hA'
    obtain ⟨rfl, rfl, rfl⟩ := trodAll_nil r0
    obtain rfl : args = #[v0] := by cases args; simp_all
    obtain ⟨base, hv⟩ := hval 0 3 v0 (by rw [show Try.f4.params = #[3] from Try.params4]; rfl) rfl
    obtain ⟨i, rfl, rfl, rfl, w0⟩ := open_int Try.underlying3 hv h0
    exact calls_yes (by kernel_rfl) (run i) (Sim.empty W) (fun _ _ => rfl) (.cons _ _ _ _ (.int _ _) .nil)

theorem over : Rows.bagFullRow.holds Try.pinned (OpenSpec.ofChange Rows.bagFullSpec) :=
  OpenClaim.holds_of_wide 4 Try.f4 rfl rfl rfl rfl rfl rfl rfl ⟨rfl, rfl, rfl, rfl, rfl⟩ rfl rfl rfl rfl rfl (by kernel_rfl) Try.func4 (by kernel_rfl)
    (of_decide_eq_true (by kernel_rfl)) (by unfold Func.isWrapper; first | (rw [if_pos (by decide +kernel)]; kernel_rfl) | (rw [if_neg (by decide +kernel)]; exact ⟨rfl, rfl⟩))
    (fun os started H enc _ => lifted os started H enc)

end BagFull

/-- The row. -/
theorem bagFull_holds : Rows.BagFullSaid := BagFull.over
#print axioms bagFull_holds
end Go.Proofs.Ytdebkakkeaanaaa
