/- Every bell, step by step: whatever steps are told, BellSteps returns true and leaves its argument as it was. No condition. -/
import Derived.Test.YtciibgjmdgpgnaaRows
import Derived.Test.YtciibgjmdgpgnaaBSteps
import Derived.Test.YtciibgjmdgpgnaaA31
import Derived.JoinedOf
import Derived.Handed
namespace Go.Proofs.Ytciibgjmdgpgnaa
open Go.ChangeShapes Go.WideShapes Go.ChangeAt Go.RowKit Go.AM

namespace BellSteps
set_option maxRecDepth 100000

theorem own : ownKnob Try.prog.godebug = none := by kernel_rfl
theorem laidOut : laidOutB Try.prog = true := by kernel_rfl

theorem lifted (os : Os) (started : os.Started) (H : Type) (enc : TypeId × Value → H) :
    ReturnsInHanded {} Try.checked os 5 .any (Rows.bellStepsSpec.pre6 enc Try.prog Try.f5 Rows.bellStepsRow.domain false) (Rows.bellStepsSpec.post enc Try.prog Try.f5 false true false false) := by
  refine law_lifted (C := Try.checked) (fn := Try.f5) (s := Rows.bellStepsSpec) (rt := 4) own started (by kernel_rfl) Try.func5
    (ChangeSpec.witness6 (enc := enc) (C := Try.checked) false ⟨#[], #[.slice none 0 0], []⟩ 8 (by kernel_rfl) (by kernel_rfl) (by kernel_rfl) (by kernel_rfl)) laidOut rfl ?_ (by kernel_rfl) Try.underlying4 ?_ ?_
  · intro ds h
    match ds, h with
    | [d0], _ => rfl
  · intro t ht
    have : t = 36 := by simpa [Try.params5] using ht
    subst this
    exact ⟨by kernel_rfl, of_decide_eq_true (by kernel_rfl)⟩
  · intro W args ds p hA hval
    have hA' : DataW.TrodAll enc Try.prog W 0 (fun _ => true) true Try.f5.params.toList args.toList ds p := hA
    rw [Try.params5] at hA'
    obtain ⟨v0, vs0, d0, ds0, p0, q0, hargs, rfl, rfl, h0, r0⟩ := trodAll_cons hA'
    obtain ⟨rfl, rfl, rfl⟩ := trodAll_nil r0
    obtain rfl : args = #[v0] := by cases args; simp_all
    obtain ⟨b0, hv0⟩ := hval 0 36 v0 (by rw [show Try.f5.params = #[36] from Try.params5]; rfl) rfl
    obtain ⟨as0, has0⟩ := open_structs (f := Stp.cells) (e := 39) (z := 3) Try.underlying36 (by kernel_rfl) (by kernel_rfl) (by decide) (by decide) stp_of h0 (okWide_slice Try.underlying36 hv0)
    obtain ⟨x0, σ0, m0, e0, A0, S0, F0, G0, R0, H0⟩ := has0 ⟨.leaf, 0⟩ (fun _ => none) [] (Sim.empty W) (fun _ _ => rfl) HasH.nil
    obtain ⟨o0, c0, rfl⟩ := A0.sl
    have HF := H0
    simp only [List.append_nil] at HF
    exact calls_yes (N := 5000) (ann := ann) (dem := true) (d := 0 + 7) (by kernel_rfl) (steps_law (K := yes) A0 HF (by decide)  (k := fun _ _ => rfl)) nospec_sound S0 F0 (.cons _ _ _ _ R0 .nil)

theorem over : Rows.bellStepsRow.holds Try.pinned (OpenSpec.ofChange Rows.bellStepsSpec) :=
  OpenClaim.holds_of_wide 5 Try.f5 rfl rfl rfl rfl rfl rfl rfl ⟨rfl, rfl, rfl, rfl, rfl⟩ rfl rfl rfl rfl rfl (by kernel_rfl) Try.func5 (by kernel_rfl)
    (of_decide_eq_true (by kernel_rfl)) (by unfold Func.isWrapper; first | (rw [if_pos (by decide +kernel)]; kernel_rfl) | (rw [if_neg (by decide +kernel)]; exact ⟨rfl, rfl⟩))
    (fun os started H enc _ => lifted os started H enc)

end BellSteps

/-- The row. -/
theorem bellSteps_holds : Rows.BellStepsSaid := BellSteps.over
#print axioms bellSteps_holds
end Go.Proofs.Ytciibgjmdgpgnaa
