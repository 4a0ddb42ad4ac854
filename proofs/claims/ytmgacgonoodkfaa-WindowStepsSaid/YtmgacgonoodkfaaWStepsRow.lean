/- Every window, step by step: whatever group, faults and steps are told, WindowSteps returns true and leaves its arguments as they were. No condition. -/
import Derived.Test.YtmgacgonoodkfaaRows
import Derived.Test.YtmgacgonoodkfaaWSteps
import Derived.Test.YtmgacgonoodkfaaA31
import Derived.JoinedOf
import Derived.Handed
namespace Go.Proofs.Ytmgacgonoodkfaa
open Go.ChangeShapes Go.WideShapes Go.ChangeAt Go.RowKit Go.AM

namespace WindowSteps
set_option maxRecDepth 100000

theorem own : ownKnob Try.prog.godebug = none := by kernel_rfl
theorem laidOut : laidOutB Try.prog = true := by kernel_rfl

theorem lifted (os : Os) (started : os.Started) (H : Type) (enc : TypeId × Value → H) :
    ReturnsInHanded {} Try.checked os 10 .any (Rows.windowStepsSpec.pre6 enc Try.prog Try.f10 Rows.windowStepsRow.domain false) (Rows.windowStepsSpec.post enc Try.prog Try.f10 false true false false) := by
  refine law_lifted (C := Try.checked) (fn := Try.f10) (s := Rows.windowStepsSpec) (rt := 4) own started (by kernel_rfl) Try.func10
    (ChangeSpec.witness6 (enc := enc) (C := Try.checked) false ⟨#[], #[.int .i64 0, .int .i64 0, .slice none 0 0], []⟩ 8 (by kernel_rfl) (by kernel_rfl) (by kernel_rfl) (by kernel_rfl)) laidOut rfl ?_ (by kernel_rfl) Try.underlying4 ?_ ?_
  · intro ds h
    match ds, h with
    | [d0, d1, d2], _ => rfl
  · intro t ht
    have : t = 3 ∨ t = 85 := by simpa [Try.params10] using ht
    rcases this with rfl | rfl
    · exact ⟨by kernel_rfl, of_decide_eq_true (by kernel_rfl)⟩
    · exact ⟨by kernel_rfl, of_decide_eq_true (by kernel_rfl)⟩
  · intro W args ds p hA hval
    have hA' : DataW.TrodAll enc Try.prog W 0 (fun _ => true) true Try.f10.params.toList args.toList ds p := hA
    rw [Try.params10] at hA'
    obtain ⟨v0, vs0, d0, ds0, p0, q0, hargs, rfl, rfl, h0, r0⟩ := trodAll_cons hA'
    obtain ⟨v1, vs1, d1, ds1, p1, q1, rfl, rfl, rfl, h1, r1⟩ := trodAll_cons r0
    obtain ⟨v2, vs2, d2, ds2, p2, q2, rfl, rfl, rfl, h2, r2⟩ := trodAll_cons r1
    obtain ⟨rfl, rfl, rfl⟩ := trodAll_nil r2
    obtain rfl : args = #[v0, v1, v2] := by cases args; simp_all
    obtain ⟨b0, hv0⟩ := hval 0 3 v0 (by rw [show Try.f10.params = #[3, 3, 85] from Try.params10]; rfl) rfl
    obtain ⟨b1, hv1⟩ := hval 1 3 v1 (by rw [show Try.f10.params = #[3, 3, 85] from Try.params10]; rfl) rfl
    obtain ⟨b2, hv2⟩ := hval 2 85 v2 (by rw [show Try.f10.params = #[3, 3, 85] from Try.params10]; rfl) rfl
    obtain ⟨n0, rfl, rfl, rfl, w0⟩ := open_int Try.underlying3 hv0 h0
    obtain ⟨n1, rfl, rfl, rfl, w1⟩ := open_int Try.underlying3 hv1 h1
    obtain ⟨as2, has2⟩ := open_structs (f := Stp.cells) (e := 91) (z := 4) Try.underlying85 (by kernel_rfl) (by kernel_rfl) (by decide) (by decide) stp_of h2 (okWide_slice Try.underlying85 hv2)
    obtain ⟨x2, σ2, m2, e2, A2, S2, F2, G2, R2, H2⟩ := has2 ⟨.leaf, 0⟩ (fun _ => none) [] (Sim.empty W) (fun _ _ => rfl) HasH.nil
    obtain ⟨o2, c2, rfl⟩ := A2.sl
    have HF := H2
    simp only [List.append_nil] at HF
    exact calls_yes (N := 5000) (ann := ann) (d := 0 + 5) (by kernel_rfl) (steps_law (K := yes) A2 HF (by decide)  (k := fun _ _ => rfl)) (win_sound _) S2 F2 (.cons _ _ _ _ (.int _ _) (.cons _ _ _ _ (.int _ _) (.cons _ _ _ _ R2 .nil)))

theorem over : Rows.windowStepsRow.holds Try.pinned (OpenSpec.ofChange Rows.windowStepsSpec) :=
  OpenClaim.holds_of_wide 10 Try.f10 rfl rfl rfl rfl rfl rfl rfl ⟨rfl, rfl, rfl, rfl, rfl⟩ rfl rfl rfl rfl rfl (by kernel_rfl) Try.func10 (by kernel_rfl)
    (of_decide_eq_true (by kernel_rfl)) (by unfold Func.isWrapper; first | (rw [if_pos (by decide +kernel)]; kernel_rfl) | (rw [if_neg (by decide +kernel)]; exact ⟨rfl, rfl⟩))
    (fun os started H enc _ => lifted os started H enc)

end WindowSteps

/-- The row. -/
theorem windowSteps_holds : Rows.WindowStepsSaid := WindowSteps.over
#print axioms windowSteps_holds
end Go.Proofs.Ytmgacgonoodkfaa
