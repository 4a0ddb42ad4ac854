/- The slot answers as its reference does: whatever is told, SlotSteps returns true and leaves its arguments as they were. No condition. -/
import Derived.Test.YtmgacgonoodkfaaRows
import Derived.Test.YtmgacgonoodkfaaSSt3
import Derived.Test.YtmgacgonoodkfaaA31
import Derived.JoinedOf
import Derived.Handed
namespace Go.Proofs.Ytmgacgonoodkfaa
open Go.ChangeShapes Go.WideShapes Go.ChangeAt Go.RowKit Go.AM

namespace SlotSteps
set_option maxRecDepth 100000

theorem own : ownKnob Try.prog.godebug = none := by kernel_rfl
theorem laidOut : laidOutB Try.prog = true := by kernel_rfl

theorem lifted (os : Os) (started : os.Started) (H : Type) (enc : TypeId × Value → H) :
    ReturnsInHanded {} Try.checked os 5 .any (Rows.slotStepsSpec.pre6 enc Try.prog Try.f5 Rows.slotStepsRow.domain false) (Rows.slotStepsSpec.post enc Try.prog Try.f5 false true false false) := by
  refine law_lifted (C := Try.checked) (fn := Try.f5) (s := Rows.slotStepsSpec) (rt := 4) own started (by kernel_rfl) Try.func5
    (ChangeSpec.witness6 (enc := enc) (C := Try.checked) false ⟨#[], #[.agg #[.int .i64 0, .int .i64 0, .int .i64 0], .slice none 0 0], []⟩ 8 (by kernel_rfl) (by kernel_rfl) (by kernel_rfl) (by kernel_rfl)) laidOut rfl ?_ (by kernel_rfl) Try.underlying4 ?_ ?_
  · intro ds h
    match ds, h with
    | [d0, d1], _ => rfl
  · intro t ht
    have : t = 36 ∨ t = 47 := by simpa [Try.params5] using ht
    rcases this with rfl | rfl
    · exact ⟨by kernel_rfl, of_decide_eq_true (by kernel_rfl)⟩
    · exact ⟨by kernel_rfl, of_decide_eq_true (by kernel_rfl)⟩
  · intro W args ds p hA hval
    have hA' : DataW.TrodAll enc Try.prog W 0 (fun _ => true) true Try.f5.params.toList args.toList ds p := hA
    rw [Try.params5] at hA'
    obtain ⟨v0, vs0, d0, ds0, p0, q0, hargs, rfl, rfl, h0, r0⟩ := trodAll_cons hA'
    obtain ⟨v1, vs1, d1, ds1, p1, q1, rfl, rfl, rfl, h1, r1⟩ := trodAll_cons r0
    obtain ⟨rfl, rfl, rfl⟩ := trodAll_nil r1
    obtain rfl : args = #[v0, v1] := by cases args; simp_all
    obtain ⟨b0, hv0⟩ := hval 0 36 v0 (by rw [show Try.f5.params = #[36, 47] from Try.params5]; rfl) rfl
    obtain ⟨b1, hv1⟩ := hval 1 47 v1 (by rw [show Try.f5.params = #[36, 47] from Try.params5]; rfl) rfl
    obtain ⟨ys0, sh0, R0⟩ := open_plain (s := [.int .i64, .int .i64, .int .i64]) Try.underlying36 (by kernel_rfl) h0 hv0
    obtain ⟨a0, rfl⟩ := of3_of ys0 sh0
    obtain ⟨as1, has1⟩ := open_structs (f := Vo.cells) (e := 53) (z := 4) Try.underlying47 (by kernel_rfl) (by kernel_rfl) (by decide) (by decide) vo_of h1 (okWide_slice Try.underlying47 hv1)
    obtain ⟨x1, σ1, m1, e1, A1, S1, F1, G1, R1, H1⟩ := has1 ⟨.leaf, 0⟩ (fun _ => none) [] (Sim.empty W) (fun _ _ => rfl) HasH.nil
    obtain ⟨o1, c1, rfl⟩ := A1.sl
    have HF := H1
    simp only [List.append_nil] at HF
    exact calls_yes (N := 5000) (ann := ann) (d := 0 + 6) (by kernel_rfl) (steps_law (K := yes) A1 HF (by decide)  (k := fun _ _ => rfl)) S1 F1 (.cons _ _ _ _ (R0 _ _) (.cons _ _ _ _ R1 .nil))

theorem over : Rows.slotStepsRow.holds Try.pinned (OpenSpec.ofChange Rows.slotStepsSpec) :=
  OpenClaim.holds_of_wide 5 Try.f5 rfl rfl rfl rfl rfl rfl rfl ⟨rfl, rfl, rfl, rfl, rfl⟩ rfl rfl rfl rfl rfl (by kernel_rfl) Try.func5 (by kernel_rfl)
    (of_decide_eq_true (by kernel_rfl)) (by unfold Func.isWrapper; first | (rw [if_pos (by decide +kernel)]; kernel_rfl) | (rw [if_neg (by decide +kernel)]; exact ⟨rfl, rfl⟩))
    (fun os started H enc _ => lifted os started H enc)

end SlotSteps

/-- The row. -/
theorem slotSteps_holds : Rows.SlotStepsSaid := SlotSteps.over
#print axioms slotSteps_holds
end Go.Proofs.Ytmgacgonoodkfaa
