/- Every bag, step by step, is the document's: whatever the steps, BagSteps returns true and leaves its arguments as they were. No condition. -/
import Derived.Test.YtdebkakkeaanaaaRows
import Derived.Test.YtdebkakkeaanaaaBSt4
import Derived.Test.YtdebkakkeaanaaaA31
import Derived.JoinedOf
import Derived.Handed
namespace Go.Proofs.Ytdebkakkeaanaaa
open Go.ChangeShapes Go.WideShapes Go.ChangeAt Go.RowKit Go.AM

namespace BagSteps
set_option maxRecDepth 100000

theorem own : ownKnob Try.prog.godebug = none := by kernel_rfl
theorem laidOut : laidOutB Try.prog = true := by kernel_rfl

theorem stp_of (ys : List AV) (h : shsOK [.int .i64, .int .i64, .int .i64, .int .i64, .int .i64, .str] ys) : ∃ a : Stp, ys = a.cells := by
  obtain ⟨_, _, rfl, ⟨a, rfl⟩, _, _, rfl, ⟨b, rfl⟩, _, _, rfl, ⟨c, rfl⟩, _, _, rfl, ⟨d, rfl⟩, _, _, rfl, ⟨e, rfl⟩, _, _, rfl, ⟨f, rfl⟩, rfl⟩ := h
  exact ⟨⟨a, b, ⟨c, d, e, f⟩⟩, rfl⟩

theorem lifted (os : Os) (started : os.Started) (H : Type) (enc : TypeId × Value → H) :
    ReturnsInHanded {} Try.checked os 6 .any (Rows.bagStepsSpec.pre6 enc Try.prog Try.f6 Rows.bagStepsRow.domain false) (Rows.bagStepsSpec.post enc Try.prog Try.f6 false true false false) := by
  refine law_lifted (C := Try.checked) (fn := Try.f6) (s := Rows.bagStepsSpec) (rt := 4) own started (by kernel_rfl) Try.func6
    (ChangeSpec.witness6 (enc := enc) (C := Try.checked) false ⟨#[], #[.slice none 0 0, .int .i64 0], []⟩ 8 (by kernel_rfl) (by kernel_rfl) (by kernel_rfl) (by kernel_rfl)) laidOut rfl ?_ (by kernel_rfl) Try.underlying4 ?_ ?_
  · intro ds h
    match ds, h with
    | [d, e], _ => rfl
  · intro t ht
    have : t = 37 ∨ t = 3 := by simpa [Try.params6] using ht
    rcases this with rfl | rfl
    · exact ⟨by kernel_rfl, of_decide_eq_true (by kernel_rfl)⟩
    · exact ⟨by kernel_rfl, of_decide_eq_true (by kernel_rfl)⟩
  · intro W args ds p hA hval
    have hA' : DataW.TrodAll enc Try.prog W 0 (fun _ => true) true Try.f6.params.toList args.toList ds p := hA
    rw [Try.params6] at hA'
    obtain ⟨v0, vs0, d0, ds0, p0, q0, hargs, rfl, rfl, h0, r0⟩ := trodAll_cons hA'
    obtain ⟨v1, vs1, d1, ds1, p1, q1, rfl, rfl, rfl, h1, r1⟩ := trodAll_cons r0
    obtain ⟨rfl, rfl, rfl⟩ := trodAll_nil r1
    obtain rfl : args = #[v0, v1] := by cases args; simp_all
    obtain ⟨b0, hv0⟩ := hval 0 37 v0 (by rw [show Try.f6.params = #[37, 3] from Try.params6]; rfl) rfl
    obtain ⟨b1, hv1⟩ := hval 1 3 v1 (by rw [show Try.f6.params = #[37, 3] from Try.params6]; rfl) rfl
    obtain ⟨n1, rfl, rfl, rfl, w1⟩ := open_int Try.underlying3 hv1 h1
    obtain ⟨ss, hss⟩ := open_structs (f := Stp.cells) (e := 39) (z := 6) Try.underlying37 (by kernel_rfl) (by kernel_rfl) (by decide) (by decide) stp_of h0 (okWide_slice Try.underlying37 hv0)
    obtain ⟨a1, σ1, m1, x1, A1, S1, F1, G1, R1, H1⟩ := hss ⟨.leaf, 0⟩ (fun _ => none) [] (Sim.empty W) (fun _ _ => rfl) HasH.nil
    obtain ⟨o1, c1, rfl⟩ := A1.sl
    rw [List.append_nil] at H1
    exact calls_yes (N := 5000) (ann := ann) (d := 0 + 5) (by kernel_rfl) (steps_ok (K := yes) A1 H1 (by decide) (fun _ _ => rfl)) S1 F1 (.cons _ _ _ _ R1 (.cons _ _ _ _ (.int _ _) .nil))

theorem over : Rows.bagStepsRow.holds Try.pinned (OpenSpec.ofChange Rows.bagStepsSpec) :=
  OpenClaim.holds_of_wide 6 Try.f6 rfl rfl rfl rfl rfl rfl rfl ⟨rfl, rfl, rfl, rfl, rfl⟩ rfl rfl rfl rfl rfl (by kernel_rfl) Try.func6 (by kernel_rfl)
    (of_decide_eq_true (by kernel_rfl)) (by unfold Func.isWrapper; first | (rw [if_pos (by decide +kernel)]; kernel_rfl) | (rw [if_neg (by decide +kernel)]; exact ⟨rfl, rfl⟩))
    (fun os started H enc _ => lifted os started H enc)

end BagSteps

/-- The row. -/
theorem bagSteps_holds : Rows.BagStepsSaid := BagSteps.over
#print axioms bagSteps_holds
end Go.Proofs.Ytdebkakkeaanaaa
