/- The best of a number is that of the greatest view that was noted, the first one of it: whatever views are told, WindowBest returns true and leaves its argument as it was. No condition. -/
import Derived.Test.YtmgacgonoodkfaaRows
import Derived.Test.YtmgacgonoodkfaaWBest
import Derived.Test.YtmgacgonoodkfaaA31
import Derived.JoinedOf
import Derived.Handed
namespace Go.Proofs.Ytmgacgonoodkfaa
open Go.ChangeShapes Go.WideShapes Go.ChangeAt Go.RowKit Go.AM

namespace WindowBest
set_option maxRecDepth 100000

theorem own : ownKnob Try.prog.godebug = none := by kernel_rfl
theorem laidOut : laidOutB Try.prog = true := by kernel_rfl

theorem lifted (os : Os) (started : os.Started) (H : Type) (enc : TypeId × Value → H) :
    ReturnsInHanded {} Try.checked os 9 .any (Rows.windowBestSpec.pre6 enc Try.prog Try.f9 Rows.windowBestRow.domain false) (Rows.windowBestSpec.post enc Try.prog Try.f9 false true false false) := by
  refine law_lifted (C := Try.checked) (fn := Try.f9) (s := Rows.windowBestSpec) (rt := 4) own started (by kernel_rfl) Try.func9
    (ChangeSpec.witness6 (enc := enc) (C := Try.checked) false ⟨#[], #[.slice none 0 0], []⟩ 8 (by kernel_rfl) (by kernel_rfl) (by kernel_rfl) (by kernel_rfl)) laidOut rfl ?_ (by kernel_rfl) Try.underlying4 ?_ ?_
  · intro ds h
    match ds, h with
    | [d0], _ => rfl
  · intro t ht
    have : t = 79 := by simpa [Try.params9] using ht
    subst this
    exact ⟨by kernel_rfl, of_decide_eq_true (by kernel_rfl)⟩
  · intro W args ds p hA hval
    have hA' : DataW.TrodAll enc Try.prog W 0 (fun _ => true) true Try.f9.params.toList args.toList ds p := hA
    rw [Try.params9] at hA'
    obtain ⟨v0, vs0, d0, ds0, p0, q0, hargs, rfl, rfl, h0, r0⟩ := trodAll_cons hA'
    obtain ⟨rfl, rfl, rfl⟩ := trodAll_nil r0
    obtain rfl : args = #[v0] := by cases args; simp_all
    obtain ⟨b0, hv0⟩ := hval 0 79 v0 (by rw [show Try.f9.params = #[79] from Try.params9]; rfl) rfl
    obtain ⟨as0, has0⟩ := open_intz (e := 3) (k := .i64) Try.underlying79 Try.underlying3 (by kernel_rfl) h0 (okWide_slice Try.underlying79 hv0)
    obtain ⟨x0, σ0, m0, e0, A0, S0, F0, G0, R0, H0⟩ := has0 ⟨.leaf, 0⟩ (fun _ => none) [] (Sim.empty W) (fun _ _ => rfl) HasH.nil
    obtain ⟨o0, c0, rfl⟩ := A0.sl
    have HF := H0
    simp only [List.append_nil] at HF
    exact calls_yes (N := 5000) (ann := ann) (d := 0 + 5) (by kernel_rfl) (best_law (K := yes) A0 HF (by decide)  (k := fun _ _ => rfl)) (win_sound _) S0 F0 (.cons _ _ _ _ R0 .nil)

theorem over : Rows.windowBestRow.holds Try.pinned (OpenSpec.ofChange Rows.windowBestSpec) :=
  OpenClaim.holds_of_wide 9 Try.f9 rfl rfl rfl rfl rfl rfl rfl ⟨rfl, rfl, rfl, rfl, rfl⟩ rfl rfl rfl rfl rfl (by kernel_rfl) Try.func9 (by kernel_rfl)
    (of_decide_eq_true (by kernel_rfl)) (by unfold Func.isWrapper; first | (rw [if_pos (by decide +kernel)]; kernel_rfl) | (rw [if_neg (by decide +kernel)]; exact ⟨rfl, rfl⟩))
    (fun os started H enc _ => lifted os started H enc)

end WindowBest

/-- The row. -/
theorem windowBest_holds : Rows.WindowBestSaid := WindowBest.over
#print axioms windowBest_holds
end Go.Proofs.Ytmgacgonoodkfaa
