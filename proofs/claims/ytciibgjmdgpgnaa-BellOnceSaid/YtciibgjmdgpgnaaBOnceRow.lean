/- A timer rings once, not ahead of its moment, and behind a tick none is left that is due: whatever steps are told, BellOnce returns true and leaves its argument as it was. No condition. -/
import Derived.Test.YtciibgjmdgpgnaaRows
import Derived.Test.YtciibgjmdgpgnaaO4
import Derived.Test.YtciibgjmdgpgnaaA31
import Derived.JoinedOf
import Derived.Handed
namespace Go.Proofs.Ytciibgjmdgpgnaa
open Go.ChangeShapes Go.WideShapes Go.ChangeAt Go.RowKit Go.AM

namespace BellOnce
set_option maxRecDepth 100000

theorem own : ownKnob Try.prog.godebug = none := by kernel_rfl
theorem laidOut : laidOutB Try.prog = true := by kernel_rfl

theorem lifted (os : Os) (started : os.Started) (H : Type) (enc : TypeId × Value → H) :
    ReturnsInHanded {} Try.checked os 4 .any (Rows.bellOnceSpec.pre6 enc Try.prog Try.f4 Rows.bellOnceRow.domain false) (Rows.bellOnceSpec.post enc Try.prog Try.f4 false true false false) := by
  refine law_lifted (C := Try.checked) (fn := Try.f4) (s := Rows.bellOnceSpec) (rt := 4) own started (by kernel_rfl) Try.func4
    (ChangeSpec.witness6 (enc := enc) (C := Try.checked) false ⟨#[], #[.slice none 0 0], []⟩ 8 (by kernel_rfl) (by kernel_rfl) (by kernel_rfl) (by kernel_rfl)) laidOut rfl ?_ (by kernel_rfl) Try.underlying4 ?_ ?_
  · intro ds h
    match ds, h with
    | [d0], _ => rfl
  · intro t ht
    have : t = 36 := by simpa [Try.params4] using ht
    subst this
    exact ⟨by kernel_rfl, of_decide_eq_true (by kernel_rfl)⟩
  · intro W args ds p hA hval
    have hA' : DataW.TrodAll enc Try.prog W 0 (fun _ => true) true Try.f4.params.toList args.toList ds p := hA
    rw [Try.params4] at hA'
    obtain ⟨v0, vs0, d0, ds0, p0, q0, hargs, rfl, rfl, h0, r0⟩ := trodAll_cons hA'
    obtain ⟨rfl, rfl, rfl⟩ := trodAll_nil r0
    obtain rfl : args = #[v0] := by cases args; simp_all
    obtain ⟨b0, hv0⟩ := hval 0 36 v0 (by rw [show Try.f4.params = #[36] from Try.params4]; rfl) rfl
    obtain ⟨as0, has0⟩ := open_structs (f := Stq.cells) (e := 39) (z := 3) Try.underlying36 (by kernel_rfl) (by kernel_rfl) (by decide) (by decide) stq_of h0 (okWide_slice Try.underlying36 hv0)
    obtain ⟨x0, σ0, m0, e0, A0, S0, F0, G0, R0, H0⟩ := has0 ⟨.leaf, 0⟩ (fun _ => none) [] (Sim.empty W) (fun _ _ => rfl) HasH.nil
    obtain ⟨o0, c0, rfl⟩ := A0.sl
    have HF := H0
    simp only [List.append_nil] at HF
    exact calls_yes (N := 5000) (ann := ann) (dem := true) (d := 0 + 7) (by kernel_rfl) (once_law (K := yes) A0 HF (by decide)  (k := fun _ _ => rfl)) nospec_sound S0 F0 (.cons _ _ _ _ R0 .nil)

theorem over : Rows.bellOnceRow.holds Try.pinned (OpenSpec.ofChange Rows.bellOnceSpec) :=
  OpenClaim.holds_of_wide 4 Try.f4 rfl rfl rfl rfl rfl rfl rfl ⟨rfl, rfl, rfl, rfl, rfl⟩ rfl rfl rfl rfl rfl (by kernel_rfl) Try.func4 (by kernel_rfl)
    (of_decide_eq_true (by kernel_rfl)) (by unfold Func.isWrapper; first | (rw [if_pos (by decide +kernel)]; kernel_rfl) | (rw [if_neg (by decide +kernel)]; exact ⟨rfl, rfl⟩))
    (fun os started H enc _ => lifted os started H enc)

end BellOnce

/-- The row. -/
theorem bellOnce_holds : Rows.BellOnceSaid := BellOnce.over
#print axioms bellOnce_holds
end Go.Proofs.Ytciibgjmdgpgnaa
