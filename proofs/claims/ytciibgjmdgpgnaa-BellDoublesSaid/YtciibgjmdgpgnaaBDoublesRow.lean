/- Put off again and again a timer's span doubles, up to 4096: whatever span and times are told, BellDoubles returns true. No condition. -/
import Derived.Test.YtciibgjmdgpgnaaRows
import Derived.Test.YtciibgjmdgpgnaaBDoubles
import Derived.Test.YtciibgjmdgpgnaaA31
import Derived.JoinedOf
import Derived.Handed
namespace Go.Proofs.Ytciibgjmdgpgnaa
open Go.ChangeShapes Go.WideShapes Go.ChangeAt Go.RowKit Go.AM

namespace BellDoubles
set_option maxRecDepth 100000

theorem own : ownKnob Try.prog.godebug = none := by kernel_rfl
theorem laidOut : laidOutB Try.prog = true := by kernel_rfl

theorem lifted (os : Os) (started : os.Started) (H : Type) (enc : TypeId × Value → H) :
    ReturnsInHanded {} Try.checked os 3 .any (Rows.bellDoublesSpec.pre6 enc Try.prog Try.f3 Rows.bellDoublesRow.domain false) (Rows.bellDoublesSpec.post enc Try.prog Try.f3 false true false false) := by
  refine law_lifted (C := Try.checked) (fn := Try.f3) (s := Rows.bellDoublesSpec) (rt := 4) own started (by kernel_rfl) Try.func3
    (ChangeSpec.witness6 (enc := enc) (C := Try.checked) false ⟨#[], #[.int .i64 0, .int .i64 0], []⟩ 8 (by kernel_rfl) (by kernel_rfl) (by kernel_rfl) (by kernel_rfl)) laidOut rfl ?_ (by kernel_rfl) Try.underlying4 ?_ ?_
  · intro ds h
    match ds, h with
    | [d0, d1], _ => rfl
  · intro t ht
    have : t = 3 := by simpa [Try.params3] using ht
    subst this
    exact ⟨by kernel_rfl, of_decide_eq_true (by kernel_rfl)⟩
  · intro W args ds p hA hval
    have hA' : DataW.TrodAll enc Try.prog W 0 (fun _ => true) true Try.f3.params.toList args.toList ds p := hA
    rw [Try.params3] at hA'
    obtain ⟨v0, vs0, d0, ds0, p0, q0, hargs, rfl, rfl, h0, r0⟩ := trodAll_cons hA'
    obtain ⟨v1, vs1, d1, ds1, p1, q1, rfl, rfl, rfl, h1, r1⟩ := trodAll_cons r0
    obtain ⟨rfl, rfl, rfl⟩ := trodAll_nil r1
    obtain rfl : args = #[v0, v1] := by cases args; simp_all
    obtain ⟨b0, hv0⟩ := hval 0 3 v0 (by rw [show Try.f3.params = #[3, 3] from Try.params3]; rfl) rfl
    obtain ⟨b1, hv1⟩ := hval 1 3 v1 (by rw [show Try.f3.params = #[3, 3] from Try.params3]; rfl) rfl
    obtain ⟨n0, rfl, rfl, rfl, w0⟩ := open_int Try.underlying3 hv0 h0
    obtain ⟨n1, rfl, rfl, rfl, w1⟩ := open_int Try.underlying3 hv1 h1
    exact calls_yes (N := 5000) (ann := ann) (dem := true) (d := 0 + 7) (by kernel_rfl) (doubles_law (K := yes) HasH.nil (by decide)  (k := fun _ _ => rfl)) nospec_sound (Sim.empty W) (fun _ _ => rfl) (.cons _ _ _ _ (.int _ _) (.cons _ _ _ _ (.int _ _) .nil))

theorem over : Rows.bellDoublesRow.holds Try.pinned (OpenSpec.ofChange Rows.bellDoublesSpec) :=
  OpenClaim.holds_of_wide 3 Try.f3 rfl rfl rfl rfl rfl rfl rfl ⟨rfl, rfl, rfl, rfl, rfl⟩ rfl rfl rfl rfl rfl (by kernel_rfl) Try.func3 (by kernel_rfl)
    (of_decide_eq_true (by kernel_rfl)) (by unfold Func.isWrapper; first | (rw [if_pos (by decide +kernel)]; kernel_rfl) | (rw [if_neg (by decide +kernel)]; exact ⟨rfl, rfl⟩))
    (fun os started H enc _ => lifted os started H enc)

end BellDoubles

/-- The row. -/
theorem bellDoubles_holds : Rows.BellDoublesSaid := BellDoubles.over
#print axioms bellDoubles_holds
end Go.Proofs.Ytciibgjmdgpgnaa
