/- A nil slot has no votes: whatever vote is told, SlotNil returns true and leaves its argument as it was. No condition. -/
import Derived.Test.YtmgacgonoodkfaaRows
import Derived.Test.YtmgacgonoodkfaaSNil
import Derived.Test.YtmgacgonoodkfaaA31
import Derived.JoinedOf
import Derived.Handed
namespace Go.Proofs.Ytmgacgonoodkfaa
open Go.ChangeShapes Go.WideShapes Go.ChangeAt Go.RowKit Go.AM

namespace SlotNil
set_option maxRecDepth 100000

theorem own : ownKnob Try.prog.godebug = none := by kernel_rfl
theorem laidOut : laidOutB Try.prog = true := by kernel_rfl

theorem lifted (os : Os) (started : os.Started) (H : Type) (enc : TypeId × Value → H) :
    ReturnsInHanded {} Try.checked os 7 .any (Rows.slotNilSpec.pre6 enc Try.prog Try.f7 Rows.slotNilRow.domain false) (Rows.slotNilSpec.post enc Try.prog Try.f7 false true false false) := by
  refine law_lifted (C := Try.checked) (fn := Try.f7) (s := Rows.slotNilSpec) (rt := 4) own started (by kernel_rfl) Try.func7
    (ChangeSpec.witness6 (enc := enc) (C := Try.checked) false ⟨#[], #[.agg #[.int .i64 0, .int .i64 0, .string .empty, .string .empty]], []⟩ 8 (by kernel_rfl) (by kernel_rfl) (by kernel_rfl) (by kernel_rfl)) laidOut rfl ?_ (by kernel_rfl) Try.underlying4 ?_ ?_
  · intro ds h
    match ds, h with
    | [d0], _ => rfl
  · intro t ht
    have : t = 53 := by simpa [Try.params7] using ht
    subst this
    exact ⟨by kernel_rfl, of_decide_eq_true (by kernel_rfl)⟩
  · intro W args ds p hA hval
    have hA' : DataW.TrodAll enc Try.prog W 0 (fun _ => true) true Try.f7.params.toList args.toList ds p := hA
    rw [Try.params7] at hA'
    obtain ⟨v0, vs0, d0, ds0, p0, q0, hargs, rfl, rfl, h0, r0⟩ := trodAll_cons hA'
    obtain ⟨rfl, rfl, rfl⟩ := trodAll_nil r0
    obtain rfl : args = #[v0] := by cases args; simp_all
    obtain ⟨b0, hv0⟩ := hval 0 53 v0 (by rw [show Try.f7.params = #[53] from Try.params7]; rfl) rfl
    obtain ⟨ys0, sh0, R0⟩ := open_plain (s := [.int .i64, .int .i64, .str, .str]) Try.underlying53 (by kernel_rfl) h0 hv0
    obtain ⟨a0, rfl⟩ := vo_of ys0 sh0
    exact calls_yes (N := 5000) (ann := ann) (d := 0 + 6) (by kernel_rfl) (nil_law (K := yes) HasH.nil (by decide)  (k := fun _ _ => rfl)) (Sim.empty W) (fun _ _ => rfl) (.cons _ _ _ _ (R0 _ _) .nil)

theorem over : Rows.slotNilRow.holds Try.pinned (OpenSpec.ofChange Rows.slotNilSpec) :=
  OpenClaim.holds_of_wide 7 Try.f7 rfl rfl rfl rfl rfl rfl rfl ⟨rfl, rfl, rfl, rfl, rfl⟩ rfl rfl rfl rfl rfl (by kernel_rfl) Try.func7 (by kernel_rfl)
    (of_decide_eq_true (by kernel_rfl)) (by unfold Func.isWrapper; first | (rw [if_pos (by decide +kernel)]; kernel_rfl) | (rw [if_neg (by decide +kernel)]; exact ⟨rfl, rfl⟩))
    (fun os started H enc _ => lifted os started H enc)

end SlotNil

/-- The row. -/
theorem slotNil_holds : Rows.SlotNilSaid := SlotNil.over
#print axioms slotNil_holds
end Go.Proofs.Ytmgacgonoodkfaa
