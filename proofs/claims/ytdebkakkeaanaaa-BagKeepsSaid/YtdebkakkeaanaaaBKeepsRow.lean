/- What is picked was put, and the others stay in their order: whatever is put and picked, BagKeeps returns true and leaves its arguments as they were. No condition. -/
import Derived.Test.YtdebkakkeaanaaaRows
import Derived.Test.YtdebkakkeaanaaaBKeeps
import Derived.JoinedOf
import Derived.Handed
namespace Go.Proofs.Ytdebkakkeaanaaa
open Go.ChangeShapes Go.WideShapes Go.ChangeAt Go.RowKit Go.AM

namespace BagKeeps
set_option maxRecDepth 100000

theorem own : ownKnob Try.prog.godebug = none := by kernel_rfl
theorem laidOut : laidOutB Try.prog = true := by kernel_rfl

theorem lifted (os : Os) (started : os.Started) (H : Type) (enc : TypeId × Value → H) :
    ReturnsInHanded {} Try.checked os 3 .any (Rows.bagKeepsSpec.pre6 enc Try.prog Try.f3 Rows.bagKeepsRow.domain false) (Rows.bagKeepsSpec.post enc Try.prog Try.f3 false true false false) := by
  refine law_lifted (C := Try.checked) (fn := Try.f3) (s := Rows.bagKeepsSpec) (rt := 4) own started (by kernel_rfl) Try.func3
    (ChangeSpec.witness6 (enc := enc) (C := Try.checked) false ⟨#[], #[.slice none 0 0, .slice none 0 0], []⟩ 8 (by kernel_rfl) (by kernel_rfl) (by kernel_rfl) (by kernel_rfl)) laidOut rfl ?_ (by kernel_rfl) Try.underlying4 ?_ ?_
  · intro ds h
    match ds, h with
    | [d, e], _ => rfl
  · intro t ht
    have : t = 22 ∨ t = 23 := by simpa [Try.params3] using ht
    rcases this with rfl | rfl
    · exact ⟨by kernel_rfl, of_decide_eq_true (by kernel_rfl)⟩
    · exact ⟨by kernel_rfl, of_decide_eq_true (by kernel_rfl)⟩
  · intro W args ds p hA hval
    have hA' : DataW.TrodAll enc Try.prog W 0 (fun _ => true) true Try.f3.params.toList args.toList ds p := hA
    rw [Try.params3] at hA'
    obtain ⟨v0, vs0, d0, ds0, p0, q0, hargs, rfl, rfl, h0, r0⟩ := trodAll_cons hA'
    obtain ⟨v1, vs1, d1, ds1, p1, q1, rfl, rfl, rfl, h1, r1⟩ := trodAll_cons r0
    obtain ⟨rfl, rfl, rfl⟩ := trodAll_nil r1
    obtain rfl : args = #[v0, v1] := by cases args; simp_all
    obtain ⟨b0, hv0⟩ := hval 0 22 v0 (by rw [show Try.f3.params = #[22, 23] from Try.params3]; rfl) rfl
    obtain ⟨b1, hv1⟩ := hval 1 23 v1 (by rw [show Try.f3.params = #[22, 23] from Try.params3]; rfl) rfl
    obtain ⟨ss, hss⟩ := open_strs (e := 9) Try.underlying22 Try.underlying9 (by kernel_rfl) h0 (okWide_slice Try.underlying22 hv0)
    obtain ⟨zs, hzs⟩ := open_intz (e := 3) (k := .i64) Try.underlying23 Try.underlying3 (by kernel_rfl) h1 (okWide_slice Try.underlying23 hv1)
    obtain ⟨a1, σ1, m1, x1, A1, S1, F1, G1, R1, H1⟩ := hzs ⟨.leaf, 0⟩ (fun _ => none) [] (Sim.empty W) (fun _ _ => rfl) HasH.nil
    obtain ⟨a2, σ2, m2, x2, A2, S2, F2, G2, R2, H2⟩ := hss σ1 m1 _ S1 F1 H1
    obtain ⟨o1, c1, rfl⟩ := A1.sl
    obtain ⟨o2, c2, rfl⟩ := A2.sl
    rw [List.append_nil] at H2
    exact calls_yes (N := 5000) (ann := ann) (d := 0 + 5) (by kernel_rfl) (keeps_ok (K := yes) A2 A1 H2 (by decide) (fun _ _ => rfl)) S2 F2 (.cons _ _ _ _ R2 (.cons _ _ _ _ (R1.mono G2) .nil))

theorem over : Rows.bagKeepsRow.holds Try.pinned (OpenSpec.ofChange Rows.bagKeepsSpec) :=
  OpenClaim.holds_of_wide 3 Try.f3 rfl rfl rfl rfl rfl rfl rfl ⟨rfl, rfl, rfl, rfl, rfl⟩ rfl rfl rfl rfl rfl (by kernel_rfl) Try.func3 (by kernel_rfl)
    (of_decide_eq_true (by kernel_rfl)) (by unfold Func.isWrapper; first | (rw [if_pos (by decide +kernel)]; kernel_rfl) | (rw [if_neg (by decide +kernel)]; exact ⟨rfl, rfl⟩))
    (fun os started H enc _ => lifted os started H enc)

end BagKeeps

/-- The row. -/
theorem bagKeeps_holds : Rows.BagKeepsSaid := BagKeeps.over
#print axioms bagKeeps_holds
end Go.Proofs.Ytdebkakkeaanaaa
