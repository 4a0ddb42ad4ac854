/- What goes from one end to another one comes in the order in which it was put: whatever the steps, BagBetween returns true and leaves its arguments as they were. No condition. -/
import Derived.Test.YtdebkakkeaanaaaRows
import Derived.Test.YtdebkakkeaanaaaBBetween
import Derived.Test.YtdebkakkeaanaaaA31
import Derived.JoinedOf
import Derived.Handed
namespace Go.Proofs.Ytdebkakkeaanaaa
open Go.ChangeShapes Go.WideShapes Go.ChangeAt Go.RowKit Go.AM

namespace BagBetween
set_option maxRecDepth 100000

theorem own : ownKnob Try.prog.godebug = none := by kernel_rfl
theorem laidOut : laidOutB Try.prog = true := by kernel_rfl

theorem stp_of (ys : List AV) (h : shsOK [.int .i64, .int .i64, .int .i64, .int .i64, .int .i64, .str] ys) : ∃ a : Stp, ys = a.cells := by
  obtain ⟨_, _, rfl, ⟨a, rfl⟩, _, _, rfl, ⟨b, rfl⟩, _, _, rfl, ⟨c, rfl⟩, _, _, rfl, ⟨d, rfl⟩, _, _, rfl, ⟨e, rfl⟩, _, _, rfl, ⟨f, rfl⟩, rfl⟩ := h
  exact ⟨⟨a, b, ⟨c, d, e, f⟩⟩, rfl⟩

theorem lifted (os : Os) (started : os.Started) (H : Type) (enc : TypeId × Value → H) :
    ReturnsInHanded {} Try.checked os 5 .any (Rows.bagBetweenSpec.pre6 enc Try.prog Try.f5 Rows.bagBetweenRow.domain false) (Rows.bagBetweenSpec.post enc Try.prog Try.f5 false true false false) := by
  refine law_lifted (C := Try.checked) (fn := Try.f5) (s := Rows.bagBetweenSpec) (rt := 4) own started (by kernel_rfl) Try.func5
    (ChangeSpec.witness6 (enc := enc) (C := Try.checked) false ⟨#[], #[.int .i64 0, .int .i64 0, .slice none 0 0], []⟩ 8 (by kernel_rfl) (by kernel_rfl) (by kernel_rfl) (by kernel_rfl)) laidOut rfl ?_ (by kernel_rfl) Try.underlying4 ?_ ?_
  · intro ds h
    match ds, h with
    | [d, e, f], _ => rfl
  · intro t ht
    have : t = 3 ∨ t = 37 := by simpa [Try.params5] using ht
    rcases this with rfl | rfl
    · exact ⟨by kernel_rfl, of_decide_eq_true (by kernel_rfl)⟩
    · exact ⟨by kernel_rfl, of_decide_eq_true (by kernel_rfl)⟩
  · intro W args ds p hA hval
    have hA' : DataW.TrodAll enc Try.prog W 0 (fun _ => true) true Try.f5.params.toList args.toList ds p := hA
    rw [Try.params5] at hA'
    obtain ⟨v0, vs0, d0, ds0, p0, q0, hargs, rfl, rfl, h0, r0⟩ := trodAll_cons hA'
    obtain ⟨v1, vs1, d1, ds1, p1, q1, rfl, rfl, rfl, h1, r1⟩ := trodAll_cons r0
    obtain ⟨v2, vs2, d2, ds2, p2, q2, rfl, rfl, rfl, h2, r2⟩ := trodAll_cons r1
    obtain ⟨rfl, rfl, rfl⟩ := trodAll_nil r2
    obtain rfl : args = #[v0, v1, v2] := by cases args; simp_all
    obtain ⟨b0, hv0⟩ := hval 0 3 v0 (by rw [show Try.f5.params = #[3, 3, 37] from Try.params5]; rfl) rfl
    obtain ⟨b1, hv1⟩ := hval 1 3 v1 (by rw [show Try.f5.params = #[3, 3, 37] from Try.params5]; rfl) rfl
    obtain ⟨b2, hv2⟩ := hval 2 37 v2 (by rw [show Try.f5.params = #[3, 3, 37] from Try.params5]; rfl) rfl
    obtain ⟨n0, rfl, rfl, rfl, w0⟩ := open_int Try.underlying3 hv0 h0
    obtain ⟨n1, rfl, rfl, rfl, w1⟩ := open_int Try.underlying3 hv1 h1
    obtain ⟨ss, hss⟩ := open_structs (f := Stp.cells) (e := 39) (z := 6) Try.underlying37 (by kernel_rfl) (by kernel_rfl) (by decide) (by decide) stp_of h2 (okWide_slice Try.underlying37 hv2)
    obtain ⟨a1, σ1, m1, x1, A1, S1, F1, G1, R1, H1⟩ := hss ⟨.leaf, 0⟩ (fun _ => none) [] (Sim.empty W) (fun _ _ => rfl) HasH.nil
    obtain ⟨o1, c1, rfl⟩ := A1.sl
    rw [List.append_nil] at H1
    exact calls_yes (N := 5000) (ann := ann) (d := 0 + 5) (by kernel_rfl) (between_law (K := yes) A1 H1 (by decide) (fun _ _ => rfl)) S1 F1 (.cons _ _ _ _ (.int _ _) (.cons _ _ _ _ (.int _ _) (.cons _ _ _ _ R1 .nil)))

theorem over : Rows.bagBetweenRow.holds Try.pinned (OpenSpec.ofChange Rows.bagBetweenSpec) :=
  OpenClaim.holds_of_wide 5 Try.f5 rfl rfl rfl rfl rfl rfl rfl ⟨rfl, rfl, rfl, rfl, rfl⟩ rfl rfl rfl rfl rfl (by kernel_rfl) Try.func5 (by kernel_rfl)
    (of_decide_eq_true (by kernel_rfl)) (by unfold Func.isWrapper; first | (rw [if_pos (by decide +kernel)]; kernel_rfl) | (rw [if_neg (by decide +kernel)]; exact ⟨rfl, rfl⟩))
    (fun os started H enc _ => lifted os started H enc)

end BagBetween

/-- The row. -/
theorem bagBetween_holds : Rows.BagBetweenSaid := BagBetween.over
#print axioms bagBetween_holds
end Go.Proofs.Ytdebkakkeaanaaa
