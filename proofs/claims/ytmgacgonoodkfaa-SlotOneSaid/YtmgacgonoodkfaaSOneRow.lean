/- Of one kind there is one certified text: whatever is told, SlotOne returns true and leaves its arguments as they were. No condition. -/
import Derived.Test.YtmgacgonoodkfaaRows
import Derived.Test.YtmgacgonoodkfaaSOne
import Derived.Test.YtmgacgonoodkfaaA31
import Derived.JoinedOf
import Derived.Handed
namespace Go.Proofs.Ytmgacgonoodkfaa
open Go.ChangeShapes Go.WideShapes Go.ChangeAt Go.RowKit Go.AM

namespace SlotOne
set_option maxRecDepth 100000
set_option linter.unusedSimpArgs false

theorem one_cell {P : Program} {t e : TypeId} {H : Type} {enc : TypeId × Value → H} {w : World} {n : Nat} {v : Value} {x : DataW H × List MemPlace} (ht : P.underlying t = some (.slice e))
    (h : DataW.trod enc P w 0 (fun _ => true) true n t [v] = some x) : (∃ d ps, DataW.Trod enc P w 0 (fun _ => true) true t v d ps) ∧ ∃ a len cap, v = .slice a len cap := by
  rcases DataW.trod_slice ht h with ⟨hcs, -⟩ | ⟨a, len, cap, elems, rest, n', -, hcs, -⟩
  · injection hcs with hcs _
    subst hcs
    exact ⟨⟨x.1, x.2, n, by simpa [Value.cells] using h⟩, _, _, _, rfl⟩
  · injection hcs with hcs _
    subst hcs
    exact ⟨⟨x.1, x.2, n, by simpa [Value.cells] using h⟩, _, _, _, rfl⟩

/-- What is told, opened. -/
theorem open_told {H : Type} {enc : TypeId × Value → H} {w : World} {r : Reach} {b0 : Nat} {v : Value} {d : DataW H} {ps : List MemPlace}
    (hd : DataW.Trod enc Try.prog w 0 (fun _ => true) true 39 v d ps) (hv : Value.okWide Try.prog w r b0 39 v) :
    ∃ n c1 c2 c3, v = .agg #[.int .i64 n, c1, c2, c3] ∧ ((∃ d ps, DataW.Trod enc Try.prog w 0 (fun _ => true) true 37 c1 d ps) ∧ ∃ a len cap, c1 = .slice a len cap) ∧
      ((∃ d ps, DataW.Trod enc Try.prog w 0 (fun _ => true) true 37 c2 d ps) ∧ ∃ a len cap, c2 = .slice a len cap) ∧ ((∃ d ps, DataW.Trod enc Try.prog w 0 (fun _ => true) true 37 c3 d ps) ∧ ∃ a len cap, c3 = .slice a len cap) := by
  obtain ⟨cs, rfl, hsz⟩ := okWide_struct Try.underlying39 hv
  rw [show Try.prog.cellsOf 39 = 4 by kernel_rfl] at hsz
  obtain ⟨fuel, hf⟩ := hd
  obtain ⟨xs, n, rfl, -, hcl, hxl, hfi⟩ := DataW.trod_struct Try.underlying39 hf
  have c3 : Try.prog.cellsOf 3 = 1 := by kernel_rfl
  have c37 : Try.prog.cellsOf 37 = 1 := by kernel_rfl
  obtain ⟨l⟩ := cs
  match l, hsz with
  | [a0, a1, a2, a3], _ =>
    match xs, hxl with
    | [x0, x1, x2, x3], _ =>
      have f0 := hfi 0 _ rfl
      have f1 := hfi 1 _ rfl
      have f2 := hfi 2 _ rfl
      have f3 := hfi 3 _ rfl
      simp only [c3, c37, Value.cells] at f0 f1 f2 f3
      obtain ⟨m, e0, _⟩ := DataW.trod_int Try.underlying3 f0
      injection e0 with e0 _
      exact ⟨m, a1, a2, a3, by rw [e0], one_cell Try.underlying37 f1, one_cell Try.underlying37 f2, one_cell Try.underlying37 f3⟩

theorem own : ownKnob Try.prog.godebug = none := by kernel_rfl
theorem laidOut : laidOutB Try.prog = true := by kernel_rfl

theorem lifted (os : Os) (started : os.Started) (H : Type) (enc : TypeId × Value → H) :
    ReturnsInHanded {} Try.checked os 4 .any (Rows.slotOneSpec.pre6 enc Try.prog Try.f4 Rows.slotOneRow.domain false) (Rows.slotOneSpec.post enc Try.prog Try.f4 false true false false) := by
  refine law_lifted (C := Try.checked) (fn := Try.f4) (s := Rows.slotOneSpec) (rt := 4) own started (by kernel_rfl) Try.func4
    (ChangeSpec.witness6 (enc := enc) (C := Try.checked) false ⟨#[], #[.agg #[.int .i64 0, .int .i64 0, .int .i64 0], .int .i64 0, .agg #[.int .i64 0, .slice none 0 0, .slice none 0 0, .slice none 0 0]], []⟩ 8 (by kernel_rfl) (by kernel_rfl) (by kernel_rfl) (by kernel_rfl)) laidOut rfl ?_ (by kernel_rfl) Try.underlying4 ?_ ?_
  · intro ds h
    match ds, h with
    | [d0, d1, d2], _ => rfl
  · intro t ht
    have : t = 36 ∨ t = 3 ∨ t = 39 := by simpa [Try.params4] using ht
    rcases this with rfl | rfl | rfl
    · exact ⟨by kernel_rfl, of_decide_eq_true (by kernel_rfl)⟩
    · exact ⟨by kernel_rfl, of_decide_eq_true (by kernel_rfl)⟩
    · exact ⟨by kernel_rfl, of_decide_eq_true (by kernel_rfl)⟩
  · intro W args ds p hA hval
    have hA' : DataW.TrodAll enc Try.prog W 0 (fun _ => true) true Try.f4.params.toList args.toList ds p := hA
    rw [Try.params4] at hA'
    obtain ⟨v0, vs0, d0, ds0, p0, q0, hargs, rfl, rfl, h0, r0⟩ := trodAll_cons hA'
    obtain ⟨v1, vs1, d1, ds1, p1, q1, rfl, rfl, rfl, h1, r1⟩ := trodAll_cons r0
    obtain ⟨v2, vs2, d2, ds2, p2, q2, rfl, rfl, rfl, h2, r2⟩ := trodAll_cons r1
    obtain ⟨rfl, rfl, rfl⟩ := trodAll_nil r2
    obtain rfl : args = #[v0, v1, v2] := by cases args; simp_all
    obtain ⟨b0, hv0⟩ := hval 0 36 v0 (by rw [show Try.f4.params = #[36, 3, 39] from Try.params4]; rfl) rfl
    obtain ⟨b1, hv1⟩ := hval 1 3 v1 (by rw [show Try.f4.params = #[36, 3, 39] from Try.params4]; rfl) rfl
    obtain ⟨b2, hv2⟩ := hval 2 39 v2 (by rw [show Try.f4.params = #[36, 3, 39] from Try.params4]; rfl) rfl
    obtain ⟨ys0, sh0, R0⟩ := open_plain (s := [.int .i64, .int .i64, .int .i64]) Try.underlying36 (by kernel_rfl) h0 hv0
    obtain ⟨a0, rfl⟩ := of3_of ys0 sh0
    obtain ⟨n1, rfl, rfl, rfl, w1⟩ := open_int Try.underlying3 hv1 h1
    obtain ⟨n, c1, c2, c3, rfl, ⟨⟨dd1, pp1, t1⟩, s1⟩, ⟨⟨dd2, pp2, t2⟩, s2⟩, ⟨⟨dd3, pp3, t3⟩, s3⟩⟩ := open_told h2 hv2
    obtain ⟨as1, has1⟩ := open_strs (e := 9) Try.underlying37 Try.underlying9 (by kernel_rfl) t1 s1
    obtain ⟨x1, σ1, m1, e1, A1, S1, F1, G1, R1, H1⟩ := has1 ⟨.leaf, 0⟩ (fun _ => none) [] (Sim.empty W) (fun _ _ => rfl) HasH.nil
    obtain ⟨o1, k1, rfl⟩ := A1.sl
    obtain ⟨as2, has2⟩ := open_strs (e := 9) Try.underlying37 Try.underlying9 (by kernel_rfl) t2 s2
    obtain ⟨x2, σ2, m2, e2, A2, S2, F2, G2, R2, H2⟩ := has2 σ1 m1 _ S1 F1 H1
    obtain ⟨o2, k2, rfl⟩ := A2.sl
    obtain ⟨as3, has3⟩ := open_strs (e := 9) Try.underlying37 Try.underlying9 (by kernel_rfl) t3 s3
    obtain ⟨x3, σ3, m3, e3, A3, S3, F3, G3, R3, H3⟩ := has3 σ2 m2 _ S2 F2 H2
    obtain ⟨o3, k3, rfl⟩ := A3.sl
    have HF : HasH σ3 (e1 ++ (e2 ++ e3)) := H3.perm (by
      simp only [List.append_nil]
      exact (List.perm_append_comm (l₁ := e3)).trans (by rw [← List.append_assoc]; exact (List.perm_append_comm (l₁ := e2) (l₂ := e1)).append_right e3))
    exact calls_yes (N := 5000) (ann := ann) (d := 0 + 6) (by kernel_rfl) (one_law (K := yes) A1 A2 A3 HF (by decide) (k := fun _ _ => rfl)) S3 F3
      (.cons _ _ _ _ (R0 _ _) (.cons _ _ _ _ (.int _ _) (.cons _ _ _ _ (.agg _ _ (.cons _ _ _ _ (.int _ _) (.cons _ _ _ _ ((R1.mono G2).mono G3) (.cons _ _ _ _ (R2.mono G3) (.cons _ _ _ _ R3 .nil))))) .nil)))

theorem over : Rows.slotOneRow.holds Try.pinned (OpenSpec.ofChange Rows.slotOneSpec) :=
  OpenClaim.holds_of_wide 4 Try.f4 rfl rfl rfl rfl rfl rfl rfl ⟨rfl, rfl, rfl, rfl, rfl⟩ rfl rfl rfl rfl rfl (by kernel_rfl) Try.func4 (by kernel_rfl)
    (of_decide_eq_true (by kernel_rfl)) (by unfold Func.isWrapper; first | (rw [if_pos (by decide +kernel)]; kernel_rfl) | (rw [if_neg (by decide +kernel)]; exact ⟨rfl, rfl⟩))
    (fun os started H enc _ => lifted os started H enc)

end SlotOne

/-- The row. -/
theorem slotOne_holds : Rows.SlotOneSaid := SlotOne.over
#print axioms slotOne_holds
end Go.Proofs.Ytmgacgonoodkfaa
