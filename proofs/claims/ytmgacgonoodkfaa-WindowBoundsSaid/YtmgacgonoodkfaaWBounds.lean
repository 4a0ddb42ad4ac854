/- A window has eight numbers, right above its low mark: the law's walk. -/
import Derived.Test.YtmgacgonoodkfaaW8
import Derived.Test.YtmgacgonoodkfaaWiBounds
namespace Go.Proofs.Ytmgacgonoodkfaa
open Go.AM
set_option maxRecDepth 100000
set_option linter.unusedSimpArgs false
set_option linter.unusedVariables false
variable {N d : Nat} {σ : St} {K : AV → St → Option Unit}

theorem int_bounds {n : Int} (h : (Lit.int .i64 n).wf = true) : -9223372036854775808 ≤ n ∧ n ≤ 9223372036854775807 := by
  simp only [Lit.wf, Bool.and_eq_true, decide_eq_true_eq] at h
  have e1 : IntKind.i64.min = -9223372036854775808 := rfl
  have e2 : IntKind.i64.max = 9223372036854775807 := rfl
  omega

theorem bounds_loop {b ms mb : Nat} {x : Wn} {h r : Hp} {low n : Int} {J : KF Unit} (W : WinP b ms mb x h) (hx : x.low = low) :
    ∀ (m i k : Nat) (σ : St), m + i = 9 → 1 ≤ i → m < k → HasH σ (h ++ r) → (∀ σ', HasH σ' (h ++ r) → J (.exit 0) (f3e9 low n (some (b, 0))) σ' = some ()) →
      loopK (f3L35 (callK Try.prog N ann (d + 1)) true N) f3a35 k J (f3e22 low n (some (b, 0)) (i : Int)) σ = some () := by
  obtain ⟨_, _, _, _, l0, l1, _⟩ := W.1
  intro m
  induction m with
  | zero =>
    intro i k σ hm hi hk H kont
    obtain ⟨k, rfl⟩ : ∃ k', k = k' + 1 := ⟨k - 1, by omega⟩
    have q : ((i : Int) ≤ 8) = False := eq_false (by omega)
    rw [loopK_succ]
    simp only [go_sem, q]
    exact kont σ H
  | succ m ih =>
    intro i k σ hm hi hk H kont
    obtain ⟨k, rfl⟩ : ∃ k', k = k' + 1 := ⟨k - 1, by omega⟩
    have q : ((i : Int) ≤ 8) = True := eq_true (by omega)
    have w1 : IntKind.i64.wrap (low + (i : Int)) = low + (i : Int) := wrap_small (by omega) (by omega)
    have w2 : IntKind.i64.wrap ((i : Int) + 1) = ((i + 1 : Nat) : Int) := by rw [wrap_small (by omega) (by omega)]; rfl
    have hb : hasB x.low (low + (i : Int)) = true := by unfold hasB; rw [hx]; simp; omega
    rw [loopK_succ]
    simp only [go_sem, q, w1, has_ok W H, hb, w2]
    exact ih (i + 1) k σ (by omega) (by omega) (by omega) H kont

theorem bounds_law {low n : Int} (w0 : (Lit.int .i64 n).wf = true) (H : HasH σ []) (hN : 100 ≤ N) (k : ∀ σ', HasH σ' [] → K (.bool true) σ' = some ()) : callK Try.prog N ann (d + 5) true 3 [.int .i64 low, .int .i64 n] σ K = some () := by
  have wn := (int_bounds w0).2
  rw [go 3 (by decide), f3_eq]
  simp only [go_sem]
  refine new_ok H 1 1 ?_ (fun h => absurd (by decide) h)
  intro σ1 b ms mb h1 _ W1 H1
  simp only [go_sem]
  refine raise_ok W1 H1 (by simp; omega) (by simp; omega) low ?_
  intro σ2 h2 W2 H2
  by_cases c1 : low < 0
  · have e1 : raiseE low = 1 := by simp [raiseE, c1]
    have e2 : raiseB ⟨1, 1, 0, [], 0, [], 0⟩ low = false := by simp [raiseB, e1]
    simp only [go_sem, e1, e2, c1]
    refine moves_ok H2 (by omega) ?_
    intro σ3 H3
    simp only [go_sem]
    exact k _ H3.right
  by_cases c2 : 1099511627768 < low
  · have e1 : raiseE low = 1 := by simp [raiseE, c2]
    have e2 : raiseB ⟨1, 1, 0, [], 0, [], 0⟩ low = false := by simp [raiseB, e1]
    simp only [go_sem, e1, e2, c1, c2]
    refine moves_ok H2 (by omega) ?_
    intro σ3 H3
    simp only [go_sem]
    exact k _ H3.right
  have e1 : raiseE low = 0 := by simp [raiseE, c1, c2]
  have e2 : raiseB ⟨1, 1, 0, [], 0, [], 0⟩ low = decide (0 < low) := by simp [raiseB, e1]
  have hl : (raiseX ⟨1, 1, 0, [], 0, [], 0⟩ low).low = low := by
    unfold raiseX
    rw [e2]
    by_cases h : 0 < low
    · simp [h]
    · simp [h]; omega
  have he : (raiseX ⟨1, 1, 0, [], 0, [], 0⟩ low).es = [] := by unfold raiseX; split <;> rfl
  have bb : ((!decide (0 < low)) == decide (0 < low)) = false := by cases decide (0 < low) <;> rfl
  simp only [go_sem, e1, e2, c1, c2, bb]
  refine bounds_loop W2 hl 8 1 N _ (by omega) (by omega) (by omega) H2 ?_
  intro σ3 H3
  by_cases c3 : low < n
  · have w : IntKind.i64.wrap (n - low) = n - low := wrap_small (by omega) (by omega)
    by_cases c4 : n - low ≤ 8
    · have hb : hasB low n = true := by simp [hasB, c3]; omega
      have ha : askE low 0 n = 0 := by simp [askE, hb]
      have hbl : hasB low low = false := by simp [hasB]
      simp only [go_sem, c3, w, c4]
      refine at_ok W2 H3 (by omega) 0 n (fun h => absurd (by rw [hl]; exact ha) h) (fun _ e hee => absurd hee (by rw [he]; simp)) ?_
      intro _ _ σ4 s h4 hs _ W4 H4
      have hl4 : ({ (raiseX ⟨1, 1, 0, [], 0, [], 0⟩ low) with es := (raiseX ⟨1, 1, 0, [], 0, [], 0⟩ low).es ++ [⟨0, n, s, (raiseX ⟨1, 1, 0, [], 0, [], 0⟩ low).c1⟩], c1 := (raiseX ⟨1, 1, 0, [], 0, [], 0⟩ low).c1 + 1 } : Wn).low = low := hl
      simp only [go_sem, has_ok W4 H4, low_ok W4 H4, hl4, hl, hb, hbl]
      refine moves_ok H4 (by omega) ?_
      intro σ5 H5
      simp only [go_sem]
      exact k _ H5.right.right
    · have hb : hasB low n = false := by simp [hasB, c3]; omega
      have ha : askE low 0 n = 6 := by simp [askE, hb]
      have ha' : askE (raiseX ⟨1, 1, 0, [], 0, [], 0⟩ low).low 0 n = 6 := by rw [hl]; exact ha
      have hbl : hasB low low = false := by simp [hasB]
      simp only [go_sem, c3, w, c4]
      refine at_ok W2 H3 (by omega) 0 n ?_ (fun h => absurd (ha'.symm.trans h) (by decide)) (fun h => absurd (ha'.symm.trans h) (by decide))
      intro _ σ4 H4
      simp only [go_sem, has_ok W2 H4, low_ok W2 H4, hl, ha, hb, hbl]
      refine moves_ok H4 (by omega) ?_
      intro σ5 H5
      simp only [go_sem]
      exact k _ H5.right
  · have hb : hasB low n = false := by simp [hasB, c3]
    have ha : askE low 0 n = 6 := by simp [askE, hb]
    have ha' : askE (raiseX ⟨1, 1, 0, [], 0, [], 0⟩ low).low 0 n = 6 := by rw [hl]; exact ha
    have hbl : hasB low low = false := by simp [hasB]
    simp only [go_sem, c3]
    refine at_ok W2 H3 (by omega) 0 n ?_ (fun h => absurd (ha'.symm.trans h) (by decide)) (fun h => absurd (ha'.symm.trans h) (by decide))
    intro _ σ4 H4
    simp only [go_sem, has_ok W2 H4, low_ok W2 H4, hl, ha, hb, hbl]
    refine moves_ok H4 (by omega) ?_
    intro σ5 H5
    simp only [go_sem]
    exact k _ H5.right

end Go.Proofs.Ytmgacgonoodkfaa
