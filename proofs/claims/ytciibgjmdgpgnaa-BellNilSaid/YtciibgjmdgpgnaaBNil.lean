/- BellNil: the walk. -/
import Derived.Test.YtciibgjmdgpgnaaH12
import Derived.Test.YtciibgjmdgpgnaaBeNil
namespace Go.Proofs.Ytciibgjmdgpgnaa
open Go.AM
set_option maxRecDepth 100000
set_option linter.unusedSimpArgs false
set_option linter.unusedVariables false
variable {N d : Nat} {dem : Bool} {σ : St} {K : AV → St → Option Unit}

theorem nil_law (H : HasH σ []) (hN : 10 < N) {name n : Int} (k : ∀ σ', HasH σ' [] → K (.bool true) σ' = some ()) : callK Try.prog N ann (d + 7) dem 6 [.int .i64 name, .int .i64 n] σ K = some () := by
  rw [go 6, f6_eq]
  have fin : ∀ K' : AV → St → Option Unit, (∀ σ', HasH σ' [] → K' (.bool true) σ' = some ()) → callK Try.prog N ann (d + 6) dem 8 [] σ K' = some () := fun K' h => three_ok H hN h
  by_cases hn : 0 ≤ name ∧ name ≤ 15
  · have e := nm_t hn
    have q1 : decide (name ≥ 0) = true := decide_eq_true hn.1
    have q2 : decide (name ≤ 15) = true := decide_eq_true hn.2
    by_cases h1 : 1 ≤ n
    · by_cases h2 : n ≤ 4096
      · have q3 : decide (n ≥ 1) = true := decide_eq_true h1
        have q4 : decide (n ≤ 4096) = true := decide_eq_true h2
        have q5 : decide (n ≥ 0) = true := decide_eq_true (by omega)
        simp only [go_sem, off_nil e, double_nil e, tick_nil ⟨show 0 ≤ n by omega, h2⟩, next_nil (show 0 < N by omega), due_nil, now_nil, q1, q2, q3, q4, q5, set_nil ⟨hn.1, hn.2, h1, h2⟩]
        refine fin _ ?_
        intro σ' H'
        simp only [go_sem]
        exact k _ H'
      · have q3 : decide (n ≥ 1) = true := decide_eq_true h1
        have q4 : decide (n ≤ 4096) = false := decide_eq_false h2
        have q5 : decide (n ≥ 0) = true := decide_eq_true (by omega)
        simp only [go_sem, off_nil e, double_nil e, tick_bad (.inr (show n > 4096 by omega)), next_nil (show 0 < N by omega), due_nil, now_nil, q1, q2, q3, q4, q5, set_bad (show ¬ (0 ≤ name ∧ name ≤ 15 ∧ 1 ≤ n ∧ n ≤ 4096) by omega)]
        refine fin _ ?_
        intro σ' H'
        simp only [go_sem]
        exact k _ H'
    · by_cases h2 : 0 ≤ n
      · have q3 : decide (n ≥ 1) = false := decide_eq_false h1
        have q4 : decide (n ≤ 4096) = true := decide_eq_true (by omega)
        have q5 : decide (n ≥ 0) = true := decide_eq_true (by omega)
        simp only [go_sem, off_nil e, double_nil e, tick_nil ⟨h2, show n ≤ 4096 by omega⟩, next_nil (show 0 < N by omega), due_nil, now_nil, q1, q2, q3, q4, q5, set_bad (show ¬ (0 ≤ name ∧ name ≤ 15 ∧ 1 ≤ n ∧ n ≤ 4096) by omega)]
        refine fin _ ?_
        intro σ' H'
        simp only [go_sem]
        exact k _ H'
      · have q3 : decide (n ≥ 1) = false := decide_eq_false h1
        have q5 : decide (n ≥ 0) = false := decide_eq_false h2
        simp only [go_sem, off_nil e, double_nil e, tick_bad (.inl (show n < 0 by omega)), next_nil (show 0 < N by omega), due_nil, now_nil, q1, q2, q3, q5, set_bad (show ¬ (0 ≤ name ∧ name ≤ 15 ∧ 1 ≤ n ∧ n ≤ 4096) by omega)]
        refine fin _ ?_
        intro σ' H'
        simp only [go_sem]
        exact k _ H'
  · have e := nm_f hn
    have hb' := fun K : AV → St → Option Unit => set_bad (N := N) (d := d + 4) (dem := dem) (σ := σ) (K := K) (p := none) (name := name) (span := n) (show ¬ (0 ≤ name ∧ name ≤ 15 ∧ 1 ≤ n ∧ n ≤ 4096) by omega)
    by_cases h2 : 0 ≤ n ∧ n ≤ 4096
    · have q4 : decide (n ≤ 4096) = true := decide_eq_true h2.2
      have q5 : decide (n ≥ 0) = true := decide_eq_true h2.1
      by_cases hz : 0 ≤ name
      · have q1 : decide (name ≥ 0) = true := decide_eq_true hz
        have q2 : decide (name ≤ 15) = false := decide_eq_false (by omega)
        by_cases h1 : 1 ≤ n
        · have q3 : decide (n ≥ 1) = true := decide_eq_true h1
          simp only [go_sem, off_bad e, double_bad e, tick_nil h2, next_nil (show 0 < N by omega), due_nil, now_nil, q1, q2, q3, q4, q5, hb']
          refine fin _ ?_
          intro σ' H'
          simp only [go_sem]
          exact k _ H'
        · have q3 : decide (n ≥ 1) = false := decide_eq_false h1
          simp only [go_sem, off_bad e, double_bad e, tick_nil h2, next_nil (show 0 < N by omega), due_nil, now_nil, q1, q2, q3, q4, q5, hb']
          refine fin _ ?_
          intro σ' H'
          simp only [go_sem]
          exact k _ H'
      · have q1 : decide (name ≥ 0) = false := decide_eq_false hz
        by_cases h1 : 1 ≤ n
        · have q3 : decide (n ≥ 1) = true := decide_eq_true h1
          simp only [go_sem, off_bad e, double_bad e, tick_nil h2, next_nil (show 0 < N by omega), due_nil, now_nil, q1, q3, q4, q5, hb']
          refine fin _ ?_
          intro σ' H'
          simp only [go_sem]
          exact k _ H'
        · have q3 : decide (n ≥ 1) = false := decide_eq_false h1
          simp only [go_sem, off_bad e, double_bad e, tick_nil h2, next_nil (show 0 < N by omega), due_nil, now_nil, q1, q3, q4, q5, hb']
          refine fin _ ?_
          intro σ' H'
          simp only [go_sem]
          exact k _ H'
    · have hbt : n < 0 ∨ n > 4096 := by omega
      by_cases h1 : 1 ≤ n
      · have q3 : decide (n ≥ 1) = true := decide_eq_true h1
        have q4 : decide (n ≤ 4096) = false := decide_eq_false (by omega)
        have q5 : decide (n ≥ 0) = true := decide_eq_true (by omega)
        by_cases hz : 0 ≤ name
        · have q1 : decide (name ≥ 0) = true := decide_eq_true hz
          have q2 : decide (name ≤ 15) = false := decide_eq_false (by omega)
          simp only [go_sem, off_bad e, double_bad e, tick_bad hbt, next_nil (show 0 < N by omega), due_nil, now_nil, q1, q2, q3, q4, q5, hb']
          refine fin _ ?_
          intro σ' H'
          simp only [go_sem]
          exact k _ H'
        · have q1 : decide (name ≥ 0) = false := decide_eq_false hz
          simp only [go_sem, off_bad e, double_bad e, tick_bad hbt, next_nil (show 0 < N by omega), due_nil, now_nil, q1, q3, q4, q5, hb']
          refine fin _ ?_
          intro σ' H'
          simp only [go_sem]
          exact k _ H'
      · have q3 : decide (n ≥ 1) = false := decide_eq_false h1
        have q5 : decide (n ≥ 0) = false := decide_eq_false (by omega)
        by_cases hz : 0 ≤ name
        · have q1 : decide (name ≥ 0) = true := decide_eq_true hz
          have q2 : decide (name ≤ 15) = false := decide_eq_false (by omega)
          simp only [go_sem, off_bad e, double_bad e, tick_bad hbt, next_nil (show 0 < N by omega), due_nil, now_nil, q1, q2, q3, q5, hb']
          refine fin _ ?_
          intro σ' H'
          simp only [go_sem]
          exact k _ H'
        · have q1 : decide (name ≥ 0) = false := decide_eq_false hz
          simp only [go_sem, off_bad e, double_bad e, tick_bad hbt, next_nil (show 0 < N by omega), due_nil, now_nil, q1, q3, q5, hb']
          refine fin _ ?_
          intro σ' H'
          simp only [go_sem]
          exact k _ H'

end Go.Proofs.Ytciibgjmdgpgnaa
