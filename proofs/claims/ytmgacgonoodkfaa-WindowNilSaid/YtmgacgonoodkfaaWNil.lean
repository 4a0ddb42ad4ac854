/- A nil window has no numbers: the law's walk. -/
import Derived.Test.YtmgacgonoodkfaaW8
import Derived.Test.YtmgacgonoodkfaaWiNil
namespace Go.Proofs.Ytmgacgonoodkfaa
open Go.AM
set_option maxRecDepth 100000
set_option linter.unusedSimpArgs false
set_option linter.unusedVariables false
variable {N d : Nat} {σ : St} {K : AV → St → Option Unit}

theorem nil_law (H : HasH σ []) (hN : 100 ≤ N) {v n : Int} (k : ∀ σ', HasH σ' [] → K (.bool true) σ' = some ()) : callK Try.prog N ann (d + 5) true 11 [.int .i64 v, .int .i64 n] σ K = some () := by
  rw [go 11 (by decide), f11_eq]
  simp only [go_sem]
  refine at_nil v n ?_
  simp only [go_sem]
  refine note_nil H v n (ByteArray.mk #[]) 0 ?_
  intro σ1 H1
  simp only [go_sem]
  refine raise_nil n H1 ?_
  intro σ2 H2
  simp only [go_sem]
  refine best_nil H2 n ?_
  intro σ3 H3
  by_cases c1 : v < 0
  · by_cases c3 : n < 0
    · have q3 : ((0:Int) ≤ n) = False := eq_false (by omega)
      simp only [go_sem, c1, c3, q3, true_or, or_true, or_false, false_or, or_self, has_nil]
      refine leave_nil v ((H3.new _).put _).tail ?_
      intro σ4 H4
      simp only [go_sem, low_nil, slots_nil]
      refine moves_ok H4 (by omega) ?_
      intro σ5 H5
      simp only [go_sem]
      exact k _ H5
    by_cases c4 : 1099511627768 < n
    · have q3 : ((0:Int) ≤ n) = True := eq_true (by omega)
      have q4 : (n ≤ (1099511627768:Int)) = False := eq_false (by omega)
      simp only [go_sem, c1, c3, c4, q3, q4, true_or, or_true, or_false, false_or, or_self, has_nil]
      refine leave_nil v ((H3.new _).put _).tail ?_
      intro σ4 H4
      simp only [go_sem, low_nil, slots_nil]
      refine moves_ok H4 (by omega) ?_
      intro σ5 H5
      simp only [go_sem]
      exact k _ H5
    · have q3 : ((0:Int) ≤ n) = True := eq_true (by omega)
      have q4 : (n ≤ (1099511627768:Int)) = True := eq_true (by omega)
      simp only [go_sem, c1, c3, c4, q3, q4, true_or, or_true, or_false, false_or, or_self, has_nil]
      refine leave_nil v ((H3.new _).put _).tail ?_
      intro σ4 H4
      simp only [go_sem, low_nil, slots_nil]
      refine moves_ok H4 (by omega) ?_
      intro σ5 H5
      simp only [go_sem]
      exact k _ H5
  by_cases c2 : 1099511627776 < v
  · by_cases c3 : n < 0
    · have q3 : ((0:Int) ≤ n) = False := eq_false (by omega)
      simp only [go_sem, c1, c2, c3, q3, true_or, or_true, or_false, false_or, or_self, has_nil]
      refine leave_nil v ((H3.new _).put _).tail ?_
      intro σ4 H4
      simp only [go_sem, low_nil, slots_nil]
      refine moves_ok H4 (by omega) ?_
      intro σ5 H5
      simp only [go_sem]
      exact k _ H5
    by_cases c4 : 1099511627768 < n
    · have q3 : ((0:Int) ≤ n) = True := eq_true (by omega)
      have q4 : (n ≤ (1099511627768:Int)) = False := eq_false (by omega)
      simp only [go_sem, c1, c2, c3, c4, q3, q4, true_or, or_true, or_false, false_or, or_self, has_nil]
      refine leave_nil v ((H3.new _).put _).tail ?_
      intro σ4 H4
      simp only [go_sem, low_nil, slots_nil]
      refine moves_ok H4 (by omega) ?_
      intro σ5 H5
      simp only [go_sem]
      exact k _ H5
    · have q3 : ((0:Int) ≤ n) = True := eq_true (by omega)
      have q4 : (n ≤ (1099511627768:Int)) = True := eq_true (by omega)
      simp only [go_sem, c1, c2, c3, c4, q3, q4, true_or, or_true, or_false, false_or, or_self, has_nil]
      refine leave_nil v ((H3.new _).put _).tail ?_
      intro σ4 H4
      simp only [go_sem, low_nil, slots_nil]
      refine moves_ok H4 (by omega) ?_
      intro σ5 H5
      simp only [go_sem]
      exact k _ H5
  · by_cases c3 : n < 0
    · have q3 : ((0:Int) ≤ n) = False := eq_false (by omega)
      simp only [go_sem, c1, c2, c3, q3, true_or, or_true, or_false, false_or, or_self, has_nil]
      refine leave_nil v ((H3.new _).put _).tail ?_
      intro σ4 H4
      simp only [go_sem, low_nil, slots_nil]
      refine moves_ok H4 (by omega) ?_
      intro σ5 H5
      simp only [go_sem]
      exact k _ H5
    by_cases c4 : 1099511627768 < n
    · have q3 : ((0:Int) ≤ n) = True := eq_true (by omega)
      have q4 : (n ≤ (1099511627768:Int)) = False := eq_false (by omega)
      simp only [go_sem, c1, c2, c3, c4, q3, q4, true_or, or_true, or_false, false_or, or_self, has_nil]
      refine leave_nil v ((H3.new _).put _).tail ?_
      intro σ4 H4
      simp only [go_sem, low_nil, slots_nil]
      refine moves_ok H4 (by omega) ?_
      intro σ5 H5
      simp only [go_sem]
      exact k _ H5
    · have q3 : ((0:Int) ≤ n) = True := eq_true (by omega)
      have q4 : (n ≤ (1099511627768:Int)) = True := eq_true (by omega)
      simp only [go_sem, c1, c2, c3, c4, q3, q4, true_or, or_true, or_false, false_or, or_self, has_nil]
      refine leave_nil v ((H3.new _).put _).tail ?_
      intro σ4 H4
      simp only [go_sem, low_nil, slots_nil]
      refine moves_ok H4 (by omega) ?_
      intro σ5 H5
      simp only [go_sem]
      exact k _ H5

end Go.Proofs.Ytmgacgonoodkfaa
