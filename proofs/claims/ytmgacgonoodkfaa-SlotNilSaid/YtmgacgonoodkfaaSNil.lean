/- A nil slot has no votes: the law's walk. -/
import Derived.Test.YtmgacgonoodkfaaSS6
import Derived.Test.YtmgacgonoodkfaaSlNil
namespace Go.Proofs.Ytmgacgonoodkfaa
open Go.AM
set_option maxRecDepth 100000
set_option linter.unusedSimpArgs false
set_option linter.unusedVariables false
variable {N d : Nat} {σ : St} {K : AV → St → Option Unit}

theorem nil_ok {r : Hp} (H : HasH σ r) (hN : 100 ≤ N) (kd no : Int) (text tag : ByteArray) (k : ∀ σ', HasH σ' r → K (.bool true) σ' = some ()) :
    callK Try.prog N ann (d + 6) 7 [.agg [.int .i64 kd, .int .i64 no, .str text, .str tag]] σ K = some () := by
  have H1 := H.new (.cells [.int .i64 kd, .int .i64 no, .str text, .str tag] true)
  have g1 := H1.g1
  rw [callK_succ, f7_eq]
  simp only [go_sem]
  refine vote_nil kd no text tag ?_
  intro e he
  simp only [go_sem]
  refine proposal_nil ?_
  simp only [go_sem]
  refine cert_nil H1 kd ?_
  rintro σ2 v ⟨ht, o, c, rfl, hT⟩ H2
  have H3 := ((H2.new (.cells [.str (ByteArray.mk #[]), .int .i64 0, .slice none 0 (some 0) 2] true)).put (.cells [.str (ByteArray.mk #[]), .int .i64 0, .slice o 0 c 2] true)).tail
  have g3 := H3.g1
  simp only [go_sem, g3]
  refine own_nil H3 kd no ?_
  intro σ4 H4
  have g4 := H4.g1
  simp only [go_sem, g4]
  have hkB : kindB kd = false ↔ (kd < 1 ∨ 2 < kd) := by simp [kindB]; omega
  by_cases c1 : kd < 1
  · have e1 : e = 1 := by rw [he, if_pos (.inl (hkB.2 (.inl c1)))]
    subst e1
    simp only [go_sem, c1, g4]
    refine votes_nil (by omega) kd ?_
    simp only [go_sem]
    refine three_ok H4 (by omega) ?_
    intro σ5 H5
    simp only [go_sem]
    exact k _ H5.tail
  by_cases c2 : 2 < kd
  · have e1 : e = 1 := by rw [he, if_pos (.inl (hkB.2 (.inr c2)))]
    subst e1
    simp only [go_sem, c1, c2, g4]
    refine votes_nil (by omega) kd ?_
    simp only [go_sem]
    refine three_ok H4 (by omega) ?_
    intro σ5 H5
    simp only [go_sem]
    exact k _ H5.tail
  by_cases c3 : no < 0
  · have e1 : e = 1 := by rw [he, if_pos (.inr c3)]
    subst e1
    simp only [go_sem, c1, c2, c3, g4]
    refine votes_nil (by omega) kd ?_
    simp only [go_sem]
    refine three_ok H4 (by omega) ?_
    intro σ5 H5
    simp only [go_sem]
    exact k _ H5.tail
  have n1 : ¬ (kindB kd = false ∨ no < 0) := by rw [hkB]; omega
  rw [if_neg n1] at he
  by_cases c4 : 30000 < text.size
  · have e1 : e = 2 := by rw [he, if_pos c4]
    subst e1
    have c4' : ((30000 : Int) < text.size) = True := eq_true (by omega)
    simp only [go_sem, c1, c2, c3, c4', g4]
    refine votes_nil (by omega) kd ?_
    simp only [go_sem]
    refine three_ok H4 (by omega) ?_
    intro σ5 H5
    simp only [go_sem]
    exact k _ H5.tail
  have c4' : ((30000 : Int) < text.size) = False := eq_false (by omega)
  rw [if_neg c4] at he
  by_cases c5 : tag.size ≠ 16
  · have e1 : e = 4 := by rw [he, if_pos c5]
    subst e1
    have c5' : ((tag.size : Int) != 16) = true := by simp; omega
    simp only [go_sem, c1, c2, c3, c4', c5', g4]
    refine votes_nil (by omega) kd ?_
    simp only [go_sem]
    refine three_ok H4 (by omega) ?_
    intro σ5 H5
    simp only [go_sem]
    exact k _ H5.tail
  have c5' : ((tag.size : Int) != 16) = false := by simp; omega
  have e1 : e = 7 := by rw [he, if_neg c5]
  subst e1
  · simp only [go_sem, c1, c2, c3, c4', c5', g4]
    refine votes_nil (by omega) kd ?_
    simp only [go_sem]
    refine three_ok H4 (by omega) ?_
    intro σ5 H5
    simp only [go_sem]
    exact k _ H5.tail

theorem nil_law {a : Vo} (H : HasH σ []) (hN : 100 ≤ N) (k : ∀ σ', HasH σ' [] → K (.bool true) σ' = some ()) : callK Try.prog N ann (d + 6) 7 [.agg a.cells] σ K = some () :=
  nil_ok H hN _ _ _ _ k

end Go.Proofs.Ytmgacgonoodkfaa
