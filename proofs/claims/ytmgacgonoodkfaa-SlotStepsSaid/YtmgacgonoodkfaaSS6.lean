/- The small case that each law of the slot asks. -/
import Derived.Test.YtmgacgonoodkfaaSS5
import Derived.Test.YtmgacgonoodkfaaSlThree
namespace Go.Proofs.Ytmgacgonoodkfaa
open Go.AM
set_option maxRecDepth 100000
set_option linter.unusedSimpArgs false
set_option linter.unusedVariables false
variable {N d : Nat} {σ : St} {K : AV → St → Option Unit}

abbrev tg : ByteArray := ByteArray.mk #[48, 49, 50, 51, 52, 53, 54, 55, 56, 57, 97, 98, 99, 100, 101, 102]
abbrev ta : ByteArray := ByteArray.mk #[97]

theorem tag_eq : callK Try.prog N ann (d + 1) 44 [] σ K = K (.str tg) σ := by
  rw [callK_succ, f44_eq]
  simp only [go_sem]

theorem three_ok {r : Hp} (H : HasH σ r) (hN : 100 ≤ N) (k : ∀ σ', HasH σ' r → K (.bool true) σ' = some ()) :
    callK Try.prog N ann (d + 5) 19 [] σ K = some () := by
  have e0 : newE 2 1 0 = 0 := by decide
  have v0 : voteC (newX 2 1 0) 1 0 ta tg = true := by kernel_rfl
  have u0 : voteF (newX 2 1 0) 1 0 ta tg = 0 := by kernel_rfl
  have v1 : voteC (voteX (newX 2 1 0) 1 0 ta tg) 1 1 ta tg = true := by kernel_rfl
  have u1 : voteF (voteX (newX 2 1 0) 1 0 ta tg) 1 1 ta tg = 0 := by kernel_rfl
  have v2 : voteC (voteX (voteX (newX 2 1 0) 1 0 ta tg) 1 1 ta tg) 1 2 ta tg = true := by kernel_rfl
  have u2 : voteF (voteX (voteX (newX 2 1 0) 1 0 ta tg) 1 1 ta tg) 1 2 ta tg = 0 := by kernel_rfl
  have c3 : (voteX (voteX (voteX (newX 2 1 0) 1 0 ta tg) 1 1 ta tg) 1 2 ta tg).cert 1 = some (ta, [(0, tg), (1, tg), (2, tg)]) := by kernel_rfl
  have g3 : (voteX (voteX (voteX (newX 2 1 0) 1 0 ta tg) 1 1 ta tg) 1 2 ta tg).g = 2 := by kernel_rfl
  have n3 : (voteX (voteX (voteX (newX 2 1 0) 1 0 ta tg) 1 1 ta tg) 1 2 ta tg).cnt 1 = 3 := by kernel_rfl
  have w0 : IntKind.i64.wrap 1 = 1 := by decide
  have w1 : IntKind.i64.wrap 2 = 2 := by decide
  have w2 : IntKind.i64.wrap 3 = 3 := by decide
  obtain ⟨n, rfl⟩ : ∃ n, N = n + 4 := ⟨N - 4, by omega⟩
  rw [callK_succ, f19_eq]
  simp only [go_sem]
  refine new_ok H (by omega) 2 1 0 e0 ?_
  intro σ1 s h hS H1
  simp only [go_sem]
  rw [loopK_succ]
  simp only [go_sem, tag_eq]
  refine vote_ok hS H1 1 0 ta tg ?_
  rw [v0, u0]
  intro σ2 h2 hS2 H2
  simp only [go_sem, w0]
  rw [loopK_succ]
  simp only [go_sem, tag_eq]
  refine vote_ok hS2 H2 1 1 ta tg ?_
  rw [v1, u1]
  intro σ3 h3 hS3 H3
  simp only [go_sem, w1]
  rw [loopK_succ]
  simp only [go_sem, tag_eq]
  refine vote_ok hS3 H3 1 2 ta tg ?_
  rw [v2, u2]
  intro σ4 h4 hS4 H4
  simp only [go_sem, w2]
  rw [loopK_succ]
  simp only [go_sem]
  refine cert_ok hS4 H4 (by omega) 1 ?_
  rw [c3, g3]
  intro σ5 v ht hv H5
  obtain ⟨o, c, rfl, hT⟩ := hv
  have H6 := (H5.new (.cells [.str (ByteArray.mk #[]), .int .i64 0, .slice none 0 (some 0) 2] true)).put (.cells [.str ta, .int .i64 2, .slice o 3 c 2] true)
  have gc := H6.g1
  simp only [go_sem, gc, decide_true, show ((3 : Nat) : Int) == 3 from rfl]
  refine votes_ok hS4 H6.tail (by omega) 1 ?_
  rw [n3]
  intro σ7 H7
  simp only [go_sem, show ((3 : Nat) : Int) == 3 from rfl]
  exact k _ H7.right.right

end Go.Proofs.Ytmgacgonoodkfaa
