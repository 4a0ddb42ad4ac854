/- The slot answers as its reference does: two certificates are the same. -/
import Derived.Test.YtmgacgonoodkfaaSStP
import Derived.Test.YtmgacgonoodkfaaSlSteps
namespace Go.Proofs.Ytmgacgonoodkfaa
open Go.AM
set_option maxRecDepth 100000
set_option linter.unusedSimpArgs false
set_option linter.unusedVariables false
variable {N d : Nat} {σ : St} {K : AV → St → Option Unit}

theorem tat {T : List (Nat × ByteArray)} {i : Nat} {t : Nat × ByteArray} (h : T[i]? = some t) (junk : List AV) : (tflat T ++ junk)[i * 2]? = some (.int .i64 t.1) ∧ (tflat T ++ junk)[i * 2 + 1]? = some (.str t.2) := by
  have hz : ∀ t : Nat × ByteArray, (tcells t).length = 2 := fun _ => rfl
  have q : ∀ j, j < 2 → (tflat T ++ junk)[i * 2 + j]? = (tcells t)[j]? := fun j hj => flatMap_get hz hj h junk
  exact ⟨q 0 (by omega), q 1 (by omega)⟩

theorem same_loop {text : ByteArray} {g : Int} {T : List (Nat × ByteArray)} {o1 o2 : Option (Nat × Nat)} {c1 c2 : Option Nat} {h1 h2 r : Hp} {J : KF Unit} {a b : Nat} (hT : T.length ≤ 100)
    (V1 : Vec 2 (.slice o1 T.length c1 2) T.length (tflat T) h1) (V2 : Vec 2 (.slice o2 T.length c2 2) T.length (tflat T) h2) :
    ∀ (m i n : Nat) (σ : St), m + i = T.length → m < n →
      HasH σ ((b, .cells [.str text, .int .i64 g, .slice o2 T.length c2 2] true) :: (a, .cells [.str text, .int .i64 g, .slice o1 T.length c1 2] true) :: (h1 ++ (h2 ++ r))) →
      (J (.exit 0) f30e12 σ = some ()) →
      loopK (f30L15 (callK Try.prog N ann d) N) f30a15 n J (f30e10 a b T.length i) σ = some () := by
  intro m
  induction m with
  | zero =>
    intro i n σ hm hn H kont
    obtain ⟨n, rfl⟩ : ∃ n', n = n' + 1 := ⟨n - 1, by omega⟩
    have q1 : ((i:Int) < T.length) = False := eq_false (by omega)
    rw [loopK_succ]
    simp only [go_sem, q1]
    exact kont
  | succ m ih =>
    intro i n σ hm hn H kont
    obtain ⟨n, rfl⟩ : ∃ n', n = n' + 1 := ⟨n - 1, by omega⟩
    have q0 : ((0:Int) ≤ i) = True := eq_true (by omega)
    have q1 : ((i:Int) < T.length) = True := eq_true (by omega)
    have hti : ((i:Int)).toNat = i := by omega
    have hw1 : IntKind.i64.wrap ((i:Int) + 1) = (i:Int) + 1 := wrap_small (n := (i:Int) + 1) (by omega) (by omega)
    obtain ⟨t, ht⟩ : ∃ t, T[i]? = some t := ⟨_, List.getElem?_eq_getElem (by omega)⟩
    obtain ⟨-, x1, j1, rfl, rfl, -⟩ := V1.row (by omega)
    obtain ⟨-, x2, j2, rfl, rfl, -⟩ := V2.row (by omega)
    obtain ⟨p0, p1⟩ := tat ht j1
    obtain ⟨r0, r1⟩ := tat ht j2
    have gb := H.g1
    have ga := H.g2
    have g1 : σ.get x1 = _ := H.tail.tail.g1
    have g2 : σ.get x2 = _ := H.tail.tail.g2
    have e1 : ((t.1 : Int) != t.1) = false := by simp
    rw [loopK_succ]
    simp only [go_sem, q1, q0, hti, ga, gb, g1, g2, p0, p1, r0, r1, e1, decide_true, hw1]
    exact ih (i + 1) n σ (by omega) (by omega) H kont

theorem same_ok {text : ByteArray} {g : Int} {T : List (Nat × ByteArray)} {v w : AV} {h1 h2 r : Hp} (hT : T.length ≤ 100)
    (V1 : CertV g text T v h1) (V2 : CertV g text T w h2) (hN : 400 ≤ N) (H : HasH σ (h1 ++ (h2 ++ r)))
    (kont : ∀ σ', HasH σ' (h1 ++ (h2 ++ r)) → K (.bool true) σ' = some ()) :
    callK Try.prog N ann (d + 1) 30 [v, w] σ K = some () := by
  obtain ⟨o1, c1, rfl, W1⟩ := V1
  obtain ⟨o2, c2, rfl, W2⟩ := V2
  have H1 := (H.new (.cells [.str text, .int .i64 g, .slice o1 T.length c1 2] true)).new (.cells [.str text, .int .i64 g, .slice o2 T.length c2 2] true)
  have g1 := H1.g1
  have g2 := H1.g2
  simp only [St.next_new] at g1 g2
  have nd := H1.n12
  have e1 : (g != g) = false := by simp
  have e2 : ((T.length : Int) != T.length) = false := by simp
  rw [callK_succ, f30_eq]
  simp only [go_sem, g1, g2, e1, e2, decide_true]
  refine same_loop hT W1 W2 T.length 0 N _ (by omega) (by omega) H1 ?_
  simp only [go_sem]
  exact kont _ H1.tail.tail

end Go.Proofs.Ytmgacgonoodkfaa
