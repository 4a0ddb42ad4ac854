/- The slot's reference: its votes in the order in which they came. Its answers of one replica, and how many. -/
import Derived.Test.YtmgacgonoodkfaaSP
import Derived.Test.YtmgacgonoodkfaaSlRef
namespace Go.Proofs.Ytmgacgonoodkfaa
open Go.AM
set_option maxRecDepth 100000
set_option linter.unusedSimpArgs false
set_option linter.unusedVariables false
variable {N d : Nat} {σ : St} {K : AV → St → Option Unit}

theorem voz (v : Vo) : v.cells.length = 4 := rfl
theorem voat {V : List Vo} {i : Nat} {v : Vo} (h : V[i]? = some v) (junk : List AV) : (V.flatMap Vo.cells ++ junk)[i * 4]? = some (.int .i64 v.kd) ∧ (V.flatMap Vo.cells ++ junk)[i * 4 + 1]? = some (.int .i64 v.no) ∧ (V.flatMap Vo.cells ++ junk)[i * 4 + 2]? = some (.str v.text) ∧ (V.flatMap Vo.cells ++ junk)[i * 4 + 3]? = some (.str v.tag) := by
  have q : ∀ j, j < 4 → (V.flatMap Vo.cells ++ junk)[i * 4 + j]? = v.cells[j]? := fun j hj => flatMap_get voz hj h junk
  exact ⟨q 0 (by omega), q 1 (by omega), q 2 (by omega), q 3 (by omega)⟩

def RefP (w : Nat) (g f p : Int) (L : List Vo) (h : Hp) : Prop :=
  ∃ o c hl, Vec 4 (.slice o L.length c 4) L.length (L.flatMap Vo.cells) hl ∧ h = (w, .cells [.int .i64 g, .int .i64 f, .int .i64 p, .slice o L.length c 4] true) :: hl
def vo0 : Vo := ⟨0, 0, ByteArray.mk #[], ByteArray.mk #[]⟩
def rown (L : List Vo) (k no : Int) : Option Vo := L.find? fun v => v.kd == k && v.no == no
def rcnt (L : List Vo) (k : Int) : Nat := L.countP fun v => v.kd == k

theorem rnew_ok {r : Hp} (H : HasH σ r) (g f p : Int) (he : newE g f p = 0) (kont : ∀ σ' w h, RefP w g f p [] h → HasH σ' (h ++ r) → K (.tuple [.ptr (some (w, 0)), .int .i64 0]) σ' = some ()) :
    callK Try.prog N ann (d + 1) 23 [.int .i64 g, .int .i64 f, .int .i64 p] σ K = some () := by
  rw [callK_succ, f23_eq]
  have hx : ¬ (g < 0 ∨ 4 < g ∨ f < 0 ∨ 3 < f ∨ p < 0 ∨ 3 * f < p) := by
    unfold newE at he; split at he <;> simp_all
  have c1 : ¬ g < 0 := by omega
  have c2 : ¬ 4 < g := by omega
  have c3 : ¬ f < 0 := by omega
  have c4 : ¬ 3 < f := by omega
  have c5 : ¬ p < 0 := by omega
  have c6 : ¬ 3 * f < p := by omega
  have hw : IntKind.i64.wrap (3 * f) = 3 * f := wrap_small (n := 3 * f) (by omega) (by omega)
  simp only [go_sem, c1, c2, c3, c4, c5, c6, hw]
  exact kont _ _ _ ⟨none, some 0, [], by simpa using Vec.nil 4, rfl⟩ (H.new _)

theorem rnew_bad {r : Hp} (H : HasH σ r) (g f p : Int) (he : newE g f p = 1) (kont : K (.tuple [.ptr none, .int .i64 1]) σ = some ()) :
    callK Try.prog N ann (d + 1) 23 [.int .i64 g, .int .i64 f, .int .i64 p] σ K = some () := by
  rw [callK_succ, f23_eq]
  have hx : g < 0 ∨ 4 < g ∨ f < 0 ∨ 3 < f ∨ p < 0 ∨ 3 * f < p := by
    unfold newE at he; split at he <;> simp_all
  by_cases c1 : g < 0
  · simp only [go_sem, c1]; exact kont
  by_cases c2 : 4 < g
  · simp only [go_sem, c1, c2]; exact kont
  by_cases c3 : f < 0
  · simp only [go_sem, c1, c2, c3]; exact kont
  by_cases c4 : 3 < f
  · simp only [go_sem, c1, c2, c3, c4]; exact kont
  by_cases c5 : p < 0
  · simp only [go_sem, c1, c2, c3, c4, c5]; exact kont
  have hw : IntKind.i64.wrap (3 * f) = 3 * f := wrap_small (n := 3 * f) (by omega) (by omega)
  have c6 : 3 * f < p := by omega
  simp only [go_sem, c1, c2, c3, c4, c5, c6, hw]; exact kont

section
variable {L : List Vo} {o : Option (Nat × Nat)} {c : Option Nat} {hl r : Hp} {J : KF Unit} {b2 : Nat}

theorem rown_loop (hL : L.length ≤ 300) (hV : Vec 4 (.slice o L.length c 4) L.length (L.flatMap Vo.cells) hl) (k no : Int) :
    ∀ (m i n : Nat) (σ : St), m + i = L.length → m < n → HasH σ ((b2, .cells vo0.cells true) :: (hl ++ r)) →
      (∀ σ' v, rown (L.drop i) k no = some v → HasH σ' ((b2, .cells v.cells true) :: (hl ++ r)) → J .ret (f27e13 b2 true) σ' = some ()) →
      (∀ σ', rown (L.drop i) k no = none → HasH σ' ((b2, .cells vo0.cells true) :: (hl ++ r)) → J (.exit 0) (f27e6 b2) σ' = some ()) →
      loopK (f27L7 (callK Try.prog N ann d) N) f27a7 n J (f27e4 k no b2 o L.length c L.length i) σ = some () := by
  intro m
  induction m with
  | zero =>
    intro i n σ hm hn H k1 k2
    obtain ⟨n, rfl⟩ : ∃ n', n = n' + 1 := ⟨n - 1, by omega⟩
    have h1 : ((i:Int) < L.length) = False := eq_false (by omega)
    rw [loopK_succ]
    simp only [go_sem, h1]
    exact k2 σ (by rw [List.drop_eq_nil_of_le (by omega)]; rfl) H
  | succ m ih =>
    intro i n σ hm hn H k1 k2
    obtain ⟨n, rfl⟩ : ∃ n', n = n' + 1 := ⟨n - 1, by omega⟩
    have h0 : ((0:Int) ≤ i) = True := eq_true (by omega)
    have h1 : ((i:Int) < L.length) = True := eq_true (by omega)
    have hti : ((i:Int)).toNat = i := by omega
    have hw1 : IntKind.i64.wrap ((i:Int) + 1) = (i:Int) + 1 := wrap_small (n := (i:Int) + 1) (by omega) (by omega)
    obtain ⟨v, hv⟩ : ∃ v, L[i]? = some v := ⟨_, List.getElem?_eq_getElem (by omega)⟩
    have hd : L.drop i = v :: L.drop (i + 1) := by
      rw [List.drop_eq_getElem_cons (by omega)]; congr 1; rw [List.getElem?_eq_getElem (by omega)] at hv; exact Option.some.inj hv
    obtain ⟨-, bl, junk, rfl, rfl, -⟩ := hV.row (by omega)
    obtain ⟨q0, q1, q2, q3⟩ := voat hv junk
    have hgb : σ.get bl = _ := H.tail.g1
    have nb : (bl = σ.next) = False := eq_false (by have := H.tail.l1; omega)
    have H2 := (H.new (.cells [.int .i64 0, .int .i64 0, .str (ByteArray.mk #[]), .str (ByteArray.mk #[])] true)).put (.cells v.cells true)
    have g1 := H2.g1
    have g2 := H2.g2
    have n1 := H2.n12
    simp only [Vo.cells, vo0] at g1 g2
    rw [loopK_succ]
    simp only [go_sem, h1, h0, hti, hgb, nb, q0, q1, q2, q3]
    by_cases ck : v.kd = k
    · by_cases cn : v.no = no
      · subst ck cn
        simp only [go_sem, g1, g2, decide_true, n1]
        have e : rown (L.drop i) v.kd v.no = some v := by rw [hd]; simp [rown]
        refine k1 _ v e ?_
        exact (H2.tail.put _)
      · have cn' : (v.no == no) = false := by simpa using cn
        subst ck
        simp only [go_sem, g1, g2, decide_true, cn', n1, hw1]
        have e : rown (L.drop i) v.kd no = rown (L.drop (i + 1)) v.kd no := by rw [hd]; simp [rown, cn']
        rw [e] at k1 k2
        exact ih (i + 1) n _ (by omega) (by omega) H2.tail k1 k2
    · have ck' : (v.kd == k) = false := by simpa using ck
      simp only [go_sem, g1, g2, decide_true, ck', n1, hw1]
      have e : rown (L.drop i) k no = rown (L.drop (i + 1)) k no := by rw [hd]; simp [rown, ck']
      rw [e] at k1 k2
      exact ih (i + 1) n _ (by omega) (by omega) H2.tail k1 k2

end

theorem rown_ok {w : Nat} {g f p : Int} {L : List Vo} {h r : Hp} (hR : RefP w g f p L h) (hL : L.length ≤ 300) (H : HasH σ (h ++ r)) (hN : 400 ≤ N) (k no : Int)
    (kont : ∀ σ', HasH σ' (h ++ r) → K (.tuple [.agg ((rown L k no).getD vo0).cells, .bool (rown L k no).isSome]) σ' = some ()) :
    callK Try.prog N ann (d + 1) 27 [.ptr (some (w, 0)), .int .i64 k, .int .i64 no] σ K = some () := by
  obtain ⟨o, c, hl, hV, rfl⟩ := hR
  have hg : σ.get w = _ := H.g1
  have nw : (w = σ.next) = False := eq_false (by have := H.l1; omega)
  have H1 := H.new (.cells vo0.cells true)
  rw [callK_succ, f27_eq]
  simp only [go_sem, hg, nw]
  refine rown_loop (hl := hl) (r := (w, _) :: r) hL hV k no L.length 0 N _ (by omega) (by omega) (H1.perm (List.Perm.cons _ List.perm_middle.symm)) ?_ ?_
  · intro σ' v e H'
    rw [List.drop_zero] at e
    rw [e] at kont
    have g1 := H'.g1
    simp only [Vo.cells] at g1
    simp only [go_sem, g1]
    exact kont σ' (H'.tail.perm List.perm_middle)
  · intro σ' e H'
    rw [List.drop_zero] at e
    rw [e] at kont
    have H2 := H'.put (.cells vo0.cells true)
    have g1 := H'.g1
    simp only [Vo.cells, vo0] at g1
    simp only [go_sem, g1]
    exact kont _ (H2.tail.perm List.perm_middle)

end Go.Proofs.Ytmgacgonoodkfaa
