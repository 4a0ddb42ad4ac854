/- Comparing lists of numbers; the closed small case. -/
import Derived.Test.YtciibgjmdgpgnaaH10
import Derived.Test.YtciibgjmdgpgnaaBeThree
namespace Go.Proofs.Ytciibgjmdgpgnaa
open Go.AM
set_option maxRecDepth 100000
set_option linter.unusedSimpArgs false
set_option linter.unusedVariables false
variable {N d : Nat} {dem : Bool} {σ : St} {K : AV → St → Option Unit}

def IA (σ : St) (o : Option (Nat × Nat)) (xs : List Int) : Prop := xs = [] ∨ ∃ (b : Nat) (cs : List AV) (own : Bool), o = some (b, 0) ∧ σ.get b = some (.cells cs own) ∧ ∀ (i : Nat) (x : Int), xs[i]? = some x → cs[i]? = some (AV.int .i64 x)

theorem IA.of {o : Option (Nat × Nat)} {c : Option Nat} {xs : List Int} {hv r : Hp} (W : Vec 1 (.slice o xs.length c 1) xs.length (ints xs) hv) (H : HasH σ (hv ++ r)) : IA σ o xs := by
  by_cases h : xs = []
  · exact Or.inl h
  · obtain ⟨_, bk, junk, rfl, rfl, _⟩ := W.row (by intro e; exact h (List.eq_nil_of_length_eq_zero e))
    refine Or.inr ⟨bk, _, _, rfl, H.g1, ?_⟩
    intro i x hx
    have hi : i < (ints xs).length := by
      have := (List.getElem?_eq_some_iff.1 hx).1
      simpa [ints] using this
    rw [List.getElem?_append_left hi]
    simp [ints, hx]

theorem IA.get {o : Option (Nat × Nat)} {xs : List Int} (h : IA σ o xs) {i : Nat} {x : Int} (hx : xs[i]? = some x) : ∃ b, o = some (b, 0) ∧ σ.ld b i = some (.int .i64 x) := by
  rcases h with rfl | ⟨b, cs, own, h1, h2, h3⟩
  · simp at hx
  · exact ⟨b, h1, by rw [St.ld_of σ h2]; exact h3 i x hx⟩

theorem ints_loop {xs ys : List Int} {o1 o2 : Option (Nat × Nat)} {c1 c2 : Option Nat} {J : KF Unit} (h1 : IA σ o1 xs) (h2 : IA σ o2 ys) (hx : xs.length ≤ 2 ^ 40) :
    ∀ (m i k : Nat), i + m = xs.length → m < k → (∀ j, j < i → xs[j]? = ys[j]?) → (xs ≠ ys → J .ret (f19e11 false) σ = some ()) →
      ((∀ j, j < xs.length → xs[j]? = ys[j]?) → J (.exit 0) (f19e0 o1 xs.length c1 o2 ys.length c2) σ = some ()) →
      loopK (f19L7 (callK Try.prog N ann d) dem N) f19a7 k J (f19e3 o1 xs.length c1 o2 ys.length c2 xs.length (i : Int)) σ = some () := by
  intro m
  induction m with
  | zero =>
    intro i k hi hk hp kf kt
    obtain ⟨k, rfl⟩ : ∃ k', k = k' + 1 := ⟨k - 1, by omega⟩
    rw [loopK_succ]
    have e1 : decide ((i : Int) < (xs.length : Int)) = false := decide_eq_false (by omega)
    simp only [go_sem, e1]
    exact kt (fun j hj => hp j (by omega))
  | succ m ih =>
    intro i k hi hk hp kf kt
    obtain ⟨k, rfl⟩ : ∃ k', k = k' + 1 := ⟨k - 1, by omega⟩
    rw [loopK_succ]
    have e1 : decide ((i : Int) < (xs.length : Int)) = true := decide_eq_true (by omega)
    have hxi : xs[i]? = some xs[i] := by simp
    by_cases hy : ys.length ≤ i
    · have e2 : decide ((i : Int) ≥ (ys.length : Int)) = true := decide_eq_true (by omega)
      simp only [go_sem, e1, e2]
      exact kf (fun e => by rw [e] at hi; omega)
    · have e2 : decide ((i : Int) ≥ (ys.length : Int)) = false := decide_eq_false (by omega)
      have hyi : ys[i]? = some (ys[i]'(by omega)) := by simp
      obtain ⟨b1, rfl, l1⟩ := h1.get hxi
      obtain ⟨b2, rfl, l2⟩ := h2.get hyi
      have i0 : ((0:Int) ≤ (i : Int)) = True := eq_true (by omega)
      have i1 : ((i : Int) < (xs.length : Int)) = True := eq_true (by omega)
      have i2 : ((i : Int) < (ys.length : Int)) = True := eq_true (by omega)
      have ti : ((i : Int)).toNat = i := by omega
      have w : IntKind.i64.wrap ((i : Int) + 1) = ((i + 1 : Nat) : Int) := by rw [wrap_small (by omega) (by omega)]; omega
      by_cases he : xs[i] = ys[i]'(by omega)
      · have e3 : (xs[i] != ys[i]'(by omega)) = false := by simp [he]
        simp only [go_sem, e2, i0, i1, i2, ti, Nat.mul_one, Nat.zero_add, l1, l2, e3, w]
        refine ih (i + 1) k (by omega) (by omega) ?_ kf kt
        intro j hj
        by_cases hji : j = i
        · subst hji; rw [hxi, hyi, he]
        · exact hp j (by omega)
      · have e3 : (xs[i] != ys[i]'(by omega)) = true := by simp [he]
        simp only [go_sem, e2, i0, i1, i2, ti, Nat.mul_one, Nat.zero_add, l1, l2, e3]
        exact kf (fun e => he (by subst e; rfl))

theorem ints_ok {xs ys : List Int} {o1 o2 : Option (Nat × Nat)} {c1 c2 : Option Nat} (h1 : IA σ o1 xs) (h2 : IA σ o2 ys) (hx : xs.length ≤ 2 ^ 40) (hN : xs.length < N)
    (kont : K (.bool (decide (xs = ys))) σ = some ()) : callK Try.prog N ann (d + 1) dem 19 [.slice o1 xs.length c1 1, .slice o2 ys.length c2 1] σ K = some () := by
  rw [go 19, f19_eq]
  simp only [go_sem]
  refine ints_loop (i := 0) h1 h2 hx xs.length N (by omega) (by omega) (by intro j hj; omega) ?_ ?_
  · intro hne
    have e : decide (xs = ys) = false := decide_eq_false hne
    rw [e] at kont
    simp only [go_sem]
    exact kont
  · intro hall
    by_cases hl : xs.length = ys.length
    · have e : xs = ys := by
        apply List.ext_getElem? 
        intro j
        by_cases hj : j < xs.length
        · exact hall j hj
        · rw [List.getElem?_eq_none (by omega), List.getElem?_eq_none (by omega)]
      have e2 : decide (xs = ys) = true := decide_eq_true e
      have e3 : ((xs.length : Int) == (ys.length : Int)) = true := by simp [hl]
      rw [e2] at kont
      simp only [go_sem, e3]
      exact kont
    · have e2 : decide (xs = ys) = false := decide_eq_false (fun e => hl (by rw [e]))
      have e3 : ((xs.length : Int) == (ys.length : Int)) = false := by simp; omega
      rw [e2] at kont
      simp only [go_sem, e3]
      exact kont

end Go.Proofs.Ytciibgjmdgpgnaa
