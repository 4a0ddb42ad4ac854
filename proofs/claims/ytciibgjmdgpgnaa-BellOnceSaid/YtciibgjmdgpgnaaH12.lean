/- Comparing lists of numbers; the closed small case. -/
import Derived.Test.YtciibgjmdgpgnaaH10
import Derived.Test.YtciibgjmdgpgnaaBeThree
namespace Go.Proofs.Ytciibgjmdgpgnaa
open Go.AM
set_option maxRecDepth 100000
set_option linter.unusedSimpArgs false
set_option linter.unusedVariables false
variable {N d : Nat} {dem : Bool} {σ : St} {K : AV → St → Option Unit}

def IA (σ : St) (o : Option (Nat × Nat)) (xs : List Int) : Prop := xs = [] ∨ ∃ (b : Nat) (cs : List AV) (own : Bool), o = some (b, 0) ∧ σ.get b = some (.cells cs own) ∧ ∀ (i : Nat) (x : Int), xs[i]? = some x → cs[i]? = some (AV.int .i64 x)

theorem IA.of {o : Option (Nat × Nat)} {c : Option Nat} {xs : List Int} {hv r : Hp} (W : Vec 1 (.slice o xs.length c 1) xs.length (ints xs) hv) (H : HasH σ (hv ++ r)) : IA σ o xs := by
  by_cases h : xs = []
  · exact Or.inl h
  · obtain ⟨_, bk, junk, rfl, rfl, _⟩ := W.row (by intro e; exact h (List.eq_nil_of_length_eq_zero e))
    refine Or.inr ⟨bk, _, _, rfl, H.g1, ?_⟩
    intro i x hx
    have hi : i < (ints xs).length := by
      have := (List.getElem?_eq_some_iff.1 hx).1
      simpa [ints] using this
    rw [List.getElem?_append_left hi]
    simp [ints, hx]

theorem IA.get {o : Option (Nat × Nat)} {xs : List Int} (h : IA σ o xs) {i : Nat} {x : Int} (hx : xs[i]? = some x) : ∃ b, o = some (b, 0) ∧ σ.ld b i = some (.int .i64 x) := by
  rcases h with rfl | ⟨b, cs, own, h1, h2, h3⟩
  · simp at hx
  · exact ⟨b, h1, by rw [St.ld_of σ h2]; exact h3 i x hx⟩

theorem ints_loop {xs ys : List Int} {o1 o2 : Option (Nat × Nat)} {c1 c2 : Option Nat} {J : KF Unit} (h1 : IA σ o1 xs) (h2 : IA σ o2 ys) (hx : xs.length ≤ 2 ^ 40) :
    ∀ (m i k : Nat), i + m = xs.length → m < k → (∀ j, j < i → xs[j]? = ys[j]?) → (xs ≠ ys → J .ret (f19e11 false) σ = some ()) →
      ((∀ j, j < xs.length → xs[j]? = ys[j]?) → J (.exit 0) (f19e0 o1 xs.length c1 o2 ys.length c2) σ = some ()) →
      loopK (f19L7 (callK Try.prog N ann d) dem N) f19a7 k J (f19e3 o1 xs.length c1 o2 ys.length c2 xs.length (i : Int)) σ = some () := by
  intro m
  induction m with
  | zero =>
    intro i k hi hk hp kf kt
    obtain ⟨k, rfl⟩ : ∃ k', k = k' + 1 := ⟨k - 1, by omega⟩
    rw [loopK_succ]
    have e1 : decide ((i : Int) < (xs.length : Int)) = false := decide_eq_false (by omega)
    simp only [go_sem, e1]
    exact kt (fun j hj => hp j (by omega))
  | succ m ih =>
    intro i k hi hk hp kf kt
    obtain ⟨k, rfl⟩ : ∃ k', k = k' + 1 := ⟨k - 1, by omega⟩
    rw [loopK_succ]
    have e1 : decide ((i : Int) < (xs.length : Int)) = true := decide_eq_true (by omega)
    have hxi : xs[i]? = some xs[i] := by simp
    by_cases hy : ys.length ≤ i
    · have e2 : decide ((i : Int) ≥ (ys.length : Int)) = true := decide_eq_true (by omega)
      simp only [go_sem, e1, e2]
      exact kf (fun e => by rw [e] at hi; omega)
    · have e2 : decide ((i : Int) ≥ (ys.length : Int)) = false := decide_eq_false (by omega)
      have hyi : ys[i]? = some (ys[i]'(by omega)) := by simp
      obtain ⟨b1, rfl, l1⟩ := h1.get hxi
      obtain ⟨b2, rfl, l2⟩ := h2.get hyi
      have i0 : ((0:Int) ≤ (i : Int)) = True := eq_true (by omega)
      have i1 : ((i : Int) < (xs.length : Int)) = True := eq_true (by omega)
      have i2 : ((i : Int) < (ys.length : Int)) = True := eq_true (by omega)
      have ti : ((i : Int)).toNat = i := by omega
      have w : IntKind.i64.wrap ((i : Int) + 1) = ((i + 1 : Nat) : Int) := by rw [wrap_small (by omega) (by omega)]; omega
      by_cases he : xs[i] = ys[i]'(by omega)
      · have e3 : (xs[i] != ys[i]'(by omega)) = false := by simp [he]
        simp only [go_sem, e2, i0, i1, i2, ti, Nat.mul_one, Nat.zero_add, l1, l2, e3, w]
        refine ih (i + 1) k (by omega) (by omega) ?_ kf kt
        intro j hj
        by_cases hji : j = i
        · subst hji; rw [hxi, hyi, he]
        · exact hp j (by omega)
      · have e3 : (xs[i] != ys[i]'(by omega)) = true := by simp [he]
        simp only [go_sem, e2, i0, i1, i2, ti, Nat.mul_one, Nat.zero_add, l1, l2, e3]
        exact kf (fun e => he (by subst e; rfl))

theorem ints_ok {xs ys : List Int} {o1 o2 : Option (Nat × Nat)} {c1 c2 : Option Nat} (h1 : IA σ o1 xs) (h2 : IA σ o2 ys) (hx : xs.length ≤ 2 ^ 40) (hN : xs.length < N)
    (kont : K (.bool (decide (xs = ys))) σ = some ()) : callK Try.prog N ann (d + 1) dem 19 [.slice o1 xs.length c1 1, .slice o2 ys.length c2 1] σ K = some () := by
  rw [go 19, f19_eq]
  simp only [go_sem]
  refine ints_loop (i := 0) h1 h2 hx xs.length N (by omega) (by omega) (by intro j hj; omega) ?_ ?_
  · intro hne
    have e : decide (xs = ys) = false := decide_eq_false hne
    rw [e] at kont
    simp only [go_sem]
    exact kont
  · intro hall
    by_cases hl : xs.length = ys.length
    · have e : xs = ys := by
        apply List.ext_getElem? 
        intro j
        by_cases hj : j < xs.length
        · exact hall j hj
        · rw [List.getElem?_eq_none (by omega), List.getElem?_eq_none (by omega)]
      have e2 : decide (xs = ys) = true := decide_eq_true e
      have e3 : ((xs.length : Int) == (ys.length : Int)) = true := by simp [hl]
      rw [e2] at kont
      simp only [go_sem, e3]
      exact kont
    · have e2 : decide (xs = ys) = false := decide_eq_false (fun e => hl (by rw [e]))
      have e3 : ((xs.length : Int) == (ys.length : Int)) = false := by simp; omega
      rw [e2] at kont
      simp only [go_sem, e3]
      exact kont

end Go.Proofs.Ytciibgjmdgpgnaa

namespace Go.Proofs.Ytciibgjmdgpgnaa
open Go.AM
set_option maxRecDepth 100000
set_option linter.unusedSimpArgs false
set_option linter.unusedVariables false
variable {N d : Nat} {dem : Bool} {σ : St} {K : AV → St → Option Unit}

def D3 : List Int := [-1, 5, 4, 5, -1, -1, -1, -1, -1, -1, -1, -1, -1, -1, -1, -1]
theorem three_rings : TickD 5 D3 [2, 1, 3] (List.replicate 16 (-1)) :=
  TickD.step (k := 2) (by decide) (by decide) (by decide) (by decide)
    (TickD.step (k := 1) (by decide) (by decide) (by decide) (by decide)
      (TickD.step (k := 3) (by decide) (by decide) (by decide) (by decide)
        (TickD.stop (by decide))))

theorem three_ok {r : Hp} (H : HasH σ r) (hN : 10 < N) (kont : ∀ σ', HasH σ' r → K (.bool true) σ' = some ()) : callK Try.prog N ann (d + 6) dem 8 [] σ K = some () := by
  rw [go 8, f8_eq]
  simp only [go_sem, new_eq]
  refine set_ok (d := d + 1) (L := []) (V := V0) (hv := []) (r := r) (now := 0) (turn := 0) BI0 (by simp) (by simp; omega) (by omega) (by decide) (Vec.nil 4) (H.new _) (by decide) ?_
  intro σ1 o1 c1 hv1 L1 t1 l1 I1 W1 H1
  simp only [go_sem]
  refine set_ok (d := d + 1) I1 (by rw [l1]; simp) (by rw [l1]; simp; omega) (by omega) (by decide) W1 H1 (by decide) ?_
  intro σ2 o2 c2 hv2 L2 t2 l2 I2 W2 H2
  simp only [go_sem]
  refine set_ok (d := d + 1) I2 (by rw [l2, l1]; simp) (by rw [l2, l1]; simp; omega) (by omega) (by decide) W2 H2 (by decide) ?_
  intro σ3 o3 c3 hv3 L3 t3 l3 I3 W3 H3
  simp only [go_sem]
  refine tick_ok (d := d) I3 (by rw [l3, l2, l1]; simp) (by rw [l3, l2, l1]; simp; omega) (by omega) W3 H3 (by decide) (by decide) ?_
  intro σ4 o4 c4 hv4 V4 L4 ms oo cc vv l4 I4 T4 _ W4 WW H4
  simp only [go_sem]
  have hd : dues (((V0.set (3:Int).toNat ⟨3, 0 + 5, 5, t1⟩).set (1:Int).toNat ⟨1, 0 + 5, 5, t2⟩).set (2:Int).toNat ⟨2, 0 + 4, 4, t3⟩) = D3 := by
    rw [dues_set, dues_set, dues_set]; rfl
  rw [hd] at T4
  obtain ⟨rfl, _⟩ := three_rings.det T4
  have H5 := H4.new (.cells [.int .i64 2, .int .i64 1, .int .i64 3] true)
  have iaA : IA (σ4.new (.cells [.int .i64 2, .int .i64 1, .int .i64 3] true)) oo [2, 1, 3] := IA.of WW (H5.tail.perm (perm1 _ _ _ _))
  have iaB : IA (σ4.new (.cells [.int .i64 2, .int .i64 1, .int .i64 3] true)) (some (σ4.next, 0)) [2, 1, 3] := by
    refine Or.inr ⟨_, _, _, rfl, H5.g1, ?_⟩
    intro i x hx
    match i with
    | 0 => simpa using hx
    | 1 => simpa using hx
    | 2 => simpa using hx
    | i + 3 => simp at hx
  refine ints_ok (xs := [2, 1, 3]) (ys := [2, 1, 3]) iaA iaB (by simp) (by simp; omega) ?_
  have e1 : decide (([2, 1, 3] : List Int) = [2, 1, 3]) = true := by decide
  simp only [go_sem, e1]
  have hb := H5.tail.g1
  rw [now_eq hb]
  have e2 : (((0:Int) + 5) == 5) = true := by decide
  simp only [go_sem, e2]
  refine kont _ ?_
  have H6 := H5.tail.tail
  rw [← List.append_assoc] at H6
  exact H6.sub (List.sublist_append_right _ _)

end Go.Proofs.Ytciibgjmdgpgnaa
