/- The reference bell in memory: named, Set, Off, Double, Next. -/
import Derived.Test.YtciibgjmdgpgnaaH12
import Derived.Test.YtciibgjmdgpgnaaBeRef
namespace Go.Proofs.Ytciibgjmdgpgnaa
open Go.AM
set_option maxRecDepth 100000
set_option linter.unusedSimpArgs false
set_option linter.unusedVariables false
variable {N d : Nat} {dem : Bool} {σ : St} {K : AV → St → Option Unit}

def rb (now : Int) (D S : List Int) : List AV := ints (now :: (D ++ S))
theorem rb_len {now : Int} {D S : List Int} (hD : D.length = 16) (hS : S.length = 16) : (rb now D S).length = 33 := by simp [rb, ints, hD, hS]
theorem gi_at {D : List Int} {k : Nat} (h : k < D.length) : D[k]? = some (gi D k) := by simp [gi, h]
theorem rb_now (now : Int) (D S : List Int) : (rb now D S)[0]? = some (.int .i64 now) := rfl
theorem rb_due {now : Int} {D S : List Int} (hD : D.length = 16) {k : Nat} (hk : k < 16) : (rb now D S)[1 + k]? = some (.int .i64 (gi D k)) := by
  unfold rb ints
  rw [List.getElem?_map, Nat.add_comm, List.getElem?_cons_succ, List.getElem?_append_left (by omega), gi_at (by omega)]
  rfl
theorem rb_span {now : Int} {D S : List Int} (hD : D.length = 16) (hS : S.length = 16) {k : Nat} (hk : k < 16) : (rb now D S)[17 + k]? = some (.int .i64 (gi S k)) := by
  unfold rb ints
  rw [List.getElem?_map, show 17 + k = (16 + k) + 1 by omega, List.getElem?_cons_succ, List.getElem?_append_right (by omega), hD, show 16 + k - 16 = k by omega, gi_at (by omega)]
  rfl
theorem ints_splice (R : List Int) {i : Nat} (hi : i < R.length) (x : Int) : St.splice (ints R) i [.int .i64 x] = ints (R.set i x) := by
  unfold St.splice ints
  rw [List.set_eq_take_append_cons_drop, if_pos hi]
  simp
theorem rb_set_now (now : Int) (D S : List Int) (x : Int) : St.splice (rb now D S) 0 [.int .i64 x] = rb x D S := by
  unfold rb
  rw [ints_splice _ (by simp)]
  rfl
theorem rb_set_due {now : Int} {D S : List Int} (hD : D.length = 16) {k : Nat} (hk : k < 16) (x : Int) : St.splice (rb now D S) (1 + k) [.int .i64 x] = rb now (D.set k x) S := by
  unfold rb
  rw [ints_splice _ (by simp; omega), Nat.add_comm, List.set_cons_succ, List.set_append_left _ _ (by omega)]
theorem rb_set_span {now : Int} {D S : List Int} (hD : D.length = 16) (hS : S.length = 16) {k : Nat} (hk : k < 16) (x : Int) : St.splice (rb now D S) (17 + k) [.int .i64 x] = rb now D (S.set k x) := by
  unfold rb
  rw [ints_splice _ (by simp; omega), show 17 + k = (16 + k) + 1 by omega, List.set_cons_succ, List.set_append_right _ _ (by omega), hD, show 16 + k - 16 = k by omega]

theorem rnamed_eq (n : Int) : callK Try.prog N ann (d + 1) dem 31 [.int .i64 n] σ K = K (.bool (nm n)) σ := by
  rw [go 31, f31_eq]
  by_cases h : 0 ≤ n
  · have e : decide (n ≥ 0) = true := decide_eq_true h
    have e2 : nm n = decide (n ≤ 15) := by simp [nm, h]
    simp only [go_sem, e, e2]
  · have e : decide (n ≥ 0) = false := decide_eq_false h
    have e2 : nm n = false := by simp [nm, h]
    simp only [go_sem, e, e2]

theorem rset_bad {p : Option (Nat × Nat)} {name span : Int} (h : ¬ (0 ≤ name ∧ name ≤ 15 ∧ 1 ≤ span ∧ span ≤ 4096)) :
    callK Try.prog N ann (d + 2) dem 25 [.ptr p, .int .i64 name, .int .i64 span] σ K = K (.int .i64 1) σ := by
  rw [go 25, f25_eq]
  by_cases h1 : 0 ≤ name ∧ name ≤ 15
  · have e : nm name = true := nm_t h1
    by_cases h2 : span < 1
    · have e2 : decide (span < 1) = true := decide_eq_true h2
      simp only [go_sem, rnamed_eq, e, e2]
    · have e2 : decide (span < 1) = false := decide_eq_false h2
      have e3 : decide (span > 4096) = true := decide_eq_true (by omega)
      simp only [go_sem, rnamed_eq, e, e2, e3]
  · have e : nm name = false := nm_f h1
    simp only [go_sem, rnamed_eq, e]

theorem rset_ok {w : Nat} {now : Int} {D S : List Int} {r : Hp} (hD : D.length = 16) (hS : S.length = 16) (h0 : 0 ≤ now) (h1 : now ≤ 2 ^ 40) (H : HasH σ ((w, .cells (rb now D S) true) :: r))
    {name span : Int} (h : 0 ≤ name ∧ name ≤ 15 ∧ 1 ≤ span ∧ span ≤ 4096)
    (kont : ∀ σ', HasH σ' ((w, .cells (rb now (D.set name.toNat (now + span)) (S.set name.toNat span)) true) :: r) → K (.int .i64 0) σ' = some ()) :
    callK Try.prog N ann (d + 2) dem 25 [.ptr (some (w, 0)), .int .i64 name, .int .i64 span] σ K = some () := by
  rw [go 25, f25_eq]
  have hb : σ.get w = _ := H.g1
  have e : nm name = true := nm_t ⟨h.1, h.2.1⟩
  have e2 : decide (span < 1) = false := decide_eq_false (by omega)
  have e3 : decide (span > 4096) = false := decide_eq_false (by omega)
  have i0 : ((0:Int) ≤ name) = True := eq_true h.1
  have i1 : (name < (16:Int)) = True := eq_true (by omega)
  have wr : IntKind.i64.wrap (now + span) = now + span := wrap_small (by omega) (by omega)
  have hk : name.toNat < 16 := by omega
  have l1 := rb_len (now := now) hD hS
  have l2 := rb_len (now := now) (D := D.set name.toNat (now + span)) (by simpa using hD) hS
  have k1 : (1 + name.toNat + (0 + 1) ≤ 33) = True := eq_true (by omega)
  have k2 : (17 + name.toNat + (0 + 1) ≤ 33) = True := eq_true (by omega)
  have s1 := rb_set_due (now := now) (S := S) hD hk (now + span)
  have s2 := rb_set_span (now := now) (D := D.set name.toNat (now + span)) (by simpa using hD) hS hk span
  simp only [go_sem, rnamed_eq, e, e2, e3, hb, i0, i1, wr, rb_now, Nat.mul_one, l1, l2, k1, k2, s1, s2]
  exact kont _ ((H.put _).put _)

end Go.Proofs.Ytciibgjmdgpgnaa

namespace Go.Proofs.Ytciibgjmdgpgnaa
open Go.AM
set_option maxRecDepth 100000
set_option linter.unusedSimpArgs false
set_option linter.unusedVariables false
variable {N d : Nat} {dem : Bool} {σ : St} {K : AV → St → Option Unit}

theorem roff_bad {p : Option (Nat × Nat)} {n : Int} (h : nm n = false) : callK Try.prog N ann (d + 2) dem 26 [.ptr p, .int .i64 n] σ K = K (.tuple [.bool false, .int .i64 1]) σ := by
  rw [go 26, f26_eq]
  simp only [go_sem, rnamed_eq, h]

theorem roff_ok {w : Nat} {now : Int} {D S : List Int} {r : Hp} (hD : D.length = 16) (hS : S.length = 16) (H : HasH σ ((w, .cells (rb now D S) true) :: r)) {n : Int} (h : nm n = true)
    (kont : ∀ σ', HasH σ' ((w, .cells (rb now (D.set n.toNat (-1)) S) true) :: r) → K (.tuple [.bool (decide (gi D n.toNat ≥ 0)), .int .i64 0]) σ' = some ()) :
    callK Try.prog N ann (d + 2) dem 26 [.ptr (some (w, 0)), .int .i64 n] σ K = some () := by
  rw [go 26, f26_eq]
  have hb : σ.get w = _ := H.g1
  have hh : 0 ≤ n ∧ n ≤ 15 := of_decide_eq_true h
  have i0 : ((0:Int) ≤ n) = True := eq_true hh.1
  have i1 : (n < (16:Int)) = True := eq_true (by omega)
  have hk : n.toNat < 16 := by omega
  have l1 := rb_len (now := now) hD hS
  have g := rb_due (now := now) (S := S) hD hk
  have k1 : (1 + n.toNat + (0 + 1) ≤ 33) = True := eq_true (by omega)
  have s1 := rb_set_due (now := now) (S := S) hD hk (-1)
  simp only [go_sem, rnamed_eq, h, hb, i0, i1, Nat.mul_one, g, l1, k1, s1]
  exact kont _ (H.put _)

theorem rdouble_bad {p : Option (Nat × Nat)} {n : Int} (h : nm n = false) : callK Try.prog N ann (d + 2) dem 27 [.ptr p, .int .i64 n] σ K = K (.tuple [.int .i64 0, .int .i64 1]) σ := by
  rw [go 27, f27_eq]
  simp only [go_sem, rnamed_eq, h]

theorem rdouble_dead {w : Nat} {now : Int} {D S : List Int} {own : Bool} (hD : D.length = 16) (hg : σ.get w = some (.cells (rb now D S) own)) {n : Int} (h : nm n = true) (hl : gi D n.toNat < 0) :
    callK Try.prog N ann (d + 2) dem 27 [.ptr (some (w, 0)), .int .i64 n] σ K = K (.tuple [.int .i64 0, .int .i64 6]) σ := by
  rw [go 27, f27_eq]
  have hh : 0 ≤ n ∧ n ≤ 15 := of_decide_eq_true h
  have i0 : ((0:Int) ≤ n) = True := eq_true hh.1
  have i1 : (n < (16:Int)) = True := eq_true (by omega)
  have hk : n.toNat < 16 := by omega
  have g := rb_due (now := now) (S := S) hD hk
  have e : decide (gi D n.toNat < 0) = true := decide_eq_true hl
  simp only [go_sem, rnamed_eq, h, hg, i0, i1, Nat.mul_one, g, e]

theorem rdouble_live {w : Nat} {now : Int} {D S : List Int} {r : Hp} (hD : D.length = 16) (hS : S.length = 16) (h0 : 0 ≤ now) (h1 : now ≤ 2 ^ 40) (H : HasH σ ((w, .cells (rb now D S) true) :: r)) {n : Int} (h : nm n = true) (hl : 0 ≤ gi D n.toNat)
    (hs1 : 1 ≤ gi S n.toNat) (hs2 : gi S n.toNat ≤ 4096)
    (kont : ∀ σ', HasH σ' ((w, .cells (rb now (D.set n.toNat (now + dbl (gi S n.toNat))) (S.set n.toNat (dbl (gi S n.toNat)))) true) :: r) → K (.tuple [.int .i64 (dbl (gi S n.toNat)), .int .i64 0]) σ' = some ()) :
    callK Try.prog N ann (d + 3) dem 27 [.ptr (some (w, 0)), .int .i64 n] σ K = some () := by
  rw [go 27, f27_eq]
  have hb : σ.get w = _ := H.g1
  have hh : 0 ≤ n ∧ n ≤ 15 := of_decide_eq_true h
  have i0 : ((0:Int) ≤ n) = True := eq_true hh.1
  have i1 : (n < (16:Int)) = True := eq_true (by omega)
  have hk : n.toNat < 16 := by omega
  have g := rb_due (now := now) (S := S) hD hk
  have g2 := rb_span (now := now) hD hS hk
  have e : decide (gi D n.toNat < 0) = false := decide_eq_false (by omega)
  have w1 : IntKind.i64.wrap (2 * gi S n.toNat) = 2 * gi S n.toNat := wrap_small (by omega) (by omega)
  by_cases h2 : 2 * gi S n.toNat > 4096
  · have e2 : decide (2 * gi S n.toNat > 4096) = true := decide_eq_true h2
    have hw : dbl (gi S n.toNat) = 4096 := by unfold dbl; rw [if_neg (by omega)]
    rw [hw] at kont
    simp only [go_sem, rnamed_eq, h, hb, i0, i1, Nat.mul_one, g, g2, e, w1, e2]
    refine rset_ok hD hS h0 h1 H ⟨hh.1, hh.2, by omega, by omega⟩ ?_
    intro σ' H'
    simp only [go_sem]
    exact kont σ' H'
  · have e2 : decide (2 * gi S n.toNat > 4096) = false := decide_eq_false h2
    have hw : dbl (gi S n.toNat) = 2 * gi S n.toNat := by unfold dbl; split <;> omega
    rw [hw] at kont
    simp only [go_sem, rnamed_eq, h, hb, i0, i1, Nat.mul_one, g, g2, e, w1, e2]
    refine rset_ok hD hS h0 h1 H ⟨hh.1, hh.2, by omega, by omega⟩ ?_
    intro σ' H'
    simp only [go_sem]
    exact kont σ' H'

theorem rnew_loop {w : Nat} {r : Hp} {S : List Int} {J : KF Unit} (hS : S.length = 16) :
    ∀ (m i k : Nat) (σ : St) (D : List Int), i + m = 16 → m < k → D.length = 16 → (∀ j, j < i → gi D j = -1) → HasH σ ((w, .cells (rb 0 D S) true) :: r) →
      (∀ σ' D', D'.length = 16 → (∀ j, j < 16 → gi D' j = -1) → HasH σ' ((w, .cells (rb 0 D' S) true) :: r) → J (.exit 0) (f15e3 w) σ' = some ()) →
      loopK (f15L9 (callK Try.prog N ann d) dem N) f15a9 k J (f15e4 w (i : Int)) σ = some () := by
  intro m
  induction m with
  | zero =>
    intro i k σ D hi hk hD hp H kont
    obtain ⟨k, rfl⟩ : ∃ k', k = k' + 1 := ⟨k - 1, by omega⟩
    rw [loopK_succ]
    have e1 : decide ((i : Int) < 16) = false := decide_eq_false (by omega)
    simp only [go_sem, e1]
    exact kont σ D hD (fun j hj => hp j (by omega)) H
  | succ m ih =>
    intro i k σ D hi hk hD hp H kont
    obtain ⟨k, rfl⟩ : ∃ k', k = k' + 1 := ⟨k - 1, by omega⟩
    rw [loopK_succ]
    have hb : σ.get w = _ := H.g1
    have e1 : decide ((i : Int) < 16) = true := decide_eq_true (by omega)
    have i0 : ((0:Int) ≤ (i : Int)) = True := eq_true (by omega)
    have i1 : ((i : Int) < (16:Int)) = True := eq_true (by omega)
    have ti : ((i : Int)).toNat = i := by omega
    have hki : i < 16 := by omega
    have l1 := rb_len (now := 0) hD hS
    have k1 : (1 + i + (0 + 1) ≤ 33) = True := eq_true (by omega)
    have s1 := rb_set_due (now := 0) (S := S) hD hki (-1)
    have w4 : IntKind.i64.wrap ((i : Int) + 1) = ((i + 1 : Nat) : Int) := by rw [wrap_small (by omega) (by omega)]; omega
    simp only [go_sem, i0, i1, ti, Nat.mul_one, hb, l1, k1, s1, w4]
    refine ih (i + 1) k _ (D.set i (-1)) (by omega) (by omega) (by simpa using hD) ?_ (H.put _) kont
    intro j hj
    rw [gi_set (by omega)]
    by_cases hji : j = i
    · rw [if_pos hji]
    · rw [if_neg hji]; exact hp j (by omega)

def NextR (D : List Int) (i : Nat) (x : Int) : Prop := (x = -1 ∧ ∀ k, k < i → gi D k < 0) ∨ (∃ k, k < i ∧ gi D k = x ∧ 0 ≤ x ∧ ∀ j, j < i → gi D j < 0 ∨ x ≤ gi D j)

theorem rnext_loop {w : Nat} {now : Int} {own : Bool} {D S : List Int} {J : KF Unit} (hD : D.length = 16) (hg : σ.get w = some (.cells (rb now D S) own)) :
    ∀ (m i k : Nat) (x : Int), i + m = 16 → m < k → NextR D i x → (∀ x', NextR D 16 x' → J (.exit 0) (f18e6 x') σ = some ()) →
      loopK (f18L9 (callK Try.prog N ann d) dem N) f18a9 k J (f18e3 (some (w, 0)) x (i : Int)) σ = some () := by
  intro m
  induction m with
  | zero =>
    intro i k x hi hk hx kont
    obtain ⟨k, rfl⟩ : ∃ k', k = k' + 1 := ⟨k - 1, by omega⟩
    rw [loopK_succ]
    have e1 : decide ((i : Int) < 16) = false := decide_eq_false (by omega)
    obtain rfl : i = 16 := by omega
    simp only [go_sem, e1]
    exact kont x hx
  | succ m ih =>
    intro i k x hi hk hx kont
    obtain ⟨k, rfl⟩ : ∃ k', k = k' + 1 := ⟨k - 1, by omega⟩
    rw [loopK_succ]
    have e1 : decide ((i : Int) < 16) = true := decide_eq_true (by omega)
    have i0 : ((0:Int) ≤ (i : Int)) = True := eq_true (by omega)
    have i1 : ((i : Int) < (16:Int)) = True := eq_true (by omega)
    have ti : ((i : Int)).toNat = i := by omega
    have hki : i < 16 := by omega
    have g := rb_due (now := now) (S := S) hD hki
    have w4 : IntKind.i64.wrap ((i : Int) + 1) = ((i + 1 : Nat) : Int) := by rw [wrap_small (by omega) (by omega)]; omega
    have last : ∀ j, j < i + 1 → j < i ∨ j = i := fun j hj => by omega
    by_cases c1 : 0 ≤ gi D i
    · have f1 : decide (gi D i ≥ 0) = true := decide_eq_true c1
      by_cases c2 : x < 0
      · have f2 : decide (x < 0) = true := decide_eq_true c2
        simp only [go_sem, i0, i1, ti, Nat.mul_one, hg, g, f1, f2, w4]
        refine ih (i + 1) k _ (by omega) (by omega) (.inr ⟨i, by omega, rfl, c1, ?_⟩) kont
        intro j hj
        rcases last j hj with h | rfl
        · rcases hx with ⟨_, h'⟩ | ⟨_, _, _, h', _⟩
          · exact .inl (h' j h)
          · omega
        · exact .inr (by omega)
      · have f2 : decide (x < 0) = false := decide_eq_false c2
        rcases hx with ⟨h', _⟩ | ⟨k0, hk0, e0, p0, q0⟩
        · omega
        by_cases c3 : gi D i < x
        · have f3 : decide (gi D i < x) = true := decide_eq_true c3
          simp only [go_sem, i0, i1, ti, Nat.mul_one, hg, g, f1, f2, f3, w4]
          refine ih (i + 1) k _ (by omega) (by omega) (.inr ⟨i, by omega, rfl, c1, ?_⟩) kont
          intro j hj
          rcases last j hj with h | rfl
          · rcases q0 j h with h | h
            · exact .inl h
            · exact .inr (by omega)
          · exact .inr (by omega)
        · have f3 : decide (gi D i < x) = false := decide_eq_false c3
          simp only [go_sem, i0, i1, ti, Nat.mul_one, hg, g, f1, f2, f3, w4]
          refine ih (i + 1) k _ (by omega) (by omega) (.inr ⟨k0, by omega, e0, p0, ?_⟩) kont
          intro j hj
          rcases last j hj with h | rfl
          · exact q0 j h
          · exact .inr (by omega)
    · have f1 : decide (gi D i ≥ 0) = false := decide_eq_false c1
      simp only [go_sem, i0, i1, ti, Nat.mul_one, hg, g, f1, w4]
      refine ih (i + 1) k _ (by omega) (by omega) ?_ kont
      rcases hx with ⟨h1, h2⟩ | ⟨k0, hk0, e0, p0, q0⟩
      · refine .inl ⟨h1, fun j hj => ?_⟩
        rcases last j hj with h | rfl
        · exact h2 j h
        · omega
      · refine .inr ⟨k0, by omega, e0, p0, fun j hj => ?_⟩
        rcases last j hj with h | rfl
        · exact q0 j h
        · exact .inl (by omega)

theorem rnext_ok {w : Nat} {now : Int} {own : Bool} {D S : List Int} (hD : D.length = 16) (hg : σ.get w = some (.cells (rb now D S) own)) (hN : 16 < N)
    (kont : ∀ x, NextR D 16 x → K (.int .i64 x) σ = some ()) : callK Try.prog N ann (d + 1) dem 18 [.ptr (some (w, 0))] σ K = some () := by
  rw [go 18, f18_eq]
  simp only [go_sem]
  refine rnext_loop (i := 0) hD hg 16 N (-1) (by omega) (by omega) (.inl ⟨rfl, fun k hk => by omega⟩) ?_
  intro x hx
  simp only [go_sem]
  exact kont x hx

end Go.Proofs.Ytciibgjmdgpgnaa
