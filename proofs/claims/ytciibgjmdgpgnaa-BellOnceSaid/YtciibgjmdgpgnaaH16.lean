/- The reference bell in memory: Tick rings what TickD says. -/
import Derived.Test.YtciibgjmdgpgnaaH14
namespace Go.Proofs.Ytciibgjmdgpgnaa
open Go.AM
set_option maxRecDepth 100000
set_option linter.unusedSimpArgs false
set_option linter.unusedVariables false
variable {N d : Nat} {dem : Bool} {σ : St} {K : AV → St → Option Unit}

theorem TickD.inv_step {now : Int} {D D' ns : List Int} (h : TickD now D ns D') {k : Nat} (hk : k < 16) (h0 : 0 ≤ gi D k) (h1 : gi D k ≤ now) (hm : ∀ j, j < 16 → gi D j < 0 ∨ gi D k < gi D j ∨ (gi D k = gi D j ∧ k ≤ j)) :
    ∃ ns', ns = (k : Int) :: ns' ∧ TickD now (D.set k (-1)) ns' D' := by
  cases h with
  | stop h => rcases h _ hk with q | q <;> omega
  | @step _ _ ns' k' hk' h0' h1' hm' ht' =>
    have : k = k' := by
      have a := hm _ hk'
      have b := hm' _ hk
      omega
    subst this
    exact ⟨ns', rfl, ht'⟩

theorem TickD.inv_stop {now : Int} {D D' ns : List Int} (h : TickD now D ns D') (hs : ∀ k, k < 16 → gi D k < 0 ∨ now < gi D k) : ns = [] ∧ D' = D := by
  cases h with
  | stop h => exact ⟨rfl, rfl⟩
  | @step _ _ ns' k' hk' h0' h1' hm' ht' => rcases hs _ hk' with q | q <;> omega

theorem rtick_inner {w : Nat} {now at_ : Int} {D' S : List Int} {r : Hp} {J : KF Unit} (hS : S.length = 16) (p0 : 0 ≤ at_) (p1 : at_ ≤ now) :
    ∀ (m i k : Nat) (σ : St) (D ns out : List Int) (o : Option (Nat × Nat)) (c : Option Nat) (hv : Hp), i + m = 16 → m < k → D.length = 16 → TickD now D ns D' → (∀ j, j < 16 → gi D j < 0 ∨ at_ ≤ gi D j) → (∀ j, j < i → gi D j < 0 ∨ at_ < gi D j) → out.length + ns.length ≤ 1000000 →
      Vec 1 (.slice o out.length c 1) out.length (ints out) hv → HasH σ ((w, .cells (rb now D S) true) :: (hv ++ r)) →
      (∀ σ' D1 xs ns1 o1 c1 hv1, D1.length = 16 → ns = xs ++ ns1 → TickD now D1 ns1 D' → (∀ j, j < 16 → gi D1 j < 0 ∨ at_ < gi D1 j) → (xs = [] → D1 = D) → Vec 1 (.slice o1 (out ++ xs).length c1 1) (out ++ xs).length (ints (out ++ xs)) hv1 →
        HasH σ' ((w, .cells (rb now D1 S) true) :: (hv1 ++ r)) → J (.exit 2) (f28e12 (some (w, 0)) o1 (out ++ xs).length c1) σ' = some ()) →
      loopK (f28L38 (callK Try.prog N ann d) dem N) f28a38 k J (f28e19 (some (w, 0)) o out.length c at_ (i : Int)) σ = some () := by
  intro m
  induction m with
  | zero =>
    intro i k σ D ns out o c hv hi hk hD hT hmin hpre hlen W H kont
    obtain ⟨k, rfl⟩ : ∃ k', k = k' + 1 := ⟨k - 1, by omega⟩
    rw [loopK_succ]
    have e1 : decide ((i : Int) < 16) = false := decide_eq_false (by omega)
    simp only [go_sem, e1]
    have := kont σ D [] ns o c hv hD rfl hT (fun j hj => hpre j (by omega)) (fun _ => rfl) (by simpa using W) H
    simpa only [List.append_nil] using this
  | succ m ih =>
    intro i k σ D ns out o c hv hi hk hD hT hmin hpre hlen W H kont
    obtain ⟨k, rfl⟩ : ∃ k', k = k' + 1 := ⟨k - 1, by omega⟩
    rw [loopK_succ]
    have hb : σ.get w = _ := H.g1
    have e1 : decide ((i : Int) < 16) = true := decide_eq_true (by omega)
    have i0 : ((0:Int) ≤ (i : Int)) = True := eq_true (by omega)
    have i1 : ((i : Int) < (16:Int)) = True := eq_true (by omega)
    have ti : ((i : Int)).toNat = i := by omega
    have hki : i < 16 := by omega
    have g := rb_due (now := now) (S := S) hD hki
    have l1 := rb_len (now := now) hD hS
    have k1 : (1 + i + (0 + 1) ≤ 33) = True := eq_true (by omega)
    have s1 := rb_set_due (now := now) (S := S) hD hki (-1)
    have w4 : IntKind.i64.wrap ((i : Int) + 1) = ((i + 1 : Nat) : Int) := by rw [wrap_small (by omega) (by omega)]; omega
    have last : ∀ j, j < i + 1 → j < i ∨ j = i := fun j hj => by omega
    by_cases c1 : gi D i = at_
    · have f1 : (gi D i == at_) = true := by simp [c1]
      obtain ⟨ns', rfl, hT'⟩ := hT.inv_step hki (by omega) (by omega) (fun j hj => by
        rw [c1]
        rcases hmin j hj with h | h
        · exact .inl h
        · by_cases hji : j < i
          · rcases hpre j hji with h | h
            · exact .inl h
            · exact .inr (.inl h)
          · by_cases he : at_ = gi D j
            · exact .inr (.inr ⟨he, by omega⟩)
            · exact .inr (.inl (by omega)))
      have H3 := (H.new' (.cells [.int .i64 (i : Int)] true)).perm (perm1 _ [] _ _)
      obtain ⟨o3, c3, σ3, hv3, happ, W3, H4⟩ := W.app (bytes := 8) (k := 1) (news := [.int .i64 (i : Int)]) H3 (by decide) (by decide) rfl (by simp at hlen; omega)
      have H5 := H4.perm (perm1 _ [] _ _).symm
      have hb3 : σ3.get w = _ := H5.g1
      simp only [go_sem, i0, i1, ti, Nat.mul_one, hb, g, f1, elems_pos (show 1 ≠ 0 by decide), happ, hb3, l1, k1, s1, w4]
      have hl : (out ++ [(i : Int)]).length = out.length + 1 := by simp
      have ihh := ih (i + 1) k _ (D.set i (-1)) ns' (out ++ [(i : Int)]) o3 c3 hv3 (by omega) (by omega) (by simpa using hD) hT' ?_ ?_ (by rw [hl]; simp at hlen; omega) (by rw [hl, ← ints_app]; exact W3) (H5.put _) ?_
      · rw [hl] at ihh; exact ihh
      · intro j hj
        rw [gi_set (by omega)]
        split
        · exact .inl (by omega)
        · exact hmin j hj
      · intro j hj
        rw [gi_set (by omega)]
        split
        · exact .inl (by omega)
        · rcases last j hj with h | rfl
          · exact hpre j h
          · contradiction
      · intro σ' D1 xs ns1 o1 c1 hv1 q1 q2 q3 q4 q5 q6 q7
        have e : out ++ ((i : Int) :: xs) = (out ++ [(i : Int)]) ++ xs := by simp
        have := kont σ' D1 ((i : Int) :: xs) ns1 o1 c1 hv1 q1 (by rw [q2]; rfl) q3 q4 (fun h => by cases h) (by rw [e]; exact q6) q7
        rw [e] at this
        exact this
    · have f1 : (gi D i == at_) = false := by simp [c1]
      simp only [go_sem, i0, i1, ti, Nat.mul_one, hb, g, f1, w4]
      refine ih (i + 1) k σ D ns out o c hv (by omega) (by omega) hD hT hmin ?_ hlen W H kont
      intro j hj
      rcases last j hj with h | rfl
      · exact hpre j h
      · rcases hmin j hki with h | h
        · exact .inl h
        · exact .inr (by omega)

theorem beqL_int (x : Int) : AV.beqL [.int .i64 x] [.int .i64 x] = true := by simp [AV.beqL, AV.beq]

theorem NextR.det {D : List Int} {x y : Int} (hx : NextR D 16 x) (hy : NextR D 16 y) : x = y := by
  rcases hx with ⟨h1, h2⟩ | ⟨k0, hk0, e0, p0, q0⟩ <;> rcases hy with ⟨h3, h4⟩ | ⟨k1, hk1, e1, p1, q1⟩
  · omega
  · have := h2 k1 hk1; omega
  · have := h4 k0 hk0; omega
  · have a := q0 k1 hk1
    have b := q1 k0 hk0
    omega

theorem rtick_loop {w : Nat} {now : Int} {D' S : List Int} {r : Hp} {J : KF Unit} (hS : S.length = 16) (hN : 16 < N) :
    ∀ (n k : Nat) (σ : St) (D ns out : List Int) (o : Option (Nat × Nat)) (c : Option Nat) (hv : Hp), ns.length ≤ n → n < k → D.length = 16 → TickD now D ns D' → out.length + ns.length ≤ 1000000 →
      Vec 1 (.slice o out.length c 1) out.length (ints out) hv → HasH σ ((w, .cells (rb now D S) true) :: (hv ++ r)) →
      (∀ σ' o1 c1 hv1, D'.length = 16 → Vec 1 (.slice o1 (out ++ ns).length c1 1) (out ++ ns).length (ints (out ++ ns)) hv1 →
        HasH σ' ((w, .cells (rb now D' S) true) :: (hv1 ++ r)) → J (.exit 0) (f28e16 o1 (out ++ ns).length c1) σ' = some ()) →
      loopK (f28L25 (callK Try.prog N ann (d + 1)) dem N) f28a25 k J (f28e12 (some (w, 0)) o out.length c) σ = some () := by
  intro n
  induction n with
  | zero =>
    intro k σ D ns out o c hv hn hk hD hT hlen W H kont
    obtain ⟨k, rfl⟩ : ∃ k', k = k' + 1 := ⟨k - 1, by omega⟩
    rw [loopK_succ]
    have hb : σ.get w = _ := H.g1
    have stop : (∀ j, j < 16 → gi D j < 0 ∨ now < gi D j) → J (.exit 0) (f28e16 o out.length c) σ = some () := by
      intro hs
      obtain ⟨rfl, rfl⟩ := hT.inv_stop hs
      have := kont σ o c hv hD (by simpa using W) H
      simpa only [List.append_nil] using this
    obtain rfl : ns = [] := List.eq_nil_of_length_eq_zero (by omega)
    have hs : ∀ j, j < 16 → gi D j < 0 ∨ now < gi D j := by cases hT with | stop h => exact h
    simp only [go_sem]
    refine rnext_ok hD hb hN ?_
    intro x hx
    by_cases hx0 : 0 ≤ x
    · have f1 : decide (x ≥ 0) = true := decide_eq_true hx0
      simp only [go_sem, f1]
      refine rnext_ok hD hb hN ?_
      intro x2 hx2
      obtain rfl := hx.det hx2
      have f2 : decide (x ≤ now) = false := by
        refine decide_eq_false fun h => ?_
        rcases hx with ⟨h1, _⟩ | ⟨k0, hk0, e0, p0, q0⟩
        · omega
        · rcases hs k0 hk0 with h | h <;> omega
      simp only [go_sem, hb, rb_now, rb_len (now := now) hD hS, (show List.take 1 (rb now D S) = [.int .i64 now] from rfl), beqL_int, f2]
      exact stop hs
    · have f1 : decide (x ≥ 0) = false := decide_eq_false hx0
      simp only [go_sem, f1]
      exact stop hs
  | succ n ih =>
    intro k σ D ns out o c hv hn hk hD hT hlen W H kont
    obtain ⟨k, rfl⟩ : ∃ k', k = k' + 1 := ⟨k - 1, by omega⟩
    rw [loopK_succ]
    have hb : σ.get w = _ := H.g1
    have stop : (∀ j, j < 16 → gi D j < 0 ∨ now < gi D j) → J (.exit 0) (f28e16 o out.length c) σ = some () := by
      intro hs
      obtain ⟨rfl, rfl⟩ := hT.inv_stop hs
      have := kont σ o c hv hD (by simpa using W) H
      simpa only [List.append_nil] using this
    simp only [go_sem]
    refine rnext_ok hD hb hN ?_
    intro x hx
    by_cases hx0 : 0 ≤ x
    · have f1 : decide (x ≥ 0) = true := decide_eq_true hx0
      simp only [go_sem, f1]
      refine rnext_ok hD hb hN ?_
      intro x2 hx2
      obtain rfl := hx.det hx2
      have hxx := hx
      rcases hx with ⟨h1, _⟩ | ⟨k0, hk0, e0, p0, q0⟩
      · omega
      by_cases hxn : x ≤ now
      · have f2 : decide (x ≤ now) = true := decide_eq_true hxn
        simp only [go_sem, hb, rb_now, rb_len (now := now) hD hS, (show List.take 1 (rb now D S) = [.int .i64 now] from rfl), beqL_int, f2]
        refine rnext_ok hD hb hN ?_
        intro x3 hx3
        obtain rfl := hxx.det hx3
        simp only [go_sem]
        refine rtick_inner (i := 0) hS p0 hxn 16 N σ D ns out o c hv (by omega) (by omega) hD hT q0 (fun j hj => by omega) hlen W H ?_
        intro σ' D1 xs ns1 o1 c1 hv1 q1 q2 q3 q4 q5 q6 q7
        simp only [go_sem]
        subst q2
        have hxs : xs ≠ [] := by
          intro h
          have := q5 h
          subst this
          rcases q4 k0 hk0 with h | h <;> omega
        have hxl : 0 < xs.length := List.length_pos_iff.2 hxs
        simp only [List.length_append] at hn hlen
        refine ih k σ' D1 ns1 (out ++ xs) o1 c1 hv1 (by omega) (by omega) q1 q3 (by simp only [List.length_append]; omega) q6 q7 ?_
        intro σ2 o2 c2 hv2 g1 g2 g3
        have := kont σ2 o2 c2 hv2 g1 (by rw [← List.append_assoc]; exact g2) g3
        rw [← List.append_assoc] at this
        exact this
      · have f2 : decide (x ≤ now) = false := decide_eq_false hxn
        simp only [go_sem, hb, rb_now, rb_len (now := now) hD hS, (show List.take 1 (rb now D S) = [.int .i64 now] from rfl), beqL_int, f2]
        refine stop fun j hj => ?_
        rcases q0 j hj with h | h
        · exact .inl h
        · exact .inr (by omega)
    · have f1 : decide (x ≥ 0) = false := decide_eq_false hx0
      simp only [go_sem, f1]
      refine stop fun j hj => ?_
      rcases hx with ⟨_, h2⟩ | ⟨k0, hk0, e0, p0, q0⟩
      · exact .inl (h2 j hj)
      · omega

end Go.Proofs.Ytciibgjmdgpgnaa

namespace Go.Proofs.Ytciibgjmdgpgnaa
open Go.AM
set_option maxRecDepth 100000
set_option linter.unusedSimpArgs false
set_option linter.unusedVariables false
variable {N d : Nat} {dem : Bool} {σ : St} {K : AV → St → Option Unit}

theorem rtick_bad {p : Option (Nat × Nat)} {by_ : Int} (h : by_ < 0 ∨ by_ > 4096) : callK Try.prog N ann (d + 1) dem 28 [.ptr p, .int .i64 by_] σ K = K (.tuple [.slice none 0 (some 0) 1, .int .i64 1]) σ := by
  rw [go 28, f28_eq]
  by_cases h1 : by_ < 0
  · have e1 : decide (by_ < 0) = true := decide_eq_true h1
    simp only [go_sem, e1]
  · have e1 : decide (by_ < 0) = false := decide_eq_false h1
    have e2 : decide (by_ > 4096) = true := decide_eq_true (by omega)
    simp only [go_sem, e1, e2]

theorem rtick_long {w : Nat} {now by_ : Int} {D S : List Int} {own : Bool} (hg : σ.get w = some (.cells (rb now D S) own)) (h : 0 ≤ by_ ∧ by_ ≤ 4096) (hl : now > 1099511627776 - by_) :
    callK Try.prog N ann (d + 1) dem 28 [.ptr (some (w, 0)), .int .i64 by_] σ K = K (.tuple [.slice none 0 (some 0) 1, .int .i64 2]) σ := by
  rw [go 28, f28_eq]
  have e1 : decide (by_ < 0) = false := decide_eq_false (by omega)
  have e2 : decide (by_ > 4096) = false := decide_eq_false (by omega)
  have wr : IntKind.i64.wrap (1099511627776 - by_) = 1099511627776 - by_ := wrap_small (by omega) (by omega)
  have e3 : decide (now > 1099511627776 - by_) = true := decide_eq_true hl
  simp only [go_sem, e1, e2, hg, rb_now, wr, e3]

theorem rtick_ok {w : Nat} {now by_ : Int} {D D' S ns : List Int} {r : Hp} (hD : D.length = 16) (hS : S.length = 16) (hN : 16 < N) (hn : ns.length < N) (hn2 : ns.length ≤ 1000000) (h0 : 0 ≤ now) (H : HasH σ ((w, .cells (rb now D S) true) :: r))
    (h : 0 ≤ by_ ∧ by_ ≤ 4096) (hl : now ≤ 1099511627776 - by_) (hT : TickD (now + by_) D ns D')
    (kont : ∀ σ' o c hv, D'.length = 16 → Vec 1 (.slice o ns.length c 1) ns.length (ints ns) hv → HasH σ' ((w, .cells (rb (now + by_) D' S) true) :: (hv ++ r)) → K (.tuple [.slice o ns.length c 1, .int .i64 0]) σ' = some ()) :
    callK Try.prog N ann (d + 2) dem 28 [.ptr (some (w, 0)), .int .i64 by_] σ K = some () := by
  rw [go 28, f28_eq]
  have hb : σ.get w = _ := H.g1
  have e1 : decide (by_ < 0) = false := decide_eq_false (by omega)
  have e2 : decide (by_ > 4096) = false := decide_eq_false (by omega)
  have wr : IntKind.i64.wrap (1099511627776 - by_) = 1099511627776 - by_ := wrap_small (by omega) (by omega)
  have wr2 : IntKind.i64.wrap (now + by_) = now + by_ := wrap_small (by omega) (by omega)
  have e3 : decide (now > 1099511627776 - by_) = false := decide_eq_false (by omega)
  have l1 := rb_len (now := now) hD hS
  have s1 := rb_set_now now D S (now + by_)
  simp only [go_sem, e1, e2, hb, rb_now, wr, wr2, e3, l1, s1]
  refine rtick_loop (out := []) hS hN ns.length N _ D ns none (some 0) [] (Nat.le_refl _) hn hD hT (by simp; omega) (Vec.nil 1) (by simpa using H.put _) ?_
  intro σ' o1 c1 hv1 q1 q2 q3
  simp only [go_sem]
  simp only [List.nil_append] at q2 q3 ⊢
  exact kont σ' o1 c1 hv1 q1 q2 q3

theorem rnew_ok {r : Hp} (H : HasH σ r) (hN : 16 < N)
    (kont : ∀ σ' w D S, D.length = 16 → S.length = 16 → (∀ j, j < 16 → gi D j = -1) → HasH σ' ((w, .cells (rb 0 D S) true) :: r) → K (.ptr (some (w, 0))) σ' = some ()) :
    callK Try.prog N ann (d + 1) dem 15 [] σ K = some () := by
  rw [go 15, f15_eq]
  simp only [go_sem]
  refine rnew_loop (i := 0) (S := List.replicate 16 0) (r := r) (by simp) 16 N _ (List.replicate 16 0) (by omega) (by omega) (by simp) (fun j hj => by omega) (H.new _) ?_
  intro σ' D' hD' hall H'
  simp only [go_sem]
  exact kont σ' _ D' _ hD' (by simp) hall H'

end Go.Proofs.Ytciibgjmdgpgnaa
