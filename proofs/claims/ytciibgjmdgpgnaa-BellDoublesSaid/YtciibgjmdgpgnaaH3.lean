/- Heaps in memory: up, down, Push, Pop. -/
import Derived.Test.YtciibgjmdgpgnaaH2
namespace Go.Proofs.Ytciibgjmdgpgnaa
open Go.AM
set_option maxRecDepth 100000
set_option linter.unusedSimpArgs false
set_option linter.unusedVariables false
variable {N d : Nat} {dem : Bool} {σ : St} {K : AV → St → Option Unit}

theorem HeapF.congr {f g : Nat → Tm} {n : Nat} (h : HeapF f n) (e : ∀ k, k < n → g k = f k) : HeapF g n := by
  intro k h0 hk
  rw [e k hk, e _ (by omega)]; exact h k h0 hk
theorem UpI.congr {f g : Nat → Tm} {n j : Nat} (h : UpI f n j) (hj : j < n) (e : ∀ k, k < n → g k = f k) : UpI g n j := by
  refine ⟨fun k h0 hk hne => ?_, fun k h0 hk hp h1 => ?_⟩
  · rw [e k hk, e _ (by omega)]; exact h.1 k h0 hk hne
  · rw [e k hk, e _ (by omega)]; exact h.2 k h0 hk hp h1
theorem DownI.congr {f g : Nat → Tm} {n i : Nat} (h : DownI f n i) (e : ∀ k, k < n → g k = f k) : DownI g n i := by
  refine ⟨fun k h0 hk hne => ?_, fun k h0 hk hp h1 => ?_⟩
  · rw [e k hk, e _ (by omega)]; exact h.1 k h0 hk hne
  · rw [e k hk, e _ (by omega)]; exact h.2 k h0 hk hp h1
theorem InF.congr {f g : Nat → Tm} {n : Nat} (e : ∀ k, k < n → g k = f k) (t : Tm) : InF g n t ↔ InF f n t := by
  constructor
  · rintro ⟨k, hk, rfl⟩; exact ⟨k, hk, (e k hk).symm⟩
  · rintro ⟨k, hk, rfl⟩; exact ⟨k, hk, e k hk⟩
theorem in_lsw {L : List Tm} {i j : Nat} (hi : i < L.length) (hj : j < L.length) {n : Nat} (hn : n ≤ L.length) (h1 : i < n) (h2 : j < n) (t : Tm) : InF (lf (lsw L i j)) n t ↔ InF (lf L) n t :=
  (InF.congr (fun k hk => lsw_lf hi hj k (by omega)) t).trans (swp_in h1 h2 t)

theorem up_loop {b bk : Nat} {x0 x1 : AV} {rest junk : List AV} {c : Option Nat} {r : Hp} {J : KF Unit} {n : Nat} (hn : n ≤ 100000) :
    ∀ (j k : Nat) (L : List Tm) (σ : St), j < k → j < n → L.length = n → UpI (lf L) n j →
      HasH σ ((bk, .cells (tflat L ++ junk) true) :: (b, .cells (x0 :: x1 :: .slice (some (bk, 0)) n c 4 :: rest) true) :: r) →
      (∀ σ' L', L'.length = n → HeapF (lf L') n → (∀ t, InF (lf L') n t ↔ InF (lf L) n t) → HasH σ' ((bk, .cells (tflat L' ++ junk) true) :: (b, .cells (x0 :: x1 :: .slice (some (bk, 0)) n c 4 :: rest) true) :: r) → J (.exit 0) f29e6 σ' = some ()) →
      loopK (f29L1 (callK Try.prog N ann (d + 1)) dem N) f29a1 k J (f29e0 b (j : Int)) σ = some () := by
  intro j
  induction j using Nat.strongRecOn with
  | _ j ih =>
    intro k L σ hk hj hL hU H kont
    obtain ⟨k, rfl⟩ : ∃ k', k = k' + 1 := ⟨k - 1, by omega⟩
    have hg : σ.get bk = _ := H.g1
    have hb : σ.get b = _ := H.g2
    have w1 : IntKind.i64.wrap ((j : Int) - 1) = (j : Int) - 1 := wrap_small (by omega) (by omega)
    rw [loopK_succ]
    by_cases h0 : j = 0
    · subst h0
      have e1 : IntKind.i64.wrap (Int.tdiv (((0 : Nat) : Int) - 1) 2) = 0 := by decide
      simp only [go_sem, w1, e1]
      exact kont σ L hL (hU.stop (.inl rfl)) (fun _ => Iff.rfl) H
    · have e1 : IntKind.i64.wrap (Int.tdiv ((j : Int) - 1) 2) = (((j - 1) / 2 : Nat) : Int) := by
        have : Int.tdiv ((j : Int) - 1) 2 = (((j - 1) / 2 : Nat) : Int) := by
          rw [Int.tdiv_eq_ediv_of_nonneg (by omega)]; omega
        rw [this]; exact wrap_small (by omega) (by omega)
      have e2 : ((((j - 1) / 2 : Nat) : Int) == (j : Int)) = false := by simp; omega
      subst hL
      simp only [go_sem, w1, e1, e2, hb]
      rw [less_eq hg hj (by omega)]
      cases hl : tlt (lf L j) (lf L ((j - 1) / 2)) with
      | false =>
        simp only [go_sem, hl]
        exact kont σ L rfl (hU.stop (.inr hl)) (fun _ => Iff.rfl) H
      | true =>
        simp only [go_sem, hl, hb]
        refine swap_ok H (i := (j - 1) / 2) (j := j) (by omega) hj ?_
        intro σ1 H1
        simp only [go_sem]
        refine ih ((j - 1) / 2) (by omega) k (lsw L ((j - 1) / 2) j) σ1 (by omega) (by omega) (lsw_len _ _ _) ?_ H1 ?_
        · exact (hU.step (by omega) hj hl).congr (by omega) (lsw_lf (by omega) hj)
        · intro σ' L' h1 h2 h3 h4
          exact kont σ' L' h1 h2 (fun t => (h3 t).trans (in_lsw (by omega) hj (Nat.le_refl _) (by omega) hj t)) h4

theorem up_ok {b bk : Nat} {x0 x1 : AV} {rest junk : List AV} {c : Option Nat} {r : Hp} {n : Nat} (hn : n ≤ 100000) {j : Nat} {L : List Tm} (hN : j < N) (hj : j < n) (hL : L.length = n) (hU : UpI (lf L) n j)
    (H : HasH σ ((bk, .cells (tflat L ++ junk) true) :: (b, .cells (x0 :: x1 :: .slice (some (bk, 0)) n c 4 :: rest) true) :: r))
    (kont : ∀ σ' L', L'.length = n → HeapF (lf L') n → (∀ t, InF (lf L') n t ↔ InF (lf L) n t) → HasH σ' ((bk, .cells (tflat L' ++ junk) true) :: (b, .cells (x0 :: x1 :: .slice (some (bk, 0)) n c 4 :: rest) true) :: r) → K (.tuple []) σ' = some ()) :
    callK Try.prog N ann (d + 2) dem 29 [.iface 59 (.ptr (some (b, 2))), .int .i64 j] σ K = some () := by
  rw [go 29, f29_eq]
  simp only [go_sem]
  refine up_loop hn j N L σ hN hj hL hU H ?_
  intro σ' L' h1 h2 h3 h4
  simp only [go_sem]
  exact kont σ' L' h1 h2 h3 h4

theorem down_loop {b bk : Nat} {x0 x1 : AV} {rest junk : List AV} {c : Option Nat} {r : Hp} {J : KF Unit} {m n : Nat} {i0 : Int} (hn : m ≤ 100000) (hm : n ≤ m) :
    ∀ (u i k : Nat) (L : List Tm) (σ : St), n - i ≤ u → u < k → L.length = m → DownI (lf L) n i → i ≤ n →
      HasH σ ((bk, .cells (tflat L ++ junk) true) :: (b, .cells (x0 :: x1 :: .slice (some (bk, 0)) m c 4 :: rest) true) :: r) →
      (∀ σ' L' (i' : Int), L'.length = m → HeapF (lf L') n → (∀ t, InF (lf L') n t ↔ InF (lf L) n t) → (∀ q, n ≤ q → q < m → lf L' q = lf L q) → HasH σ' ((bk, .cells (tflat L' ++ junk) true) :: (b, .cells (x0 :: x1 :: .slice (some (bk, 0)) m c 4 :: rest) true) :: r) →
        J (.exit 0) (f30e9 i0 i') σ' = some ()) →
      loopK (f30L7 (callK Try.prog N ann (d + 1)) dem N) f30a7 k J (f30e3 b i0 (n : Int) (i : Int)) σ = some () := by
  intro u
  induction u with
  | zero =>
    intro i k L σ hu hk hL hD hi H kont
    obtain ⟨k, rfl⟩ : ∃ k', k = k' + 1 := ⟨k - 1, by omega⟩
    have w1 : IntKind.i64.wrap (2 * (i : Int)) = 2 * (i : Int) := wrap_small (by omega) (by omega)
    have w2 : IntKind.i64.wrap (2 * (i : Int) + 1) = 2 * (i : Int) + 1 := wrap_small (by omega) (by omega)
    have c1 : ((n : Int) ≤ 2 * (i : Int) + 1) = True := eq_true (by omega)
    rw [loopK_succ]
    simp only [go_sem, w1, w2, c1]
    exact kont σ L i hL (hD.stop (fun k h0 hk hp => by omega)) (fun _ => Iff.rfl) (fun _ _ _ => rfl) H
  | succ u ih =>
    intro i k L σ hu hk hL hD hi H kont
    obtain ⟨k, rfl⟩ : ∃ k', k = k' + 1 := ⟨k - 1, by omega⟩
    have hg : σ.get bk = _ := H.g1
    have hb : σ.get b = _ := H.g2
    have w1 : IntKind.i64.wrap (2 * (i : Int)) = 2 * (i : Int) := wrap_small (by omega) (by omega)
    have w2 : IntKind.i64.wrap (2 * (i : Int) + 1) = ((2 * i + 1 : Nat) : Int) := by rw [wrap_small (by omega) (by omega)]; omega
    have w3 : IntKind.i64.wrap (((2 * i + 1 : Nat) : Int) + 1) = ((2 * i + 2 : Nat) : Int) := by rw [wrap_small (by omega) (by omega)]; omega
    rw [loopK_succ]
    by_cases h1 : n ≤ 2 * i + 1
    · have c1 : ((n : Int) ≤ ((2 * i + 1 : Nat) : Int)) = True := eq_true (by omega)
      simp only [go_sem, w1, w2, c1]
      exact kont σ L i hL (hD.stop (fun k h0 hk hp => by omega)) (fun _ => Iff.rfl) (fun _ _ _ => rfl) H
    have c1 : ((n : Int) ≤ ((2 * i + 1 : Nat) : Int)) = False := eq_false (by omega)
    have c2 : (((2 * i + 1 : Nat) : Int) < 0) = False := eq_false (by omega)
    subst hL
    -- what follows once the least child is known
    have fin : ∀ (j : Nat), 0 < j → j < n → (j - 1) / 2 = i → (∀ q, 0 < q → q < n → (q - 1) / 2 = i → tlt (lf L q) (lf L j) = false) → ∀ σ1, HasH σ1 ((bk, .cells (tflat L ++ junk) true) :: (b, .cells (x0 :: x1 :: .slice (some (bk, 0)) L.length c 4 :: rest) true) :: r) →
        tlt (lf L j) (lf L i) = true → ∀ σ2, HasH σ2 ((bk, .cells (tflat (lsw L i j) ++ junk) true) :: (b, .cells (x0 :: x1 :: .slice (some (bk, 0)) L.length c 4 :: rest) true) :: r) →
        loopK (f30L7 (callK Try.prog N ann (d + 1)) dem N) f30a7 k J (f30e3 b i0 (n : Int) (j : Int)) σ2 = some () := by
      intro j hj hjn hp hmin σ1 H1 hl σ2 H2
      refine ih j k (lsw L i j) σ2 (by omega) (by omega) (lsw_len _ _ _) ((hD.step hj hjn hp hl hmin).congr (fun q hq => lsw_lf (by omega) (by omega) q (by omega))) (by omega) H2 ?_
      intro σ' L' i' h1 h2 h3 h4 h5
      refine kont σ' L' i' h1 h2 (fun t => (h3 t).trans (in_lsw (by omega) (by omega) hm (by omega) hjn t)) (fun q hq1 hq2 => ?_) h5
      rw [h4 q hq1 hq2, lsw_lf (by omega) (by omega) q hq2]
      unfold swp
      rw [if_neg (by omega), if_neg (by omega)]
    have stop : ∀ (j : Nat), j < n → tlt (lf L j) (lf L i) = false → (∀ q, 0 < q → q < n → (q - 1) / 2 = i → tlt (lf L q) (lf L j) = false) → HeapF (lf L) n := by
      intro j hj hl hmin
      exact hD.stop fun q h0 hq hp => nlt_trans (hmin q h0 hq hp) hl
    by_cases h2 : 2 * i + 2 < n
    · have c3 : (((2 * i + 2 : Nat) : Int) < (n : Int)) = True := eq_true (by omega)
      simp only [go_sem, w1, w2, w3, c1, c2, c3, hb]
      rw [less_eq hg (show 2 * i + 2 < L.length by omega) (show 2 * i + 1 < L.length by omega)]
      cases hl2 : tlt (lf L (2 * i + 2)) (lf L (2 * i + 1)) with
      | true =>
        have hmin : ∀ q, 0 < q → q < n → (q - 1) / 2 = i → tlt (lf L q) (lf L (2 * i + 2)) = false := by
          intro q h0 hq hp
          rcases (show q = 2 * i + 1 ∨ q = 2 * i + 2 by omega) with rfl | rfl
          · exact nlt_of_lt hl2
          · exact tlt_irr _
        simp only [go_sem, hl2, hb]
        rw [less_eq hg (show 2 * i + 2 < L.length by omega) (show i < L.length by omega)]
        cases hl : tlt (lf L (2 * i + 2)) (lf L i) with
        | false =>
          simp only [go_sem, hl]
          exact kont σ L _ rfl (stop _ h2 hl hmin) (fun _ => Iff.rfl) (fun _ _ _ => rfl) H
        | true =>
          simp only [go_sem, hl, hb]
          refine swap_ok H (i := i) (j := 2 * i + 2) (by omega) (by omega) ?_
          intro σ1 H1
          simp only [go_sem]
          exact fin (2 * i + 2) (by omega) h2 (by omega) hmin σ H hl σ1 H1
      | false =>
        have hmin : ∀ q, 0 < q → q < n → (q - 1) / 2 = i → tlt (lf L q) (lf L (2 * i + 1)) = false := by
          intro q h0 hq hp
          rcases (show q = 2 * i + 1 ∨ q = 2 * i + 2 by omega) with rfl | rfl
          · exact tlt_irr _
          · exact hl2
        simp only [go_sem, hl2, hb]
        rw [less_eq hg (show 2 * i + 1 < L.length by omega) (show i < L.length by omega)]
        cases hl : tlt (lf L (2 * i + 1)) (lf L i) with
        | false =>
          simp only [go_sem, hl]
          exact kont σ L _ rfl (stop _ (by omega) hl hmin) (fun _ => Iff.rfl) (fun _ _ _ => rfl) H
        | true =>
          simp only [go_sem, hl, hb]
          refine swap_ok H (i := i) (j := 2 * i + 1) (by omega) (by omega) ?_
          intro σ1 H1
          simp only [go_sem]
          exact fin (2 * i + 1) (by omega) (by omega) (by omega) hmin σ H hl σ1 H1
    · have c3 : (((2 * i + 2 : Nat) : Int) < (n : Int)) = False := eq_false (by omega)
      have hmin : ∀ q, 0 < q → q < n → (q - 1) / 2 = i → tlt (lf L q) (lf L (2 * i + 1)) = false := by
        intro q h0 hq hp
        obtain rfl : q = 2 * i + 1 := by omega
        exact tlt_irr _
      simp only [go_sem, w1, w2, w3, c1, c2, c3, hb]
      rw [less_eq hg (show 2 * i + 1 < L.length by omega) (show i < L.length by omega)]
      cases hl : tlt (lf L (2 * i + 1)) (lf L i) with
      | false =>
        simp only [go_sem, hl]
        exact kont σ L _ rfl (stop _ (by omega) hl hmin) (fun _ => Iff.rfl) (fun _ _ _ => rfl) H
      | true =>
        simp only [go_sem, hl, hb]
        refine swap_ok H (i := i) (j := 2 * i + 1) (by omega) (by omega) ?_
        intro σ1 H1
        simp only [go_sem]
        exact fin (2 * i + 1) (by omega) (by omega) (by omega) hmin σ H hl σ1 H1

end Go.Proofs.Ytciibgjmdgpgnaa
