/- A bell in memory: fresh, Off, Now, Due, Next, Double. -/
import Derived.Test.YtciibgjmdgpgnaaH5
import Derived.Test.YtciibgjmdgpgnaaBeTick
namespace Go.Proofs.Ytciibgjmdgpgnaa
open Go.AM
set_option maxRecDepth 100000
set_option linter.unusedSimpArgs false
set_option linter.unusedVariables false
variable {N d : Nat} {dem : Bool} {σ : St} {K : AV → St → Option Unit}

theorem BI.pop {V L L' : List Tm} (hI : BI V L) {n : Nat} (hn : L.length = n + 1) (h1 : L'.length = n) (h2 : HeapF (lf L') n) (h3 : ∀ s, InF (lf L) (n + 1) s → s = lf L 0 ∨ InF (lf L') n s) (h4 : ∀ s, InF (lf L') n s → InF (lf L) (n + 1) s)
    (hne : ∀ k, k < 16 → lf V k = Tm.zero ∨ lf V k ≠ lf L 0) : BI V L' := by
  refine ⟨hI.v, by rw [h1]; exact h2, ?_, ?_, hI.pos⟩
  · intro k hk
    rcases hne k hk with hz | hne
    · exact .inl hz
    rcases hI.live k hk with hz | ⟨z1, z2, z3, z4⟩
    · exact .inl hz
    · refine .inr ⟨z1, z2, z3, ?_⟩
      rw [hn] at z4
      rw [h1]
      rcases h3 _ z4 with h | h
      · exact absurd h hne
      · exact h
  · intro t ht
    rw [h1] at ht
    exact hI.ent t (by rw [hn]; exact h4 t ht)

theorem BI.clr {V L : List Tm} (hI : BI V L) (i : Nat) : BI (V.set i Tm.zero) L := by
  refine ⟨by simpa using hI.v, hI.h, ?_, hI.ent, ?_⟩
  · intro k hk
    by_cases hi : i < V.length
    · rw [lf_set hi]
      by_cases h : k = i
      · rw [if_pos h]; exact .inl rfl
      · rw [if_neg h]; exact hI.live k hk
    · rw [List.set_eq_of_length_le (by omega)]
      exact hI.live k hk
  · intro k hk
    by_cases hi : i < V.length
    · rw [lf_set hi]
      by_cases h : k = i
      · rw [if_pos h]; exact .inl rfl
      · rw [if_neg h]; exact hI.pos k hk
    · rw [List.set_eq_of_length_le (by omega)]
      exact hI.pos k hk

theorem fresh_loop {b : Nat} {x0 x1 : AV} {V : List Tm} {J : KF Unit} :
    ∀ (n k : Nat) (σ : St) (L : List Tm) (o : Option (Nat × Nat)) (c : Option Nat) (hv r : Hp), L.length ≤ n → n < k → L.length ≤ 90000 → L.length + 1 < N → BI V L → Vec 4 (.slice o L.length c 4) L.length (tflat L) hv →
      HasH σ ((b, .cells (x0 :: x1 :: .slice o L.length c 4 :: tflat V) true) :: (hv ++ r)) →
      (∀ σ' o' c' hv' L', L'.length ≤ L.length → BI V L' → 0 < L'.length → lf V (lf L' 0).name.toNat = lf L' 0 → Vec 4 (.slice o' L'.length c' 4) L'.length (tflat L') hv' →
        HasH σ' ((b, .cells (x0 :: x1 :: .slice o' L'.length c' 4 :: tflat V) true) :: (hv' ++ r)) → J .ret (f23e11 true) σ' = some ()) →
      (∀ σ' o' c' hv' L', L'.length = 0 → BI V L' → Vec 4 (.slice o' L'.length c' 4) L'.length (tflat L') hv' →
        HasH σ' ((b, .cells (x0 :: x1 :: .slice o' L'.length c' 4 :: tflat V) true) :: (hv' ++ r)) → J (.exit 0) f23e5 σ' = some ()) →
      loopK (f23L5 (callK Try.prog N ann (d + 3)) dem N) f23a5 k J (f23e0 (some (b, 0))) σ = some () := by
  intro n
  induction n with
  | zero =>
    intro k σ L o c hv r hn hk hL hN hI W H kt kf
    obtain ⟨k, rfl⟩ : ∃ k', k = k' + 1 := ⟨k - 1, by omega⟩
    have hb : σ.get b = _ := H.g1
    have e0 : L.length = 0 := by omega
    rw [loopK_succ]
    have e1 : decide ((L.length : Int) > 0) = false := decide_eq_false (by omega)
    simp only [go_sem, hb, e1]
    exact kf σ o c hv L e0 hI W H
  | succ n ih =>
    intro k σ L o c hv r hn hk hL hN hI W H kt kf
    obtain ⟨k, rfl⟩ : ∃ k', k = k' + 1 := ⟨k - 1, by omega⟩
    have hb : σ.get b = _ := H.g1
    rw [loopK_succ]
    by_cases e0 : L.length = 0
    · have e1 : decide ((L.length : Int) > 0) = false := decide_eq_false (by omega)
      simp only [go_sem, hb, e1]
      exact kf σ o c hv L e0 hI W H
    · have e1 : decide ((L.length : Int) > 0) = true := decide_eq_true (by omega)
      obtain ⟨_, bk, junk, hoo, hvv, hcap⟩ := W.row e0
      subst hoo
      have hk1 : σ.get bk = some (.cells (tflat L ++ junk) true) := by rw [hvv] at H; exact H.g2
      have nbk : (bk = σ.next) = False := eq_false (by rw [hvv] at H; have := H.l2; omega)
      have nb : (b = σ.next) = False := eq_false (by have := H.l1; omega)
      have nb' : (σ.next = b) = False := eq_false (by have := H.l1; omega)
      have i1 : ((0:Int) < (L.length : Int)) = True := eq_true (by omega)
      obtain ⟨a0, a1, a2, a3⟩ := tget (show 0 < L.length by omega) junk
      simp only [Nat.zero_mul, Nat.zero_add] at a0 a1 a2 a3
      have hin : InF (lf L) L.length (lf L 0) := ⟨0, by omega, rfl⟩
      obtain ⟨m0, m1, m2⟩ := hI.ent _ hin
      have hm : (lf L 0).name.toNat < V.length := by have := hI.v; omega
      have j0 : ((0:Int) ≤ (lf L 0).name) = True := eq_true m0
      have j1 : ((lf L 0).name < (16:Int)) = True := eq_true (by omega)
      obtain ⟨c0, c1, c2, c3⟩ := bget hm x0 x1 (.slice (some (bk, 0)) L.length c 4)
      have H2 := ((H.new (.cells [.int .i64 0, .int .i64 0, .int .i64 0, .int .i64 0] true)).put (.cells (lf L 0).cells true))
      simp only [Tm.cells] at H2
      by_cases heq : lf V (lf L 0).name.toNat = lf L 0
      · have q0 : ((lf V (lf L 0).name.toNat).name == (lf L 0).name) = true := by rw [heq]; simp
        have q1 : ((lf V (lf L 0).name.toNat).due == (lf L 0).due) = true := by rw [heq]; simp
        have q2 : ((lf V (lf L 0).name.toNat).span == (lf L 0).span) = true := by rw [heq]; simp
        have q3 : ((lf V (lf L 0).name.toNat).turn == (lf L 0).turn) = true := by rw [heq]; simp
        simp only [go_sem, hb, e1, hk1, nbk, nb, nb', i1, a0, a1, a2, a3, j0, j1, c0, c1, c2, c3, q0, q1, q2, q3]
        exact kt _ (some (bk, 0)) c hv L (Nat.le_refl _) hI (by omega) heq W H2.tail
      · have q : ((lf V (lf L 0).name.toNat).name == (lf L 0).name && ((lf V (lf L 0).name.toNat).due == (lf L 0).due && ((lf V (lf L 0).name.toNat).span == (lf L 0).span && (lf V (lf L 0).name.toNat).turn == (lf L 0).turn))) = false := by
          refine Bool.eq_false_iff.2 fun h => heq ?_
          simp only [Bool.and_eq_true, beq_iff_eq] at h
          obtain ⟨h1, h2, h3, h4⟩ := h
          generalize lf V (lf L 0).name.toNat = x at h1 h2 h3 h4 ⊢
          generalize lf L 0 = y at h1 h2 h3 h4 ⊢
          cases x; cases y
          simp only at h1 h2 h3 h4
          subst h1; subst h2; subst h3; subst h4; rfl
        simp only [go_sem, hb, e1, hk1, nbk, nb, nb', i1, a0, a1, a2, a3, j0, j1, c0, c1, c2, c3, q]
        refine pop_ok (d := d) (n := L.length - 1) (by omega) hL hN hI.h W H2.tail ?_
        intro σ' o' c' hv' L' p1 p2 p3 p4 p5 p6
        simp only [go_sem, one_iface]
        have hl1 : L.length - 1 + 1 = L.length := by omega
        have hI' : BI V L' := by
          refine hI.pop (n := L.length - 1) (by omega) p1 p2 (by rw [hl1]; rw [hl1] at p3; exact p3) (by rw [hl1]; rw [hl1] at p4; exact p4) ?_
          intro k hk
          rcases hI.live k hk with hz | ⟨z1, _⟩
          · exact .inl hz
          · refine .inr fun he => heq ?_
            rw [← he, z1]
            rw [show ((k : Int)).toNat = k by omega, he]
        refine ih k σ' L' o' c' hv' r (by omega) (by omega) (by omega) (by omega) hI' p5 p6 ?_ ?_
        · intro σ2 o2 c2 hv2 L2 g1 g2 g3 g4 g5 g6
          exact kt σ2 o2 c2 hv2 L2 (by omega) g2 g3 g4 g5 g6
        · intro σ2 o2 c2 hv2 L2 g1 g2 g3 g4
          exact kf σ2 o2 c2 hv2 L2 g1 g2 g3 g4

theorem fresh_ok {b : Nat} {x0 x1 : AV} {V L : List Tm} {o : Option (Nat × Nat)} {c : Option Nat} {hv r : Hp} (hL : L.length ≤ 90000) (hN : L.length + 1 < N) (hI : BI V L) (W : Vec 4 (.slice o L.length c 4) L.length (tflat L) hv)
    (H : HasH σ ((b, .cells (x0 :: x1 :: .slice o L.length c 4 :: tflat V) true) :: (hv ++ r)))
    (kont : ∀ σ' o' c' hv' L' q, L'.length ≤ L.length → BI V L' → (q = true → 0 < L'.length ∧ lf V (lf L' 0).name.toNat = lf L' 0) → (q = false → L'.length = 0) → Vec 4 (.slice o' L'.length c' 4) L'.length (tflat L') hv' →
        HasH σ' ((b, .cells (x0 :: x1 :: .slice o' L'.length c' 4 :: tflat V) true) :: (hv' ++ r)) → K (.bool q) σ' = some ()) :
    callK Try.prog N ann (d + 4) dem 23 [.ptr (some (b, 0))] σ K = some () := by
  rw [go 23, f23_eq]
  simp only [go_sem]
  refine fresh_loop L.length N σ L o c hv r (Nat.le_refl _) (by omega) hL hN hI W H ?_ ?_
  · intro σ' o' c' hv' L' g1 g2 g3 g4 g5 g6
    simp only [go_sem]
    exact kont σ' o' c' hv' L' true g1 g2 (fun _ => ⟨g3, g4⟩) (fun h => by cases h) g5 g6
  · intro σ' o' c' hv' L' g1 g2 g3 g4
    simp only [go_sem]
    exact kont σ' o' c' hv' L' false (by omega) g2 (fun h => by cases h) (fun _ => g1) g3 g4

theorem fresh_nil (hN : 0 < N) : callK Try.prog N ann (d + 1) dem 23 [.ptr none] σ K = K (.bool false) σ := by
  obtain ⟨N, rfl⟩ : ∃ n, N = n + 1 := ⟨N - 1, by omega⟩
  rw [go 23, f23_eq]
  simp only [go_sem]
  rw [loopK_succ]
  simp only [go_sem]

end Go.Proofs.Ytciibgjmdgpgnaa
