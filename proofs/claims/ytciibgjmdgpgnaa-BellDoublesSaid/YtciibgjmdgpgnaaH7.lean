/- A bell in memory: Now, Off, Due, Next, Double. -/
import Derived.Test.YtciibgjmdgpgnaaH6
namespace Go.Proofs.Ytciibgjmdgpgnaa
open Go.AM
set_option maxRecDepth 100000
set_option linter.unusedSimpArgs false
set_option linter.unusedVariables false
variable {N d : Nat} {dem : Bool} {σ : St} {K : AV → St → Option Unit}

theorem now_eq {b : Nat} {now : Int} {cs : List AV} {own : Bool} (hg : σ.get b = some (.cells (.int .i64 now :: cs) own)) : callK Try.prog N ann (d + 1) dem 12 [.ptr (some (b, 0))] σ K = K (.int .i64 now) σ := by
  rw [go 12, f12_eq]
  simp only [go_sem, hg]
theorem now_nil : callK Try.prog N ann (d + 1) dem 12 [.ptr none] σ K = K (.int .i64 0) σ := by
  rw [go 12, f12_eq]
  simp only [go_sem]

theorem off_bad {p : Option (Nat × Nat)} {n : Int} (h : nm n = false) : callK Try.prog N ann (d + 3) dem 14 [.ptr p, .int .i64 n] σ K = K (.tuple [.bool false, .int .i64 1]) σ := by
  rw [go 14, f14_eq]
  simp only [go_sem, named_eq, h]
theorem off_nil {n : Int} (h : nm n = true) : callK Try.prog N ann (d + 3) dem 14 [.ptr none, .int .i64 n] σ K = K (.tuple [.bool false, .int .i64 0]) σ := by
  rw [go 14, f14_eq]
  simp only [go_sem, named_eq, h, has_nil]
theorem off_dead {b : Nat} {x0 x1 x2 : AV} {V : List Tm} {own : Bool} (hg : σ.get b = some (.cells (x0 :: x1 :: x2 :: tflat V) own)) (hV : V.length = 16) {n : Int} (h : nm n = true) (hl : liveB V n = false) :
    callK Try.prog N ann (d + 3) dem 14 [.ptr (some (b, 0)), .int .i64 n] σ K = K (.tuple [.bool false, .int .i64 0]) σ := by
  rw [go 14, f14_eq]
  simp only [go_sem, named_eq, h]
  rw [has_eq hg hV]
  simp only [go_sem, hl]
theorem off_live {b : Nat} {x0 x1 x2 : AV} {V : List Tm} {r : Hp} (H : HasH σ ((b, .cells (x0 :: x1 :: x2 :: tflat V) true) :: r)) (hV : V.length = 16) {n : Int} (h : nm n = true) (hl : liveB V n = true)
    (kont : ∀ σ', HasH σ' ((b, .cells (x0 :: x1 :: x2 :: tflat (V.set n.toNat Tm.zero)) true) :: r) → K (.tuple [.bool true, .int .i64 0]) σ' = some ()) :
    callK Try.prog N ann (d + 3) dem 14 [.ptr (some (b, 0)), .int .i64 n] σ K = some () := by
  rw [go 14, f14_eq]
  simp only [go_sem, named_eq, h]
  have hb : σ.get b = _ := H.g1
  rw [has_eq hb hV]
  have hh : 0 ≤ n ∧ n ≤ 15 := of_decide_eq_true h
  have i0 : ((0:Int) ≤ n) = True := eq_true hh.1
  have i1 : (n < (16:Int)) = True := eq_true (by omega)
  have hlen : (tflat V).length = 64 := by rw [tflat_len, hV]
  have k1 : (3 + n.toNat * 4 + (0 + 1 + 1 + 1 + 1) ≤ (tflat V).length + 1 + 1 + 1) = True := eq_true (by omega)
  have s1 := bsplice (show n.toNat < V.length by omega) Tm.zero x0 x1 x2
  simp only [Tm.cells, Tm.zero] at s1
  simp only [go_sem, hl, hb, i0, i1, k1, s1]
  exact kont _ (H.put _)

theorem due_nil {n : Int} : callK Try.prog N ann (d + 3) dem 11 [.ptr none, .int .i64 n] σ K = K (.tuple [.int .i64 0, .bool false]) σ := by
  rw [go 11, f11_eq]
  simp only [go_sem, has_nil]
theorem due_dead {b : Nat} {x0 x1 x2 : AV} {V : List Tm} {own : Bool} (hg : σ.get b = some (.cells (x0 :: x1 :: x2 :: tflat V) own)) (hV : V.length = 16) {n : Int} (hl : liveB V n = false) :
    callK Try.prog N ann (d + 3) dem 11 [.ptr (some (b, 0)), .int .i64 n] σ K = K (.tuple [.int .i64 0, .bool false]) σ := by
  rw [go 11, f11_eq]
  simp only [go_sem]
  rw [has_eq hg hV]
  simp only [go_sem, hl]
theorem liveB_nm {V : List Tm} {n : Int} (h : liveB V n = true) : 0 ≤ n ∧ n ≤ 15 := by
  unfold liveB at h
  simp only [Bool.and_eq_true] at h
  exact of_decide_eq_true h.1
theorem due_live {b : Nat} {x0 x1 x2 : AV} {V : List Tm} {own : Bool} (hg : σ.get b = some (.cells (x0 :: x1 :: x2 :: tflat V) own)) (hV : V.length = 16) {n : Int} (hl : liveB V n = true) :
    callK Try.prog N ann (d + 3) dem 11 [.ptr (some (b, 0)), .int .i64 n] σ K = K (.tuple [.int .i64 (lf V n.toNat).due, .bool true]) σ := by
  rw [go 11, f11_eq]
  simp only [go_sem]
  rw [has_eq hg hV]
  have hh := liveB_nm hl
  have i0 : ((0:Int) ≤ n) = True := eq_true hh.1
  have i1 : (n < (16:Int)) = True := eq_true (by omega)
  obtain ⟨a0, a1, a2, a3⟩ := bget (show n.toNat < V.length by omega) x0 x1 x2
  simp only [go_sem, hl, i0, i1, hg, a1]

theorem next_nil (hN : 0 < N) : callK Try.prog N ann (d + 2) dem 17 [.ptr none] σ K = K (.tuple [.int .i64 0, .bool false]) σ := by
  rw [go 17, f17_eq]
  simp only [go_sem]
  rw [fresh_nil hN]
  simp only [go_sem]
theorem next_ok {b : Nat} {x0 x1 : AV} {V L : List Tm} {o : Option (Nat × Nat)} {c : Option Nat} {hv r : Hp} (hL : L.length ≤ 90000) (hN : L.length + 1 < N) (hI : BI V L) (W : Vec 4 (.slice o L.length c 4) L.length (tflat L) hv)
    (H : HasH σ ((b, .cells (x0 :: x1 :: .slice o L.length c 4 :: tflat V) true) :: (hv ++ r)))
    (kont : ∀ σ' o' c' hv' L' q x, L'.length ≤ L.length → BI V L' → (q = true → 0 < L'.length ∧ lf V (lf L' 0).name.toNat = lf L' 0 ∧ x = (lf L' 0).due) → (q = false → L'.length = 0 ∧ x = 0) → Vec 4 (.slice o' L'.length c' 4) L'.length (tflat L') hv' →
        HasH σ' ((b, .cells (x0 :: x1 :: .slice o' L'.length c' 4 :: tflat V) true) :: (hv' ++ r)) → K (.tuple [.int .i64 x, .bool q]) σ' = some ()) :
    callK Try.prog N ann (d + 5) dem 17 [.ptr (some (b, 0))] σ K = some () := by
  rw [go 17, f17_eq]
  simp only [go_sem]
  refine fresh_ok hL hN hI W H ?_
  intro σ' o' c' hv' L' q g1 g2 g3 g4 g5 g6
  have hb : σ'.get b = _ := g6.g1
  cases q with
  | false =>
    simp only [go_sem]
    exact kont σ' o' c' hv' L' false 0 g1 g2 (fun h => by cases h) (fun _ => ⟨g4 rfl, rfl⟩) g5 g6
  | true =>
    obtain ⟨l1, l2⟩ := g3 rfl
    obtain ⟨_, bk, junk, hoo, hvv, hcap⟩ := g5.row (by omega)
    subst hoo
    have hk1 : σ'.get bk = some (.cells (tflat L' ++ junk) true) := by rw [hvv] at g6; exact g6.g2
    have i1 : ((0:Int) < (L'.length : Int)) = True := eq_true (by omega)
    obtain ⟨a0, a1, a2, a3⟩ := tget l1 junk
    simp only [Nat.zero_mul, Nat.zero_add] at a0 a1 a2 a3
    simp only [go_sem, hb, i1, hk1, a1]
    exact kont σ' _ c' hv' L' true _ g1 g2 (fun _ => ⟨l1, l2, rfl⟩) (fun h => by cases h) g5 g6

def dbl (s : Int) : Int := if 2 * s < 4096 then 2 * s else 4096

theorem double_bad {p : Option (Nat × Nat)} {n : Int} (h : nm n = false) : callK Try.prog N ann (d + 3) dem 10 [.ptr p, .int .i64 n] σ K = K (.tuple [.int .i64 0, .int .i64 1]) σ := by
  rw [go 10, f10_eq]
  simp only [go_sem, named_eq, h]
theorem double_nil {n : Int} (h : nm n = true) : callK Try.prog N ann (d + 3) dem 10 [.ptr none, .int .i64 n] σ K = K (.tuple [.int .i64 0, .int .i64 6]) σ := by
  rw [go 10, f10_eq]
  simp only [go_sem, named_eq, h, has_nil]
theorem double_dead {b : Nat} {x0 x1 x2 : AV} {V : List Tm} {own : Bool} (hg : σ.get b = some (.cells (x0 :: x1 :: x2 :: tflat V) own)) (hV : V.length = 16) {n : Int} (h : nm n = true) (hl : liveB V n = false) :
    callK Try.prog N ann (d + 3) dem 10 [.ptr (some (b, 0)), .int .i64 n] σ K = K (.tuple [.int .i64 0, .int .i64 6]) σ := by
  rw [go 10, f10_eq]
  simp only [go_sem, named_eq, h]
  rw [has_eq hg hV]
  simp only [go_sem, hl]

theorem BI.zero_or {V L : List Tm} (hI : BI V L) {n : Int} (hl : liveB V n = true) : 1 ≤ (lf V n.toNat).span ∧ (lf V n.toNat).span ≤ 4096 ∧ (lf V n.toNat).name = n ∧ InF (lf L) L.length (lf V n.toNat) := by
  have hh := liveB_nm hl
  unfold liveB at hl
  simp only [Bool.and_eq_true] at hl
  have h2 := of_decide_eq_true hl.2
  rcases hI.live n.toNat (by omega) with hz | ⟨z1, z2, z3, z4⟩
  · rw [hz] at h2; simp [Tm.zero] at h2
  · exact ⟨z2, z3, by rw [z1]; omega, z4⟩

theorem double_live {b : Nat} {now turn : Int} {o : Option (Nat × Nat)} {c : Option Nat} {V L : List Tm} {hv r : Hp} (hI : BI V L) (hL : L.length ≤ 90000) (hN : L.length + 1 < N) (h0 : 0 ≤ now) (h1 : now ≤ 2 ^ 40)
    (W : Vec 4 (.slice o L.length c 4) L.length (tflat L) hv) (H : HasH σ ((b, .cells (.int .i64 now :: .int .i64 turn :: .slice o L.length c 4 :: tflat V) true) :: (hv ++ r)))
    {n : Int} (hl : liveB V n = true)
    (kont : ∀ σ' o' c' hv' L' turn', L'.length = L.length + 1 → BI (V.set n.toNat ⟨n, now + dbl (lf V n.toNat).span, dbl (lf V n.toNat).span, turn'⟩) L' → Vec 4 (.slice o' L'.length c' 4) L'.length (tflat L') hv' →
      HasH σ' ((b, .cells (.int .i64 now :: .int .i64 turn' :: .slice o' L'.length c' 4 :: tflat (V.set n.toNat ⟨n, now + dbl (lf V n.toNat).span, dbl (lf V n.toNat).span, turn'⟩)) true) :: (hv' ++ r)) →
      K (.tuple [.int .i64 (dbl (lf V n.toNat).span), .int .i64 0]) σ' = some ()) :
    callK Try.prog N ann (d + 5) dem 10 [.ptr (some (b, 0)), .int .i64 n] σ K = some () := by
  rw [go 10, f10_eq]
  have hh := liveB_nm hl
  have hb : σ.get b = _ := H.g1
  obtain ⟨z1, z2, z3, z4⟩ := hI.zero_or hl
  have i0 : ((0:Int) ≤ n) = True := eq_true hh.1
  have i1 : (n < (16:Int)) = True := eq_true (by omega)
  have hV := hI.v
  obtain ⟨a0, a1, a2, a3⟩ := bget (show n.toNat < V.length by omega) (.int .i64 now) (.int .i64 turn) (.slice o L.length c 4)
  have w : IntKind.i64.wrap (2 * (lf V n.toNat).span) = 2 * (lf V n.toNat).span := wrap_small (by omega) (by omega)
  have hd : (if 2 * (lf V n.toNat).span < 4096 then IntKind.i64.wrap (2 * (lf V n.toNat).span) else 4096) = dbl (lf V n.toNat).span := by rw [w]; rfl
  simp only [go_sem, named_eq, nm_t hh]
  rw [has_eq hb hV]
  simp only [go_sem, hl, i0, i1, hb, a2, w, hd]
  have hdl : 1 ≤ dbl (lf V n.toNat).span ∧ dbl (lf V n.toNat).span ≤ 4096 := by unfold dbl; split <;> omega
  refine set_ok hI hL hN h0 h1 W H ⟨hh.1, hh.2, hdl.1, hdl.2⟩ ?_
  intro σ' o' c' hv' L' turn' g1 g2 g3 g4
  simp only [go_sem]
  exact kont σ' o' c' hv' L' turn' g1 g2 g3 g4

end Go.Proofs.Ytciibgjmdgpgnaa
