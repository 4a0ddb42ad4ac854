/- A bell in memory: Tick, New. -/
import Derived.Test.YtciibgjmdgpgnaaH9
namespace Go.Proofs.Ytciibgjmdgpgnaa
open Go.AM
set_option maxRecDepth 100000
set_option linter.unusedSimpArgs false
set_option linter.unusedVariables false
variable {N d : Nat} {dem : Bool} {σ : St} {K : AV → St → Option Unit}

theorem tick_bad {p : Option (Nat × Nat)} {by_ : Int} (h : by_ < 0 ∨ by_ > 4096) : callK Try.prog N ann (d + 1) dem 13 [.ptr p, .int .i64 by_] σ K = K (.tuple [.slice none 0 (some 0) 1, .int .i64 1]) σ := by
  rw [go 13, f13_eq]
  by_cases h1 : by_ < 0
  · have e1 : decide (by_ < 0) = true := decide_eq_true h1
    simp only [go_sem, e1]
  · have e1 : decide (by_ < 0) = false := decide_eq_false h1
    have e2 : decide (by_ > 4096) = true := decide_eq_true (by omega)
    simp only [go_sem, e1, e2]

theorem tick_nil {by_ : Int} (h : 0 ≤ by_ ∧ by_ ≤ 4096) : callK Try.prog N ann (d + 1) dem 13 [.ptr none, .int .i64 by_] σ K = K (.tuple [.slice none 0 (some 0) 1, .int .i64 7]) σ := by
  rw [go 13, f13_eq]
  have e1 : decide (by_ < 0) = false := decide_eq_false (by omega)
  have e2 : decide (by_ > 4096) = false := decide_eq_false (by omega)
  simp only [go_sem, e1, e2]

theorem tick_long {b : Nat} {now by_ : Int} {cs : List AV} {own : Bool} (hg : σ.get b = some (.cells (.int .i64 now :: cs) own)) (h : 0 ≤ by_ ∧ by_ ≤ 4096) (hl : now > 1099511627776 - by_) :
    callK Try.prog N ann (d + 1) dem 13 [.ptr (some (b, 0)), .int .i64 by_] σ K = K (.tuple [.slice none 0 (some 0) 1, .int .i64 2]) σ := by
  rw [go 13, f13_eq]
  have e1 : decide (by_ < 0) = false := decide_eq_false (by omega)
  have e2 : decide (by_ > 4096) = false := decide_eq_false (by omega)
  have w : IntKind.i64.wrap (1099511627776 - by_) = 1099511627776 - by_ := wrap_small (by omega) (by omega)
  have e3 : decide (now > 1099511627776 - by_) = true := decide_eq_true hl
  simp only [go_sem, e1, e2, hg, w, e3]

theorem tick_ok {b : Nat} {now turn : Int} {o : Option (Nat × Nat)} {c : Option Nat} {V L : List Tm} {hv r : Hp} (hI : BI V L) (hL : L.length ≤ 90000) (hN : L.length + 1 < N) (h0 : 0 ≤ now)
    (W : Vec 4 (.slice o L.length c 4) L.length (tflat L) hv) (H : HasH σ ((b, .cells (.int .i64 now :: .int .i64 turn :: .slice o L.length c 4 :: tflat V) true) :: (hv ++ r)))
    {by_ : Int} (h : 0 ≤ by_ ∧ by_ ≤ 4096) (hl : now ≤ 1099511627776 - by_)
    (kont : ∀ σ' o' c' hv' V' L' ms o2 c2 hv2, L'.length ≤ L.length → BI V' L' → TickD (now + by_) (dues V) ms (dues V') → (∀ k, k < 16 → lf V' k = Tm.zero ∨ lf V' k = lf V k) → Vec 4 (.slice o' L'.length c' 4) L'.length (tflat L') hv' → Vec 1 (.slice o2 ms.length c2 1) ms.length (ints ms) hv2 →
      HasH σ' ((b, .cells (.int .i64 (now + by_) :: .int .i64 turn :: .slice o' L'.length c' 4 :: tflat V') true) :: (hv' ++ (hv2 ++ r))) → K (.tuple [.slice o2 ms.length c2 1, .int .i64 0]) σ' = some ()) :
    callK Try.prog N ann (d + 5) dem 13 [.ptr (some (b, 0)), .int .i64 by_] σ K = some () := by
  rw [go 13, f13_eq]
  have hb : σ.get b = _ := H.g1
  have e1 : decide (by_ < 0) = false := decide_eq_false (by omega)
  have e2 : decide (by_ > 4096) = false := decide_eq_false (by omega)
  have w : IntKind.i64.wrap (1099511627776 - by_) = 1099511627776 - by_ := wrap_small (by omega) (by omega)
  have w2 : IntKind.i64.wrap (now + by_) = now + by_ := wrap_small (by omega) (by omega)
  have e3 : decide (now > 1099511627776 - by_) = false := decide_eq_false (by omega)
  simp only [go_sem, e1, e2, hb, w, w2, e3]
  have H2 := H.put (.cells (.int .i64 (now + by_) :: .int .i64 turn :: .slice o L.length c 4 :: tflat V) true)
  refine tick_loop (now := now + by_) (turn := turn) L.length N _ V L o c hv [] none (some 0) [] r (Nat.le_refl _) (by omega) hL hN (by simp; omega) hI W (Vec.nil 1) (by simpa using H2) ?_
  intro σ' o' c' hv' V' L' ms o2' c2' hv2' q1 q2 q3 q4 q5 q6 q7
  simp only [go_sem]
  simp only [List.nil_append] at q6 ⊢
  exact kont σ' o' c' hv' V' L' ms o2' c2' hv2' q1 q2 q3 q4 q5 q6 q7

def V0 : List Tm := List.replicate 16 Tm.zero
theorem lf_V0 (k : Nat) : lf V0 k = Tm.zero := by
  unfold lf V0
  rw [List.getElem?_replicate]
  split <;> rfl
theorem BI0 : BI V0 [] := ⟨rfl, fun k _ h => absurd h (by simp), fun k _ => .inl (lf_V0 k), fun t ⟨k, h, _⟩ => absurd h (by simp), fun k _ => .inl (lf_V0 k)⟩

theorem new_eq : callK Try.prog N ann (d + 1) dem 7 [] σ K = K (.ptr (some (σ.next, 0))) (σ.new (.cells (.int .i64 0 :: .int .i64 0 :: .slice none 0 (some 0) 4 :: tflat V0) true)) := by
  rw [go 7, f7_eq]
  simp only [go_sem]
  rfl

end Go.Proofs.Ytciibgjmdgpgnaa
