/- What a tick rings, as a plain law: each time the least of the timers that are due. -/
import Derived.Test.YtciibgjmdgpgnaaH7
namespace Go.Proofs.Ytciibgjmdgpgnaa
open Go.AM
set_option maxRecDepth 100000
set_option linter.unusedSimpArgs false
set_option linter.unusedVariables false

def gi (D : List Int) (k : Nat) : Int := (D[k]?).getD (-1)
theorem gi_set {D : List Int} {i : Nat} (hi : i < D.length) (x : Int) (k : Nat) : gi (D.set i x) k = if k = i then x else gi D k := by
  unfold gi
  rw [List.getElem?_set]
  by_cases h : i = k
  · subst h; simp [hi]
  · have h' : ¬ k = i := fun e => h e.symm
    simp [h, h']

inductive TickD (now : Int) : List Int → List Int → List Int → Prop
  | stop {D : List Int} : (∀ k, k < 16 → gi D k < 0 ∨ now < gi D k) → TickD now D [] D
  | step {D D' : List Int} {ns : List Int} {k : Nat} : k < 16 → 0 ≤ gi D k → gi D k ≤ now → (∀ j, j < 16 → gi D j < 0 ∨ gi D k < gi D j ∨ (gi D k = gi D j ∧ k ≤ j)) → TickD now (D.set k (-1)) ns D' → TickD now D ((k : Int) :: ns) D'

theorem TickD.det {now : Int} {D D1 : List Int} {ns : List Int} (h : TickD now D ns D1) : ∀ {ms D2}, TickD now D ms D2 → ns = ms ∧ D1 = D2 := by
  induction h with
  | stop h =>
    intro ms D2 h2
    cases h2 with
    | stop _ => exact ⟨rfl, rfl⟩
    | step hk h0 h1 _ _ => rcases h _ hk with q | q <;> omega
  | @step D D' ns k hk h0 h1 hm _ ih =>
    intro ms D2 h2
    cases h2 with
    | stop h => rcases h _ hk with q | q <;> omega
    | @step _ _ ns' k' hk' h0' h1' hm' ht' =>
      have : k = k' := by
        have a := hm _ hk'
        have b := hm' _ hk
        omega
      subst this
      obtain ⟨e1, e2⟩ := ih ht'
      exact ⟨by rw [e1], e2⟩

/-- When a bell's timers are due; -1: there is none. -/
def dues (V : List Tm) : List Int := V.map fun t => if 0 < t.span then t.due else -1
theorem dues_len (V : List Tm) : (dues V).length = V.length := by simp [dues]
theorem dues_set (V : List Tm) (k : Nat) (t : Tm) : dues (V.set k t) = (dues V).set k (if 0 < t.span then t.due else -1) := by
  unfold dues
  rw [List.map_set]
theorem gi_dues {V : List Tm} {k : Nat} (h : k < V.length) : gi (dues V) k = if 0 < (lf V k).span then (lf V k).due else -1 := by
  unfold gi dues lf
  simp [h]

theorem gi_dues_zero {V : List Tm} {k : Nat} (h : k < V.length) (hz : lf V k = Tm.zero) : gi (dues V) k = -1 := by
  rw [gi_dues h, hz]; rfl

theorem BI.none_left {V L : List Tm} (hI : BI V L) (h : L.length = 0) (now : Int) : ∀ k, k < 16 → gi (dues V) k < 0 ∨ now < gi (dues V) k := by
  intro k hk
  have hV := hI.v
  rcases hI.live k hk with hz | ⟨_, _, _, j, hj, _⟩
  · rw [gi_dues_zero (by omega) hz]; exact .inl (by omega)
  · omega

theorem BI.least {V L : List Tm} (hI : BI V L) (h : 0 < L.length) : ∀ k, k < 16 → gi (dues V) k < 0 ∨ (lf L 0).due < gi (dues V) k ∨ ((lf L 0).due = gi (dues V) k ∧ (lf L 0).name ≤ k) := by
  intro k hk
  have hV := hI.v
  rcases hI.live k hk with hz | ⟨z1, z2, z3, j, hj, he⟩
  · rw [gi_dues_zero (by omega) hz]; exact .inl (by omega)
  · right
    have hr := hI.h.root j hj
    rw [he] at hr
    rw [gi_dues (by omega), if_pos (by omega)]
    have := mt (tlt_iff (lf V k) (lf L 0)).2 (by rw [hr]; decide)
    rw [z1] at this
    omega

end Go.Proofs.Ytciibgjmdgpgnaa
