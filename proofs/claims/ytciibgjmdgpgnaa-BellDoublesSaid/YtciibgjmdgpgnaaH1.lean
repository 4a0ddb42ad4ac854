/- Heaps, plain: what a row keeps when its elements go up or down. No program in sight. -/
import Derived.Test.YtciibgjmdgpgnaaA32
namespace Go.Proofs.Ytciibgjmdgpgnaa
open Go.AM
set_option linter.unusedSimpArgs false
set_option linter.unusedVariables false

/-- A timer. -/
structure Tm where
  name : Int
  due : Int
  span : Int
  turn : Int
  deriving DecidableEq
def Tm.zero : Tm := ⟨0, 0, 0, 0⟩

/-- The order of timers: by their moments, then by their names. -/
def tlt (a b : Tm) : Bool := if a.due = b.due then decide (a.name < b.name) else decide (a.due < b.due)
theorem tlt_iff (a b : Tm) : tlt a b = true ↔ a.due < b.due ∨ (a.due = b.due ∧ a.name < b.name) := by
  unfold tlt; split <;> simp <;> omega
theorem tlt_irr (a : Tm) : tlt a a = false := by
  cases h : tlt a a with
  | false => rfl
  | true => rw [tlt_iff] at h; omega
/-- 'No less than' goes on. -/
theorem nlt_trans {a b c : Tm} (h1 : tlt a b = false) (h2 : tlt b c = false) : tlt a c = false := by
  cases h : tlt a c with
  | false => rfl
  | true =>
    exfalso
    have n1 : ¬ (a.due < b.due ∨ (a.due = b.due ∧ a.name < b.name)) := by rw [← tlt_iff, h1]; simp
    have n2 : ¬ (b.due < c.due ∨ (b.due = c.due ∧ b.name < c.name)) := by rw [← tlt_iff, h2]; simp
    rw [tlt_iff] at h
    omega
theorem nlt_of_lt {a b : Tm} (h : tlt a b = true) : tlt b a = false := by
  cases h2 : tlt b a with
  | false => rfl
  | true => rw [tlt_iff] at h h2; omega

def swp (f : Nat → Tm) (i j : Nat) : Nat → Tm := fun k => if k = i then f j else if k = j then f i else f k
def InF (f : Nat → Tm) (n : Nat) (t : Tm) : Prop := ∃ k, k < n ∧ f k = t

theorem swp_in {f : Nat → Tm} {n i j : Nat} (hi : i < n) (hj : j < n) (t : Tm) : InF (swp f i j) n t ↔ InF f n t := by
  constructor
  · rintro ⟨k, hk, rfl⟩
    unfold swp
    split
    · exact ⟨j, hj, rfl⟩
    · split
      · exact ⟨i, hi, rfl⟩
      · exact ⟨k, hk, rfl⟩
  · rintro ⟨k, hk, rfl⟩
    by_cases h1 : k = i
    · subst h1
      refine ⟨j, hj, ?_⟩
      unfold swp
      split
      · rename_i h; rw [h]
      · rw [if_pos rfl]
    · by_cases h2 : k = j
      · subst h2
        exact ⟨i, hi, by unfold swp; rw [if_pos rfl]⟩
      · exact ⟨k, hk, by unfold swp; rw [if_neg h1, if_neg h2]⟩

/-- No child is less than its parent. -/
def HeapF (f : Nat → Tm) (n : Nat) : Prop := ∀ k, 0 < k → k < n → tlt (f k) (f ((k - 1) / 2)) = false

theorem HeapF.root {f : Nat → Tm} {n : Nat} (h : HeapF f n) : ∀ k, k < n → tlt (f k) (f 0) = false := by
  intro k
  induction k using Nat.strongRecOn with
  | _ k ih =>
    intro hk
    by_cases h0 : k = 0
    · subst h0; exact tlt_irr _
    · exact nlt_trans (h k (by omega) hk) (ih ((k - 1) / 2) (by omega) (by omega))

/-- Right but for one that may be less than its parent. -/
def UpI (f : Nat → Tm) (n j : Nat) : Prop :=
  (∀ k, 0 < k → k < n → k ≠ j → tlt (f k) (f ((k - 1) / 2)) = false) ∧ (∀ k, 0 < k → k < n → (k - 1) / 2 = j → 0 < j → tlt (f k) (f ((j - 1) / 2)) = false)

theorem UpI.push {f : Nat → Tm} {n : Nat} (h : HeapF f n) : UpI f (n + 1) n := by
  refine ⟨fun k h0 hk hne => h k h0 (by omega), fun k h0 hk hp _ => ?_⟩
  omega

theorem UpI.stop {f : Nat → Tm} {n j : Nat} (h : UpI f n j) (hs : j = 0 ∨ tlt (f j) (f ((j - 1) / 2)) = false) : HeapF f n := by
  intro k h0 hk
  by_cases hj : k = j
  · subst hj
    rcases hs with h1 | h1
    · omega
    · exact h1
  · exact h.1 k h0 hk hj

theorem UpI.step {f : Nat → Tm} {n j : Nat} (h : UpI f n j) (hj : 0 < j) (hn : j < n) (hl : tlt (f j) (f ((j - 1) / 2)) = true) : UpI (swp f ((j - 1) / 2) j) n ((j - 1) / 2) := by
  have hp : (j - 1) / 2 < j := by omega
  refine ⟨fun k h0 hk hne => ?_, fun k h0 hk hpk hpp => ?_⟩
  · by_cases hkj : k = j
    · subst hkj
      have e1 : swp f ((k - 1) / 2) k k = f ((k - 1) / 2) := by unfold swp; rw [if_neg (by omega), if_pos rfl]
      have e2 : swp f ((k - 1) / 2) k ((k - 1) / 2) = f k := by unfold swp; rw [if_pos rfl]
      rw [e1, e2]
      exact nlt_of_lt hl
    · have e1 : swp f ((j - 1) / 2) j k = f k := by unfold swp; rw [if_neg hne, if_neg hkj]
      rw [e1]
      by_cases h1 : (k - 1) / 2 = (j - 1) / 2
      · have e2 : swp f ((j - 1) / 2) j ((k - 1) / 2) = f j := by unfold swp; rw [if_pos h1]
        rw [e2]
        exact nlt_trans (by rw [← h1]; exact h.1 k h0 hk hkj) (nlt_of_lt hl)
      · by_cases h2 : (k - 1) / 2 = j
        · have e2 : swp f ((j - 1) / 2) j ((k - 1) / 2) = f ((j - 1) / 2) := by unfold swp; rw [if_neg h1, if_pos h2]
          rw [e2]
          exact h.2 k h0 hk h2 hj
        · have e2 : swp f ((j - 1) / 2) j ((k - 1) / 2) = f ((k - 1) / 2) := by unfold swp; rw [if_neg h1, if_neg h2]
          rw [e2]
          exact h.1 k h0 hk hkj
  · -- children of the parent, against the grandparent
    have e2 : swp f ((j - 1) / 2) j (((j - 1) / 2 - 1) / 2) = f (((j - 1) / 2 - 1) / 2) := by unfold swp; rw [if_neg (by omega), if_neg (by omega)]
    rw [e2]
    have hg := h.1 ((j - 1) / 2) hpp (by omega) (by omega)
    by_cases hkj : k = j
    · subst hkj
      have e1 : swp f ((k - 1) / 2) k k = f ((k - 1) / 2) := by unfold swp; rw [if_neg (by omega), if_pos rfl]
      rw [e1]; exact hg
    · have e1 : swp f ((j - 1) / 2) j k = f k := by unfold swp; rw [if_neg (by omega), if_neg hkj]
      rw [e1]
      have := h.1 k h0 hk hkj
      rw [hpk] at this
      exact nlt_trans this hg

/-- Right but for one that may not be less than its children. -/
def DownI (f : Nat → Tm) (n i : Nat) : Prop :=
  (∀ k, 0 < k → k < n → (k - 1) / 2 ≠ i → tlt (f k) (f ((k - 1) / 2)) = false) ∧ (∀ k, 0 < k → k < n → (k - 1) / 2 = i → 0 < i → tlt (f k) (f ((i - 1) / 2)) = false)

theorem DownI.stop {f : Nat → Tm} {n i : Nat} (h : DownI f n i) (hs : ∀ k, 0 < k → k < n → (k - 1) / 2 = i → tlt (f k) (f i) = false) : HeapF f n := by
  intro k h0 hk
  by_cases hp : (k - 1) / 2 = i
  · rw [hp]; exact hs k h0 hk hp
  · exact h.1 k h0 hk hp

theorem DownI.step {f : Nat → Tm} {n i j : Nat} (h : DownI f n i) (hj : 0 < j) (hn : j < n) (hp : (j - 1) / 2 = i) (hl : tlt (f j) (f i) = true) (hm : ∀ k, 0 < k → k < n → (k - 1) / 2 = i → tlt (f k) (f j) = false) : DownI (swp f i j) n j := by
  have hij : i < j := by omega
  have ei : swp f i j i = f j := by unfold swp; rw [if_pos rfl]
  have ej : swp f i j j = f i := by unfold swp; rw [if_neg (by omega), if_pos rfl]
  have eo : ∀ k, k ≠ i → k ≠ j → swp f i j k = f k := fun k h1 h2 => by unfold swp; rw [if_neg h1, if_neg h2]
  refine ⟨fun k h0 hk hne => ?_, fun k h0 hk hpk _ => ?_⟩
  · by_cases hki : k = i
    · subst hki
      rw [ei, eo _ (by omega) (by omega)]
      exact h.2 j hj hn hp h0
    · by_cases hkj : k = j
      · subst hkj
        rw [ej, hp, ei]
        exact nlt_of_lt hl
      · rw [eo k hki hkj]
        by_cases hpi : (k - 1) / 2 = i
        · rw [hpi, ei]; exact hm k h0 hk hpi
        · rw [eo _ hpi hne]; exact h.1 k h0 hk hpi
  · rw [eo k (by omega) (by omega), hp, ei]
    have := h.1 k h0 hk (by omega)
    rw [hpk] at this
    exact this

/-- The root away: the last one in its place. -/
theorem HeapF.pop {f : Nat → Tm} {n : Nat} (h : HeapF f (n + 1)) : DownI (swp f 0 n) n 0 := by
  have eo : ∀ k, k ≠ 0 → k < n → swp f 0 n k = f k := fun k h1 h2 => by unfold swp; rw [if_neg h1, if_neg (by omega)]
  refine ⟨fun k h0 hk hne => ?_, fun k h0 hk hp h1 => by omega⟩
  rw [eo k (by omega) hk, eo _ hne (by omega)]
  exact h k h0 (by omega)

end Go.Proofs.Ytciibgjmdgpgnaa
