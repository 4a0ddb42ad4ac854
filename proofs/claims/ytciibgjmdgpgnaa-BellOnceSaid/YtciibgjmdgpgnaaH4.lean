/- Heaps, plain: what a row keeps when its elements go up or down. No program in sight. -/
import Derived.Test.YtciibgjmdgpgnaaA32
import Derived.Test.YtciibgjmdgpgnaaBeHeap
namespace Go.Proofs.Ytciibgjmdgpgnaa
open Go.AM
set_option linter.unusedSimpArgs false
set_option linter.unusedVariables false

/-- A timer. -/
structure Tm where
  name : Int
  due : Int
  span : Int
  turn : Int
  deriving DecidableEq
def Tm.zero : Tm := ⟨0, 0, 0, 0⟩

/-- The order of timers: by their moments, then by their names. -/
def tlt (a b : Tm) : Bool := if a.due = b.due then decide (a.name < b.name) else decide (a.due < b.due)
theorem tlt_iff (a b : Tm) : tlt a b = true ↔ a.due < b.due ∨ (a.due = b.due ∧ a.name < b.name) := by
  unfold tlt; split <;> simp <;> omega
theorem tlt_irr (a : Tm) : tlt a a = false := by
  cases h : tlt a a with
  | false => rfl
  | true => rw [tlt_iff] at h; omega
/-- 'No less than' goes on. -/
theorem nlt_trans {a b c : Tm} (h1 : tlt a b = false) (h2 : tlt b c = false) : tlt a c = false := by
  cases h : tlt a c with
  | false => rfl
  | true =>
    exfalso
    have n1 : ¬ (a.due < b.due ∨ (a.due = b.due ∧ a.name < b.name)) := by rw [← tlt_iff, h1]; simp
    have n2 : ¬ (b.due < c.due ∨ (b.due = c.due ∧ b.name < c.name)) := by rw [← tlt_iff, h2]; simp
    rw [tlt_iff] at h
    omega
theorem nlt_of_lt {a b : Tm} (h : tlt a b = true) : tlt b a = false := by
  cases h2 : tlt b a with
  | false => rfl
  | true => rw [tlt_iff] at h h2; omega

def swp (f : Nat → Tm) (i j : Nat) : Nat → Tm := fun k => if k = i then f j else if k = j then f i else f k
def InF (f : Nat → Tm) (n : Nat) (t : Tm) : Prop := ∃ k, k < n ∧ f k = t

theorem swp_in {f : Nat → Tm} {n i j : Nat} (hi : i < n) (hj : j < n) (t : Tm) : InF (swp f i j) n t ↔ InF f n t := by
  constructor
  · rintro ⟨k, hk, rfl⟩
    unfold swp
    split
    · exact ⟨j, hj, rfl⟩
    · split
      · exact ⟨i, hi, rfl⟩
      · exact ⟨k, hk, rfl⟩
  · rintro ⟨k, hk, rfl⟩
    by_cases h1 : k = i
    · subst h1
      refine ⟨j, hj, ?_⟩
      unfold swp
      split
      · rename_i h; rw [h]
      · rw [if_pos rfl]
    · by_cases h2 : k = j
      · subst h2
        exact ⟨i, hi, by unfold swp; rw [if_pos rfl]⟩
      · exact ⟨k, hk, by unfold swp; rw [if_neg h1, if_neg h2]⟩

/-- No child is less than its parent. -/
def HeapF (f : Nat → Tm) (n : Nat) : Prop := ∀ k, 0 < k → k < n → tlt (f k) (f ((k - 1) / 2)) = false

theorem HeapF.root {f : Nat → Tm} {n : Nat} (h : HeapF f n) : ∀ k, k < n → tlt (f k) (f 0) = false := by
  intro k
  induction k using Nat.strongRecOn with
  | _ k ih =>
    intro hk
    by_cases h0 : k = 0
    · subst h0; exact tlt_irr _
    · exact nlt_trans (h k (by omega) hk) (ih ((k - 1) / 2) (by omega) (by omega))

/-- Right but for one that may be less than its parent. -/
def UpI (f : Nat → Tm) (n j : Nat) : Prop :=
  (∀ k, 0 < k → k < n → k ≠ j → tlt (f k) (f ((k - 1) / 2)) = false) ∧ (∀ k, 0 < k → k < n → (k - 1) / 2 = j → 0 < j → tlt (f k) (f ((j - 1) / 2)) = false)

theorem UpI.push {f : Nat → Tm} {n : Nat} (h : HeapF f n) : UpI f (n + 1) n := by
  refine ⟨fun k h0 hk hne => h k h0 (by omega), fun k h0 hk hp _ => ?_⟩
  omega

theorem UpI.stop {f : Nat → Tm} {n j : Nat} (h : UpI f n j) (hs : j = 0 ∨ tlt (f j) (f ((j - 1) / 2)) = false) : HeapF f n := by
  intro k h0 hk
  by_cases hj : k = j
  · subst hj
    rcases hs with h1 | h1
    · omega
    · exact h1
  · exact h.1 k h0 hk hj

theorem UpI.step {f : Nat → Tm} {n j : Nat} (h : UpI f n j) (hj : 0 < j) (hn : j < n) (hl : tlt (f j) (f ((j - 1) / 2)) = true) : UpI (swp f ((j - 1) / 2) j) n ((j - 1) / 2) := by
  have hp : (j - 1) / 2 < j := by omega
  refine ⟨fun k h0 hk hne => ?_, fun k h0 hk hpk hpp => ?_⟩
  · by_cases hkj : k = j
    · subst hkj
      have e1 : swp f ((k - 1) / 2) k k = f ((k - 1) / 2) := by unfold swp; rw [if_neg (by omega), if_pos rfl]
      have e2 : swp f ((k - 1) / 2) k ((k - 1) / 2) = f k := by unfold swp; rw [if_pos rfl]
      rw [e1, e2]
      exact nlt_of_lt hl
    · have e1 : swp f ((j - 1) / 2) j k = f k := by unfold swp; rw [if_neg hne, if_neg hkj]
      rw [e1]
      by_cases h1 : (k - 1) / 2 = (j - 1) / 2
      · have e2 : swp f ((j - 1) / 2) j ((k - 1) / 2) = f j := by unfold swp; rw [if_pos h1]
        rw [e2]
        exact nlt_trans (by rw [← h1]; exact h.1 k h0 hk hkj) (nlt_of_lt hl)
      · by_cases h2 : (k - 1) / 2 = j
        · have e2 : swp f ((j - 1) / 2) j ((k - 1) / 2) = f ((j - 1) / 2) := by unfold swp; rw [if_neg h1, if_pos h2]
          rw [e2]
          exact h.2 k h0 hk h2 hj
        · have e2 : swp f ((j - 1) / 2) j ((k - 1) / 2) = f ((k - 1) / 2) := by unfold swp; rw [if_neg h1, if_neg h2]
          rw [e2]
          exact h.1 k h0 hk hkj
  · -- children of the parent, against the grandparent
    have e2 : swp f ((j - 1) / 2) j (((j - 1) / 2 - 1) / 2) = f (((j - 1) / 2 - 1) / 2) := by unfold swp; rw [if_neg (by omega), if_neg (by omega)]
    rw [e2]
    have hg := h.1 ((j - 1) / 2) hpp (by omega) (by omega)
    by_cases hkj : k = j
    · subst hkj
      have e1 : swp f ((k - 1) / 2) k k = f ((k - 1) / 2) := by unfold swp; rw [if_neg (by omega), if_pos rfl]
      rw [e1]; exact hg
    · have e1 : swp f ((j - 1) / 2) j k = f k := by unfold swp; rw [if_neg (by omega), if_neg hkj]
      rw [e1]
      have := h.1 k h0 hk hkj
      rw [hpk] at this
      exact nlt_trans this hg

/-- Right but for one that may not be less than its children. -/
def DownI (f : Nat → Tm) (n i : Nat) : Prop :=
  (∀ k, 0 < k → k < n → (k - 1) / 2 ≠ i → tlt (f k) (f ((k - 1) / 2)) = false) ∧ (∀ k, 0 < k → k < n → (k - 1) / 2 = i → 0 < i → tlt (f k) (f ((i - 1) / 2)) = false)

theorem DownI.stop {f : Nat → Tm} {n i : Nat} (h : DownI f n i) (hs : ∀ k, 0 < k → k < n → (k - 1) / 2 = i → tlt (f k) (f i) = false) : HeapF f n := by
  intro k h0 hk
  by_cases hp : (k - 1) / 2 = i
  · rw [hp]; exact hs k h0 hk hp
  · exact h.1 k h0 hk hp

theorem DownI.step {f : Nat → Tm} {n i j : Nat} (h : DownI f n i) (hj : 0 < j) (hn : j < n) (hp : (j - 1) / 2 = i) (hl : tlt (f j) (f i) = true) (hm : ∀ k, 0 < k → k < n → (k - 1) / 2 = i → tlt (f k) (f j) = false) : DownI (swp f i j) n j := by
  have hij : i < j := by omega
  have ei : swp f i j i = f j := by unfold swp; rw [if_pos rfl]
  have ej : swp f i j j = f i := by unfold swp; rw [if_neg (by omega), if_pos rfl]
  have eo : ∀ k, k ≠ i → k ≠ j → swp f i j k = f k := fun k h1 h2 => by unfold swp; rw [if_neg h1, if_neg h2]
  refine ⟨fun k h0 hk hne => ?_, fun k h0 hk hpk _ => ?_⟩
  · by_cases hki : k = i
    · subst hki
      rw [ei, eo _ (by omega) (by omega)]
      exact h.2 j hj hn hp h0
    · by_cases hkj : k = j
      · subst hkj
        rw [ej, hp, ei]
        exact nlt_of_lt hl
      · rw [eo k hki hkj]
        by_cases hpi : (k - 1) / 2 = i
        · rw [hpi, ei]; exact hm k h0 hk hpi
        · rw [eo _ hpi hne]; exact h.1 k h0 hk hpi
  · rw [eo k (by omega) (by omega), hp, ei]
    have := h.1 k h0 hk (by omega)
    rw [hpk] at this
    exact this

/-- The root away: the last one in its place. -/
theorem HeapF.pop {f : Nat → Tm} {n : Nat} (h : HeapF f (n + 1)) : DownI (swp f 0 n) n 0 := by
  have eo : ∀ k, k ≠ 0 → k < n → swp f 0 n k = f k := fun k h1 h2 => by unfold swp; rw [if_neg h1, if_neg (by omega)]
  refine ⟨fun k h0 hk hne => ?_, fun k h0 hk hp h1 => by omega⟩
  rw [eo k (by omega) hk, eo _ hne (by omega)]
  exact h k h0 (by omega)

end Go.Proofs.Ytciibgjmdgpgnaa

namespace Go.Proofs.Ytciibgjmdgpgnaa
open Go.AM
set_option maxRecDepth 100000
set_option linter.unusedSimpArgs false
set_option linter.unusedVariables false
instance : AM.Spec := nospec
variable {N d : Nat} {dem : Bool} {σ : St} {K : AV → St → Option Unit}

theorem go {R : Type} (f : FuncId) (N d : Nat) (dem : Bool) (args : List AV) (σ : St) (K : AV → St → Option R) : callK Try.prog N ann (d + 1) dem f args σ K = bodyK Try.prog (callK Try.prog N ann d) dem N ann f args σ K :=
  callK_succ _ _ _ _ _ _ _ _ _ rfl
theorem wrap_small {n : Int} (h1 : -9223372036854775808 ≤ n) (h2 : n ≤ 9223372036854775807) : IntKind.i64.wrap n = n := by
  rw [IntKind.wrap_i64]; omega

def Tm.cells (t : Tm) : List AV := [.int .i64 t.name, .int .i64 t.due, .int .i64 t.span, .int .i64 t.turn]
def tflat (L : List Tm) : List AV := L.flatMap Tm.cells
theorem tz (t : Tm) : t.cells.length = 4 := rfl
theorem tflat_len (L : List Tm) : (tflat L).length = L.length * 4 := by rw [tflat, flatMap_len tz]

def lf (L : List Tm) (k : Nat) : Tm := (L[k]?).getD Tm.zero
theorem lf_at {L : List Tm} {k : Nat} (h : k < L.length) : L[k]? = some (lf L k) := by simp [lf, h]
theorem tget {L : List Tm} {k : Nat} (h : k < L.length) (junk : List AV) : (tflat L ++ junk)[k * 4]? = some (.int .i64 (lf L k).name) ∧ (tflat L ++ junk)[k * 4 + 1]? = some (.int .i64 (lf L k).due) ∧
    (tflat L ++ junk)[k * 4 + 2]? = some (.int .i64 (lf L k).span) ∧ (tflat L ++ junk)[k * 4 + 3]? = some (.int .i64 (lf L k).turn) := by
  have q : ∀ j, j < 4 → (tflat L ++ junk)[k * 4 + j]? = (lf L k).cells[j]? := fun j hj => by
    have := flatMap_get tz hj (lf_at h) junk
    simpa [tflat] using this
  exact ⟨q 0 (by omega), q 1 (by omega), q 2 (by omega), q 3 (by omega)⟩

theorem tsplice {L : List Tm} {i : Nat} (hi : i < L.length) (t : Tm) (junk : List AV) : St.splice (tflat L ++ junk) (i * 4) t.cells = tflat (L.set i t) ++ junk := by
  have hl : (tflat (L.take i)).length = i * 4 := by rw [tflat_len]; simp; omega
  have e2 : L.set i t = L.take i ++ t :: L.drop (i + 1) := by rw [List.set_eq_take_append_cons_drop, if_pos hi]
  have h1 : tflat L ++ junk = tflat (L.take i) ++ ((L[i]).cells ++ (tflat (L.drop (i + 1)) ++ junk)) := by
    have e : L = L.take i ++ L[i] :: L.drop (i + 1) := by simp
    calc tflat L ++ junk = tflat (L.take i ++ L[i] :: L.drop (i + 1)) ++ junk := by rw [← e]
      _ = _ := by simp only [tflat, List.flatMap_append, List.flatMap_cons, List.append_assoc]
  rw [h1, ← hl, splice_at, e2]
  have : List.drop t.cells.length ((L[i]).cells ++ (tflat (L.drop (i + 1)) ++ junk)) = tflat (L.drop (i + 1)) ++ junk := by
    rw [tz, ← tz L[i], List.drop_left]
  rw [this]
  simp [tflat]

def lsw (L : List Tm) (i j : Nat) : List Tm := (L.set i (lf L j)).set j (lf L i)
theorem lsw_len (L : List Tm) (i j : Nat) : (lsw L i j).length = L.length := by simp [lsw]
theorem lsw_lf {L : List Tm} {i j : Nat} (hi : i < L.length) (hj : j < L.length) : ∀ k, k < L.length → lf (lsw L i j) k = swp (lf L) i j k := by
  intro k hk
  unfold lf lsw swp
  simp only [List.getElem?_set, List.length_set]
  by_cases h1 : j = k
  · subst h1
    simp only [if_true, hk, Option.getD_some]
    by_cases h2 : j = i
    · subst h2; simp [lf]
    · simp [h2, lf]
  · have h1' : ¬ k = j := fun h => h1 h.symm
    by_cases h2 : i = k
    · subst h2; simp [h1, hk, lf]
    · have h2' : ¬ k = i := fun h => h2 h.symm
      simp [h1, h2, h1', h2']

theorem len_eq (o : Option (Nat × Nat)) (n : Nat) (c : Option Nat) : callK Try.prog N ann (d + 1) dem 49 [.slice o n c 4] σ K = K (.int .i64 n) σ := by
  rw [go 49, f49_eq]
  simp only [go_sem]

theorem less_eq {bk : Nat} {L : List Tm} {junk : List AV} {own : Bool} {c : Option Nat} (hg : σ.get bk = some (.cells (tflat L ++ junk) own)) {i j : Nat} (hi : i < L.length) (hj : j < L.length) :
    callK Try.prog N ann (d + 1) dem 50 [.slice (some (bk, 0)) L.length c 4, .int .i64 i, .int .i64 j] σ K = K (.bool (tlt (lf L i) (lf L j))) σ := by
  obtain ⟨a0, a1, a2, a3⟩ := tget hi junk
  obtain ⟨b0, b1, b2, b3⟩ := tget hj junk
  have i0 : ((0:Int) ≤ (i : Int)) = True := eq_true (by omega)
  have j0 : ((0:Int) ≤ (j : Int)) = True := eq_true (by omega)
  have i1 : ((i : Int) < (L.length : Int)) = True := eq_true (by omega)
  have j1 : ((j : Int) < (L.length : Int)) = True := eq_true (by omega)
  have ti : ((i:Int)).toNat = i := by omega
  have tj : ((j:Int)).toNat = j := by omega
  rw [go 50, f50_eq]
  by_cases hd : (lf L i).due = (lf L j).due
  · have e1 : ((lf L i).due != (lf L j).due) = false := by simp [hd]
    have e2 : tlt (lf L i) (lf L j) = decide ((lf L i).name < (lf L j).name) := by unfold tlt; rw [if_pos hd]
    simp only [go_sem, i0, i1, j0, j1, ti, tj, hg, a0, a1, b0, b1, e1, e2]
  · have e1 : ((lf L i).due != (lf L j).due) = true := by simp [hd]
    have e2 : tlt (lf L i) (lf L j) = decide ((lf L i).due < (lf L j).due) := by unfold tlt; rw [if_neg hd]
    simp only [go_sem, i0, i1, j0, j1, ti, tj, hg, a0, a1, b0, b1, e1, e2]

theorem swap_ok {bk : Nat} {L : List Tm} {junk : List AV} {c : Option Nat} {r : Hp} (H : HasH σ ((bk, .cells (tflat L ++ junk) true) :: r)) {i j : Nat} (hi : i < L.length) (hj : j < L.length)
    (kont : ∀ σ', HasH σ' ((bk, .cells (tflat (lsw L i j) ++ junk) true) :: r) → K (.tuple []) σ' = some ()) :
    callK Try.prog N ann (d + 1) dem 51 [.slice (some (bk, 0)) L.length c 4, .int .i64 i, .int .i64 j] σ K = some () := by
  have hg : σ.get bk = _ := H.g1
  obtain ⟨a0, a1, a2, a3⟩ := tget hi junk
  obtain ⟨b0, b1, b2, b3⟩ := tget hj junk
  have i0 : ((0:Int) ≤ (i : Int)) = True := eq_true (by omega)
  have j0 : ((0:Int) ≤ (j : Int)) = True := eq_true (by omega)
  have i1 : ((i : Int) < (L.length : Int)) = True := eq_true (by omega)
  have j1 : ((j : Int) < (L.length : Int)) = True := eq_true (by omega)
  have ti : ((i:Int)).toNat = i := by omega
  have tj : ((j:Int)).toNat = j := by omega
  have hl : (tflat L ++ junk).length = L.length * 4 + junk.length := by rw [List.length_append, tflat_len]
  have hl2 : (tflat (L.set i (lf L j)) ++ junk).length = L.length * 4 + junk.length := by rw [List.length_append, tflat_len]; simp
  have s1 := tsplice hi (lf L j) junk
  have s2 := tsplice (L := L.set i (lf L j)) (i := j) (by simpa using hj) (lf L i) junk
  simp only [Tm.cells] at s1 s2
  have k1 : (i * 4 + (0 + 1 + 1 + 1 + 1) ≤ (tflat L ++ junk).length) = True := eq_true (by rw [hl]; omega)
  have k2 : (j * 4 + (0 + 1 + 1 + 1 + 1) ≤ (tflat (L.set i (lf L j)) ++ junk).length) = True := eq_true (by rw [hl2]; omega)
  have H2 := (H.put (.cells (tflat (L.set i (lf L j)) ++ junk) true)).put (.cells (tflat ((L.set i (lf L j)).set j (lf L i)) ++ junk) true)
  rw [go 51, f51_eq]
  simp only [go_sem, i0, i1, j0, j1, ti, tj, hg, a0, a1, a2, a3, b0, b1, b2, b3, k1, k2, s1, s2]
  exact kont _ H2

end Go.Proofs.Ytciibgjmdgpgnaa

namespace Go.Proofs.Ytciibgjmdgpgnaa
open Go.AM
set_option maxRecDepth 100000
set_option linter.unusedSimpArgs false
set_option linter.unusedVariables false
variable {N d : Nat} {dem : Bool} {σ : St} {K : AV → St → Option Unit}

theorem HeapF.congr {f g : Nat → Tm} {n : Nat} (h : HeapF f n) (e : ∀ k, k < n → g k = f k) : HeapF g n := by
  intro k h0 hk
  rw [e k hk, e _ (by omega)]; exact h k h0 hk
theorem UpI.congr {f g : Nat → Tm} {n j : Nat} (h : UpI f n j) (hj : j < n) (e : ∀ k, k < n → g k = f k) : UpI g n j := by
  refine ⟨fun k h0 hk hne => ?_, fun k h0 hk hp h1 => ?_⟩
  · rw [e k hk, e _ (by omega)]; exact h.1 k h0 hk hne
  · rw [e k hk, e _ (by omega)]; exact h.2 k h0 hk hp h1
theorem DownI.congr {f g : Nat → Tm} {n i : Nat} (h : DownI f n i) (e : ∀ k, k < n → g k = f k) : DownI g n i := by
  refine ⟨fun k h0 hk hne => ?_, fun k h0 hk hp h1 => ?_⟩
  · rw [e k hk, e _ (by omega)]; exact h.1 k h0 hk hne
  · rw [e k hk, e _ (by omega)]; exact h.2 k h0 hk hp h1
theorem InF.congr {f g : Nat → Tm} {n : Nat} (e : ∀ k, k < n → g k = f k) (t : Tm) : InF g n t ↔ InF f n t := by
  constructor
  · rintro ⟨k, hk, rfl⟩; exact ⟨k, hk, (e k hk).symm⟩
  · rintro ⟨k, hk, rfl⟩; exact ⟨k, hk, e k hk⟩
theorem in_lsw {L : List Tm} {i j : Nat} (hi : i < L.length) (hj : j < L.length) {n : Nat} (hn : n ≤ L.length) (h1 : i < n) (h2 : j < n) (t : Tm) : InF (lf (lsw L i j)) n t ↔ InF (lf L) n t :=
  (InF.congr (fun k hk => lsw_lf hi hj k (by omega)) t).trans (swp_in h1 h2 t)

theorem up_loop {b bk : Nat} {x0 x1 : AV} {rest junk : List AV} {c : Option Nat} {r : Hp} {J : KF Unit} {n : Nat} (hn : n ≤ 100000) :
    ∀ (j k : Nat) (L : List Tm) (σ : St), j < k → j < n → L.length = n → UpI (lf L) n j →
      HasH σ ((bk, .cells (tflat L ++ junk) true) :: (b, .cells (x0 :: x1 :: .slice (some (bk, 0)) n c 4 :: rest) true) :: r) →
      (∀ σ' L', L'.length = n → HeapF (lf L') n → (∀ t, InF (lf L') n t ↔ InF (lf L) n t) → HasH σ' ((bk, .cells (tflat L' ++ junk) true) :: (b, .cells (x0 :: x1 :: .slice (some (bk, 0)) n c 4 :: rest) true) :: r) → J (.exit 0) f29e6 σ' = some ()) →
      loopK (f29L1 (callK Try.prog N ann (d + 1)) dem N) f29a1 k J (f29e0 b (j : Int)) σ = some () := by
  intro j
  induction j using Nat.strongRecOn with
  | _ j ih =>
    intro k L σ hk hj hL hU H kont
    obtain ⟨k, rfl⟩ : ∃ k', k = k' + 1 := ⟨k - 1, by omega⟩
    have hg : σ.get bk = _ := H.g1
    have hb : σ.get b = _ := H.g2
    have w1 : IntKind.i64.wrap ((j : Int) - 1) = (j : Int) - 1 := wrap_small (by omega) (by omega)
    rw [loopK_succ]
    by_cases h0 : j = 0
    · subst h0
      have e1 : IntKind.i64.wrap (Int.tdiv (((0 : Nat) : Int) - 1) 2) = 0 := by decide
      simp only [go_sem, w1, e1]
      exact kont σ L hL (hU.stop (.inl rfl)) (fun _ => Iff.rfl) H
    · have e1 : IntKind.i64.wrap (Int.tdiv ((j : Int) - 1) 2) = (((j - 1) / 2 : Nat) : Int) := by
        have : Int.tdiv ((j : Int) - 1) 2 = (((j - 1) / 2 : Nat) : Int) := by
          rw [Int.tdiv_eq_ediv_of_nonneg (by omega)]; omega
        rw [this]; exact wrap_small (by omega) (by omega)
      have e2 : ((((j - 1) / 2 : Nat) : Int) == (j : Int)) = false := by simp; omega
      subst hL
      simp only [go_sem, w1, e1, e2, hb]
      rw [less_eq hg hj (by omega)]
      cases hl : tlt (lf L j) (lf L ((j - 1) / 2)) with
      | false =>
        simp only [go_sem, hl]
        exact kont σ L rfl (hU.stop (.inr hl)) (fun _ => Iff.rfl) H
      | true =>
        simp only [go_sem, hl, hb]
        refine swap_ok H (i := (j - 1) / 2) (j := j) (by omega) hj ?_
        intro σ1 H1
        simp only [go_sem]
        refine ih ((j - 1) / 2) (by omega) k (lsw L ((j - 1) / 2) j) σ1 (by omega) (by omega) (lsw_len _ _ _) ?_ H1 ?_
        · exact (hU.step (by omega) hj hl).congr (by omega) (lsw_lf (by omega) hj)
        · intro σ' L' h1 h2 h3 h4
          exact kont σ' L' h1 h2 (fun t => (h3 t).trans (in_lsw (by omega) hj (Nat.le_refl _) (by omega) hj t)) h4

theorem up_ok {b bk : Nat} {x0 x1 : AV} {rest junk : List AV} {c : Option Nat} {r : Hp} {n : Nat} (hn : n ≤ 100000) {j : Nat} {L : List Tm} (hN : j < N) (hj : j < n) (hL : L.length = n) (hU : UpI (lf L) n j)
    (H : HasH σ ((bk, .cells (tflat L ++ junk) true) :: (b, .cells (x0 :: x1 :: .slice (some (bk, 0)) n c 4 :: rest) true) :: r))
    (kont : ∀ σ' L', L'.length = n → HeapF (lf L') n → (∀ t, InF (lf L') n t ↔ InF (lf L) n t) → HasH σ' ((bk, .cells (tflat L' ++ junk) true) :: (b, .cells (x0 :: x1 :: .slice (some (bk, 0)) n c 4 :: rest) true) :: r) → K (.tuple []) σ' = some ()) :
    callK Try.prog N ann (d + 2) dem 29 [.iface 59 (.ptr (some (b, 2))), .int .i64 j] σ K = some () := by
  rw [go 29, f29_eq]
  simp only [go_sem]
  refine up_loop hn j N L σ hN hj hL hU H ?_
  intro σ' L' h1 h2 h3 h4
  simp only [go_sem]
  exact kont σ' L' h1 h2 h3 h4

theorem down_loop {b bk : Nat} {x0 x1 : AV} {rest junk : List AV} {c : Option Nat} {r : Hp} {J : KF Unit} {m n : Nat} {i0 : Int} (hn : m ≤ 100000) (hm : n ≤ m) :
    ∀ (u i k : Nat) (L : List Tm) (σ : St), n - i ≤ u → u < k → L.length = m → DownI (lf L) n i → i ≤ n →
      HasH σ ((bk, .cells (tflat L ++ junk) true) :: (b, .cells (x0 :: x1 :: .slice (some (bk, 0)) m c 4 :: rest) true) :: r) →
      (∀ σ' L' (i' : Int), L'.length = m → HeapF (lf L') n → (∀ t, InF (lf L') n t ↔ InF (lf L) n t) → (∀ q, n ≤ q → q < m → lf L' q = lf L q) → HasH σ' ((bk, .cells (tflat L' ++ junk) true) :: (b, .cells (x0 :: x1 :: .slice (some (bk, 0)) m c 4 :: rest) true) :: r) →
        J (.exit 0) (f30e9 i0 i') σ' = some ()) →
      loopK (f30L7 (callK Try.prog N ann (d + 1)) dem N) f30a7 k J (f30e3 b i0 (n : Int) (i : Int)) σ = some () := by
  intro u
  induction u with
  | zero =>
    intro i k L σ hu hk hL hD hi H kont
    obtain ⟨k, rfl⟩ : ∃ k', k = k' + 1 := ⟨k - 1, by omega⟩
    have w1 : IntKind.i64.wrap (2 * (i : Int)) = 2 * (i : Int) := wrap_small (by omega) (by omega)
    have w2 : IntKind.i64.wrap (2 * (i : Int) + 1) = 2 * (i : Int) + 1 := wrap_small (by omega) (by omega)
    have c1 : ((n : Int) ≤ 2 * (i : Int) + 1) = True := eq_true (by omega)
    rw [loopK_succ]
    simp only [go_sem, w1, w2, c1]
    exact kont σ L i hL (hD.stop (fun k h0 hk hp => by omega)) (fun _ => Iff.rfl) (fun _ _ _ => rfl) H
  | succ u ih =>
    intro i k L σ hu hk hL hD hi H kont
    obtain ⟨k, rfl⟩ : ∃ k', k = k' + 1 := ⟨k - 1, by omega⟩
    have hg : σ.get bk = _ := H.g1
    have hb : σ.get b = _ := H.g2
    have w1 : IntKind.i64.wrap (2 * (i : Int)) = 2 * (i : Int) := wrap_small (by omega) (by omega)
    have w2 : IntKind.i64.wrap (2 * (i : Int) + 1) = ((2 * i + 1 : Nat) : Int) := by rw [wrap_small (by omega) (by omega)]; omega
    have w3 : IntKind.i64.wrap (((2 * i + 1 : Nat) : Int) + 1) = ((2 * i + 2 : Nat) : Int) := by rw [wrap_small (by omega) (by omega)]; omega
    rw [loopK_succ]
    by_cases h1 : n ≤ 2 * i + 1
    · have c1 : ((n : Int) ≤ ((2 * i + 1 : Nat) : Int)) = True := eq_true (by omega)
      simp only [go_sem, w1, w2, c1]
      exact kont σ L i hL (hD.stop (fun k h0 hk hp => by omega)) (fun _ => Iff.rfl) (fun _ _ _ => rfl) H
    have c1 : ((n : Int) ≤ ((2 * i + 1 : Nat) : Int)) = False := eq_false (by omega)
    have c2 : (((2 * i + 1 : Nat) : Int) < 0) = False := eq_false (by omega)
    subst hL
    -- what follows once the least child is known
    have fin : ∀ (j : Nat), 0 < j → j < n → (j - 1) / 2 = i → (∀ q, 0 < q → q < n → (q - 1) / 2 = i → tlt (lf L q) (lf L j) = false) → ∀ σ1, HasH σ1 ((bk, .cells (tflat L ++ junk) true) :: (b, .cells (x0 :: x1 :: .slice (some (bk, 0)) L.length c 4 :: rest) true) :: r) →
        tlt (lf L j) (lf L i) = true → ∀ σ2, HasH σ2 ((bk, .cells (tflat (lsw L i j) ++ junk) true) :: (b, .cells (x0 :: x1 :: .slice (some (bk, 0)) L.length c 4 :: rest) true) :: r) →
        loopK (f30L7 (callK Try.prog N ann (d + 1)) dem N) f30a7 k J (f30e3 b i0 (n : Int) (j : Int)) σ2 = some () := by
      intro j hj hjn hp hmin σ1 H1 hl σ2 H2
      refine ih j k (lsw L i j) σ2 (by omega) (by omega) (lsw_len _ _ _) ((hD.step hj hjn hp hl hmin).congr (fun q hq => lsw_lf (by omega) (by omega) q (by omega))) (by omega) H2 ?_
      intro σ' L' i' h1 h2 h3 h4 h5
      refine kont σ' L' i' h1 h2 (fun t => (h3 t).trans (in_lsw (by omega) (by omega) hm (by omega) hjn t)) (fun q hq1 hq2 => ?_) h5
      rw [h4 q hq1 hq2, lsw_lf (by omega) (by omega) q hq2]
      unfold swp
      rw [if_neg (by omega), if_neg (by omega)]
    have stop : ∀ (j : Nat), j < n → tlt (lf L j) (lf L i) = false → (∀ q, 0 < q → q < n → (q - 1) / 2 = i → tlt (lf L q) (lf L j) = false) → HeapF (lf L) n := by
      intro j hj hl hmin
      exact hD.stop fun q h0 hq hp => nlt_trans (hmin q h0 hq hp) hl
    by_cases h2 : 2 * i + 2 < n
    · have c3 : (((2 * i + 2 : Nat) : Int) < (n : Int)) = True := eq_true (by omega)
      simp only [go_sem, w1, w2, w3, c1, c2, c3, hb]
      rw [less_eq hg (show 2 * i + 2 < L.length by omega) (show 2 * i + 1 < L.length by omega)]
      cases hl2 : tlt (lf L (2 * i + 2)) (lf L (2 * i + 1)) with
      | true =>
        have hmin : ∀ q, 0 < q → q < n → (q - 1) / 2 = i → tlt (lf L q) (lf L (2 * i + 2)) = false := by
          intro q h0 hq hp
          rcases (show q = 2 * i + 1 ∨ q = 2 * i + 2 by omega) with rfl | rfl
          · exact nlt_of_lt hl2
          · exact tlt_irr _
        simp only [go_sem, hl2, hb]
        rw [less_eq hg (show 2 * i + 2 < L.length by omega) (show i < L.length by omega)]
        cases hl : tlt (lf L (2 * i + 2)) (lf L i) with
        | false =>
          simp only [go_sem, hl]
          exact kont σ L _ rfl (stop _ h2 hl hmin) (fun _ => Iff.rfl) (fun _ _ _ => rfl) H
        | true =>
          simp only [go_sem, hl, hb]
          refine swap_ok H (i := i) (j := 2 * i + 2) (by omega) (by omega) ?_
          intro σ1 H1
          simp only [go_sem]
          exact fin (2 * i + 2) (by omega) h2 (by omega) hmin σ H hl σ1 H1
      | false =>
        have hmin : ∀ q, 0 < q → q < n → (q - 1) / 2 = i → tlt (lf L q) (lf L (2 * i + 1)) = false := by
          intro q h0 hq hp
          rcases (show q = 2 * i + 1 ∨ q = 2 * i + 2 by omega) with rfl | rfl
          · exact tlt_irr _
          · exact hl2
        simp only [go_sem, hl2, hb]
        rw [less_eq hg (show 2 * i + 1 < L.length by omega) (show i < L.length by omega)]
        cases hl : tlt (lf L (2 * i + 1)) (lf L i) with
        | false =>
          simp only [go_sem, hl]
          exact kont σ L _ rfl (stop _ (by omega) hl hmin) (fun _ => Iff.rfl) (fun _ _ _ => rfl) H
        | true =>
          simp only [go_sem, hl, hb]
          refine swap_ok H (i := i) (j := 2 * i + 1) (by omega) (by omega) ?_
          intro σ1 H1
          simp only [go_sem]
          exact fin (2 * i + 1) (by omega) (by omega) (by omega) hmin σ H hl σ1 H1
    · have c3 : (((2 * i + 2 : Nat) : Int) < (n : Int)) = False := eq_false (by omega)
      have hmin : ∀ q, 0 < q → q < n → (q - 1) / 2 = i → tlt (lf L q) (lf L (2 * i + 1)) = false := by
        intro q h0 hq hp
        obtain rfl : q = 2 * i + 1 := by omega
        exact tlt_irr _
      simp only [go_sem, w1, w2, w3, c1, c2, c3, hb]
      rw [less_eq hg (show 2 * i + 1 < L.length by omega) (show i < L.length by omega)]
      cases hl : tlt (lf L (2 * i + 1)) (lf L i) with
      | false =>
        simp only [go_sem, hl]
        exact kont σ L _ rfl (stop _ (by omega) hl hmin) (fun _ => Iff.rfl) (fun _ _ _ => rfl) H
      | true =>
        simp only [go_sem, hl, hb]
        refine swap_ok H (i := i) (j := 2 * i + 1) (by omega) (by omega) ?_
        intro σ1 H1
        simp only [go_sem]
        exact fin (2 * i + 1) (by omega) (by omega) (by omega) hmin σ H hl σ1 H1

end Go.Proofs.Ytciibgjmdgpgnaa

namespace Go.Proofs.Ytciibgjmdgpgnaa
open Go.AM
set_option maxRecDepth 100000
set_option linter.unusedSimpArgs false
set_option linter.unusedVariables false
variable {N d : Nat} {dem : Bool} {σ : St} {K : AV → St → Option Unit}

theorem push_ok {b : Nat} {x0 x1 : AV} {rest : List AV} {o : Option (Nat × Nat)} {c : Option Nat} {L : List Tm} {hv r : Hp} (hL : L.length ≤ 90000) (hN : L.length + 1 < N) (hF : HeapF (lf L) L.length)
    (V : Vec 4 (.slice o L.length c 4) L.length (tflat L) hv) (H : HasH σ ((b, .cells (x0 :: x1 :: .slice o L.length c 4 :: rest) true) :: (hv ++ r))) (t : Tm)
    (kont : ∀ σ' o' c' hv' L', L'.length = L.length + 1 → HeapF (lf L') (L.length + 1) → (∀ s, InF (lf L') (L.length + 1) s ↔ s = t ∨ InF (lf L) L.length s) → Vec 4 (.slice o' L'.length c' 4) L'.length (tflat L') hv' →
      HasH σ' ((b, .cells (x0 :: x1 :: .slice o' L'.length c' 4 :: rest) true) :: (hv' ++ r)) → K (.tuple []) σ' = some ()) :
    callK Try.prog N ann (d + 3) dem 21 [.iface 59 (.ptr (some (b, 2))), .iface 52 (.agg t.cells)] σ K = some () := by
  have hb : σ.get b = _ := H.g1
  have nb : (b = σ.next) = False := eq_false (by have := H.l1; omega)
  simp only [Tm.cells]
  rw [go 21, f21_eq]
  simp only [go_sem]
  rw [go 53, f53_eq]
  obtain ⟨o', c', σ1, hv', happ, V', H1⟩ := V.app (bytes := 32) (k := 1) (news := [.int .i64 t.name, .int .i64 t.due, .int .i64 t.span, .int .i64 t.turn]) ((H.new' (.cells [.int .i64 t.name, .int .i64 t.due, .int .i64 t.span, .int .i64 t.turn] true)).down) (by decide) (by decide) rfl (by omega)
  have hb1 : σ1.get b = _ := H1.up.g1
  simp only [go_sem, hb, nb, elems_pos (show 1 ≠ 0 by decide), happ, hb1, len_eq]
  have w1 : IntKind.i64.wrap (((L.length + 1 : Nat) : Int) - 1) = (L.length : Int) := by rw [wrap_small (by omega) (by omega)]; omega
  have hlen : (L ++ [t]).length = L.length + 1 := by simp
  have V2 : Vec 4 (.slice o' (L.length + 1) c' 4) (L.length + 1) (tflat (L ++ [t])) hv' := by simpa [tflat, Tm.cells] using V'
  obtain ⟨_, bk, junk, rfl, rfl, hcap⟩ := V2.row (show L.length + 1 ≠ 0 by omega)
  have e1 : ∀ k, k < L.length → lf (L ++ [t]) k = lf L k := fun k hk => by unfold lf; rw [List.getElem?_append_left hk]
  have e2 : lf (L ++ [t]) L.length = t := by simp [lf]
  have hU : UpI (lf (L ++ [t])) (L.length + 1) L.length := UpI.push (hF.congr e1)
  have H2 := H1.up.put (.cells (x0 :: x1 :: .slice (some (bk, 0)) (L.length + 1) c' 4 :: rest) true)
  simp only [w1]
  refine up_ok (b := b) (bk := bk) (n := L.length + 1) (by omega) (by omega) (by omega) hlen hU H2.rot ?_
  intro σ' L' h1 h2 h3 h4
  simp only [go_sem]
  have hin : ∀ s, InF (lf (L ++ [t])) (L.length + 1) s ↔ s = t ∨ InF (lf L) L.length s := by
    intro s
    constructor
    · rintro ⟨k, hk, rfl⟩
      by_cases hkn : k = L.length
      · subst hkn; exact .inl e2
      · exact .inr ⟨k, by omega, (e1 k (by omega)).symm⟩
    · rintro (rfl | ⟨k, hk, rfl⟩)
      · exact ⟨L.length, by omega, e2⟩
      · exact ⟨k, by omega, e1 k hk⟩
  refine kont σ' (some (bk, 0)) c' [(bk, .cells (tflat L' ++ junk) true)] L' h1 h2 (fun s => (h3 s).trans (hin s)) ?_ (by rw [h1]; exact h4.rot)
  refine ⟨tflat_len L', .inr ⟨bk, c', junk, rfl, rfl, ?_⟩⟩
  rcases hcap with h | ⟨k, hk, hk2⟩
  · exact .inl h
  · refine .inr ⟨k, hk, ?_⟩
    rw [hk2, List.length_append, List.length_append, tflat_len, tflat_len, h1, hlen]

theorem down_ok {b bk : Nat} {x0 x1 : AV} {rest junk : List AV} {c : Option Nat} {r : Hp} {m n : Nat} (hn : m ≤ 100000) (hm : n ≤ m) {L : List Tm} (hN : n < N) (hL : L.length = m) (hD : DownI (lf L) n 0)
    (H : HasH σ ((bk, .cells (tflat L ++ junk) true) :: (b, .cells (x0 :: x1 :: .slice (some (bk, 0)) m c 4 :: rest) true) :: r))
    (kont : ∀ σ' L' (q : Bool), L'.length = m → HeapF (lf L') n → (∀ t, InF (lf L') n t ↔ InF (lf L) n t) → (∀ q, n ≤ q → q < m → lf L' q = lf L q) → HasH σ' ((bk, .cells (tflat L' ++ junk) true) :: (b, .cells (x0 :: x1 :: .slice (some (bk, 0)) m c 4 :: rest) true) :: r) →
      K (.bool q) σ' = some ()) :
    callK Try.prog N ann (d + 2) dem 30 [.iface 59 (.ptr (some (b, 2))), .int .i64 0, .int .i64 n] σ K = some () := by
  rw [go 30, f30_eq]
  simp only [go_sem]
  refine down_loop (i0 := 0) hn hm n 0 N L σ (by omega) (by omega) hL hD (by omega) H ?_
  intro σ' L' i' h1 h2 h3 h4 h5
  simp only [go_sem]
  exact kont σ' L' _ h1 h2 h3 h4 h5

theorem one_iface (t : TypeId) (v : AV) : AV.one (.iface t v) = true := rfl

theorem pop_ok {b : Nat} {x0 x1 : AV} {rest : List AV} {o : Option (Nat × Nat)} {c : Option Nat} {L : List Tm} {hv r : Hp} {n : Nat} (hn : L.length = n + 1) (hL : L.length ≤ 90000) (hN : L.length + 1 < N) (hF : HeapF (lf L) L.length)
    (V : Vec 4 (.slice o L.length c 4) L.length (tflat L) hv) (H : HasH σ ((b, .cells (x0 :: x1 :: .slice o L.length c 4 :: rest) true) :: (hv ++ r)))
    (kont : ∀ σ' o' c' hv' L', L'.length = n → HeapF (lf L') n → (∀ s, InF (lf L) (n + 1) s → s = lf L 0 ∨ InF (lf L') n s) → (∀ s, InF (lf L') n s → InF (lf L) (n + 1) s) → Vec 4 (.slice o' L'.length c' 4) L'.length (tflat L') hv' →
      HasH σ' ((b, .cells (x0 :: x1 :: .slice o' L'.length c' 4 :: rest) true) :: (hv' ++ r)) → K (.iface 52 (.agg (lf L 0).cells)) σ' = some ()) :
    callK Try.prog N ann (d + 3) dem 24 [.iface 59 (.ptr (some (b, 2)))] σ K = some () := by
  obtain ⟨_, bk, junk, rfl, rfl, hcap⟩ := V.row (show L.length ≠ 0 by omega)
  have hb : σ.get b = _ := H.g1
  rw [go 24, f24_eq]
  have w1 : IntKind.i64.wrap ((L.length : Int) - 1) = (n : Int) := by rw [wrap_small (by omega) (by omega)]; omega
  simp only [go_sem, hb, len_eq, w1]
  have z0 : ((0 : Nat) : Int) = 0 := rfl
  refine swap_ok H.rot (i := 0) (j := n) (by omega) (by omega) ?_
  intro σ1 H1
  simp only [go_sem]
  have hl1 := lsw_len L 0 n
  have hD : DownI (lf (lsw L 0 n)) n 0 := by
    have := HeapF.pop (f := lf L) (n := n) (by rw [← hn]; exact hF)
    exact this.congr (fun k hk => lsw_lf (by omega) (by omega) k (by omega))
  refine down_ok (m := L.length) (n := n) (by omega) (by omega) (by omega) hl1 hD H1 ?_
  intro σ2 L2 q h1 h2 h3 h4 H2
  simp only [go_sem]
  rw [go 52, f52_eq]
  have hb2 : σ2.get b = _ := H2.g2
  have hk2 : σ2.get bk = _ := H2.g1
  obtain ⟨a0, a1, a2, a3⟩ := tget (show n < L2.length by omega) junk
  have nb : (b = σ2.next) = False := eq_false (by have := H2.l2; omega)
  have nk : (bk = σ2.next) = False := eq_false (by have := H2.l1; omega)
  have nb' : (σ2.next = b) = False := eq_false (by have := H2.l2; omega)
  have i0 : ((0:Int) ≤ (n : Int)) = True := eq_true (by omega)
  have i1 : ((n : Int) < (L.length : Int)) = True := eq_true (by omega)
  have ti : ((n:Int)).toNat = n := by omega
  have hcn : (n : Int) ≤ c.getD L.length := by
    rcases hcap with h | ⟨k, hk, hk2⟩
    · rw [h]; simp; omega
    · rw [hk]
      rw [List.length_append, tflat_len] at hk2
      simp only [Option.getD_some]
      omega
  have hsub := sub_to (z := 4) (n := L.length) (o := some (bk, 0)) (c := c) (i := (n : Int)) (by omega) hcn
  rw [ti] at hsub
  simp only [go_sem, hb2, hk2, w1, i0, i1, ti, a0, a1, a2, a3, nb, nb', nk, hsub, one_iface]
  have hlast : lf L2 n = lf L 0 := by
    rw [h4 n (Nat.le_refl n) (by omega), lsw_lf (by omega) (by omega) n (by omega)]
    unfold swp
    by_cases hn0 : n = 0
    · subst hn0; simp
    · rw [if_neg hn0, if_pos rfl]
  have hL' : (L2.take n).length = n := by simp; omega
  have elf : ∀ k, k < n → lf (L2.take n) k = lf L2 k := fun k hk => by simp [lf, hk]
  have hflat : tflat L2 ++ junk = tflat (L2.take n) ++ ((tflat (L2.drop n)) ++ junk) := by
    have : tflat L2 = tflat (L2.take n) ++ tflat (L2.drop n) := by
      unfold tflat; rw [← List.flatMap_append, List.take_append_drop]
    rw [this, List.append_assoc]
  rw [hlast]
  have H3 := (((H2.rot.new (.cells [.int .i64 0, .int .i64 0, .int .i64 0, .int .i64 0] true)).put (.cells (lf L2 n).cells true)).put2 (.cells (x0 :: x1 :: .slice (some (bk, 0)) n c 4 :: rest) true)).tail
  simp only [Tm.cells, hlast] at H3
  have hfin := kont _ (some (bk, 0)) c [(bk, .cells (tflat (L2.take n) ++ ((tflat (L2.drop n)) ++ junk)) true)] (L2.take n) hL' (h2.congr elf) ?_ ?_ ⟨tflat_len _, .inr ⟨bk, c, _, rfl, rfl, ?_⟩⟩ (by rw [hL', ← hflat]; exact H3)
  · simpa only [Tm.cells, hL'] using hfin
  · rintro s ⟨k, hk, rfl⟩
    by_cases hk0 : k = 0
    · subst hk0; exact .inl rfl
    · right
      have : InF (lf (lsw L 0 n)) n (lf L k) := by
        by_cases hkn : k = n
        · subst hkn
          exact ⟨0, by omega, by rw [lsw_lf (by omega) (by omega) 0 (by omega)]; unfold swp; rw [if_pos rfl]⟩
        · exact ⟨k, by omega, by rw [lsw_lf (by omega) (by omega) k (by omega)]; unfold swp; rw [if_neg hk0, if_neg hkn]⟩
      exact (InF.congr elf _).2 ((h3 _).2 this)
  · intro s hs
    obtain ⟨k, hk, rfl⟩ := (h3 s).1 ((InF.congr elf s).1 hs)
    rw [lsw_lf (by omega) (by omega) k (by omega)]
    have : InF (swp (lf L) 0 n) (n + 1) (swp (lf L) 0 n k) := ⟨k, by omega, rfl⟩
    exact (swp_in (by omega) (by omega) _).1 this
  · rcases hcap with h | ⟨k, hk, hk2⟩
    · exact .inl h
    · refine .inr ⟨k, hk, ?_⟩
      rw [hk2, ← hflat, List.length_append, List.length_append, tflat_len, tflat_len, h1]

end Go.Proofs.Ytciibgjmdgpgnaa
