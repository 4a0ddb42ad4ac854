/- Heaps in memory: comparing, swapping, going up and down. -/
import Derived.Test.YtciibgjmdgpgnaaH1
import Derived.Test.YtciibgjmdgpgnaaBeHeap
namespace Go.Proofs.Ytciibgjmdgpgnaa
open Go.AM
set_option maxRecDepth 100000
set_option linter.unusedSimpArgs false
set_option linter.unusedVariables false
instance : AM.Spec := nospec
variable {N d : Nat} {dem : Bool} {σ : St} {K : AV → St → Option Unit}

theorem go {R : Type} (f : FuncId) (N d : Nat) (dem : Bool) (args : List AV) (σ : St) (K : AV → St → Option R) : callK Try.prog N ann (d + 1) dem f args σ K = bodyK Try.prog (callK Try.prog N ann d) dem N ann f args σ K :=
  callK_succ _ _ _ _ _ _ _ _ _ rfl
theorem wrap_small {n : Int} (h1 : -9223372036854775808 ≤ n) (h2 : n ≤ 9223372036854775807) : IntKind.i64.wrap n = n := by
  rw [IntKind.wrap_i64]; omega

def Tm.cells (t : Tm) : List AV := [.int .i64 t.name, .int .i64 t.due, .int .i64 t.span, .int .i64 t.turn]
def tflat (L : List Tm) : List AV := L.flatMap Tm.cells
theorem tz (t : Tm) : t.cells.length = 4 := rfl
theorem tflat_len (L : List Tm) : (tflat L).length = L.length * 4 := by rw [tflat, flatMap_len tz]

def lf (L : List Tm) (k : Nat) : Tm := (L[k]?).getD Tm.zero
theorem lf_at {L : List Tm} {k : Nat} (h : k < L.length) : L[k]? = some (lf L k) := by simp [lf, h]
theorem tget {L : List Tm} {k : Nat} (h : k < L.length) (junk : List AV) : (tflat L ++ junk)[k * 4]? = some (.int .i64 (lf L k).name) ∧ (tflat L ++ junk)[k * 4 + 1]? = some (.int .i64 (lf L k).due) ∧
    (tflat L ++ junk)[k * 4 + 2]? = some (.int .i64 (lf L k).span) ∧ (tflat L ++ junk)[k * 4 + 3]? = some (.int .i64 (lf L k).turn) := by
  have q : ∀ j, j < 4 → (tflat L ++ junk)[k * 4 + j]? = (lf L k).cells[j]? := fun j hj => by
    have := flatMap_get tz hj (lf_at h) junk
    simpa [tflat] using this
  exact ⟨q 0 (by omega), q 1 (by omega), q 2 (by omega), q 3 (by omega)⟩

theorem tsplice {L : List Tm} {i : Nat} (hi : i < L.length) (t : Tm) (junk : List AV) : St.splice (tflat L ++ junk) (i * 4) t.cells = tflat (L.set i t) ++ junk := by
  have hl : (tflat (L.take i)).length = i * 4 := by rw [tflat_len]; simp; omega
  have e2 : L.set i t = L.take i ++ t :: L.drop (i + 1) := by rw [List.set_eq_take_append_cons_drop, if_pos hi]
  have h1 : tflat L ++ junk = tflat (L.take i) ++ ((L[i]).cells ++ (tflat (L.drop (i + 1)) ++ junk)) := by
    have e : L = L.take i ++ L[i] :: L.drop (i + 1) := by simp
    calc tflat L ++ junk = tflat (L.take i ++ L[i] :: L.drop (i + 1)) ++ junk := by rw [← e]
      _ = _ := by simp only [tflat, List.flatMap_append, List.flatMap_cons, List.append_assoc]
  rw [h1, ← hl, splice_at, e2]
  have : List.drop t.cells.length ((L[i]).cells ++ (tflat (L.drop (i + 1)) ++ junk)) = tflat (L.drop (i + 1)) ++ junk := by
    rw [tz, ← tz L[i], List.drop_left]
  rw [this]
  simp [tflat]

def lsw (L : List Tm) (i j : Nat) : List Tm := (L.set i (lf L j)).set j (lf L i)
theorem lsw_len (L : List Tm) (i j : Nat) : (lsw L i j).length = L.length := by simp [lsw]
theorem lsw_lf {L : List Tm} {i j : Nat} (hi : i < L.length) (hj : j < L.length) : ∀ k, k < L.length → lf (lsw L i j) k = swp (lf L) i j k := by
  intro k hk
  unfold lf lsw swp
  simp only [List.getElem?_set, List.length_set]
  by_cases h1 : j = k
  · subst h1
    simp only [if_true, hk, Option.getD_some]
    by_cases h2 : j = i
    · subst h2; simp [lf]
    · simp [h2, lf]
  · have h1' : ¬ k = j := fun h => h1 h.symm
    by_cases h2 : i = k
    · subst h2; simp [h1, hk, lf]
    · have h2' : ¬ k = i := fun h => h2 h.symm
      simp [h1, h2, h1', h2']

theorem len_eq (o : Option (Nat × Nat)) (n : Nat) (c : Option Nat) : callK Try.prog N ann (d + 1) dem 49 [.slice o n c 4] σ K = K (.int .i64 n) σ := by
  rw [go 49, f49_eq]
  simp only [go_sem]

theorem less_eq {bk : Nat} {L : List Tm} {junk : List AV} {own : Bool} {c : Option Nat} (hg : σ.get bk = some (.cells (tflat L ++ junk) own)) {i j : Nat} (hi : i < L.length) (hj : j < L.length) :
    callK Try.prog N ann (d + 1) dem 50 [.slice (some (bk, 0)) L.length c 4, .int .i64 i, .int .i64 j] σ K = K (.bool (tlt (lf L i) (lf L j))) σ := by
  obtain ⟨a0, a1, a2, a3⟩ := tget hi junk
  obtain ⟨b0, b1, b2, b3⟩ := tget hj junk
  have i0 : ((0:Int) ≤ (i : Int)) = True := eq_true (by omega)
  have j0 : ((0:Int) ≤ (j : Int)) = True := eq_true (by omega)
  have i1 : ((i : Int) < (L.length : Int)) = True := eq_true (by omega)
  have j1 : ((j : Int) < (L.length : Int)) = True := eq_true (by omega)
  have ti : ((i:Int)).toNat = i := by omega
  have tj : ((j:Int)).toNat = j := by omega
  rw [go 50, f50_eq]
  by_cases hd : (lf L i).due = (lf L j).due
  · have e1 : ((lf L i).due != (lf L j).due) = false := by simp [hd]
    have e2 : tlt (lf L i) (lf L j) = decide ((lf L i).name < (lf L j).name) := by unfold tlt; rw [if_pos hd]
    simp only [go_sem, i0, i1, j0, j1, ti, tj, hg, a0, a1, b0, b1, e1, e2]
  · have e1 : ((lf L i).due != (lf L j).due) = true := by simp [hd]
    have e2 : tlt (lf L i) (lf L j) = decide ((lf L i).due < (lf L j).due) := by unfold tlt; rw [if_neg hd]
    simp only [go_sem, i0, i1, j0, j1, ti, tj, hg, a0, a1, b0, b1, e1, e2]

theorem swap_ok {bk : Nat} {L : List Tm} {junk : List AV} {c : Option Nat} {r : Hp} (H : HasH σ ((bk, .cells (tflat L ++ junk) true) :: r)) {i j : Nat} (hi : i < L.length) (hj : j < L.length)
    (kont : ∀ σ', HasH σ' ((bk, .cells (tflat (lsw L i j) ++ junk) true) :: r) → K (.tuple []) σ' = some ()) :
    callK Try.prog N ann (d + 1) dem 51 [.slice (some (bk, 0)) L.length c 4, .int .i64 i, .int .i64 j] σ K = some () := by
  have hg : σ.get bk = _ := H.g1
  obtain ⟨a0, a1, a2, a3⟩ := tget hi junk
  obtain ⟨b0, b1, b2, b3⟩ := tget hj junk
  have i0 : ((0:Int) ≤ (i : Int)) = True := eq_true (by omega)
  have j0 : ((0:Int) ≤ (j : Int)) = True := eq_true (by omega)
  have i1 : ((i : Int) < (L.length : Int)) = True := eq_true (by omega)
  have j1 : ((j : Int) < (L.length : Int)) = True := eq_true (by omega)
  have ti : ((i:Int)).toNat = i := by omega
  have tj : ((j:Int)).toNat = j := by omega
  have hl : (tflat L ++ junk).length = L.length * 4 + junk.length := by rw [List.length_append, tflat_len]
  have hl2 : (tflat (L.set i (lf L j)) ++ junk).length = L.length * 4 + junk.length := by rw [List.length_append, tflat_len]; simp
  have s1 := tsplice hi (lf L j) junk
  have s2 := tsplice (L := L.set i (lf L j)) (i := j) (by simpa using hj) (lf L i) junk
  simp only [Tm.cells] at s1 s2
  have k1 : (i * 4 + (0 + 1 + 1 + 1 + 1) ≤ (tflat L ++ junk).length) = True := eq_true (by rw [hl]; omega)
  have k2 : (j * 4 + (0 + 1 + 1 + 1 + 1) ≤ (tflat (L.set i (lf L j)) ++ junk).length) = True := eq_true (by rw [hl2]; omega)
  have H2 := (H.put (.cells (tflat (L.set i (lf L j)) ++ junk) true)).put (.cells (tflat ((L.set i (lf L j)).set j (lf L i)) ++ junk) true)
  rw [go 51, f51_eq]
  simp only [go_sem, i0, i1, j0, j1, ti, tj, hg, a0, a1, a2, a3, b0, b1, b2, b3, k1, k2, s1, s2]
  exact kont _ H2

end Go.Proofs.Ytciibgjmdgpgnaa
