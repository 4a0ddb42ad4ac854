/- A bell in memory: named, has, Set. -/
import Derived.Test.YtciibgjmdgpgnaaH4
import Derived.Test.YtciibgjmdgpgnaaBeNew
import Derived.Test.YtciibgjmdgpgnaaBeSet
namespace Go.Proofs.Ytciibgjmdgpgnaa
open Go.AM
set_option maxRecDepth 100000
set_option linter.unusedSimpArgs false
set_option linter.unusedVariables false
variable {N d : Nat} {dem : Bool} {σ : St} {K : AV → St → Option Unit}

theorem bget {V : List Tm} {k : Nat} (h : k < V.length) (x0 x1 x2 : AV) :
    (x0 :: x1 :: x2 :: tflat V)[3 + k * 4]? = some (.int .i64 (lf V k).name) ∧ (x0 :: x1 :: x2 :: tflat V)[3 + k * 4 + 1]? = some (.int .i64 (lf V k).due) ∧
    (x0 :: x1 :: x2 :: tflat V)[3 + k * 4 + 2]? = some (.int .i64 (lf V k).span) ∧ (x0 :: x1 :: x2 :: tflat V)[3 + k * 4 + 3]? = some (.int .i64 (lf V k).turn) := by
  obtain ⟨a0, a1, a2, a3⟩ := tget h []
  rw [List.append_nil] at a0 a1 a2 a3
  have q : ∀ j, (x0 :: x1 :: x2 :: tflat V)[3 + j]? = (tflat V)[j]? := fun j => by
    rw [show 3 + j = j + 1 + 1 + 1 by omega]; rfl
  refine ⟨(q _).trans a0, ?_, ?_, ?_⟩
  · rw [Nat.add_assoc]; exact (q _).trans a1
  · rw [Nat.add_assoc]; exact (q _).trans a2
  · rw [Nat.add_assoc]; exact (q _).trans a3

theorem bsplice {V : List Tm} {i : Nat} (hi : i < V.length) (t : Tm) (x0 x1 x2 : AV) : St.splice (x0 :: x1 :: x2 :: tflat V) (3 + i * 4) t.cells = x0 :: x1 :: x2 :: tflat (V.set i t) := by
  have h := tsplice hi t []
  rw [List.append_nil, List.append_nil] at h
  rw [← h]
  unfold St.splice
  have e1 : List.take (3 + i * 4) (x0 :: x1 :: x2 :: tflat V) = x0 :: x1 :: x2 :: List.take (i * 4) (tflat V) := by
    rw [show 3 + i * 4 = i * 4 + 1 + 1 + 1 by omega]; rfl
  have e2 : List.drop (3 + i * 4 + t.cells.length) (x0 :: x1 :: x2 :: tflat V) = List.drop (i * 4 + t.cells.length) (tflat V) := by
    rw [show 3 + i * 4 + t.cells.length = i * 4 + t.cells.length + 1 + 1 + 1 by omega]; rfl
  rw [e1, e2]
  rfl

def nm (n : Int) : Bool := decide (0 ≤ n ∧ n ≤ 15)
theorem nm_t {n : Int} (h : 0 ≤ n ∧ n ≤ 15) : nm n = true := decide_eq_true h
theorem nm_f {n : Int} (h : ¬ (0 ≤ n ∧ n ≤ 15)) : nm n = false := decide_eq_false h
theorem named_eq (n : Int) : callK Try.prog N ann (d + 1) dem 20 [.int .i64 n] σ K = K (.bool (nm n)) σ := by
  rw [go 20, f20_eq]
  by_cases h : 0 ≤ n
  · have e : decide (n ≥ 0) = true := decide_eq_true h
    have e2 : nm n = decide (n ≤ 15) := by simp [nm, h]
    simp only [go_sem, e, e2]
  · have e : decide (n ≥ 0) = false := decide_eq_false h
    have e2 : nm n = false := by simp [nm, h]
    simp only [go_sem, e, e2]

def liveB (V : List Tm) (n : Int) : Bool := nm n && decide (0 < (lf V n.toNat).span)

theorem has_eq {b : Nat} {x0 x1 x2 : AV} {V : List Tm} {own : Bool} (hg : σ.get b = some (.cells (x0 :: x1 :: x2 :: tflat V) own)) (hV : V.length = 16) (n : Int) :
    callK Try.prog N ann (d + 2) dem 22 [.ptr (some (b, 0)), .int .i64 n] σ K = K (.bool (liveB V n)) σ := by
  rw [go 22, f22_eq]
  by_cases h : 0 ≤ n ∧ n ≤ 15
  · have e : nm n = true := nm_t h
    have i0 : ((0:Int) ≤ n) = True := eq_true h.1
    have i1 : (n < (16:Int)) = True := eq_true (by omega)
    obtain ⟨a0, a1, a2, a3⟩ := bget (show n.toNat < V.length by omega) x0 x1 x2
    have e2 : liveB V n = decide ((lf V n.toNat).span > 0) := by unfold liveB; rw [e, Bool.true_and]
    simp only [go_sem, named_eq, e, i0, i1, hg, a2, e2]
  · have e : nm n = false := nm_f h
    have e2 : liveB V n = false := by unfold liveB; rw [e, Bool.false_and]
    simp only [go_sem, named_eq, e, e2]

theorem has_nil (n : Int) : callK Try.prog N ann (d + 2) dem 22 [.ptr none, .int .i64 n] σ K = K (.bool false) σ := by
  rw [go 22, f22_eq]
  simp only [go_sem]

/-- What a bell holds: its live timers and its heap. -/
structure BI (V L : List Tm) : Prop where
  v : V.length = 16
  h : HeapF (lf L) L.length
  live : ∀ k, k < 16 → lf V k = Tm.zero ∨ ((lf V k).name = k ∧ 1 ≤ (lf V k).span ∧ (lf V k).span ≤ 4096 ∧ InF (lf L) L.length (lf V k))
  ent : ∀ t, InF (lf L) L.length t → 0 ≤ t.name ∧ t.name ≤ 15 ∧ 1 ≤ t.span
  pos : ∀ k, k < 16 → lf V k = Tm.zero ∨ 1 ≤ (lf V k).due

theorem lf_set {V : List Tm} {i : Nat} (hi : i < V.length) (t : Tm) (k : Nat) : lf (V.set i t) k = if k = i then t else lf V k := by
  unfold lf
  rw [List.getElem?_set]
  by_cases h : i = k
  · subst h; simp [hi]
  · have h' : ¬ k = i := fun e => h e.symm
    simp [h, h']

theorem set_bad {p : Option (Nat × Nat)} {name span : Int} (h : ¬ (0 ≤ name ∧ name ≤ 15 ∧ 1 ≤ span ∧ span ≤ 4096)) :
    callK Try.prog N ann (d + 2) dem 9 [.ptr p, .int .i64 name, .int .i64 span] σ K = K (.int .i64 1) σ := by
  rw [go 9, f9_eq]
  by_cases h1 : 0 ≤ name ∧ name ≤ 15
  · have e : nm name = true := nm_t h1
    by_cases h2 : span < 1
    · have e2 : decide (span < 1) = true := decide_eq_true h2
      simp only [go_sem, named_eq, e, e2]
    · have e2 : decide (span < 1) = false := decide_eq_false h2
      have e3 : decide (span > 4096) = true := decide_eq_true (by omega)
      simp only [go_sem, named_eq, e, e2, e3]
  · have e : nm name = false := nm_f h1
    simp only [go_sem, named_eq, e]

theorem set_nil {name span : Int} (h : 0 ≤ name ∧ name ≤ 15 ∧ 1 ≤ span ∧ span ≤ 4096) :
    callK Try.prog N ann (d + 2) dem 9 [.ptr none, .int .i64 name, .int .i64 span] σ K = K (.int .i64 7) σ := by
  rw [go 9, f9_eq]
  have e : nm name = true := nm_t ⟨h.1, h.2.1⟩
  have e2 : decide (span < 1) = false := decide_eq_false (by omega)
  have e3 : decide (span > 4096) = false := decide_eq_false (by omega)
  simp only [go_sem, named_eq, e, e2, e3]

theorem set_ok {b : Nat} {now turn : Int} {o : Option (Nat × Nat)} {c : Option Nat} {V L : List Tm} {hv r : Hp} (hI : BI V L) (hL : L.length ≤ 90000) (hN : L.length + 1 < N) (h0 : 0 ≤ now) (h1 : now ≤ 2 ^ 40)
    (W : Vec 4 (.slice o L.length c 4) L.length (tflat L) hv) (H : HasH σ ((b, .cells (.int .i64 now :: .int .i64 turn :: .slice o L.length c 4 :: tflat V) true) :: (hv ++ r)))
    {name span : Int} (h : 0 ≤ name ∧ name ≤ 15 ∧ 1 ≤ span ∧ span ≤ 4096)
    (kont : ∀ σ' o' c' hv' L' turn', L'.length = L.length + 1 → BI (V.set name.toNat ⟨name, now + span, span, turn'⟩) L' → Vec 4 (.slice o' L'.length c' 4) L'.length (tflat L') hv' →
      HasH σ' ((b, .cells (.int .i64 now :: .int .i64 turn' :: .slice o' L'.length c' 4 :: tflat (V.set name.toNat ⟨name, now + span, span, turn'⟩)) true) :: (hv' ++ r)) → K (.int .i64 0) σ' = some ()) :
    callK Try.prog N ann (d + 4) dem 9 [.ptr (some (b, 0)), .int .i64 name, .int .i64 span] σ K = some () := by
  rw [go 9, f9_eq]
  have hb : σ.get b = _ := H.g1
  have e : nm name = true := nm_t ⟨h.1, h.2.1⟩
  have e2 : decide (span < 1) = false := decide_eq_false (by omega)
  have e3 : decide (span > 4096) = false := decide_eq_false (by omega)
  have i0 : ((0:Int) ≤ name) = True := eq_true h.1
  have i1 : (name < (16:Int)) = True := eq_true (by omega)
  have w : IntKind.i64.wrap (now + span) = now + span := wrap_small (by omega) (by omega)
  have hk : name.toNat < V.length := by have := hI.v; omega
  have hl : (tflat V).length = 64 := by rw [tflat_len, hI.v]
  have k1 : (3 + name.toNat * 4 + (0 + 1 + 1 + 1 + 1) ≤ (tflat V).length + 1 + 1 + 1) = True := eq_true (by omega)
  generalize ht : IntKind.i64.wrap (turn + 1) = turn'
  have s1 := bsplice hk ⟨name, now + span, span, turn'⟩ (.int .i64 now) (.int .i64 turn') (.slice o L.length c 4)
  obtain ⟨a0, a1, a2, a3⟩ := bget (V := V.set name.toNat ⟨name, now + span, span, turn'⟩) (show name.toNat < _ by simpa using hk) (.int .i64 now) (.int .i64 turn') (.slice o L.length c 4)
  rw [lf_set hk, if_pos rfl] at a0 a1 a2 a3
  simp only [Tm.cells] at s1
  simp only [go_sem, named_eq, e, e2, e3, hb, i0, i1, w, ht, k1, s1, a0, a1, a2, a3]
  have H2 := (H.put (.cells (.int .i64 now :: .int .i64 turn' :: .slice o L.length c 4 :: tflat V) true)).put (.cells (.int .i64 now :: .int .i64 turn' :: .slice o L.length c 4 :: tflat (V.set name.toNat ⟨name, now + span, span, turn'⟩)) true)
  refine push_ok (d := d) hL hN hI.h W H2 ⟨name, now + span, span, turn'⟩ ?_
  intro σ' o' c' hv' L' q1 q2 q3 q4 q5
  simp only [go_sem]
  refine kont σ' o' c' hv' L' turn' q1 ⟨by simpa using hI.v, by rw [q1]; exact q2, ?_, ?_, ?_⟩ q4 q5
  · intro k hk16
    rw [lf_set hk, q1]
    by_cases hkn : k = name.toNat
    · rw [if_pos hkn]
      exact .inr ⟨by simp only; omega, h.2.2.1, h.2.2.2, (q3 _).2 (.inl rfl)⟩
    · rw [if_neg hkn]
      rcases hI.live k hk16 with hz | ⟨z1, z2, z3, z4⟩
      · exact .inl hz
      · exact .inr ⟨z1, z2, z3, (q3 _).2 (.inr z4)⟩
  · intro t ht'
    rw [q1] at ht'
    rcases (q3 t).1 ht' with rfl | hh
    · exact ⟨h.1, h.2.1, h.2.2.1⟩
    · exact hI.ent t hh
  · intro k hk16
    rw [lf_set hk]
    by_cases hkn : k = name.toNat
    · rw [if_pos hkn]
      exact .inr (by simp only; omega)
    · rw [if_neg hkn]
      exact hI.pos k hk16

end Go.Proofs.Ytciibgjmdgpgnaa
