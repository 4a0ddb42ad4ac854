/- A bell in memory: named, has, Set. -/
import Derived.Test.YtciibgjmdgpgnaaH4
import Derived.Test.YtciibgjmdgpgnaaBeNew
import Derived.Test.YtciibgjmdgpgnaaBeSet
import Derived.Test.YtciibgjmdgpgnaaBeTick
namespace Go.Proofs.Ytciibgjmdgpgnaa
open Go.AM
set_option maxRecDepth 100000
set_option linter.unusedSimpArgs false
set_option linter.unusedVariables false
variable {N d : Nat} {dem : Bool} {σ : St} {K : AV → St → Option Unit}

theorem bget {V : List Tm} {k : Nat} (h : k < V.length) (x0 x1 x2 : AV) :
    (x0 :: x1 :: x2 :: tflat V)[3 + k * 4]? = some (.int .i64 (lf V k).name) ∧ (x0 :: x1 :: x2 :: tflat V)[3 + k * 4 + 1]? = some (.int .i64 (lf V k).due) ∧
    (x0 :: x1 :: x2 :: tflat V)[3 + k * 4 + 2]? = some (.int .i64 (lf V k).span) ∧ (x0 :: x1 :: x2 :: tflat V)[3 + k * 4 + 3]? = some (.int .i64 (lf V k).turn) := by
  obtain ⟨a0, a1, a2, a3⟩ := tget h []
  rw [List.append_nil] at a0 a1 a2 a3
  have q : ∀ j, (x0 :: x1 :: x2 :: tflat V)[3 + j]? = (tflat V)[j]? := fun j => by
    rw [show 3 + j = j + 1 + 1 + 1 by omega]; rfl
  refine ⟨(q _).trans a0, ?_, ?_, ?_⟩
  · rw [Nat.add_assoc]; exact (q _).trans a1
  · rw [Nat.add_assoc]; exact (q _).trans a2
  · rw [Nat.add_assoc]; exact (q _).trans a3

theorem bsplice {V : List Tm} {i : Nat} (hi : i < V.length) (t : Tm) (x0 x1 x2 : AV) : St.splice (x0 :: x1 :: x2 :: tflat V) (3 + i * 4) t.cells = x0 :: x1 :: x2 :: tflat (V.set i t) := by
  have h := tsplice hi t []
  rw [List.append_nil, List.append_nil] at h
  rw [← h]
  unfold St.splice
  have e1 : List.take (3 + i * 4) (x0 :: x1 :: x2 :: tflat V) = x0 :: x1 :: x2 :: List.take (i * 4) (tflat V) := by
    rw [show 3 + i * 4 = i * 4 + 1 + 1 + 1 by omega]; rfl
  have e2 : List.drop (3 + i * 4 + t.cells.length) (x0 :: x1 :: x2 :: tflat V) = List.drop (i * 4 + t.cells.length) (tflat V) := by
    rw [show 3 + i * 4 + t.cells.length = i * 4 + t.cells.length + 1 + 1 + 1 by omega]; rfl
  rw [e1, e2]
  rfl

def nm (n : Int) : Bool := decide (0 ≤ n ∧ n ≤ 15)
theorem nm_t {n : Int} (h : 0 ≤ n ∧ n ≤ 15) : nm n = true := decide_eq_true h
theorem nm_f {n : Int} (h : ¬ (0 ≤ n ∧ n ≤ 15)) : nm n = false := decide_eq_false h
theorem named_eq (n : Int) : callK Try.prog N ann (d + 1) dem 20 [.int .i64 n] σ K = K (.bool (nm n)) σ := by
  rw [go 20, f20_eq]
  by_cases h : 0 ≤ n
  · have e : decide (n ≥ 0) = true := decide_eq_true h
    have e2 : nm n = decide (n ≤ 15) := by simp [nm, h]
    simp only [go_sem, e, e2]
  · have e : decide (n ≥ 0) = false := decide_eq_false h
    have e2 : nm n = false := by simp [nm, h]
    simp only [go_sem, e, e2]

def liveB (V : List Tm) (n : Int) : Bool := nm n && decide (0 < (lf V n.toNat).span)

theorem has_eq {b : Nat} {x0 x1 x2 : AV} {V : List Tm} {own : Bool} (hg : σ.get b = some (.cells (x0 :: x1 :: x2 :: tflat V) own)) (hV : V.length = 16) (n : Int) :
    callK Try.prog N ann (d + 2) dem 22 [.ptr (some (b, 0)), .int .i64 n] σ K = K (.bool (liveB V n)) σ := by
  rw [go 22, f22_eq]
  by_cases h : 0 ≤ n ∧ n ≤ 15
  · have e : nm n = true := nm_t h
    have i0 : ((0:Int) ≤ n) = True := eq_true h.1
    have i1 : (n < (16:Int)) = True := eq_true (by omega)
    obtain ⟨a0, a1, a2, a3⟩ := bget (show n.toNat < V.length by omega) x0 x1 x2
    have e2 : liveB V n = decide ((lf V n.toNat).span > 0) := by unfold liveB; rw [e, Bool.true_and]
    simp only [go_sem, named_eq, e, i0, i1, hg, a2, e2]
  · have e : nm n = false := nm_f h
    have e2 : liveB V n = false := by unfold liveB; rw [e, Bool.false_and]
    simp only [go_sem, named_eq, e, e2]

theorem has_nil (n : Int) : callK Try.prog N ann (d + 2) dem 22 [.ptr none, .int .i64 n] σ K = K (.bool false) σ := by
  rw [go 22, f22_eq]
  simp only [go_sem]

/-- What a bell holds: its live timers and its heap. -/
structure BI (V L : List Tm) : Prop where
  v : V.length = 16
  h : HeapF (lf L) L.length
  live : ∀ k, k < 16 → lf V k = Tm.zero ∨ ((lf V k).name = k ∧ 1 ≤ (lf V k).span ∧ (lf V k).span ≤ 4096 ∧ InF (lf L) L.length (lf V k))
  ent : ∀ t, InF (lf L) L.length t → 0 ≤ t.name ∧ t.name ≤ 15 ∧ 1 ≤ t.span
  pos : ∀ k, k < 16 → lf V k = Tm.zero ∨ 1 ≤ (lf V k).due

theorem lf_set {V : List Tm} {i : Nat} (hi : i < V.length) (t : Tm) (k : Nat) : lf (V.set i t) k = if k = i then t else lf V k := by
  unfold lf
  rw [List.getElem?_set]
  by_cases h : i = k
  · subst h; simp [hi]
  · have h' : ¬ k = i := fun e => h e.symm
    simp [h, h']

theorem set_bad {p : Option (Nat × Nat)} {name span : Int} (h : ¬ (0 ≤ name ∧ name ≤ 15 ∧ 1 ≤ span ∧ span ≤ 4096)) :
    callK Try.prog N ann (d + 2) dem 9 [.ptr p, .int .i64 name, .int .i64 span] σ K = K (.int .i64 1) σ := by
  rw [go 9, f9_eq]
  by_cases h1 : 0 ≤ name ∧ name ≤ 15
  · have e : nm name = true := nm_t h1
    by_cases h2 : span < 1
    · have e2 : decide (span < 1) = true := decide_eq_true h2
      simp only [go_sem, named_eq, e, e2]
    · have e2 : decide (span < 1) = false := decide_eq_false h2
      have e3 : decide (span > 4096) = true := decide_eq_true (by omega)
      simp only [go_sem, named_eq, e, e2, e3]
  · have e : nm name = false := nm_f h1
    simp only [go_sem, named_eq, e]

theorem set_nil {name span : Int} (h : 0 ≤ name ∧ name ≤ 15 ∧ 1 ≤ span ∧ span ≤ 4096) :
    callK Try.prog N ann (d + 2) dem 9 [.ptr none, .int .i64 name, .int .i64 span] σ K = K (.int .i64 7) σ := by
  rw [go 9, f9_eq]
  have e : nm name = true := nm_t ⟨h.1, h.2.1⟩
  have e2 : decide (span < 1) = false := decide_eq_false (by omega)
  have e3 : decide (span > 4096) = false := decide_eq_false (by omega)
  simp only [go_sem, named_eq, e, e2, e3]

theorem set_ok {b : Nat} {now turn : Int} {o : Option (Nat × Nat)} {c : Option Nat} {V L : List Tm} {hv r : Hp} (hI : BI V L) (hL : L.length ≤ 90000) (hN : L.length + 1 < N) (h0 : 0 ≤ now) (h1 : now ≤ 2 ^ 40)
    (W : Vec 4 (.slice o L.length c 4) L.length (tflat L) hv) (H : HasH σ ((b, .cells (.int .i64 now :: .int .i64 turn :: .slice o L.length c 4 :: tflat V) true) :: (hv ++ r)))
    {name span : Int} (h : 0 ≤ name ∧ name ≤ 15 ∧ 1 ≤ span ∧ span ≤ 4096)
    (kont : ∀ σ' o' c' hv' L' turn', L'.length = L.length + 1 → BI (V.set name.toNat ⟨name, now + span, span, turn'⟩) L' → Vec 4 (.slice o' L'.length c' 4) L'.length (tflat L') hv' →
      HasH σ' ((b, .cells (.int .i64 now :: .int .i64 turn' :: .slice o' L'.length c' 4 :: tflat (V.set name.toNat ⟨name, now + span, span, turn'⟩)) true) :: (hv' ++ r)) → K (.int .i64 0) σ' = some ()) :
    callK Try.prog N ann (d + 4) dem 9 [.ptr (some (b, 0)), .int .i64 name, .int .i64 span] σ K = some () := by
  rw [go 9, f9_eq]
  have hb : σ.get b = _ := H.g1
  have e : nm name = true := nm_t ⟨h.1, h.2.1⟩
  have e2 : decide (span < 1) = false := decide_eq_false (by omega)
  have e3 : decide (span > 4096) = false := decide_eq_false (by omega)
  have i0 : ((0:Int) ≤ name) = True := eq_true h.1
  have i1 : (name < (16:Int)) = True := eq_true (by omega)
  have w : IntKind.i64.wrap (now + span) = now + span := wrap_small (by omega) (by omega)
  have hk : name.toNat < V.length := by have := hI.v; omega
  have hl : (tflat V).length = 64 := by rw [tflat_len, hI.v]
  have k1 : (3 + name.toNat * 4 + (0 + 1 + 1 + 1 + 1) ≤ (tflat V).length + 1 + 1 + 1) = True := eq_true (by omega)
  generalize ht : IntKind.i64.wrap (turn + 1) = turn'
  have s1 := bsplice hk ⟨name, now + span, span, turn'⟩ (.int .i64 now) (.int .i64 turn') (.slice o L.length c 4)
  obtain ⟨a0, a1, a2, a3⟩ := bget (V := V.set name.toNat ⟨name, now + span, span, turn'⟩) (show name.toNat < _ by simpa using hk) (.int .i64 now) (.int .i64 turn') (.slice o L.length c 4)
  rw [lf_set hk, if_pos rfl] at a0 a1 a2 a3
  simp only [Tm.cells] at s1
  simp only [go_sem, named_eq, e, e2, e3, hb, i0, i1, w, ht, k1, s1, a0, a1, a2, a3]
  have H2 := (H.put (.cells (.int .i64 now :: .int .i64 turn' :: .slice o L.length c 4 :: tflat V) true)).put (.cells (.int .i64 now :: .int .i64 turn' :: .slice o L.length c 4 :: tflat (V.set name.toNat ⟨name, now + span, span, turn'⟩)) true)
  refine push_ok (d := d) hL hN hI.h W H2 ⟨name, now + span, span, turn'⟩ ?_
  intro σ' o' c' hv' L' q1 q2 q3 q4 q5
  simp only [go_sem]
  refine kont σ' o' c' hv' L' turn' q1 ⟨by simpa using hI.v, by rw [q1]; exact q2, ?_, ?_, ?_⟩ q4 q5
  · intro k hk16
    rw [lf_set hk, q1]
    by_cases hkn : k = name.toNat
    · rw [if_pos hkn]
      exact .inr ⟨by simp only; omega, h.2.2.1, h.2.2.2, (q3 _).2 (.inl rfl)⟩
    · rw [if_neg hkn]
      rcases hI.live k hk16 with hz | ⟨z1, z2, z3, z4⟩
      · exact .inl hz
      · exact .inr ⟨z1, z2, z3, (q3 _).2 (.inr z4)⟩
  · intro t ht'
    rw [q1] at ht'
    rcases (q3 t).1 ht' with rfl | hh
    · exact ⟨h.1, h.2.1, h.2.2.1⟩
    · exact hI.ent t hh
  · intro k hk16
    rw [lf_set hk]
    by_cases hkn : k = name.toNat
    · rw [if_pos hkn]
      exact .inr (by simp only; omega)
    · rw [if_neg hkn]
      exact hI.pos k hk16

end Go.Proofs.Ytciibgjmdgpgnaa

namespace Go.Proofs.Ytciibgjmdgpgnaa
open Go.AM
set_option maxRecDepth 100000
set_option linter.unusedSimpArgs false
set_option linter.unusedVariables false
variable {N d : Nat} {dem : Bool} {σ : St} {K : AV → St → Option Unit}

theorem BI.pop {V L L' : List Tm} (hI : BI V L) {n : Nat} (hn : L.length = n + 1) (h1 : L'.length = n) (h2 : HeapF (lf L') n) (h3 : ∀ s, InF (lf L) (n + 1) s → s = lf L 0 ∨ InF (lf L') n s) (h4 : ∀ s, InF (lf L') n s → InF (lf L) (n + 1) s)
    (hne : ∀ k, k < 16 → lf V k = Tm.zero ∨ lf V k ≠ lf L 0) : BI V L' := by
  refine ⟨hI.v, by rw [h1]; exact h2, ?_, ?_, hI.pos⟩
  · intro k hk
    rcases hne k hk with hz | hne
    · exact .inl hz
    rcases hI.live k hk with hz | ⟨z1, z2, z3, z4⟩
    · exact .inl hz
    · refine .inr ⟨z1, z2, z3, ?_⟩
      rw [hn] at z4
      rw [h1]
      rcases h3 _ z4 with h | h
      · exact absurd h hne
      · exact h
  · intro t ht
    rw [h1] at ht
    exact hI.ent t (by rw [hn]; exact h4 t ht)

theorem BI.clr {V L : List Tm} (hI : BI V L) (i : Nat) : BI (V.set i Tm.zero) L := by
  refine ⟨by simpa using hI.v, hI.h, ?_, hI.ent, ?_⟩
  · intro k hk
    by_cases hi : i < V.length
    · rw [lf_set hi]
      by_cases h : k = i
      · rw [if_pos h]; exact .inl rfl
      · rw [if_neg h]; exact hI.live k hk
    · rw [List.set_eq_of_length_le (by omega)]
      exact hI.live k hk
  · intro k hk
    by_cases hi : i < V.length
    · rw [lf_set hi]
      by_cases h : k = i
      · rw [if_pos h]; exact .inl rfl
      · rw [if_neg h]; exact hI.pos k hk
    · rw [List.set_eq_of_length_le (by omega)]
      exact hI.pos k hk

theorem fresh_loop {b : Nat} {x0 x1 : AV} {V : List Tm} {J : KF Unit} :
    ∀ (n k : Nat) (σ : St) (L : List Tm) (o : Option (Nat × Nat)) (c : Option Nat) (hv r : Hp), L.length ≤ n → n < k → L.length ≤ 90000 → L.length + 1 < N → BI V L → Vec 4 (.slice o L.length c 4) L.length (tflat L) hv →
      HasH σ ((b, .cells (x0 :: x1 :: .slice o L.length c 4 :: tflat V) true) :: (hv ++ r)) →
      (∀ σ' o' c' hv' L', L'.length ≤ L.length → BI V L' → 0 < L'.length → lf V (lf L' 0).name.toNat = lf L' 0 → Vec 4 (.slice o' L'.length c' 4) L'.length (tflat L') hv' →
        HasH σ' ((b, .cells (x0 :: x1 :: .slice o' L'.length c' 4 :: tflat V) true) :: (hv' ++ r)) → J .ret (f23e11 true) σ' = some ()) →
      (∀ σ' o' c' hv' L', L'.length = 0 → BI V L' → Vec 4 (.slice o' L'.length c' 4) L'.length (tflat L') hv' →
        HasH σ' ((b, .cells (x0 :: x1 :: .slice o' L'.length c' 4 :: tflat V) true) :: (hv' ++ r)) → J (.exit 0) f23e5 σ' = some ()) →
      loopK (f23L5 (callK Try.prog N ann (d + 3)) dem N) f23a5 k J (f23e0 (some (b, 0))) σ = some () := by
  intro n
  induction n with
  | zero =>
    intro k σ L o c hv r hn hk hL hN hI W H kt kf
    obtain ⟨k, rfl⟩ : ∃ k', k = k' + 1 := ⟨k - 1, by omega⟩
    have hb : σ.get b = _ := H.g1
    have e0 : L.length = 0 := by omega
    rw [loopK_succ]
    have e1 : decide ((L.length : Int) > 0) = false := decide_eq_false (by omega)
    simp only [go_sem, hb, e1]
    exact kf σ o c hv L e0 hI W H
  | succ n ih =>
    intro k σ L o c hv r hn hk hL hN hI W H kt kf
    obtain ⟨k, rfl⟩ : ∃ k', k = k' + 1 := ⟨k - 1, by omega⟩
    have hb : σ.get b = _ := H.g1
    rw [loopK_succ]
    by_cases e0 : L.length = 0
    · have e1 : decide ((L.length : Int) > 0) = false := decide_eq_false (by omega)
      simp only [go_sem, hb, e1]
      exact kf σ o c hv L e0 hI W H
    · have e1 : decide ((L.length : Int) > 0) = true := decide_eq_true (by omega)
      obtain ⟨_, bk, junk, hoo, hvv, hcap⟩ := W.row e0
      subst hoo
      have hk1 : σ.get bk = some (.cells (tflat L ++ junk) true) := by rw [hvv] at H; exact H.g2
      have nbk : (bk = σ.next) = False := eq_false (by rw [hvv] at H; have := H.l2; omega)
      have nb : (b = σ.next) = False := eq_false (by have := H.l1; omega)
      have nb' : (σ.next = b) = False := eq_false (by have := H.l1; omega)
      have i1 : ((0:Int) < (L.length : Int)) = True := eq_true (by omega)
      obtain ⟨a0, a1, a2, a3⟩ := tget (show 0 < L.length by omega) junk
      simp only [Nat.zero_mul, Nat.zero_add] at a0 a1 a2 a3
      have hin : InF (lf L) L.length (lf L 0) := ⟨0, by omega, rfl⟩
      obtain ⟨m0, m1, m2⟩ := hI.ent _ hin
      have hm : (lf L 0).name.toNat < V.length := by have := hI.v; omega
      have j0 : ((0:Int) ≤ (lf L 0).name) = True := eq_true m0
      have j1 : ((lf L 0).name < (16:Int)) = True := eq_true (by omega)
      obtain ⟨c0, c1, c2, c3⟩ := bget hm x0 x1 (.slice (some (bk, 0)) L.length c 4)
      have H2 := ((H.new (.cells [.int .i64 0, .int .i64 0, .int .i64 0, .int .i64 0] true)).put (.cells (lf L 0).cells true))
      simp only [Tm.cells] at H2
      by_cases heq : lf V (lf L 0).name.toNat = lf L 0
      · have q0 : ((lf V (lf L 0).name.toNat).name == (lf L 0).name) = true := by rw [heq]; simp
        have q1 : ((lf V (lf L 0).name.toNat).due == (lf L 0).due) = true := by rw [heq]; simp
        have q2 : ((lf V (lf L 0).name.toNat).span == (lf L 0).span) = true := by rw [heq]; simp
        have q3 : ((lf V (lf L 0).name.toNat).turn == (lf L 0).turn) = true := by rw [heq]; simp
        simp only [go_sem, hb, e1, hk1, nbk, nb, nb', i1, a0, a1, a2, a3, j0, j1, c0, c1, c2, c3, q0, q1, q2, q3]
        exact kt _ (some (bk, 0)) c hv L (Nat.le_refl _) hI (by omega) heq W H2.tail
      · have q : ((lf V (lf L 0).name.toNat).name == (lf L 0).name && ((lf V (lf L 0).name.toNat).due == (lf L 0).due && ((lf V (lf L 0).name.toNat).span == (lf L 0).span && (lf V (lf L 0).name.toNat).turn == (lf L 0).turn))) = false := by
          refine Bool.eq_false_iff.2 fun h => heq ?_
          simp only [Bool.and_eq_true, beq_iff_eq] at h
          obtain ⟨h1, h2, h3, h4⟩ := h
          generalize lf V (lf L 0).name.toNat = x at h1 h2 h3 h4 ⊢
          generalize lf L 0 = y at h1 h2 h3 h4 ⊢
          cases x; cases y
          simp only at h1 h2 h3 h4
          subst h1; subst h2; subst h3; subst h4; rfl
        simp only [go_sem, hb, e1, hk1, nbk, nb, nb', i1, a0, a1, a2, a3, j0, j1, c0, c1, c2, c3, q]
        refine pop_ok (d := d) (n := L.length - 1) (by omega) hL hN hI.h W H2.tail ?_
        intro σ' o' c' hv' L' p1 p2 p3 p4 p5 p6
        simp only [go_sem, one_iface]
        have hl1 : L.length - 1 + 1 = L.length := by omega
        have hI' : BI V L' := by
          refine hI.pop (n := L.length - 1) (by omega) p1 p2 (by rw [hl1]; rw [hl1] at p3; exact p3) (by rw [hl1]; rw [hl1] at p4; exact p4) ?_
          intro k hk
          rcases hI.live k hk with hz | ⟨z1, _⟩
          · exact .inl hz
          · refine .inr fun he => heq ?_
            rw [← he, z1]
            rw [show ((k : Int)).toNat = k by omega, he]
        refine ih k σ' L' o' c' hv' r (by omega) (by omega) (by omega) (by omega) hI' p5 p6 ?_ ?_
        · intro σ2 o2 c2 hv2 L2 g1 g2 g3 g4 g5 g6
          exact kt σ2 o2 c2 hv2 L2 (by omega) g2 g3 g4 g5 g6
        · intro σ2 o2 c2 hv2 L2 g1 g2 g3 g4
          exact kf σ2 o2 c2 hv2 L2 g1 g2 g3 g4

theorem fresh_ok {b : Nat} {x0 x1 : AV} {V L : List Tm} {o : Option (Nat × Nat)} {c : Option Nat} {hv r : Hp} (hL : L.length ≤ 90000) (hN : L.length + 1 < N) (hI : BI V L) (W : Vec 4 (.slice o L.length c 4) L.length (tflat L) hv)
    (H : HasH σ ((b, .cells (x0 :: x1 :: .slice o L.length c 4 :: tflat V) true) :: (hv ++ r)))
    (kont : ∀ σ' o' c' hv' L' q, L'.length ≤ L.length → BI V L' → (q = true → 0 < L'.length ∧ lf V (lf L' 0).name.toNat = lf L' 0) → (q = false → L'.length = 0) → Vec 4 (.slice o' L'.length c' 4) L'.length (tflat L') hv' →
        HasH σ' ((b, .cells (x0 :: x1 :: .slice o' L'.length c' 4 :: tflat V) true) :: (hv' ++ r)) → K (.bool q) σ' = some ()) :
    callK Try.prog N ann (d + 4) dem 23 [.ptr (some (b, 0))] σ K = some () := by
  rw [go 23, f23_eq]
  simp only [go_sem]
  refine fresh_loop L.length N σ L o c hv r (Nat.le_refl _) (by omega) hL hN hI W H ?_ ?_
  · intro σ' o' c' hv' L' g1 g2 g3 g4 g5 g6
    simp only [go_sem]
    exact kont σ' o' c' hv' L' true g1 g2 (fun _ => ⟨g3, g4⟩) (fun h => by cases h) g5 g6
  · intro σ' o' c' hv' L' g1 g2 g3 g4
    simp only [go_sem]
    exact kont σ' o' c' hv' L' false (by omega) g2 (fun h => by cases h) (fun _ => g1) g3 g4

theorem fresh_nil (hN : 0 < N) : callK Try.prog N ann (d + 1) dem 23 [.ptr none] σ K = K (.bool false) σ := by
  obtain ⟨N, rfl⟩ : ∃ n, N = n + 1 := ⟨N - 1, by omega⟩
  rw [go 23, f23_eq]
  simp only [go_sem]
  rw [loopK_succ]
  simp only [go_sem]

end Go.Proofs.Ytciibgjmdgpgnaa

namespace Go.Proofs.Ytciibgjmdgpgnaa
open Go.AM
set_option maxRecDepth 100000
set_option linter.unusedSimpArgs false
set_option linter.unusedVariables false
variable {N d : Nat} {dem : Bool} {σ : St} {K : AV → St → Option Unit}

theorem now_eq {b : Nat} {now : Int} {cs : List AV} {own : Bool} (hg : σ.get b = some (.cells (.int .i64 now :: cs) own)) : callK Try.prog N ann (d + 1) dem 12 [.ptr (some (b, 0))] σ K = K (.int .i64 now) σ := by
  rw [go 12, f12_eq]
  simp only [go_sem, hg]
theorem now_nil : callK Try.prog N ann (d + 1) dem 12 [.ptr none] σ K = K (.int .i64 0) σ := by
  rw [go 12, f12_eq]
  simp only [go_sem]

theorem off_bad {p : Option (Nat × Nat)} {n : Int} (h : nm n = false) : callK Try.prog N ann (d + 3) dem 14 [.ptr p, .int .i64 n] σ K = K (.tuple [.bool false, .int .i64 1]) σ := by
  rw [go 14, f14_eq]
  simp only [go_sem, named_eq, h]
theorem off_nil {n : Int} (h : nm n = true) : callK Try.prog N ann (d + 3) dem 14 [.ptr none, .int .i64 n] σ K = K (.tuple [.bool false, .int .i64 0]) σ := by
  rw [go 14, f14_eq]
  simp only [go_sem, named_eq, h, has_nil]
theorem off_dead {b : Nat} {x0 x1 x2 : AV} {V : List Tm} {own : Bool} (hg : σ.get b = some (.cells (x0 :: x1 :: x2 :: tflat V) own)) (hV : V.length = 16) {n : Int} (h : nm n = true) (hl : liveB V n = false) :
    callK Try.prog N ann (d + 3) dem 14 [.ptr (some (b, 0)), .int .i64 n] σ K = K (.tuple [.bool false, .int .i64 0]) σ := by
  rw [go 14, f14_eq]
  simp only [go_sem, named_eq, h]
  rw [has_eq hg hV]
  simp only [go_sem, hl]
theorem off_live {b : Nat} {x0 x1 x2 : AV} {V : List Tm} {r : Hp} (H : HasH σ ((b, .cells (x0 :: x1 :: x2 :: tflat V) true) :: r)) (hV : V.length = 16) {n : Int} (h : nm n = true) (hl : liveB V n = true)
    (kont : ∀ σ', HasH σ' ((b, .cells (x0 :: x1 :: x2 :: tflat (V.set n.toNat Tm.zero)) true) :: r) → K (.tuple [.bool true, .int .i64 0]) σ' = some ()) :
    callK Try.prog N ann (d + 3) dem 14 [.ptr (some (b, 0)), .int .i64 n] σ K = some () := by
  rw [go 14, f14_eq]
  simp only [go_sem, named_eq, h]
  have hb : σ.get b = _ := H.g1
  rw [has_eq hb hV]
  have hh : 0 ≤ n ∧ n ≤ 15 := of_decide_eq_true h
  have i0 : ((0:Int) ≤ n) = True := eq_true hh.1
  have i1 : (n < (16:Int)) = True := eq_true (by omega)
  have hlen : (tflat V).length = 64 := by rw [tflat_len, hV]
  have k1 : (3 + n.toNat * 4 + (0 + 1 + 1 + 1 + 1) ≤ (tflat V).length + 1 + 1 + 1) = True := eq_true (by omega)
  have s1 := bsplice (show n.toNat < V.length by omega) Tm.zero x0 x1 x2
  simp only [Tm.cells, Tm.zero] at s1
  simp only [go_sem, hl, hb, i0, i1, k1, s1]
  exact kont _ (H.put _)

theorem due_nil {n : Int} : callK Try.prog N ann (d + 3) dem 11 [.ptr none, .int .i64 n] σ K = K (.tuple [.int .i64 0, .bool false]) σ := by
  rw [go 11, f11_eq]
  simp only [go_sem, has_nil]
theorem due_dead {b : Nat} {x0 x1 x2 : AV} {V : List Tm} {own : Bool} (hg : σ.get b = some (.cells (x0 :: x1 :: x2 :: tflat V) own)) (hV : V.length = 16) {n : Int} (hl : liveB V n = false) :
    callK Try.prog N ann (d + 3) dem 11 [.ptr (some (b, 0)), .int .i64 n] σ K = K (.tuple [.int .i64 0, .bool false]) σ := by
  rw [go 11, f11_eq]
  simp only [go_sem]
  rw [has_eq hg hV]
  simp only [go_sem, hl]
theorem liveB_nm {V : List Tm} {n : Int} (h : liveB V n = true) : 0 ≤ n ∧ n ≤ 15 := by
  unfold liveB at h
  simp only [Bool.and_eq_true] at h
  exact of_decide_eq_true h.1
theorem due_live {b : Nat} {x0 x1 x2 : AV} {V : List Tm} {own : Bool} (hg : σ.get b = some (.cells (x0 :: x1 :: x2 :: tflat V) own)) (hV : V.length = 16) {n : Int} (hl : liveB V n = true) :
    callK Try.prog N ann (d + 3) dem 11 [.ptr (some (b, 0)), .int .i64 n] σ K = K (.tuple [.int .i64 (lf V n.toNat).due, .bool true]) σ := by
  rw [go 11, f11_eq]
  simp only [go_sem]
  rw [has_eq hg hV]
  have hh := liveB_nm hl
  have i0 : ((0:Int) ≤ n) = True := eq_true hh.1
  have i1 : (n < (16:Int)) = True := eq_true (by omega)
  obtain ⟨a0, a1, a2, a3⟩ := bget (show n.toNat < V.length by omega) x0 x1 x2
  simp only [go_sem, hl, i0, i1, hg, a1]

theorem next_nil (hN : 0 < N) : callK Try.prog N ann (d + 2) dem 17 [.ptr none] σ K = K (.tuple [.int .i64 0, .bool false]) σ := by
  rw [go 17, f17_eq]
  simp only [go_sem]
  rw [fresh_nil hN]
  simp only [go_sem]
theorem next_ok {b : Nat} {x0 x1 : AV} {V L : List Tm} {o : Option (Nat × Nat)} {c : Option Nat} {hv r : Hp} (hL : L.length ≤ 90000) (hN : L.length + 1 < N) (hI : BI V L) (W : Vec 4 (.slice o L.length c 4) L.length (tflat L) hv)
    (H : HasH σ ((b, .cells (x0 :: x1 :: .slice o L.length c 4 :: tflat V) true) :: (hv ++ r)))
    (kont : ∀ σ' o' c' hv' L' q x, L'.length ≤ L.length → BI V L' → (q = true → 0 < L'.length ∧ lf V (lf L' 0).name.toNat = lf L' 0 ∧ x = (lf L' 0).due) → (q = false → L'.length = 0 ∧ x = 0) → Vec 4 (.slice o' L'.length c' 4) L'.length (tflat L') hv' →
        HasH σ' ((b, .cells (x0 :: x1 :: .slice o' L'.length c' 4 :: tflat V) true) :: (hv' ++ r)) → K (.tuple [.int .i64 x, .bool q]) σ' = some ()) :
    callK Try.prog N ann (d + 5) dem 17 [.ptr (some (b, 0))] σ K = some () := by
  rw [go 17, f17_eq]
  simp only [go_sem]
  refine fresh_ok hL hN hI W H ?_
  intro σ' o' c' hv' L' q g1 g2 g3 g4 g5 g6
  have hb : σ'.get b = _ := g6.g1
  cases q with
  | false =>
    simp only [go_sem]
    exact kont σ' o' c' hv' L' false 0 g1 g2 (fun h => by cases h) (fun _ => ⟨g4 rfl, rfl⟩) g5 g6
  | true =>
    obtain ⟨l1, l2⟩ := g3 rfl
    obtain ⟨_, bk, junk, hoo, hvv, hcap⟩ := g5.row (by omega)
    subst hoo
    have hk1 : σ'.get bk = some (.cells (tflat L' ++ junk) true) := by rw [hvv] at g6; exact g6.g2
    have i1 : ((0:Int) < (L'.length : Int)) = True := eq_true (by omega)
    obtain ⟨a0, a1, a2, a3⟩ := tget l1 junk
    simp only [Nat.zero_mul, Nat.zero_add] at a0 a1 a2 a3
    simp only [go_sem, hb, i1, hk1, a1]
    exact kont σ' _ c' hv' L' true _ g1 g2 (fun _ => ⟨l1, l2, rfl⟩) (fun h => by cases h) g5 g6

def dbl (s : Int) : Int := if 2 * s < 4096 then 2 * s else 4096

theorem double_bad {p : Option (Nat × Nat)} {n : Int} (h : nm n = false) : callK Try.prog N ann (d + 3) dem 10 [.ptr p, .int .i64 n] σ K = K (.tuple [.int .i64 0, .int .i64 1]) σ := by
  rw [go 10, f10_eq]
  simp only [go_sem, named_eq, h]
theorem double_nil {n : Int} (h : nm n = true) : callK Try.prog N ann (d + 3) dem 10 [.ptr none, .int .i64 n] σ K = K (.tuple [.int .i64 0, .int .i64 6]) σ := by
  rw [go 10, f10_eq]
  simp only [go_sem, named_eq, h, has_nil]
theorem double_dead {b : Nat} {x0 x1 x2 : AV} {V : List Tm} {own : Bool} (hg : σ.get b = some (.cells (x0 :: x1 :: x2 :: tflat V) own)) (hV : V.length = 16) {n : Int} (h : nm n = true) (hl : liveB V n = false) :
    callK Try.prog N ann (d + 3) dem 10 [.ptr (some (b, 0)), .int .i64 n] σ K = K (.tuple [.int .i64 0, .int .i64 6]) σ := by
  rw [go 10, f10_eq]
  simp only [go_sem, named_eq, h]
  rw [has_eq hg hV]
  simp only [go_sem, hl]

theorem BI.zero_or {V L : List Tm} (hI : BI V L) {n : Int} (hl : liveB V n = true) : 1 ≤ (lf V n.toNat).span ∧ (lf V n.toNat).span ≤ 4096 ∧ (lf V n.toNat).name = n ∧ InF (lf L) L.length (lf V n.toNat) := by
  have hh := liveB_nm hl
  unfold liveB at hl
  simp only [Bool.and_eq_true] at hl
  have h2 := of_decide_eq_true hl.2
  rcases hI.live n.toNat (by omega) with hz | ⟨z1, z2, z3, z4⟩
  · rw [hz] at h2; simp [Tm.zero] at h2
  · exact ⟨z2, z3, by rw [z1]; omega, z4⟩

theorem double_live {b : Nat} {now turn : Int} {o : Option (Nat × Nat)} {c : Option Nat} {V L : List Tm} {hv r : Hp} (hI : BI V L) (hL : L.length ≤ 90000) (hN : L.length + 1 < N) (h0 : 0 ≤ now) (h1 : now ≤ 2 ^ 40)
    (W : Vec 4 (.slice o L.length c 4) L.length (tflat L) hv) (H : HasH σ ((b, .cells (.int .i64 now :: .int .i64 turn :: .slice o L.length c 4 :: tflat V) true) :: (hv ++ r)))
    {n : Int} (hl : liveB V n = true)
    (kont : ∀ σ' o' c' hv' L' turn', L'.length = L.length + 1 → BI (V.set n.toNat ⟨n, now + dbl (lf V n.toNat).span, dbl (lf V n.toNat).span, turn'⟩) L' → Vec 4 (.slice o' L'.length c' 4) L'.length (tflat L') hv' →
      HasH σ' ((b, .cells (.int .i64 now :: .int .i64 turn' :: .slice o' L'.length c' 4 :: tflat (V.set n.toNat ⟨n, now + dbl (lf V n.toNat).span, dbl (lf V n.toNat).span, turn'⟩)) true) :: (hv' ++ r)) →
      K (.tuple [.int .i64 (dbl (lf V n.toNat).span), .int .i64 0]) σ' = some ()) :
    callK Try.prog N ann (d + 5) dem 10 [.ptr (some (b, 0)), .int .i64 n] σ K = some () := by
  rw [go 10, f10_eq]
  have hh := liveB_nm hl
  have hb : σ.get b = _ := H.g1
  obtain ⟨z1, z2, z3, z4⟩ := hI.zero_or hl
  have i0 : ((0:Int) ≤ n) = True := eq_true hh.1
  have i1 : (n < (16:Int)) = True := eq_true (by omega)
  have hV := hI.v
  obtain ⟨a0, a1, a2, a3⟩ := bget (show n.toNat < V.length by omega) (.int .i64 now) (.int .i64 turn) (.slice o L.length c 4)
  have w : IntKind.i64.wrap (2 * (lf V n.toNat).span) = 2 * (lf V n.toNat).span := wrap_small (by omega) (by omega)
  have hd : (if 2 * (lf V n.toNat).span < 4096 then IntKind.i64.wrap (2 * (lf V n.toNat).span) else 4096) = dbl (lf V n.toNat).span := by rw [w]; rfl
  simp only [go_sem, named_eq, nm_t hh]
  rw [has_eq hb hV]
  simp only [go_sem, hl, i0, i1, hb, a2, w, hd]
  have hdl : 1 ≤ dbl (lf V n.toNat).span ∧ dbl (lf V n.toNat).span ≤ 4096 := by unfold dbl; split <;> omega
  refine set_ok hI hL hN h0 h1 W H ⟨hh.1, hh.2, hdl.1, hdl.2⟩ ?_
  intro σ' o' c' hv' L' turn' g1 g2 g3 g4
  simp only [go_sem]
  exact kont σ' o' c' hv' L' turn' g1 g2 g3 g4

end Go.Proofs.Ytciibgjmdgpgnaa
