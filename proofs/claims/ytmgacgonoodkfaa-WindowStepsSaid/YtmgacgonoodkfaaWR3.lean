/- The reference's window: what its functions do. -/
import Derived.Test.YtmgacgonoodkfaaW8
import Derived.Test.YtmgacgonoodkfaaWiRef
import Derived.Test.YtmgacgonoodkfaaWiRefB
namespace Go.Proofs.Ytmgacgonoodkfaa
open Go.AM
set_option maxRecDepth 100000
set_option linter.unusedSimpArgs false
set_option linter.unusedVariables false
variable {N d : Nat} {dem : Bool} {σ : St} {K : AV → St → Option Unit}

/-- A place. -/
structure Pl where
  v : Int
  n : Int
  t : ByteArray
def Pl.cells (p : Pl) : List AV := [.int .i64 p.v, .int .i64 p.n, .str p.t]
def pflat (L : List Pl) : List AV := L.flatMap Pl.cells
theorem pz (p : Pl) : p.cells.length = 3 := rfl
theorem pflat_len (L : List Pl) : (pflat L).length = L.length * 3 := by rw [pflat, flatMap_len pz]
theorem pget {L : List Pl} {i : Nat} {p : Pl} (h : L[i]? = some p) (junk : List AV) : (pflat L ++ junk)[i * 3]? = some (.int .i64 p.v) ∧ (pflat L ++ junk)[i * 3 + 1]? = some (.int .i64 p.n) ∧ (pflat L ++ junk)[i * 3 + 2]? = some (.str p.t) := by
  have q : ∀ j, j < 3 → (pflat L ++ junk)[i * 3 + j]? = p.cells[j]? := fun j hj => by
    have := flatMap_get pz hj h junk
    simpa [pflat] using this
  exact ⟨q 0 (by omega), q 1 (by omega), q 2 (by omega)⟩
theorem pdrop {L : List Pl} {i : Nat} {p : Pl} (h : L[i]? = some p) : L.drop i = p :: L.drop (i + 1) := by
  obtain ⟨hl, he⟩ := List.getElem?_eq_some_iff.1 h
  rw [List.drop_eq_getElem_cons hl, he]

def abv (low view : Int) (L : List Pl) : List Pl := L.filter fun p => decide (low < p.n) && decide (view ≤ p.v)

theorem above_loop {L : List Pl} {bl : Nat} {junk : List AV} {own : Bool} {c0 : Option Nat} {low view : Int} {r : Hp} {J : KF Unit} (hL : L.length ≤ 1000) :
    ∀ (m i n : Nat) (T : List Pl) (o : Option (Nat × Nat)) (c : Option Nat) (ht : Hp) (σ : St), m + i = L.length → m < n → T.length ≤ i →
      Vec 3 (.slice o T.length c 3) T.length (pflat T) ht → HasH σ (ht ++ ((bl, .cells (pflat L ++ junk) own) :: r)) →
      (∀ σ' o' c' ht', Vec 3 (.slice o' (T ++ abv low view (L.drop i)).length c' 3) (T ++ abv low view (L.drop i)).length (pflat (T ++ abv low view (L.drop i))) ht' →
        HasH σ' (ht' ++ ((bl, .cells (pflat L ++ junk) own) :: r)) → J (.exit 0) (f57e6 o' (T ++ abv low view (L.drop i)).length c') σ' = some ()) →
      loopK (f57L9 (callK Try.prog N ann d) dem N) f57a9 n J (f57e4 low view o T.length c (some (bl, 0)) L.length c0 L.length i) σ = some () := by
  intro m
  induction m with
  | zero =>
    intro i n T o c ht σ hm hn hc hT H kont
    obtain ⟨n, rfl⟩ : ∃ n', n = n' + 1 := ⟨n - 1, by omega⟩
    have h1 : ((i:Int) < L.length) = False := eq_false (by omega)
    rw [loopK_succ]
    simp only [go_sem, h1]
    have := kont σ o c ht
    rw [List.drop_eq_nil_of_le (by omega)] at this
    simp only [abv, List.filter_nil, List.append_nil] at this
    exact this hT H
  | succ m ih =>
    intro i n T o c ht σ hm hn hc hT H kont
    obtain ⟨n, rfl⟩ : ∃ n', n = n' + 1 := ⟨n - 1, by omega⟩
    have h0 : ((0:Int) ≤ i) = True := eq_true (by omega)
    have h1 : ((i:Int) < L.length) = True := eq_true (by omega)
    have hti : ((i:Int)).toNat = i := by omega
    have hw1 : IntKind.i64.wrap ((i:Int) + 1) = ((i + 1 : Nat) : Int) := by rw [wrap_small (by omega) (by omega)]; rfl
    obtain ⟨p, hp⟩ : ∃ p, L[i]? = some p := ⟨_, List.getElem?_eq_getElem (by omega)⟩
    obtain ⟨q0, q1, q2⟩ := pget hp junk
    have hd := pdrop hp
    have hgl : σ.get bl = _ := H.right.g1
    have nl : (bl = σ.next) = False := eq_false (by have := H.right.l1; omega)
    have H2 := (H.new (.cells [.int .i64 0, .int .i64 0, .str (ByteArray.mk #[])] true)).put (.cells p.cells true)
    simp only [Pl.cells] at H2
    rw [loopK_succ]
    simp only [go_sem, h1, h0, hti, hgl, q0, q1, q2]
    by_cases c1 : low < p.n
    · by_cases c2 : view ≤ p.v
      · have e : abv low view (L.drop i) = p :: abv low view (L.drop (i + 1)) := by rw [hd]; simp [abv, c1, c2]
        obtain ⟨o', c', σ', h', happ, hv', H'⟩ := hT.app (bytes := 32) (k := 1) (news := [.int .i64 p.v, .int .i64 p.n, .str p.t]) ((H2.new (.cells [.int .i64 p.v, .int .i64 p.n, .str p.t] true)).tail.down) (by decide) (by decide) rfl (by omega)
        simp only [go_sem, c1, c2, elems_pos (show 1 ≠ 0 by decide), happ, hw1]
        have hl : (T ++ [p]).length = T.length + 1 := by simp
        have := ih (i + 1) n (T ++ [p]) o' c' h' _ (by omega) (by omega) (by omega) (by rw [hl]; simpa [pflat, Pl.cells] using hv') (H'.up.tail) (by
          rw [List.append_assoc, List.singleton_append, ← e]; exact kont)
        rw [hl] at this
        exact this
      · have e : abv low view (L.drop i) = abv low view (L.drop (i + 1)) := by rw [hd]; simp [abv, c1, c2]
        simp only [go_sem, c1, c2, hw1]
        exact ih (i + 1) n T o c ht _ (by omega) (by omega) (by omega) hT H2.tail (by rw [← e]; exact kont)
    · have e : abv low view (L.drop i) = abv low view (L.drop (i + 1)) := by rw [hd]; simp [abv, c1]
      simp only [go_sem, c1, hw1]
      exact ih (i + 1) n T o c ht _ (by omega) (by omega) (by omega) hT H2.tail (by rw [← e]; exact kont)

theorem above_ok {L : List Pl} {o : Option (Nat × Nat)} {c : Option Nat} {h r : Hp} (hV : Vec 3 (.slice o L.length c 3) L.length (pflat L) h) (hL : L.length ≤ 1000) (H : HasH σ (h ++ r)) (hN : 1001 < N) (low view : Int)
    (kont : ∀ σ' o' c' h', Vec 3 (.slice o' (abv low view L).length c' 3) (abv low view L).length (pflat (abv low view L)) h' → HasH σ' (h' ++ (h ++ r)) → K (.slice o' (abv low view L).length c' 3) σ' = some ()) :
    callK Try.prog N ann (d + 1) dem 57 [.slice o L.length c 3, .int .i64 low, .int .i64 view] σ K = some () := by
  rw [go 57 (by decide), f57_eq]
  simp only [go_sem]
  by_cases h0 : L = []
  · subst h0
    obtain ⟨n, rfl⟩ : ∃ n, N = n + 1 := ⟨N - 1, by omega⟩
    rw [loopK_succ]
    have h1 : (((0 : Nat) : Int) ≤ 0) = True := eq_true (by decide)
    have h2 : ((0 : Int) < ((0 : Nat) : Int)) = False := eq_false (by decide)
    simp only [go_sem, h2]
    exact kont σ none (some 0) [] (Vec.nil 3) H
  · obtain ⟨_, b, junk, rfl, rfl, _⟩ := hV.row (show L.length ≠ 0 by simpa using h0)
    refine above_loop hL L.length 0 N [] none (some 0) [] σ (by omega) (by omega) (by simp) (Vec.nil 3) H ?_
    intro σ' o' c' h' hV' H'
    simp only [List.nil_append, List.drop_zero] at hV' ⊢
    simp only [go_sem]
    exact kont σ' o' c' h' hV' H'

end Go.Proofs.Ytmgacgonoodkfaa

namespace Go.Proofs.Ytmgacgonoodkfaa
open Go.AM
set_option maxRecDepth 100000
set_option linter.unusedSimpArgs false
set_option linter.unusedVariables false
variable {N d : Nat} {dem : Bool} {σ : St} {K : AV → St → Option Unit}

def RefP (b : Nat) (low : Int) (S B : List Pl) (h : Hp) : Prop := (0 ≤ low ∧ low ≤ 1099511627768) ∧ ∃ o1 c1 h1 o2 c2 h2,
  h = (b, .cells [.int .i64 low, .slice o1 S.length c1 3, .slice o2 B.length c2 3] true) :: (h1 ++ h2) ∧ Vec 3 (.slice o1 S.length c1 3) S.length (pflat S) h1 ∧ Vec 3 (.slice o2 B.length c2 3) B.length (pflat B) h2

theorem rhas_loop {b : Nat} {low n : Int} {x1 x2 : AV} {own : Bool} {J : KF Unit} (l0 : 0 ≤ low) (l1 : low ≤ 1099511627768) (hg : σ.get b = some (.cells [.int .i64 low, x1, x2] own)) :
    ∀ (m i k : Nat), m + i = 9 → 1 ≤ i → m < k → (∀ j, 1 ≤ j → j < i → n ≠ low + (j : Int)) → (hasB low n = true → J .ret (f38e9 true) σ = some ()) → (hasB low n = false → J (.exit 0) f38e5 σ = some ()) →
      loopK (f38L7 (callK Try.prog N ann d) dem N) f38a7 k J (f38e2 (some (b, 0)) n (i : Int)) σ = some () := by
  intro m
  induction m with
  | zero =>
    intro i k hm hi hk hno k1 k0
    obtain ⟨k, rfl⟩ : ∃ k', k = k' + 1 := ⟨k - 1, by omega⟩
    have q : ((i : Int) ≤ 8) = False := eq_false (by omega)
    have hb : hasB low n = false := by
      cases hh : hasB low n with
      | false => rfl
      | true =>
        exfalso
        simp [hasB] at hh
        exact hno (n - low).toNat (by omega) (by omega) (by omega)
    rw [loopK_succ]
    simp only [go_sem, q]
    exact k0 hb
  | succ m ih =>
    intro i k hm hi hk hno k1 k0
    obtain ⟨k, rfl⟩ : ∃ k', k = k' + 1 := ⟨k - 1, by omega⟩
    have q : ((i : Int) ≤ 8) = True := eq_true (by omega)
    have w1 : IntKind.i64.wrap (low + (i : Int)) = low + (i : Int) := wrap_small (by omega) (by omega)
    have w2 : IntKind.i64.wrap ((i : Int) + 1) = ((i + 1 : Nat) : Int) := by rw [wrap_small (by omega) (by omega)]; rfl
    rw [loopK_succ]
    by_cases he : n = low + (i : Int)
    · have e1 : (n == low + (i : Int)) = true := by simp [he]
      have hb : hasB low n = true := by simp [hasB, he]; omega
      simp only [go_sem, q, hg, w1, e1]
      exact k1 hb
    · have e1 : (n == low + (i : Int)) = false := by simp [he]
      simp only [go_sem, q, hg, w1, e1, w2]
      refine ih (i + 1) k (by omega) (by omega) (by omega) ?_ k1 k0
      intro j h1 h2
      by_cases hj : j = i
      · subst hj; exact he
      · exact hno j h1 (by omega)

theorem rhas_raw {b : Nat} {low n : Int} {x1 x2 : AV} {own : Bool} (l0 : 0 ≤ low) (l1 : low ≤ 1099511627768) (hg : σ.get b = some (.cells [.int .i64 low, x1, x2] own)) (hN : 10 ≤ N) (kont : K (.bool (hasB low n)) σ = some ()) :
    callK Try.prog N ann (d + 1) dem 38 [.ptr (some (b, 0)), .int .i64 n] σ K = some () := by
  rw [go 38 (by decide), f38_eq]
  simp only [go_sem]
  refine rhas_loop l0 l1 hg 8 1 N (by omega) (by omega) (by omega) (fun j h1 h2 => by omega) ?_ ?_
  · intro hb
    rw [hb] at kont
    simp only [go_sem]
    exact kont
  · intro hb
    rw [hb] at kont
    simp only [go_sem]
    exact kont

theorem rask_raw {b : Nat} {low v n : Int} {x1 x2 : AV} {own : Bool} (l0 : 0 ≤ low) (l1 : low ≤ 1099511627768) (hg : σ.get b = some (.cells [.int .i64 low, x1, x2] own)) (hN : 10 ≤ N) (kont : K (.int .i64 (askE low v n)) σ = some ()) :
    callK Try.prog N ann (d + 2) dem 56 [.ptr (some (b, 0)), .int .i64 v, .int .i64 n] σ K = some () := by
  rw [go 56 (by decide), f56_eq]
  by_cases c1 : v < 0
  · have : askE low v n = 1 := by simp [askE, c1]
    rw [this] at kont
    simp only [go_sem, c1]
    exact kont
  by_cases c2 : 1099511627776 < v
  · have : askE low v n = 1 := by simp [askE, c2]
    rw [this] at kont
    simp only [go_sem, c1, c2]
    exact kont
  simp only [go_sem, c1, c2]
  refine rhas_raw l0 l1 hg hN ?_
  cases c3 : hasB low n
  · have : askE low v n = 6 := by simp [askE, c1, c2, c3]
    rw [this] at kont
    simp only [go_sem]
    exact kont
  · have : askE low v n = 0 := by simp [askE, c1, c2, c3]
    rw [this] at kont
    simp only [go_sem]
    exact kont

theorem rat_loop {L : List Pl} {b : Nat} {o c0} {v n : Int} {h1 r : Hp} {J : KF Unit} (hL : L.length ≤ 1000) (hV : Vec 3 (.slice o L.length c0 3) L.length (pflat L) h1) :
    ∀ (m i k : Nat) (σ : St), m + i = L.length → m < k → (∀ j p, j < i → L[j]? = some p → ¬ (p.v = v ∧ p.n = n)) →
      HasH σ (h1 ++ r) →
      (∀ σ', (∃ p ∈ L, p.v = v ∧ p.n = n) → HasH σ' (h1 ++ r) → J .ret (f51e7 0) σ' = some ()) →
      (∀ σ', (∀ p ∈ L, ¬ (p.v = v ∧ p.n = n)) → HasH σ' (h1 ++ r) → J (.exit 0) (f51e0 (some (b, 0)) v n) σ' = some ()) →
      loopK (f51L17 (callK Try.prog N ann d) dem N) f51a17 k J (f51e9 (some (b, 0)) v n o L.length c0 L.length i) σ = some () := by
  intro m
  induction m with
  | zero =>
    intro i k σ hm hk hno H k1 k0
    obtain ⟨k, rfl⟩ : ∃ k', k = k' + 1 := ⟨k - 1, by omega⟩
    have h1 : ((i:Int) < L.length) = False := eq_false (by omega)
    rw [loopK_succ]
    simp only [go_sem, h1]
    refine k0 σ ?_ H
    intro p hp
    obtain ⟨j, he⟩ := List.mem_iff_getElem?.1 hp
    exact hno j p (by have := (List.getElem?_eq_some_iff.1 he).1; omega) he
  | succ m ih =>
    intro i k σ hm hk hno H k1 k0
    obtain ⟨k, rfl⟩ : ∃ k', k = k' + 1 := ⟨k - 1, by omega⟩
    have h0 : ((0:Int) ≤ i) = True := eq_true (by omega)
    have h1 : ((i:Int) < L.length) = True := eq_true (by omega)
    have hti : ((i:Int)).toNat = i := by omega
    have hw1 : IntKind.i64.wrap ((i:Int) + 1) = ((i + 1 : Nat) : Int) := by rw [wrap_small (by omega) (by omega)]; rfl
    obtain ⟨p, hp⟩ : ∃ p, L[i]? = some p := ⟨_, List.getElem?_eq_getElem (by omega)⟩
    obtain ⟨_, bl, junk, rfl, rfl, _⟩ := hV.row (show L.length ≠ 0 by omega)
    obtain ⟨q0, q1, q2⟩ := pget hp junk
    have hgl : σ.get bl = _ := H.g1
    have nl : (bl = σ.next) = False := eq_false (by have := H.l1; omega)
    have H2 := ((H.new (.cells [.int .i64 0, .int .i64 0, .str (ByteArray.mk #[])] true)).put (.cells p.cells true)).tail
    simp only [Pl.cells] at H2
    have stp : ¬ (p.v = v ∧ p.n = n) → ∀ j q, j < i + 1 → L[j]? = some q → ¬ (q.v = v ∧ q.n = n) := by
      intro hne j q hj hq
      by_cases hji : j = i
      · subst hji; rw [hp] at hq; cases hq; exact hne
      · exact hno j q (by omega) hq
    rw [loopK_succ]
    simp only [go_sem, h1, h0, hti, hgl, q0, q1, q2]
    by_cases c1 : p.v = v
    · by_cases c2 : p.n = n
      · have e1 : (p.v == v) = true := by simp [c1]
        have e2 : (p.n == n) = true := by simp [c2]
        simp only [go_sem, e1, e2]
        exact k1 _ ⟨p, List.mem_of_getElem? hp, c1, c2⟩ H2
      · have e1 : (p.v == v) = true := by simp [c1]
        have e2 : (p.n == n) = false := by simp [c2]
        simp only [go_sem, e1, e2, hw1]
        exact ih (i + 1) k _ (by omega) (by omega) (stp fun h => c2 h.2) H2 k1 k0
    · have e1 : (p.v == v) = false := by simp [c1]
      simp only [go_sem, e1, hw1]
      exact ih (i + 1) k _ (by omega) (by omega) (stp fun h => c1 h.1) H2 k1 k0

def hasPl (S : List Pl) (v n : Int) : Bool := S.any fun p => decide (p.v = v ∧ p.n = n)
def ratS (low : Int) (S : List Pl) (v n : Int) : List Pl := if askE low v n = 0 ∧ hasPl S v n = false then S ++ [⟨v, n, ByteArray.mk #[]⟩] else S

theorem rat_ok {b : Nat} {low : Int} {S B : List Pl} {h r : Hp} (R : RefP b low S B h) (H : HasH σ (h ++ r)) (hS : S.length ≤ 900) (hN : 1001 < N) (v n : Int)
    (kont : ∀ σ' h', RefP b low (ratS low S v n) B h' → HasH σ' (h' ++ r) → K (.int .i64 (askE low v n)) σ' = some ()) :
    callK Try.prog N ann (d + 3) dem 51 [.ptr (some (b, 0)), .int .i64 v, .int .i64 n] σ K = some () := by
  have R' := R
  obtain ⟨⟨l0, l1⟩, o1, c1, h1, o2, c2, h2, rfl, V1, V2⟩ := R
  have hg : σ.get b = _ := H.g1
  rw [go 51 (by decide), f51_eq]
  simp only [go_sem]
  refine rask_raw l0 l1 hg (by omega) ?_
  by_cases ha : askE low v n = 0
  · have ha1 : (askE low v n != 0) = false := by simp [ha]
    simp only [go_sem, ha1, hg]
    have H0 : HasH σ (h1 ++ ((b, Blk.cells [.int .i64 low, .slice o1 S.length c1 3, .slice o2 B.length c2 3] true) :: (h2 ++ r))) := by
      have H0 : HasH σ ((b, Blk.cells [.int .i64 low, .slice o1 S.length c1 3, .slice o2 B.length c2 3] true) :: (h1 ++ (h2 ++ r))) := by simpa using H
      exact H0.down
    refine rat_loop (by omega) V1 S.length 0 N _ (by omega) (by omega) (fun j p hj => by omega) H0 ?_ ?_
    · rintro σ' ⟨p, hp, e1, e2⟩ H1
      have hs : hasPl S v n = true := by
        unfold hasPl
        rw [List.any_eq_true]
        exact ⟨p, hp, by simp [e1, e2]⟩
      have hr : ratS low S v n = S := by unfold ratS; rw [if_neg (fun h => by rw [hs] at h; cases h.2)]
      rw [hr, ha] at kont
      simp only [go_sem]
      exact kont _ _ R' (by simpa using H1.up)
    · intro σ' hno H1
      have hs : hasPl S v n = false := by
        unfold hasPl
        rw [List.any_eq_false]
        intro p hp; simpa using hno p hp
      have hr : ratS low S v n = S ++ [(⟨v, n, ByteArray.mk #[]⟩ : Pl)] := by unfold ratS; rw [if_pos ⟨ha, hs⟩]
      rw [hr, ha] at kont
      have hg1 : σ'.get b = _ := H1.up.g1
      have nb : (b = σ'.next) = False := eq_false (by have := H1.up.l1; omega)
      have H2 : HasH (σ'.new (.cells [.int .i64 v, .int .i64 n, .str (ByteArray.mk #[])] true)) (h1 ++ ((b, Blk.cells [.int .i64 low, .slice o1 S.length c1 3, .slice o2 B.length c2 3] true) :: (h2 ++ r))) := H1.new' _
      obtain ⟨o', c', σ2, h', happ, hv', H'⟩ := V1.app (bytes := 32) (k := 1) (news := [.int .i64 v, .int .i64 n, .str (ByteArray.mk #[])]) H2 (by decide) (by decide) rfl (by omega)
      have hg2 : σ2.get b = _ := H'.up.g1
      simp only [go_sem, hg1, nb, elems_pos (show 1 ≠ 0 by decide), happ, hg2]
      refine kont _ ((b, Blk.cells [.int .i64 low, .slice o' (S ++ [(⟨v, n, ByteArray.mk #[]⟩ : Pl)]).length c' 3, .slice o2 B.length c2 3] true) :: (h' ++ h2)) ⟨⟨l0, l1⟩, o', c', h', o2, c2, h2, rfl, ?_, V2⟩ ?_
      · have hl : (S ++ [(⟨v, n, ByteArray.mk #[]⟩ : Pl)]).length = S.length + 1 := by simp
        rw [hl]; simpa [pflat, Pl.cells] using hv'
      · have hl : (S ++ [(⟨v, n, ByteArray.mk #[]⟩ : Pl)]).length = S.length + 1 := by simp
        rw [hl]
        have := H'.up.put (.cells [.int .i64 low, .slice o' (S.length + 1) c' 3, .slice o2 B.length c2 3] true)
        simpa using this
  · have ha1 : (askE low v n != 0) = true := by simp [ha]
    have hr : ratS low S v n = S := by unfold ratS; rw [if_neg (fun h => ha h.1)]
    rw [hr] at kont
    simp only [go_sem, ha1]
    exact kont _ _ R' H

end Go.Proofs.Ytmgacgonoodkfaa

namespace Go.Proofs.Ytmgacgonoodkfaa
open Go.AM
set_option maxRecDepth 100000
set_option linter.unusedSimpArgs false
set_option linter.unusedVariables false
variable {N d : Nat} {dem : Bool} {σ : St} {K : AV → St → Option Unit}

def rget (B : List Pl) (n : Int) : Option Pl := B.find? fun p => decide (p.n = n)
def rgetP (B : List Pl) (n : Int) : Pl := (rget B n).getD ⟨0, 0, ByteArray.mk #[]⟩

theorem rbest_loop {L : List Pl} {y : Nat} {o c0} {n : Int} {z : List AV} (hz : z.length = 3) {h1 r : Hp} {J : KF Unit} (hL : L.length ≤ 1000) (hV : Vec 3 (.slice o L.length c0 3) L.length (pflat L) h1) :
    ∀ (m i k : Nat) (σ : St), m + i = L.length → m < k → rget L n = rget (L.drop i) n →
      HasH σ (h1 ++ ((y, .cells z true) :: r)) →
      (∀ σ' p, rget L n = some p → HasH σ' (h1 ++ ((y, .cells p.cells true) :: r)) → J .ret (f37e12 y true) σ' = some ()) →
      (∀ σ', rget L n = none → HasH σ' (h1 ++ ((y, .cells z true) :: r)) → J (.exit 0) (f37e6 y) σ' = some ()) →
      loopK (f37L7 (callK Try.prog N ann d) dem N) f37a7 k J (f37e4 n y o L.length c0 L.length i) σ = some () := by
  intro m
  induction m with
  | zero =>
    intro i k σ hm hk hr H k1 k0
    obtain ⟨k, rfl⟩ : ∃ k', k = k' + 1 := ⟨k - 1, by omega⟩
    have h1 : ((i:Int) < L.length) = False := eq_false (by omega)
    rw [loopK_succ]
    simp only [go_sem, h1]
    refine k0 σ ?_ H
    rw [hr, List.drop_eq_nil_of_le (by omega)]; rfl
  | succ m ih =>
    intro i k σ hm hk hr H k1 k0
    obtain ⟨k, rfl⟩ : ∃ k', k = k' + 1 := ⟨k - 1, by omega⟩
    have h0 : ((0:Int) ≤ i) = True := eq_true (by omega)
    have h1 : ((i:Int) < L.length) = True := eq_true (by omega)
    have hti : ((i:Int)).toNat = i := by omega
    have hw1 : IntKind.i64.wrap ((i:Int) + 1) = ((i + 1 : Nat) : Int) := by rw [wrap_small (by omega) (by omega)]; rfl
    obtain ⟨p, hp⟩ : ∃ p, L[i]? = some p := ⟨_, List.getElem?_eq_getElem (by omega)⟩
    obtain ⟨_, bl, junk, rfl, rfl, _⟩ := hV.row (show L.length ≠ 0 by omega)
    obtain ⟨q0, q1, q2⟩ := pget hp junk
    have hd := pdrop hp
    have hgl : σ.get bl = _ := H.g1
    have hgy : σ.get y = _ := H.g2
    have nl : (bl = σ.next) = False := eq_false (by have := H.l1; omega)
    have ny : (y = σ.next) = False := eq_false (by have := H.l2; omega)
    have H2 := ((H.new (.cells [.int .i64 0, .int .i64 0, .str (ByteArray.mk #[])] true)).put (.cells p.cells true)).tail
    match z, hz with
    | [z1, z2, z3], _ =>
      simp only [Pl.cells] at H2
      rw [loopK_succ]
      by_cases c1 : p.n = n
      · have e1 : (p.n == n) = true := by simp [c1]
        simp only [go_sem, h1, h0, hti, hgl, q0, q1, q2, e1, hgy, ny]
        refine k1 _ p ?_ (H2.put2 (.cells p.cells true))
        rw [hr, hd]; simp [rget, c1]
      · have e1 : (p.n == n) = false := by simp [c1]
        simp only [go_sem, h1, h0, hti, hgl, q0, q1, q2, e1, hw1]
        exact ih (i + 1) k _ (by omega) (by omega) (by rw [hr, hd]; simp [rget, c1]) H2 k1 k0

theorem rbest_ok {b : Nat} {low : Int} {S B : List Pl} {h r : Hp} (R : RefP b low S B h) (H : HasH σ (h ++ r)) (hB : B.length ≤ 900) (hN : 1001 < N) (n : Int)
    (kont : ∀ σ', HasH σ' (h ++ r) → K (.tuple [.agg (rgetP B n).cells, .bool (rget B n).isSome]) σ' = some ()) :
    callK Try.prog N ann (d + 1) dem 37 [.ptr (some (b, 0)), .int .i64 n] σ K = some () := by
  obtain ⟨⟨l0, l1⟩, o1, c1, h1, o2, c2, h2, rfl, V1, V2⟩ := R
  have hg : σ.get b = _ := H.g1
  have nb : (b = σ.next) = False := eq_false (by have := H.l1; omega)
  rw [go 37 (by decide), f37_eq]
  simp only [go_sem, hg, nb]
  have H1 : HasH (σ.new (.cells [.int .i64 0, .int .i64 0, .str (ByteArray.mk #[])] true)) (h2 ++ ((σ.next, Blk.cells [.int .i64 0, .int .i64 0, .str (ByteArray.mk #[])] true) :: (b, Blk.cells [.int .i64 low, .slice o1 S.length c1 3, .slice o2 B.length c2 3] true) :: (h1 ++ r))) := by
    have H0 : HasH σ ((b, Blk.cells [.int .i64 low, .slice o1 S.length c1 3, .slice o2 B.length c2 3] true) :: (h1 ++ (h2 ++ r))) := by simpa using H
    have H1 := H0.new (.cells [.int .i64 0, .int .i64 0, .str (ByteArray.mk #[])] true)
    have H2 : HasH _ ([(σ.next, Blk.cells [.int .i64 0, .int .i64 0, .str (ByteArray.mk #[])] true), (b, Blk.cells [.int .i64 low, .slice o1 S.length c1 3, .slice o2 B.length c2 3] true)] ++ (h1 ++ (h2 ++ r))) := H1
    simpa using H2.mid3
  have back : ∀ {σ' : St} {x : Blk}, HasH σ' (h2 ++ ((σ.next, x) :: (b, Blk.cells [.int .i64 low, .slice o1 S.length c1 3, .slice o2 B.length c2 3] true) :: (h1 ++ r))) →
      HasH σ' (((b, Blk.cells [.int .i64 low, .slice o1 S.length c1 3, .slice o2 B.length c2 3] true) :: (h1 ++ h2)) ++ r) := by
    intro σ' x Hx
    have Hy := Hx.up.tail.up
    have Hz : HasH σ' ([(b, Blk.cells [.int .i64 low, .slice o1 S.length c1 3, .slice o2 B.length c2 3] true)] ++ (h2 ++ (h1 ++ r))) := Hy
    have := Hz.mid3.mid
    simpa using this
  refine rbest_loop rfl (by omega) V2 B.length 0 N _ (by omega) (by omega) (by simp) H1 ?_ ?_
  · intro σ' p hp H2
    have hgy : σ'.get σ.next = _ := H2.up.g1
    simp only [Pl.cells] at hgy
    have : rgetP B n = p := by simp [rgetP, hp]
    rw [hp, this] at kont
    simp only [go_sem, hgy]
    exact kont _ (back H2)
  · intro σ' hn H2
    have hgy : σ'.get σ.next = _ := H2.up.g1
    have : rgetP B n = ⟨0, 0, ByteArray.mk #[]⟩ := by simp [rgetP, hn]
    rw [hn, this] at kont
    simp only [go_sem, hgy]
    exact kont _ (back (H2.up.put _).down)

/-- The places of other numbers. -/
def others (n : Int) (L : List Pl) : List Pl := L.filter fun p => decide (p.n ≠ n)

theorem rnote_loop {L : List Pl} {b : Nat} {o0 c0} {v n : Int} {text : ByteArray} {h1 r : Hp} {J : KF Unit} (hL : L.length ≤ 1000) (hV : Vec 3 (.slice o0 L.length c0 3) L.length (pflat L) h1) :
    ∀ (m i k : Nat) (T : List Pl) (o : Option (Nat × Nat)) (c : Option Nat) (ht : Hp) (σ : St), m + i = L.length → m < k → T.length ≤ i →
      Vec 3 (.slice o T.length c 3) T.length (pflat T) ht → HasH σ (ht ++ (h1 ++ r)) →
      (∀ σ' o' c' ht', Vec 3 (.slice o' (T ++ others n (L.drop i)).length c' 3) (T ++ others n (L.drop i)).length (pflat (T ++ others n (L.drop i))) ht' →
        HasH σ' (ht' ++ (h1 ++ r)) → J (.exit 0) (f52e14 (some (b, 0)) v n text o' (T ++ others n (L.drop i)).length c') σ' = some ()) →
      loopK (f52L29 (callK Try.prog N ann d) dem N) f52a29 k J (f52e16 (some (b, 0)) v n text o T.length c o0 L.length c0 L.length i) σ = some () := by
  intro m
  induction m with
  | zero =>
    intro i k T o c ht σ hm hk hc hT H kont
    obtain ⟨k, rfl⟩ : ∃ k', k = k' + 1 := ⟨k - 1, by omega⟩
    have h1 : ((i:Int) < L.length) = False := eq_false (by omega)
    rw [loopK_succ]
    simp only [go_sem, h1]
    have := kont σ o c ht
    rw [List.drop_eq_nil_of_le (by omega)] at this
    simp only [others, List.filter_nil, List.append_nil] at this
    exact this hT H
  | succ m ih =>
    intro i k T o c ht σ hm hk hc hT H kont
    obtain ⟨k, rfl⟩ : ∃ k', k = k' + 1 := ⟨k - 1, by omega⟩
    have h0 : ((0:Int) ≤ i) = True := eq_true (by omega)
    have h1 : ((i:Int) < L.length) = True := eq_true (by omega)
    have hti : ((i:Int)).toNat = i := by omega
    have hw1 : IntKind.i64.wrap ((i:Int) + 1) = ((i + 1 : Nat) : Int) := by rw [wrap_small (by omega) (by omega)]; rfl
    obtain ⟨p, hp⟩ : ∃ p, L[i]? = some p := ⟨_, List.getElem?_eq_getElem (by omega)⟩
    obtain ⟨_, bl, junk, rfl, rfl, _⟩ := hV.row (show L.length ≠ 0 by omega)
    obtain ⟨q0, q1, q2⟩ := pget hp junk
    have hd := pdrop hp
    have hgl : σ.get bl = _ := H.right.g1
    have nl : (bl = σ.next) = False := eq_false (by have := H.right.l1; omega)
    have H2 := (H.new (.cells [.int .i64 0, .int .i64 0, .str (ByteArray.mk #[])] true)).put (.cells p.cells true)
    simp only [Pl.cells] at H2
    rw [loopK_succ]
    simp only [go_sem, h1, h0, hti, hgl, q0, q1, q2]
    by_cases c1 : p.n = n
    · have e1 : (p.n != n) = false := by simp [c1]
      have e : others n (L.drop i) = others n (L.drop (i + 1)) := by rw [hd]; simp [others, c1]
      simp only [go_sem, e1, hw1]
      exact ih (i + 1) k T o c ht _ (by omega) (by omega) (by omega) hT H2.tail (by rw [← e]; exact kont)
    · have e1 : (p.n != n) = true := by simp [c1]
      have e : others n (L.drop i) = p :: others n (L.drop (i + 1)) := by rw [hd]; simp [others, c1]
      obtain ⟨o', c', σ', h', happ, hv', H'⟩ := hT.app (bytes := 32) (k := 1) (news := [.int .i64 p.v, .int .i64 p.n, .str p.t]) ((H2.new (.cells [.int .i64 p.v, .int .i64 p.n, .str p.t] true)).tail.down) (by decide) (by decide) rfl (by omega)
      simp only [go_sem, e1, elems_pos (show 1 ≠ 0 by decide), happ, hw1]
      have hl : (T ++ [p]).length = T.length + 1 := by simp
      have := ih (i + 1) k (T ++ [p]) o' c' h' _ (by omega) (by omega) (by omega) (by rw [hl]; simpa [pflat, Pl.cells] using hv') (H'.up.tail) (by
        rw [List.append_assoc, List.singleton_append, ← e]; exact kont)
      rw [hl] at this
      exact this

def rnoteB (low : Int) (B : List Pl) (v n : Int) : Bool := decide (askE low v n = 0) && (match rget B n with | some p => decide (p.v < v) | none => true)
def rnoteX (low : Int) (B : List Pl) (v n : Int) (text : ByteArray) : List Pl := if rnoteB low B v n = true then others n B ++ [⟨v, n, text⟩] else B

theorem rnote_ok {b : Nat} {low : Int} {S B : List Pl} {h r : Hp} (R : RefP b low S B h) (H : HasH σ (h ++ r)) (hB : B.length ≤ 900) (hN : 1001 < N) (v n : Int) (text : ByteArray)
    (kont : ∀ σ' h', RefP b low S (rnoteX low B v n text) h' → HasH σ' (h' ++ r) → K (.tuple [.bool (rnoteB low B v n), .int .i64 (askE low v n)]) σ' = some ()) :
    callK Try.prog N ann (d + 3) dem 52 [.ptr (some (b, 0)), .int .i64 v, .int .i64 n, .str text] σ K = some () := by
  have R' := R
  obtain ⟨⟨l0, l1⟩, o1, c1, h1, o2, c2, h2, rfl, V1, V2⟩ := R
  have hg : σ.get b = _ := H.g1
  rw [go 52 (by decide), f52_eq]
  simp only [go_sem]
  refine rask_raw l0 l1 hg (by omega) ?_
  by_cases ha : askE low v n = 0
  · have ha1 : (askE low v n != 0) = false := by simp [ha]
    simp only [go_sem, ha1]
    refine rbest_ok R' H hB hN n ?_
    intro σ1 H1
    have hg1 : σ1.get b = _ := H1.g1
    have nb1 : (b = σ1.next) = False := eq_false (by have := H1.l1; omega)
    have H2 : HasH ((σ1.new (.cells [.int .i64 0, .int .i64 0, .str (ByteArray.mk #[])] true)).put σ1.next (.cells (rgetP B n).cells true)) (((b, Blk.cells [.int .i64 low, .slice o1 S.length c1 3, .slice o2 B.length c2 3] true) :: (h1 ++ h2)) ++ r) := ((H1.new _).put _).tail
    cases hrg : rget B n with
    | none =>
      have hp : rgetP B n = ⟨0, 0, ByteArray.mk #[]⟩ := by simp [rgetP, hrg]
      have hb : rnoteB low B v n = true := by simp [rnoteB, ha, hrg]
      have hr : rnoteX low B v n text = others n B ++ [(⟨v, n, text⟩ : Pl)] := by unfold rnoteX; rw [if_pos hb]
      rw [hr, hb, ha] at kont
      simp only [go_sem, Pl.cells, hp, nb1, hg1]
      have H3 : HasH ((σ1.new (.cells [.int .i64 0, .int .i64 0, .str (ByteArray.mk #[])] true)).put σ1.next (.cells (rgetP B n).cells true)) ([] ++ (h2 ++ ((b, Blk.cells [.int .i64 low, .slice o1 S.length c1 3, .slice o2 B.length c2 3] true) :: (h1 ++ r)))) := by
        have H2' := H2
        simp only [List.cons_append, List.append_assoc] at H2'
        have Hz : HasH _ ([(b, Blk.cells [.int .i64 low, .slice o1 S.length c1 3, .slice o2 B.length c2 3] true)] ++ (h1 ++ (h2 ++ r))) := H2'
        simpa using Hz.mid3
      simp only [Pl.cells, hp] at H3
      refine rnote_loop (by omega) V2 B.length 0 N [] none (some 0) [] _ (by omega) (by omega) (by simp) (Vec.nil 3) H3 ?_
      intro σ2 o3 c3 h3 V3 H4
      simp only [List.nil_append, List.drop_zero] at V3 ⊢
      have hol : (others n B).length ≤ B.length := List.length_filter_le _ _
      obtain ⟨o', c', σ3, h', happ, hv', H'⟩ := V3.app (bytes := 32) (k := 1) (news := [.int .i64 v, .int .i64 n, .str text]) (H4.new' (.cells [.int .i64 v, .int .i64 n, .str text] true)) (by decide) (by decide) rfl (by omega)
      have H5 : HasH σ3 ((b, Blk.cells [.int .i64 low, .slice o1 S.length c1 3, .slice o2 B.length c2 3] true) :: (h1 ++ (h' ++ r))) := by
        have Hz : HasH σ3 (h' ++ (h2 ++ ([(b, Blk.cells [.int .i64 low, .slice o1 S.length c1 3, .slice o2 B.length c2 3] true)] ++ (h1 ++ r)))) := H'
        have Hy := Hz.mid.right
        have := Hy.mid3.mid3
        simpa using this
      have hg3 : σ3.get b = _ := H5.g1
      simp only [go_sem, elems_pos (show 1 ≠ 0 by decide), happ, hg3]
      have hl : (others n B ++ [(⟨v, n, text⟩ : Pl)]).length = (others n B).length + 1 := by simp
      refine kont _ ((b, Blk.cells [.int .i64 low, .slice o1 S.length c1 3, .slice o' (others n B ++ [(⟨v, n, text⟩ : Pl)]).length c' 3] true) :: (h1 ++ h')) ⟨⟨l0, l1⟩, o1, c1, h1, o', c', h', rfl, V1, ?_⟩ ?_
      · rw [hl]; simpa [pflat, Pl.cells] using hv'
      · rw [hl]
        have := H5.put (.cells [.int .i64 low, .slice o1 S.length c1 3, .slice o' ((others n B).length + 1) c' 3] true)
        simpa using this
    | some p =>
      have hp : rgetP B n = p := by simp [rgetP, hrg]
      by_cases hv : v ≤ p.v
      · have hb : rnoteB low B v n = false := by simp [rnoteB, ha, hrg, hv]
        have hr : rnoteX low B v n text = B := by unfold rnoteX; rw [hb]; rfl
        rw [hr, hb, ha] at kont
        simp only [go_sem, Pl.cells, hp, nb1, hg1, hv]
        simp only [Pl.cells, hp] at H2
        exact kont _ _ R' H2
      · have hb : rnoteB low B v n = true := by simp [rnoteB, ha, hrg]; omega
        have hr : rnoteX low B v n text = others n B ++ [(⟨v, n, text⟩ : Pl)] := by unfold rnoteX; rw [if_pos hb]
        rw [hr, hb, ha] at kont
        simp only [go_sem, Pl.cells, hp, nb1, hg1, hv]
        have H3 : HasH ((σ1.new (.cells [.int .i64 0, .int .i64 0, .str (ByteArray.mk #[])] true)).put σ1.next (.cells (rgetP B n).cells true)) ([] ++ (h2 ++ ((b, Blk.cells [.int .i64 low, .slice o1 S.length c1 3, .slice o2 B.length c2 3] true) :: (h1 ++ r)))) := by
          have H2' := H2
          simp only [List.cons_append, List.append_assoc] at H2'
          have Hz : HasH _ ([(b, Blk.cells [.int .i64 low, .slice o1 S.length c1 3, .slice o2 B.length c2 3] true)] ++ (h1 ++ (h2 ++ r))) := H2'
          simpa using Hz.mid3
        simp only [Pl.cells, hp] at H3
        refine rnote_loop (by omega) V2 B.length 0 N [] none (some 0) [] _ (by omega) (by omega) (by simp) (Vec.nil 3) H3 ?_
        intro σ2 o3 c3 h3 V3 H4
        simp only [List.nil_append, List.drop_zero] at V3 ⊢
        have hol : (others n B).length ≤ B.length := List.length_filter_le _ _
        obtain ⟨o', c', σ3, h', happ, hv', H'⟩ := V3.app (bytes := 32) (k := 1) (news := [.int .i64 v, .int .i64 n, .str text]) (H4.new' (.cells [.int .i64 v, .int .i64 n, .str text] true)) (by decide) (by decide) rfl (by omega)
        have H5 : HasH σ3 ((b, Blk.cells [.int .i64 low, .slice o1 S.length c1 3, .slice o2 B.length c2 3] true) :: (h1 ++ (h' ++ r))) := by
          have Hz : HasH σ3 (h' ++ (h2 ++ ([(b, Blk.cells [.int .i64 low, .slice o1 S.length c1 3, .slice o2 B.length c2 3] true)] ++ (h1 ++ r)))) := H'
          have Hy := Hz.mid.right
          have := Hy.mid3.mid3
          simpa using this
        have hg3 : σ3.get b = _ := H5.g1
        simp only [go_sem, elems_pos (show 1 ≠ 0 by decide), happ, hg3]
        have hl : (others n B ++ [(⟨v, n, text⟩ : Pl)]).length = (others n B).length + 1 := by simp
        refine kont _ ((b, Blk.cells [.int .i64 low, .slice o1 S.length c1 3, .slice o' (others n B ++ [(⟨v, n, text⟩ : Pl)]).length c' 3] true) :: (h1 ++ h')) ⟨⟨l0, l1⟩, o1, c1, h1, o', c', h', rfl, V1, ?_⟩ ?_
        · rw [hl]; simpa [pflat, Pl.cells] using hv'
        · rw [hl]
          have := H5.put (.cells [.int .i64 low, .slice o1 S.length c1 3, .slice o' ((others n B).length + 1) c' 3] true)
          simpa using this
  · have ha1 : (askE low v n != 0) = true := by simp [ha]
    have hb : rnoteB low B v n = false := by simp [rnoteB, ha]
    have hr : rnoteX low B v n text = B := by unfold rnoteX; rw [hb]; rfl
    rw [hr, hb] at kont
    simp only [go_sem, ha1]
    exact kont _ _ R' H


theorem rraise_ok {b : Nat} {low : Int} {S B : List Pl} {h r : Hp} (R : RefP b low S B h) (H : HasH σ (h ++ r)) (hS : S.length ≤ 900) (hB : B.length ≤ 900) (hN : 1001 < N) (l : Int)
    (k0 : ∀ σ', HasH σ' (h ++ r) → ¬ (raiseE l = 0 ∧ low < l) → K (.tuple [.bool false, .int .i64 (raiseE l)]) σ' = some ())
    (k1 : ∀ σ' h', raiseE l = 0 ∧ low < l → RefP b l (abv l 0 S) (abv l 0 B) h' → HasH σ' (h' ++ r) → K (.tuple [.bool true, .int .i64 0]) σ' = some ()) :
    callK Try.prog N ann (d + 2) dem 53 [.ptr (some (b, 0)), .int .i64 l] σ K = some () := by
  have R' := R
  obtain ⟨⟨l0, l1⟩, o1, c1, h1, o2, c2, h2, rfl, V1, V2⟩ := R
  have hg : σ.get b = _ := H.g1
  rw [go 53 (by decide), f53_eq]
  by_cases q1 : l < 0
  · have e1 : raiseE l = 1 := by simp [raiseE, q1]
    rw [e1] at k0
    simp only [go_sem, q1]
    exact k0 _ H (by simp)
  by_cases q2 : 1099511627768 < l
  · have e1 : raiseE l = 1 := by simp [raiseE, q2]
    rw [e1] at k0
    simp only [go_sem, q1, q2]
    exact k0 _ H (by simp)
  have e1 : raiseE l = 0 := by simp [raiseE, q1, q2]
  by_cases q3 : l ≤ low
  · rw [e1] at k0
    simp only [go_sem, q1, q2, hg, q3]
    exact k0 _ H (by omega)
  simp only [go_sem, q1, q2, hg, q3]
  have H1 : HasH (σ.put b (.cells [.int .i64 l, .slice o1 S.length c1 3, .slice o2 B.length c2 3] true)) (h1 ++ ((b, Blk.cells [.int .i64 l, .slice o1 S.length c1 3, .slice o2 B.length c2 3] true) :: (h2 ++ r))) := by
    have H0 : HasH σ ((b, Blk.cells [.int .i64 low, .slice o1 S.length c1 3, .slice o2 B.length c2 3] true) :: (h1 ++ (h2 ++ r))) := by simpa using H
    exact (H0.put _).down
  refine above_ok V1 (by omega) H1 hN l 0 ?_
  intro σ1 o3 c3 h3 V3 H3
  have H4 : HasH σ1 ((b, Blk.cells [.int .i64 l, .slice o1 S.length c1 3, .slice o2 B.length c2 3] true) :: (h3 ++ (h2 ++ r))) := by
    have Hz : HasH σ1 (h3 ++ (h1 ++ ([(b, Blk.cells [.int .i64 l, .slice o1 S.length c1 3, .slice o2 B.length c2 3] true)] ++ (h2 ++ r)))) := H3
    have Hy := Hz.mid.right.mid
    simpa using Hy
  have hg4 : σ1.get b = _ := H4.g1
  have H5 := (H4.put (.cells [.int .i64 l, .slice o3 (abv l 0 S).length c3 3, .slice o2 B.length c2 3] true))
  simp only [go_sem, hg4]
  have H6 : HasH (σ1.put b (.cells [.int .i64 l, .slice o3 (abv l 0 S).length c3 3, .slice o2 B.length c2 3] true)) (h2 ++ ((b, Blk.cells [.int .i64 l, .slice o3 (abv l 0 S).length c3 3, .slice o2 B.length c2 3] true) :: (h3 ++ r))) := by
    have Hz : HasH _ ([(b, Blk.cells [.int .i64 l, .slice o3 (abv l 0 S).length c3 3, .slice o2 B.length c2 3] true)] ++ (h3 ++ (h2 ++ r))) := H5
    simpa using Hz.mid3
  refine above_ok V2 (by omega) H6 hN l 0 ?_
  intro σ2 o4 c4 h4 V4 H7
  have H8 : HasH σ2 ((b, Blk.cells [.int .i64 l, .slice o3 (abv l 0 S).length c3 3, .slice o2 B.length c2 3] true) :: (h3 ++ (h4 ++ r))) := by
    have Hz : HasH σ2 (h4 ++ (h2 ++ ([(b, Blk.cells [.int .i64 l, .slice o3 (abv l 0 S).length c3 3, .slice o2 B.length c2 3] true)] ++ (h3 ++ r)))) := H7
    have Hy := Hz.mid.right.mid.mid3.mid
    simpa using Hy
  have hg8 : σ2.get b = _ := H8.g1
  simp only [go_sem, hg8]
  refine k1 _ ((b, Blk.cells [.int .i64 l, .slice o3 (abv l 0 S).length c3 3, .slice o4 (abv l 0 B).length c4 3] true) :: (h3 ++ h4)) ⟨e1, by omega⟩ ⟨⟨by omega, by omega⟩, o3, c3, h3, o4, c4, h4, rfl, V3, V4⟩ ?_
  have := H8.put (.cells [.int .i64 l, .slice o3 (abv l 0 S).length c3 3, .slice o4 (abv l 0 B).length c4 3] true)
  simpa using this

theorem rleave_ok {b : Nat} {low : Int} {S B : List Pl} {h r : Hp} (R : RefP b low S B h) (H : HasH σ (h ++ r)) (hS : S.length ≤ 900) (hN : 1001 < N) (view : Int)
    (kont : ∀ σ' h', RefP b low (abv low view S) B h' → HasH σ' (h' ++ r) → K (.int .i64 (S.length - (abv low view S).length)) σ' = some ()) :
    callK Try.prog N ann (d + 2) dem 54 [.ptr (some (b, 0)), .int .i64 view] σ K = some () := by
  obtain ⟨⟨l0, l1⟩, o1, c1, h1, o2, c2, h2, rfl, V1, V2⟩ := R
  have hg : σ.get b = _ := H.g1
  rw [go 54 (by decide), f54_eq]
  simp only [go_sem, hg]
  have H1 : HasH σ (h1 ++ ((b, Blk.cells [.int .i64 low, .slice o1 S.length c1 3, .slice o2 B.length c2 3] true) :: (h2 ++ r))) := by
    have H0 : HasH σ ((b, Blk.cells [.int .i64 low, .slice o1 S.length c1 3, .slice o2 B.length c2 3] true) :: (h1 ++ (h2 ++ r))) := by simpa using H
    exact H0.down
  refine above_ok V1 (by omega) H1 hN low view ?_
  intro σ1 o3 c3 h3 V3 H3
  have H4 : HasH σ1 ((b, Blk.cells [.int .i64 low, .slice o1 S.length c1 3, .slice o2 B.length c2 3] true) :: (h3 ++ (h2 ++ r))) := by
    have Hz : HasH σ1 (h3 ++ (h1 ++ ([(b, Blk.cells [.int .i64 low, .slice o1 S.length c1 3, .slice o2 B.length c2 3] true)] ++ (h2 ++ r)))) := H3
    have Hy := Hz.mid.right.mid
    simpa using Hy
  have hg4 : σ1.get b = _ := H4.g1
  have hl : (abv low view S).length ≤ S.length := List.length_filter_le _ _
  have hw : IntKind.i64.wrap ((S.length : Int) - ((abv low view S).length : Nat)) = (S.length : Int) - ((abv low view S).length : Nat) := wrap_small (by omega) (by omega)
  simp only [go_sem, hg4, hw]
  refine kont _ ((b, Blk.cells [.int .i64 low, .slice o3 (abv low view S).length c3 3, .slice o2 B.length c2 3] true) :: (h3 ++ h2)) ⟨⟨l0, l1⟩, o3, c3, h3, o2, c2, h2, rfl, V3, V2⟩ ?_
  have := H4.put (.cells [.int .i64 low, .slice o3 (abv low view S).length c3 3, .slice o2 B.length c2 3] true)
  simpa using this

end Go.Proofs.Ytmgacgonoodkfaa
