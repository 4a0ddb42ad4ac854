/- What a slot's functions do: new slots, what is proposed, a replica's own, how many. -/
import Derived.Test.YtmgacgonoodkfaaSS2
import Derived.Test.YtmgacgonoodkfaaSlLook
namespace Go.Proofs.Ytmgacgonoodkfaa
open Go.AM
set_option maxRecDepth 100000
set_option linter.unusedSimpArgs false
set_option linter.unusedVariables false
variable {N d : Nat} {σ : St} {K : AV → St → Option Unit}

def newE (g f p : Int) : Int := if g < 0 ∨ 4 < g ∨ f < 0 ∨ 3 < f ∨ p < 0 ∨ 3 * f < p then 1 else 0
def newX (g f p : Int) : Slt := ⟨g, f, p, List.replicate (3 * f + 1).toNat .zero, List.replicate (3 * f + 1).toNat .zero, List.replicate (3 * f + 1).toNat .zero⟩

theorem vflat_zeros (n : Nat) : (List.replicate n Vt.zero.cells).flatten = vflat (List.replicate n Vt.zero) := by
  induction n with
  | zero => rfl
  | succ n ih => simp only [List.replicate_succ, List.flatten_cons, vflat, List.flatMap_cons] at ih ⊢; rw [ih]

theorem new_bad {r : Hp} (H : HasH σ r) (g f p : Int) (he : newE g f p = 1) (kont : K (.tuple [.ptr none, .int .i64 1]) σ = some ()) :
    callK Try.prog N ann (d + 1) 22 [.int .i64 g, .int .i64 f, .int .i64 p] σ K = some () := by
  rw [callK_succ, f22_eq]
  have hx : g < 0 ∨ 4 < g ∨ f < 0 ∨ 3 < f ∨ p < 0 ∨ 3 * f < p := by
    unfold newE at he; split at he <;> simp_all
  by_cases c1 : g < 0
  · simp only [go_sem, c1]; exact kont
  by_cases c2 : 4 < g
  · simp only [go_sem, c1, c2]; exact kont
  by_cases c3 : f < 0
  · simp only [go_sem, c1, c2, c3]; exact kont
  by_cases c4 : 3 < f
  · simp only [go_sem, c1, c2, c3, c4]; exact kont
  by_cases c5 : p < 0
  · simp only [go_sem, c1, c2, c3, c4, c5]; exact kont
  have hw : IntKind.i64.wrap (3 * f) = 3 * f := wrap_small (n := 3 * f) (by omega) (by omega)
  have c6 : 3 * f < p := by omega
  simp only [go_sem, c1, c2, c3, c4, c5, hw, c6]; exact kont

theorem new_ok {r : Hp} (H : HasH σ r) (hN : 10 ≤ N) (g f p : Int) (he : newE g f p = 0) (kont : ∀ σ' s h, SlotP s (newX g f p) h → HasH σ' (h ++ r) → K (.tuple [.ptr (some (s, 0)), .int .i64 0]) σ' = some ()) :
    callK Try.prog N ann (d + 1) 22 [.int .i64 g, .int .i64 f, .int .i64 p] σ K = some () := by
  obtain ⟨n, rfl⟩ : ∃ n, N = n + 4 := ⟨N - 4, by omega⟩
  rw [callK_succ, f22_eq]
  have hx : ¬ (g < 0 ∨ 4 < g ∨ f < 0 ∨ 3 < f ∨ p < 0 ∨ 3 * f < p) := by
    unfold newE at he; split at he <;> simp_all
  have c1 : ¬ g < 0 := by omega
  have c2 : ¬ 4 < g := by omega
  have c3 : ¬ f < 0 := by omega
  have c4 : ¬ 3 < f := by omega
  have c5 : ¬ p < 0 := by omega
  have c6 : ¬ 3 * f < p := by omega
  have hw : IntKind.i64.wrap (3 * f) = 3 * f := wrap_small (n := 3 * f) (by omega) (by omega)
  have hw2 : IntKind.i64.wrap (3 * f + 1) = 3 * f + 1 := wrap_small (n := 3 * f + 1) (by omega) (by omega)
  have h0 : ((0:Int) ≤ 3 * f + 1) = True := eq_true (by omega)
  have h1 : (3 * f + 1 ≤ (1099511627776 : Int)) = True := eq_true (by omega)
  have h2 : ((3 * f + 1).toNat * 41 ≤ 70368744177664) = True := eq_true (by omega)
  have H1 := H.new (.cells [.int .i64 g, .int .i64 f, .int .i64 p, .slice none 0 (some 0) 3, .slice none 0 (some 0) 3, .slice none 0 (some 0) 3] true)
  have nx : ∀ k : Nat, (σ.next = σ.next + 1 + k) = False := fun k => eq_false (by omega)
  have n1 : (σ.next = σ.next + 1) = False := eq_false (by omega)
  have n2 : (σ.next = σ.next + 1 + 1) = False := eq_false (by omega)
  have n3 : (σ.next = σ.next + 1 + 1 + 1) = False := eq_false (by omega)
  have wi0 : IntKind.i64.wrap (0 + 1) = 1 := wrap_small (n := 1) (by omega) (by omega)
  have wi1 : IntKind.i64.wrap (1 + 1) = 2 := wrap_small (n := 2) (by omega) (by omega)
  have wi2 : IntKind.i64.wrap (2 + 1) = 3 := wrap_small (n := 3) (by omega) (by omega)
  have w1 : IntKind.i64.wrap 1 = 1 := wrap_small (n := 1) (by omega) (by omega)
  have w2 : IntKind.i64.wrap 2 = 2 := wrap_small (n := 2) (by omega) (by omega)
  have w3 : IntKind.i64.wrap 3 = 3 := wrap_small (n := 3) (by omega) (by omega)
  simp only [go_sem, loopK_succ, c1, c2, c3, c4, c5, c6, hw, hw2, h0, h1, h2, Int.le_refl, n1, n2, n3, w1, w2, w3]
  have Hz := (((((H1.new (.cells (List.replicate (3 * f + 1).toNat Vt.zero.cells).flatten true)).put2 (.cells [.int .i64 g, .int .i64 f, .int .i64 p, .slice (some (σ.next + 1, 0)) (3 * f + 1).toNat (some (3 * f + 1).toNat) 3, .slice none 0 (some 0) 3, .slice none 0 (some 0) 3] true)).new (.cells (List.replicate (3 * f + 1).toNat Vt.zero.cells).flatten true)).put3 (.cells [.int .i64 g, .int .i64 f, .int .i64 p, .slice (some (σ.next + 1, 0)) (3 * f + 1).toNat (some (3 * f + 1).toNat) 3, .slice (some (σ.next + 1 + 1, 0)) (3 * f + 1).toNat (some (3 * f + 1).toNat) 3, .slice none 0 (some 0) 3] true)).new (.cells (List.replicate (3 * f + 1).toNat Vt.zero.cells).flatten true)).put4 (.cells [.int .i64 g, .int .i64 f, .int .i64 p, .slice (some (σ.next + 1, 0)) (3 * f + 1).toNat (some (3 * f + 1).toNat) 3, .slice (some (σ.next + 1 + 1, 0)) (3 * f + 1).toNat (some (3 * f + 1).toNat) 3, .slice (some (σ.next + 1 + 1 + 1, 0)) (3 * f + 1).toNat (some (3 * f + 1).toNat) 3] true)
  refine kont _ σ.next [(σ.next, _), (σ.next + 1, _), (σ.next + 1 + 1, _), (σ.next + 1 + 1 + 1, _)] ⟨⟨by simp [newX]; omega, by simp [newX]; omega, by simp [newX]; omega, by simp [newX]; omega, by simp [newX], by simp [newX], by simp [newX]⟩, _, _, _, rfl⟩ ?_
  simp only [newX, List.length_replicate, ← vflat_zeros]
  exact Hz.perm ((List.reverse_perm [(σ.next, _), (σ.next + 1, _), (σ.next + 1 + 1, _), (σ.next + 1 + 1 + 1, _)]).append_right r)

theorem proposal_ok {s : Nat} {x : Slt} {h r : Hp} (hS : SlotP s x h) (H : HasH σ (h ++ r)) (kont : ∀ σ', HasH σ' (h ++ r) → K (.tuple [.str (x.at 1 x.p).text, .bool (x.at 1 x.p).there]) σ' = some ()) :
    callK Try.prog N ann (d + 3) 26 [.ptr (some (s, 0))] σ K = some () := by
  have hS' := hS
  obtain ⟨ho, b0, b1, b2, rfl⟩ := hS
  have hg : σ.get s = _ := H.g1
  rw [callK_succ, f26_eq]
  simp only [go_sem, hg]
  refine of_ok hS' H 1 x.p ?_
  intro σ1 H1
  simp only [go_sem, Vt.cells]
  exact kont _ (by first | exact H1 | exact (H1.new _).dead _)
theorem proposal_nil (kont : K (.tuple [.str (ByteArray.mk #[]), .bool false]) σ = some ()) : callK Try.prog N ann (d + 1) 26 [.ptr none] σ K = some () := by
  rw [callK_succ, f26_eq]
  simp only [go_sem]
  exact kont

theorem own_ok {s : Nat} {x : Slt} {h r : Hp} (hS : SlotP s x h) (H : HasH σ (h ++ r)) (k no : Int) (kont : ∀ σ', HasH σ' (h ++ r) → K (.tuple [.str (x.at k no).text, .str (x.at k no).tag, .bool (x.at k no).there]) σ' = some ()) :
    callK Try.prog N ann (d + 3) 29 [.ptr (some (s, 0)), .int .i64 k, .int .i64 no] σ K = some () := by
  rw [callK_succ, f29_eq]
  simp only [go_sem]
  refine of_ok hS H k no ?_
  intro σ1 H1
  simp only [go_sem, Vt.cells]
  exact kont _ (by first | exact H1 | exact (H1.new _).dead _)
theorem of_nil {r : Hp} (H : HasH σ r) (k no : Int) (kont : ∀ σ', HasH σ' r → K (.agg Vt.zero.cells) σ' = some ()) : callK Try.prog N ann (d + 1) 48 [.ptr none, .int .i64 k, .int .i64 no] σ K = some () := by
  rw [callK_succ, f48_eq]
  simp only [go_sem]
  exact kont _ ((H.new _).dead _)
theorem own_nil {r : Hp} (H : HasH σ r) (k no : Int) (kont : ∀ σ', HasH σ' r → K (.tuple [.str (ByteArray.mk #[]), .str (ByteArray.mk #[]), .bool false]) σ' = some ()) : callK Try.prog N ann (d + 2) 29 [.ptr none, .int .i64 k, .int .i64 no] σ K = some () := by
  rw [callK_succ, f29_eq]
  simp only [go_sem]
  refine of_nil H k no ?_
  intro σ1 H1
  simp only [go_sem, Vt.cells, Vt.zero]
  exact kont _ (by first | exact H1 | exact (H1.new _).dead _)

/-- How many voted. -/
def Slt.cnt (x : Slt) (k : Int) : Nat := (x.vs k).countP Vt.there

theorem Slt.vs_len {x : Slt} (h : x.ok) {k : Int} (hk : k = 1 ∨ k = 2) : (x.vs k).length = (3 * x.f + 1).toNat := by
  obtain ⟨_, _, _, _, _, l1, l2⟩ := h
  rcases hk with rfl | rfl
  · simpa [Slt.vs] using l1
  · simpa [Slt.vs] using l2
theorem Slt.vs_none {x : Slt} {k : Int} (hk : ¬ (k = 1 ∨ k = 2)) : x.vs k = [] := by
  unfold Slt.vs; rw [if_neg (by omega), if_neg (by omega)]

theorem votes_loop {s : Nat} {x : Slt} {h r : Hp} {J : KF Unit} (hS : SlotP s x h) (k : Int) :
    ∀ (m i n : Nat) (c : Nat) (σ : St), m + i = (3 * x.f + 1).toNat → m < n → c ≤ i → HasH σ (h ++ r) →
      (∀ σ', HasH σ' (h ++ r) → J (.exit 0) (f31e7 ((c + ((x.vs k).drop i).countP Vt.there : Nat) : Int)) σ' = some ()) →
      loopK (f31L9 (callK Try.prog N ann (d + 2)) N) f31a9 n J (f31e3 (some (s, 0)) k c i) σ = some () := by
  have hS' := hS
  obtain ⟨ho, b0, b1, b2, rfl⟩ := hS
  have ho' := ho
  obtain ⟨f0, f3, p0, p3, l0, l1, l2⟩ := ho
  have hw : IntKind.i64.wrap (3 * x.f) = 3 * x.f := wrap_small (n := 3 * x.f) (by omega) (by omega)
  intro m
  induction m with
  | zero =>
    intro i n c σ hm hn hc H kont
    obtain ⟨n, rfl⟩ : ∃ n', n = n' + 1 := ⟨n - 1, by omega⟩
    have hg : σ.get s = _ := H.g1
    have h1 : ((i:Int) ≤ 3 * x.f) = False := eq_false (by omega)
    rw [loopK_succ]
    simp only [go_sem, hg, hw, h1]
    have := kont σ H
    rw [List.drop_eq_nil_of_le] at this
    · exact this
    · by_cases hk : k = 1 ∨ k = 2
      · rw [Slt.vs_len ho' hk]; omega
      · rw [Slt.vs_none hk]; simp
  | succ m ih =>
    intro i n c σ hm hn hc H kont
    obtain ⟨n, rfl⟩ : ∃ n', n = n' + 1 := ⟨n - 1, by omega⟩
    have hg : σ.get s = _ := H.g1
    have h1 : ((i:Int) ≤ 3 * x.f) = True := eq_true (by omega)
    have hwi : IntKind.i64.wrap ((i:Int) + 1) = (i:Int) + 1 := wrap_small (n := (i:Int) + 1) (by omega) (by omega)
    have hwc : IntKind.i64.wrap ((c:Int) + 1) = ((c + 1 : Nat) : Int) := wrap_small (n := ((c + 1 : Nat) : Int)) (by omega) (by omega)
    have hd : ((x.vs k).drop i).countP Vt.there = (if (x.at k i).there = true then 1 else 0) + ((x.vs k).drop (i + 1)).countP Vt.there := by
      have ha : x.at k i = ((x.vs k)[i]?).getD .zero := by unfold Slt.at; rw [if_pos (by omega)]; simp
      by_cases hi : i < (x.vs k).length
      · rw [List.drop_eq_getElem_cons hi, List.countP_cons, ha, List.getElem?_eq_getElem hi, Option.getD_some]; omega
      · rw [List.drop_eq_nil_of_le (by omega), List.drop_eq_nil_of_le (by omega), ha, List.getElem?_eq_none (by omega)]; rfl
    rw [loopK_succ]
    simp only [go_sem, hg, hw, h1]
    refine of_ok hS' H k i ?_
    intro σ1 H1
    cases ht : (x.at k i).there with
    | true =>
      rw [ht, if_pos rfl] at hd
      simp only [go_sem, Vt.cells, ht, hwi, hwc]
      exact ih (i + 1) n (c + 1) _ (by omega) (by omega) (by omega) (by first | exact H1 | exact (H1.new _).dead _) (by rw [show c + 1 + ((x.vs k).drop (i + 1)).countP Vt.there = c + ((x.vs k).drop i).countP Vt.there by omega]; exact kont)
    | false =>
      rw [ht, if_neg (by decide)] at hd
      simp only [go_sem, Vt.cells, ht, hwi, hwc]
      exact ih (i + 1) n c _ (by omega) (by omega) (by omega) (by first | exact H1 | exact (H1.new _).dead _) (by rw [show c + ((x.vs k).drop (i + 1)).countP Vt.there = c + ((x.vs k).drop i).countP Vt.there by omega]; exact kont)

theorem votes_ok {s : Nat} {x : Slt} {h r : Hp} (hS : SlotP s x h) (H : HasH σ (h ++ r)) (hN : 20 ≤ N) (k : Int) (kont : ∀ σ', HasH σ' (h ++ r) → K (.int .i64 (x.cnt k : Nat)) σ' = some ()) :
    callK Try.prog N ann (d + 3) 31 [.ptr (some (s, 0)), .int .i64 k] σ K = some () := by
  have ho := hS.1
  obtain ⟨f0, f3, _⟩ := ho
  rw [callK_succ, f31_eq]
  simp only [go_sem]
  refine votes_loop hS k (3 * x.f + 1).toNat 0 N 0 σ (by omega) (by omega) (by omega) H ?_
  intro σ1 H1
  simp only [go_sem]
  simpa [Slt.cnt] using kont σ1 H1
theorem votes_nil (hN : 20 ≤ N) (k : Int) (kont : K (.int .i64 0) σ = some ()) : callK Try.prog N ann (d + 1) 31 [.ptr none, .int .i64 k] σ K = some () := by
  obtain ⟨n, rfl⟩ : ∃ n, N = n + 1 := ⟨N - 1, by omega⟩
  rw [callK_succ, f31_eq]
  simp only [go_sem, loopK_succ]
  exact kont

end Go.Proofs.Ytmgacgonoodkfaa
