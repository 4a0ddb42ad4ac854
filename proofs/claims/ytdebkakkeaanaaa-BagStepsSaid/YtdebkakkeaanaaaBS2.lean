/- What the bag's functions do: looking, picking. -/
import Derived.Test.YtdebkakkeaanaaaBS1
namespace Go.Proofs.Ytdebkakkeaanaaa
open Go.AM
set_option maxRecDepth 100000
set_option linter.unusedSimpArgs false
variable {N d : Nat} {σ : St} {K : AV → St → Option Unit}

theorem len_eq {b n : Nat} {o : Option (Nat × Nat)} {c : Option Nat} {x : AV} (hg : σ.get b = some (.cells [.slice o n c 4, x] true)) :
    callK Try.prog N ann (d + 1) 13 [.ptr (some (b, 0))] σ K = K (.int .i64 n) σ := by
  rw [callK_succ, f13_eq]
  simp only [go_sem, hg]

theorem dropped_eq {b : Nat} {x : AV} {D : Int} (hg : σ.get b = some (.cells [x, .int .i64 D] true)) :
    callK Try.prog N ann (d + 1) 15 [.ptr (some (b, 0))] σ K = K (.int .i64 D) σ := by
  rw [callK_succ, f15_eq]
  simp only [go_sem, hg]

def Item.zero : Item := ⟨0, 0, 0, ByteArray.mk #[]⟩
def inR (L : List Item) (i : Int) : Prop := 0 ≤ i ∧ i < L.length
instance {L : List Item} {i : Int} : Decidable (inR L i) := by unfold inR; infer_instance
def seeE (L : List Item) (i : Int) : Int := if inR L i then 0 else 6
def seeX (L : List Item) (i : Int) : Item := if inR L i then (L[i.toNat]?).getD .zero else .zero

theorem flat_length (L : List Item) : (flat L).length = 4 * L.length := by
  induction L with
  | nil => rfl
  | cons x L ih => simp only [flat, List.flatMap_cons, List.length_append, List.length_cons] at ih ⊢; rw [ih]; simp [Item.cells]; omega

theorem flat_get (L : List Item) (i : Nat) (j : Nat) (hj : j < 4) (x : Item) (hx : L[i]? = some x) : (flat L)[i * 4 + j]? = x.cells[j]? := by
  induction L generalizing i with
  | nil => simp at hx
  | cons y L ih =>
    have hy : y.cells.length = 4 := rfl
    cases i with
    | zero =>
      simp at hx; subst hx
      simp only [flat, List.flatMap_cons, Nat.zero_mul, Nat.zero_add]
      rw [List.getElem?_append_left (by omega)]
    | succ i =>
      simp only [flat, List.flatMap_cons]
      rw [List.getElem?_append_right (by omega), hy, show (i + 1) * 4 + j - 4 = i * 4 + j by omega]
      exact ih i (by simpa using hx)

theorem flat_at {L : List Item} {i : Nat} {x : Item} (hx : L[i]? = some x) (junk : List AV) :
    (flat L ++ junk)[i * 4]? = some (.int .i64 x.fr) ∧ (flat L ++ junk)[i * 4 + 1]? = some (.int .i64 x.to) ∧ (flat L ++ junk)[i * 4 + 2]? = some (.int .i64 x.since) ∧ (flat L ++ junk)[i * 4 + 3]? = some (.str x.text) := by
  have hi : i < L.length := by obtain ⟨h, _⟩ := List.getElem?_eq_some_iff.1 hx; exact h
  have hl := flat_length L
  refine ⟨?_, ?_, ?_, ?_⟩
  · rw [List.getElem?_append_left (by omega)]; exact flat_get L i 0 (by omega) x hx
  · rw [List.getElem?_append_left (by omega)]; exact flat_get L i 1 (by omega) x hx
  · rw [List.getElem?_append_left (by omega)]; exact flat_get L i 2 (by omega) x hx
  · rw [List.getElem?_append_left (by omega)]; exact flat_get L i 3 (by omega) x hx

theorem see_ok {b : Nat} {L : List Item} {D : Int} {h r : Hp} (hB : BagP b L D h) (H : HasH σ (h ++ r)) (i : Int)
    (k : ∀ σ', HasH σ' (h ++ r) → K (.tuple [.agg (seeX L i).cells, .int .i64 (seeE L i)]) σ' = some ()) :
    callK Try.prog N ann (d + 2) 12 [.ptr (some (b, 0)), .int .i64 i] σ K = some () := by
  obtain ⟨v, hs, rfl, hv⟩ := hB
  obtain ⟨o, c, rfl⟩ := hv.sl
  have hb := H.l1
  have hbn : (b = σ.next) = False := eq_false (by omega)
  have hg : σ.get b = _ := H.g1
  have hg2 : ∀ x, (σ.new x).get b = some (.cells [.slice o L.length c 4, .int .i64 D] true) := by intro x; simp only [St.get_new, hbn, if_false, hg]
  rw [callK_succ, f12_eq]
  by_cases h0 : i < 0
  · have e : ¬ inR L i := by unfold inR; omega
    simp only [seeE, seeX, e, if_false, Item.zero, Item.cells] at k
    simp only [go_sem, h0]
    exact k _ ((H.new _).dead _)
  by_cases h1 : (L.length : Int) ≤ i
  · have e : ¬ inR L i := by unfold inR; omega
    simp only [seeE, seeX, e, if_false, Item.zero, Item.cells] at k
    simp only [go_sem, h0, h1, len_eq (hg2 _), ge_iff_le]
    exact k _ ((H.new _).dead _)
  have e : inR L i := by unfold inR; omega
  have h0' : ((0:Int) ≤ i) = True := eq_true e.1
  have h1' : (i < L.length) = True := eq_true e.2
  obtain ⟨x, hx⟩ : ∃ x, L[i.toNat]? = some x := ⟨_, List.getElem?_eq_getElem (by omega)⟩
  obtain ⟨-, bs, junk, rfl, rfl, -⟩ := hv.row (by omega)
  obtain ⟨q0, q1, q2, q3⟩ := flat_at hx junk
  have hbs := H.l2
  have hbsn : (bs = σ.next) = False := eq_false (by omega)
  have hgs : σ.get bs = _ := H.g2
  simp only [seeE, seeX, e, if_true, hx, Option.getD_some, Item.cells] at k
  simp only [go_sem, h0, h1, len_eq (hg2 _), h0', hg2, h1', hgs, hbsn, q0, q1, q2, q3]
  exact k _ ((H.new _).dead _)

def pickL (L : List Item) (i : Int) : List Item := if inR L i then L.eraseIdx i.toNat else L

theorem flat_append (A B : List Item) : flat (A ++ B) = flat A ++ flat B := by simp [flat]
theorem flat_cons (x : Item) (B : List Item) : flat (x :: B) = x.cells ++ flat B := by simp [flat]

/-- What is behind the picked one moves down. -/
theorem pick_copy {bs n : Nat} {c : Option Nat} {A B : List Item} {x : Item} {junk : List AV} {i : Int} (hg : σ.get bs = some (.cells (flat A ++ (x.cells ++ (flat B ++ junk))) true)) (hn : n = A.length + 1 + B.length) (hi : i = A.length) (hc : ∀ k, c = some k → n ≤ k) :
    ∃ s1 s2 σ', Sl.sub 4 ⟨some (bs, 0), n, c⟩ (some i) none none = some s1 ∧ Sl.sub 4 ⟨some (bs, 0), n, c⟩ (some (i + 1)) none none = some s2 ∧ σ.copy 4 ⟨s1.o, s1.len, s1.cap⟩ ⟨s2.o, s2.len, s2.cap⟩ = some (B.length, σ') ∧
      ∃ q, q.length = 4 + junk.length ∧ ∀ r, HasH σ ((bs, .cells (flat A ++ (x.cells ++ (flat B ++ junk))) true) :: r) → HasH σ' ((bs, .cells (flat (A ++ B) ++ q) true) :: r) := by
  have hA := flat_length A
  have hB := flat_length B
  have hx : x.cells.length = 4 := rfl
  have e1 : i.toNat = A.length := by omega
  have e2 : (i + 1).toNat = A.length + 1 := by omega
  rw [sub_from (by omega) (by omega), sub_from (by omega) (by omega), e1, e2]
  by_cases hb : B = []
  · subst hb
    simp only [List.length_nil, Nat.add_zero] at hn
    refine ⟨_, _, σ, rfl, rfl, ?_, x.cells ++ junk, by simp [hx], fun r H => by simpa [flat] using H⟩
    have : n - (A.length + 1) = 0 := by omega
    simp [St.copy, this]
  · have hbl : 0 < B.length := List.length_pos_iff.2 hb
    have m1 : min (n - (A.length + 1)) (n - A.length) = B.length := by omega
    have g1 : ¬ (c.isSome = true ∧ c.getD n = A.length) := by
      rintro ⟨h1, h2⟩
      cases c with
      | none => simp at h1
      | some k => have := hc k rfl; simp at h2; omega
    have g2 : ¬ (c.isSome = true ∧ c.getD n = A.length + 1) := by
      rintro ⟨h1, h2⟩
      cases c with
      | none => simp at h1
      | some k => have := hc k rfl; simp at h2; omega
    refine ⟨_, _, σ.put bs (.cells (flat (A ++ B) ++ ((x.cells ++ (flat B ++ junk)).drop (flat B).length)) true), rfl, rfl, ?_, _, ?_, fun r H => H.put _⟩
    · simp only [St.copy, m1, if_neg (show ¬ B.length = 0 by omega)]
      rw [elems_pos (by omega)]
      simp only [Option.map_some, if_neg g1, if_neg g2, Option.bind_some, if_pos (show B.length ≤ n - (A.length + 1) by omega), Nat.zero_add]
      rw [St.lds_of _ hg _ _ (by simp only [List.length_append]; omega)]
      have hd : List.take (B.length * 4) (List.drop ((A.length + 1) * 4) (flat A ++ (x.cells ++ (flat B ++ junk)))) = flat B := by
        rw [show (A.length + 1) * 4 = (flat A ++ x.cells).length by simp only [List.length_append]; omega, ← List.append_assoc, List.drop_left, show B.length * 4 = (flat B).length by omega, List.take_left]
      rw [hd]
      simp only [Option.bind_some]
      rw [St.st_of _ hg _ _ (by simp only [List.length_append]; omega), show A.length * 4 = (flat A).length by omega, splice_at, flat_append, List.append_assoc]
      rfl
    · simp only [List.length_drop, List.length_append]; omega

theorem pick_ok {b : Nat} {L : List Item} {D : Int} {h r : Hp} (hB : BagP b L D h) (H : HasH σ (h ++ r)) (hL : L.length ≤ 4096) (i : Int)
    (k : ∀ σ' h', BagP b (pickL L i) D h' → HasH σ' (h' ++ r) → K (.tuple [.agg (seeX L i).cells, .int .i64 (seeE L i)]) σ' = some ()) :
    callK Try.prog N ann (d + 3) 11 [.ptr (some (b, 0)), .int .i64 i] σ K = some () := by
  rw [callK_succ, f11_eq]
  simp only [go_sem]
  refine see_ok (r := (σ.next, _) :: r) hB (H.new _).down i ?_
  intro σ1 H1
  have hl0 : σ.next < σ1.next := H1.up.l1
  have hn0 : (σ.next = σ1.next) = False := eq_false (by omega)
  have hz : σ1.get σ.next = _ := H1.up.g1
  by_cases hr : inR L i
  · have e : seeE L i = 0 := by simp only [seeE, hr, if_true]
    simp only [pickL, hr, if_true] at k
    obtain ⟨hi0, hi1⟩ := hr
    obtain ⟨v, hs, rfl, hv⟩ := hB
    obtain ⟨o, c, rfl⟩ := hv.sl
    obtain ⟨-, bs, junk, rfl, rfl, hc⟩ := hv.row (by omega)
    obtain ⟨A, x, B, rfl, hA⟩ : ∃ A x B, L = A ++ x :: B ∧ A.length = i.toNat := ⟨L.take i.toNat, L[i.toNat]'(by omega), L.drop (i.toNat + 1), by simp, by simp; omega⟩
    have hxx : seeX (A ++ x :: B) i = x := by
      have : inR (A ++ x :: B) i := ⟨hi0, hi1⟩
      simp [seeX, this, ← hA]
    have her : (A ++ x :: B).eraseIdx i.toNat = A ++ B := by rw [← hA]; simp [List.eraseIdx_append_of_length_le]
    rw [hxx, e] at k ⊢
    rw [her] at k
    simp only [List.length_append, List.length_cons] at *
    have hb1 := H1.l1
    have hbn1 : (b = σ1.next) = False := eq_false (by omega)
    have hg : σ1.get b = _ := H1.g1
    have hcc : ∀ k, c = some k → A.length + (B.length + 1) ≤ k := by
      intro k' hk'
      rcases hc with hc | ⟨k2, hc, hk2⟩
      · rw [hc] at hk'; cases hk'
      · rw [hc] at hk'; obtain rfl : k2 = k' := by injection hk'
        have := flat_length (A ++ x :: B)
        simp only [List.length_append, List.length_cons] at this hk2
        omega
    have hi : i = A.length := by omega
    have hw : IntKind.i64.wrap (i + 1) = i + 1 := wrap_small (n := i + 1) (by omega) (by omega)
    have hw2 : IntKind.i64.wrap (i + B.length) = i + B.length := wrap_small (n := i + B.length) (by omega) (by omega)
    rw [flat_append, flat_cons, List.append_assoc, List.append_assoc] at H1
    have H2 := ((H1.new (.cells Item.zero.cells true)).put (.cells x.cells true))
    obtain ⟨s1, s2, σ3, hs1, hs2, hcp, q, hq, hH⟩ := pick_copy (n := A.length + (B.length + 1)) (c := c) (i := i) H2.g3 (by omega) hi hcc
    have H3 := hH _ (H2.perm ((List.Perm.swap _ _ _).cons _ |>.trans (List.Perm.swap _ _ _)))
    have g1 : σ3.get bs = _ := H3.g1
    have g2 : σ3.get σ1.next = _ := H3.g2
    have g3 : σ3.get b = _ := H3.g3
    have r1 : ((0:Int) ≤ i + B.length) = True := eq_true (by omega)
    have r2 : (i + B.length < ((A.length + (B.length + 1) : Nat) : Int)) = True := eq_true (by omega)
    have r3 : (i + (B.length : Int)).toNat = A.length + B.length := by omega
    simp only [Item.cells, Item.zero] at hcp
    have hfl := flat_length (A ++ B)
    rw [List.length_append] at hfl
    have r4 : ((A.length + B.length) * 4 + 4 ≤ (flat (A ++ B) ++ q).length) = True := eq_true (by rw [List.length_append]; omega)
    have r5 : ∀ vs, St.splice (flat (A ++ B) ++ q) ((A.length + B.length) * 4) vs = flat (A ++ B) ++ (vs ++ q.drop vs.length) := by
      intro vs; rw [show (A.length + B.length) * 4 = (flat (A ++ B)).length by omega, splice_at]
    have r6 : Sl.sub 4 ⟨some (bs, 0), A.length + (B.length + 1), c⟩ none (some (i + B.length)) none = some ⟨some (bs, 0), A.length + B.length, c⟩ := by
      rw [sub_to (by omega) ?_, r3]
      cases c with
      | none => simp; omega
      | some m => have := hcc m rfl; simp; omega
    have nd := H3.nd
    simp only [List.append_eq, List.cons_append, List.nil_append, List.map_cons, List.pairwise_cons, List.mem_cons, forall_eq_or_imp] at nd
    have g4 : σ3.get σ.next = _ := H3.g4
    simp only [Item.cells, go_sem, hn0, hz, e, hg, hbn1, hs1, hs2, hw, hcp, hw2, g3, r1, r2, r3, g1, r4, r5, r6, nd, g2, g4]
    refine k _ ((b, .cells [AV.slice (some (bs, 0)) (A.length + B.length) c 4, .int .i64 D] true) :: [(bs, .cells (flat (A ++ B) ++ (Item.zero.cells ++ q.drop 4)) true)]) ⟨_, _, rfl, ?_⟩ ?_
    · rw [List.length_append]
      refine ⟨by omega, .inr ⟨bs, c, _, rfl, rfl, ?_⟩⟩
      rcases hc with hc | ⟨k2, hc, hk2⟩
      · exact .inl hc
      · refine .inr ⟨k2, hc, ?_⟩
        have h1 := flat_length (A ++ x :: B)
        have h2 : Item.zero.cells.length = 4 := rfl
        simp only [List.length_append, List.length_cons, List.length_drop] at h1 hk2 ⊢
        omega
    · exact ((((H3.put _).put3 _).put4 _).drop2.drop3.rot)
  · have e : seeE L i = 6 := by simp only [seeE, hr, if_false]
    simp only [pickL, hr, if_false] at k
    rw [e] at k ⊢
    simp only [Item.cells] at k
    simp only [Item.cells, go_sem, hn0, hz, e]
    exact k _ _ hB (((H1.up.new _).put _).put2 _).tail.tail

end Go.Proofs.Ytdebkakkeaanaaa
