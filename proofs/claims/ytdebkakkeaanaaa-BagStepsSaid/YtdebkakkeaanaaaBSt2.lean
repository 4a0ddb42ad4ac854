/- The document's bag: what is picked; and one step of both. -/
import Derived.Test.YtdebkakkeaanaaaBSt1
namespace Go.Proofs.Ytdebkakkeaanaaa
open Go.AM
set_option maxRecDepth 100000
set_option linter.unusedSimpArgs false
set_option linter.unusedVariables false
variable {N d : Nat} {σ : St} {K : AV → St → Option Unit}

theorem erase_take {α : Type} (left : List α) (p k : Nat) (s : α) (hs : left[k]? = some s) :
    (left.take (k + 1)).eraseIdx p = if k = p then (left.take k).eraseIdx p else (left.take k).eraseIdx p ++ [s] := by
  have hk : k < left.length := by obtain ⟨h, _⟩ := List.getElem?_eq_some_iff.1 hs; exact h
  have e : left.take (k + 1) = left.take k ++ [s] := by rw [List.take_add_one, hs]; rfl
  have hl : (left.take k).length = k := by simp; omega
  rw [e]
  by_cases h : k = p
  · subst h
    rw [if_pos rfl, List.eraseIdx_append_of_length_le (by omega), hl, Nat.sub_self, List.eraseIdx_of_length_le (l := left.take k) (by omega)]
    simp
  · rw [if_neg h]
    by_cases h2 : p < k
    · rw [List.eraseIdx_append_of_lt_length (by omega)]
    · rw [List.eraseIdx_of_length_le (by simp; omega), List.eraseIdx_of_length_le (by omega)]

section
variable {b : Nat} {r : Hp} {J : KF Unit} {L : List Item}

theorem rp_loop {p : Nat} {q : Int} (hpq : q = p) (hL : L.length < 4096) {y0 : Option (Nat × Nat)} {y2 y3 : Nat} {ov : Option (Nat × Nat)} {cv : Option Nat} {hv : Hp}
    (hV : Vec 4 (.slice ov L.length cv 4) L.length (flat L) hv) :
    ∀ (m i n : Nat) (o : Option (Nat × Nat)) (c : Option Nat) (hr : Hp) (σ : St), m + i = L.length → m < n →
      Vec 4 (.slice o ((L.take i).eraseIdx p).length c 4) ((L.take i).eraseIdx p).length (flat ((L.take i).eraseIdx p)) hr → HasH σ (hr ++ (hv ++ r)) →
      (∀ σ' o' c' hr', Vec 4 (.slice o' (L.eraseIdx p).length c' 4) (L.eraseIdx p).length (flat (L.eraseIdx p)) hr' → HasH σ' (hr' ++ (hv ++ r)) →
        J (.exit 0) (f23e14 y0 y2 y3 o' (L.eraseIdx p).length c') σ' = some ()) →
      loopK (f23L19 (callK Try.prog N ann d) N) f23a19 n J (f23e12 y0 q y2 y3 o ((L.take i).eraseIdx p).length c ov L.length cv L.length i) σ = some () := by
  subst hpq
  intro m
  induction m with
  | zero =>
    intro i n o c hr σ hm hn hV2 H k
    obtain ⟨n, rfl⟩ : ∃ n', n = n' + 1 := ⟨n - 1, by omega⟩
    have h1 : ((i:Int) < L.length) = False := eq_false (by omega)
    rw [loopK_succ]
    rw [List.take_of_length_le (by omega)] at hV2 ⊢
    simp only [go_sem, h1]
    exact k σ o c hr hV2 H
  | succ m ih =>
    intro i n o c hr σ hm hn hV2 H k
    obtain ⟨n, rfl⟩ : ∃ n', n = n' + 1 := ⟨n - 1, by omega⟩
    have h0 : ((0:Int) ≤ i) = True := eq_true (by omega)
    have h1 : ((i:Int) < L.length) = True := eq_true (by omega)
    have hti : ((i:Int)).toNat = i := by omega
    have hw1 : IntKind.i64.wrap ((i:Int) + 1) = (i:Int) + 1 := wrap_small (n := (i:Int) + 1) (by omega) (by omega)
    obtain ⟨s, hs⟩ : ∃ s, L[i]? = some s := ⟨_, List.getElem?_eq_getElem (by omega)⟩
    have hE := erase_take L p i s hs
    obtain ⟨-, bv, junk, rfl, rfl, -⟩ := hV.row (by omega)
    have hgv : σ.get bv = _ := H.right.g1
    have hbv : (bv = σ.next) = False := eq_false (by have := H.right.l1; omega)
    obtain ⟨q0, q1, q2, q3⟩ := flat_at hs junk
    rw [loopK_succ]
    have hlt : ((L.take i).eraseIdx p).length < 4096 := by
      have := List.length_eraseIdx_le (L.take i) p
      simp at this; omega
    by_cases hip : i = p
    · have hb : (((i:Int)) != (p:Int)) = false := by simp [hip]
      rw [if_pos hip] at hE
      simp only [go_sem, h1, h0, hgv, hti, hbv, q0, q1, q2, q3, hb, hw1]
      rw [← hE] at hV2 ⊢
      exact ih (i + 1) n o c hr _ (by omega) (by omega) hV2 ((H.new _).dead _) k
    · have hb : (((i:Int)) != (p:Int)) = true := by simp; omega
      rw [if_neg hip] at hE
      obtain ⟨o', c', σ', h', happ, hv', H'⟩ := hV2.app (bytes := 40) (k := 1) (news := s.cells) (((H.new (.cells Item.zero.cells true)).dead (.cells s.cells true)).new' (.cells s.cells true)) (by decide) (by decide) rfl (by omega)
      simp only [Item.cells, Item.zero] at happ
      simp only [go_sem, h1, h0, hgv, hti, hbv, q0, q1, q2, q3, hb, hw1, elems_pos (show 1 ≠ 0 by decide), happ]
      have hl2 : ((L.take (i + 1)).eraseIdx p).length = ((L.take i).eraseIdx p).length + 1 := by rw [hE]; simp
      have := ih (i + 1) n o' c' h' σ' (by omega) (by omega) (by rw [hl2, hE, flat_append]; simpa [flat] using hv') H' k
      rw [hl2] at this
      exact this

theorem rpick_ok {D : Int} {h : Hp} (hB : BagP b L D h) (H : HasH σ (h ++ r)) (hL : L.length < 4096) (hN : 5000 ≤ N) (i : Int)
    (k : ∀ σ' h', BagP b (pickL L i) D h' → HasH σ' (h' ++ r) → K (.tuple [.agg (seeX L i).cells, .int .i64 (seeE L i)]) σ' = some ()) :
    callK Try.prog N ann (d + 2) 23 [.ptr (some (b, 0)), .int .i64 i] σ K = some () := by
  rw [callK_succ, f23_eq]
  simp only [go_sem]
  refine rsee_ok (r := (σ.next, _) :: r) hB (H.new _).down i ?_
  intro σ1 H1
  have hl0 : σ.next < σ1.next := H1.up.l1
  have hn0 : (σ.next = σ1.next) = False := eq_false (by omega)
  have hz : σ1.get σ.next = _ := H1.up.g1
  by_cases hr : inR L i
  · have e : seeE L i = 0 := by simp only [seeE, hr, if_true]
    simp only [pickL, hr, if_true] at k
    obtain ⟨hi0, hi1⟩ := hr
    obtain ⟨v, hs, rfl, hv⟩ := hB
    obtain ⟨o, c, rfl⟩ := hv.sl
    rw [e] at k ⊢
    have hb1 := H1.l1
    have hbn1 : (b = σ1.next) = False := eq_false (by omega)
    have hg : σ1.get b = _ := H1.g1
    have H2 := ((H1.new (.cells Item.zero.cells true)).put (.cells (seeX L i).cells true))
    simp only [Item.cells, go_sem, hn0, hz, e, hg, hbn1]
    refine rp_loop (L := L) (p := i.toNat) (q := i) (r := (σ1.next, .cells (seeX L i).cells true) :: (b, .cells [.slice o L.length c 4, .int .i64 D] true) :: (σ.next, .cells Item.zero.cells true) :: r) (by omega) hL hv L.length 0 N none (some 0) [] _ (by omega) (by omega) (by simpa [flat] using Vec.nil 4) ?_ ?_
    · refine H2.perm ?_
      simp only [List.cons_append, List.nil_append]
      refine List.Perm.trans ?_ List.perm_middle.symm
      refine List.Perm.cons _ ?_
      exact List.perm_middle.symm.trans (List.Perm.refl _)
    · intro σ3 o3 c3 h3 hV3 H3
      have g1 : σ3.get σ1.next = _ := H3.right.right.g1
      have g2 : σ3.get b = _ := H3.right.right.g2
      have g3 : σ3.get σ.next = _ := H3.right.right.g3
      have nd := H3.right.right.nd
      simp only [List.append_eq, List.cons_append, List.nil_append, List.map_cons, List.pairwise_cons, List.mem_cons, forall_eq_or_imp] at nd
      simp only [Item.cells, Item.zero] at g1 g3
      simp only [Item.cells] at k
      simp only [go_sem, g1, g2, g3, nd]
      have H4 := H3.mid.right.up.tail.up
      refine k _ ((b, .cells [.slice o3 (L.eraseIdx i.toNat).length c3 4, .int .i64 D] true) :: h3) ⟨_, _, rfl, hV3⟩ ?_
      exact ((((H4.put _).perm (List.perm_middle.cons _)).put2 _).drop2)
  · have e : seeE L i = 6 := by simp only [seeE, hr, if_false]
    simp only [pickL, hr, if_false] at k
    rw [e] at k ⊢
    simp only [Item.cells] at k
    have H2 := ((H1.up.new (.cells Item.zero.cells true)).put (.cells (seeX L i).cells true))
    have nd := H2.nd
    simp only [List.append_eq, List.cons_append, List.nil_append, List.map_cons, List.pairwise_cons, List.mem_cons, forall_eq_or_imp] at nd
    simp only [Item.cells, go_sem, hn0, hz, e, nd]
    exact k _ _ hB ((H2.put2 _).tail.tail)


/-- A step of the laws. -/
structure Stp where
  what : Int
  i : Int
  x : Item
def Stp.cells (s : Stp) : List AV := [.int .i64 s.what, .int .i64 s.i, .int .i64 s.x.fr, .int .i64 s.x.to, .int .i64 s.x.since, .str s.x.text]
def stepL (L : List Item) (s : Stp) : List Item :=
  if s.what = 0 ∨ s.what = 1 then putL L s.x else if s.what = 2 then pickL L s.i else if s.what = 3 then copyL L s.i else L

theorem putE_lt {L : List Item} {x : Item} (h : L.length < 4096) : putE L x ≠ 5 := by
  unfold putE
  split
  · decide
  · split
    · decide
    · rw [if_neg (by omega)]; decide
theorem putD_lt {L : List Item} {x : Item} (h : L.length < 4096) : putD L x 0 = 0 := by simp only [putD, putE_lt h, if_false]

theorem does_ok {w : Nat} {s : Stp} {h1 h2 : Hp} (hB : BagP b L 0 h1) (hW : BagP w L 0 h2) (H : HasH σ (h1 ++ (h2 ++ r))) (hL : L.length < 4096) (hN : 5000 ≤ N)
    (k : ∀ σ' h1' h2', BagP b (stepL L s) 0 h1' → BagP w (stepL L s) 0 h2' → HasH σ' (h1' ++ (h2' ++ r)) → K (.bool true) σ' = some ()) :
    callK Try.prog N ann (d + 4) 17 [.ptr (some (b, 0)), .ptr (some (w, 0)), .agg s.cells] σ K = some () := by
  obtain ⟨what, idx, x⟩ := s
  rw [callK_succ, Stp.cells, f17_eq]
  have H0 := (H.new (.cells [.int .i64 what, .int .i64 idx, .int .i64 x.fr, .int .i64 x.to, .int .i64 x.since, .str x.text] true))
  have gs := H0.g1
  by_cases w0 : what = 0
  · subst w0
    have hst : stepL L ⟨0, idx, x⟩ = putL L x := by simp only [stepL, true_or, if_true]
    simp only [go_sem]
    refine put_ok (x := x) hB H0.down (by decide) (by omega) ?_
    intro σ1 h1' hB1 H1
    rw [putD_lt hL] at hB1
    have gs1 := H1.up.g1
    simp only [go_sem, gs1]
    refine ref_ok (x := x) H1 ?_
    intro σ2 H2
    simp only [go_sem, Item.cells]
    refine rput_ok (x := x) hW H2.up.tail.mid (by omega) ?_
    intro σ3 h2' hB3 H3
    rw [putD_lt hL] at hB3
    simp only [go_sem]
    exact k _ _ _ (hst ▸ hB1) (hst ▸ hB3) H3.mid
  by_cases w1 : what = 1
  · subst w1
    have hst : stepL L ⟨1, idx, x⟩ = putL L x := by simp only [stepL, or_true, if_true]
    simp only [go_sem]
    refine put_ok (x := x) hB H0.down (by decide) (by omega) ?_
    intro σ1 h1' hB1 H1
    rw [putD_lt hL] at hB1
    have gs1 := H1.up.g1
    simp only [go_sem, gs1]
    refine ref_ok (x := x) H1 ?_
    intro σ2 H2
    simp only [go_sem, Item.cells]
    refine rput_ok (x := x) hW H2.up.tail.mid (by omega) ?_
    intro σ3 h2' hB3 H3
    rw [putD_lt hL] at hB3
    simp only [go_sem]
    exact k _ _ _ (hst ▸ hB1) (hst ▸ hB3) H3.mid
  have b0 : (what == 0) = false := by simpa using w0
  have b1 : (what == 1) = false := by simpa using w1
  by_cases w2 : what = 2
  · subst w2
    have hst : stepL L ⟨2, idx, x⟩ = pickL L idx := by simp only [stepL, w0, w1, or_self, if_false, if_true]
    simp only [go_sem]
    refine pick_ok hB H0.down (by omega) idx ?_
    intro σ1 h1' hB1 H1
    have H2 := ((H1.new (.cells Item.zero.cells true)).put (.cells (seeX L idx).cells true))
    have gs1 := H2.tail.up.g1
    simp only [Item.cells, Item.zero] at gs1
    simp only [go_sem, Item.cells, gs1]
    refine rpick_ok hW (HasH.mid (h1 := (_, _) :: h1') H2.dropMid) hL hN idx ?_
    intro σ3 h2' hB3 H3
    have H4 := ((H3.new (.cells Item.zero.cells true)).put (.cells (seeX L idx).cells true))
    have gx := H4.tail.right.g1
    simp only [Item.cells, Item.zero] at gx
    simp only [go_sem, Item.cells, gx]
    refine ref_ok (x := seeX L idx) H4 ?_
    intro σ5 H5
    have gy := H5.g1
    have gy0 := H4.g1
    simp only [Item.cells, Item.zero] at gy gy0
    simp only [go_sem, Item.cells, gy, gy0, decide_true]
    exact k _ _ _ (hst ▸ hB1) (hst ▸ hB3) (H5.tail.mid (h1 := h2') (h2 := (_, _) :: h1')).tail
  have b2 : (what == 2) = false := by simpa using w2
  by_cases w3 : what = 3
  · subst w3
    have hst : stepL L ⟨3, idx, x⟩ = copyL L idx := by simp only [stepL, w0, w1, w2, or_self, if_false, if_true]
    simp only [go_sem]
    refine rsee_ok hW (H0.mid (h1 := (_, _) :: h1)) idx ?_
    intro σ1 H1
    have H2 := ((H1.new (.cells Item.zero.cells true)).put (.cells (seeX L idx).cells true))
    have gy := H2.g1
    simp only [Item.cells, Item.zero] at gy
    by_cases hr : inR L idx
    · have e : seeE L idx = 0 := by simp only [seeE, hr, if_true]
      have eE : copyE L idx = putE L (seeX L idx) := by simp only [copyE, hr, if_true]
      have eL : copyL L idx = putL L (seeX L idx) := by simp only [copyL, hr, if_true]
      have eD : copyD L idx 0 = 0 := by simp only [copyD, hr, if_true, putD_lt hL]
      simp only [go_sem, Item.cells, e, gy]
      refine rput_ok (x := seeX L idx) hW H2.tail hL ?_
      intro σ3 h2' hB3 H3
      rw [putD_lt hL] at hB3
      have gs3 := H3.up.g1
      simp only [go_sem, gs3]
      refine copy_ok hB (H3.mid (h1 := h2') (h2 := (_, _) :: h1)).down (by decide) (by omega) idx ?_
      rw [eE, eL, eD]
      intro σ4 h1' hB4 H4
      simp only [go_sem]
      exact k _ _ _ (hst ▸ eL ▸ hB4) (hst ▸ eL ▸ hB3) H4.up.tail
    · have e : seeE L idx = 6 := by simp only [seeE, hr, if_false]
      have eE : copyE L idx = 6 := by simp only [copyE, hr, if_false]
      have eL : copyL L idx = L := by simp only [copyL, hr, if_false]
      have eD : copyD L idx 0 = 0 := by simp only [copyD, hr, if_false]
      have gs3 := H2.tail.up.g1
      simp only [Item.cells, Item.zero] at gs3
      simp only [go_sem, Item.cells, e, gs3]
      refine copy_ok hB (H2.tail.mid (h1 := h2) (h2 := (_, _) :: h1)).down (by decide) (by omega) idx ?_
      rw [eE, eL, eD]
      intro σ4 h1' hB4 H4
      simp only [go_sem]
      exact k _ _ _ (hst ▸ eL.symm ▸ hB4) (hst ▸ eL.symm ▸ hW) H4.up.tail
  have b3 : (what == 3) = false := by simpa using w3
  have hst : stepL L ⟨what, idx, x⟩ = L := by simp only [stepL, w0, w1, w2, w3, or_self, if_false]
  simp only [go_sem, b0, b1, b2, b3]
  exact k _ _ _ (hst.symm ▸ hB) (hst.symm ▸ hW) H0.tail

end
end Go.Proofs.Ytdebkakkeaanaaa
