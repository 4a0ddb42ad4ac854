/- The document's bag, as its own text says it. -/
import Derived.Test.YtdebkakkeaanaaaBS4
import Derived.Test.YtdebkakkeaanaaaBS3b
import Derived.Test.YtdebkakkeaanaaaBagRef
import Derived.Test.YtdebkakkeaanaaaA30
namespace Go.Proofs.Ytdebkakkeaanaaa
open Go.AM
set_option maxRecDepth 100000
set_option linter.unusedSimpArgs false
set_option linter.unusedVariables false
variable {N d : Nat} {σ : St} {K : AV → St → Option Unit}

theorem ref_ok {x : Item} {r : Hp} (H : HasH σ r) (k : ∀ σ', HasH σ' r → K (.agg x.cells) σ' = some ()) : callK Try.prog N ann (d + 1) 19 [.agg x.cells] σ K = some () := by
  have H2 := (H.new (.cells x.cells true)).new (.cells Item.zero.cells true)
  have nd := H2.nd
  simp only [List.append_eq, List.cons_append, List.nil_append, List.map_cons, List.pairwise_cons, List.mem_cons, forall_eq_or_imp, St.next_new] at nd
  rw [callK_succ, Item.cells, f19_eq]
  simp only [go_sem, nd]
  exact k _ ((H2.put _).tail.tail)

theorem rsee_ok {b : Nat} {L : List Item} {D : Int} {h r : Hp} (hB : BagP b L D h) (H : HasH σ (h ++ r)) (i : Int)
    (k : ∀ σ', HasH σ' (h ++ r) → K (.tuple [.agg (seeX L i).cells, .int .i64 (seeE L i)]) σ' = some ()) :
    callK Try.prog N ann (d + 1) 18 [.ptr (some (b, 0)), .int .i64 i] σ K = some () := by
  obtain ⟨v, hs, rfl, hv⟩ := hB
  obtain ⟨o, c, rfl⟩ := hv.sl
  have hb := H.l1
  have hbn : (b = σ.next) = False := eq_false (by omega)
  have hg : σ.get b = _ := H.g1
  rw [callK_succ, f18_eq]
  by_cases h0 : i < 0
  · have e : ¬ inR L i := by unfold inR; omega
    simp only [seeE, seeX, e, if_false, Item.zero, Item.cells] at k
    simp only [go_sem, h0]
    exact k _ ((H.new _).dead _)
  by_cases h1 : (L.length : Int) ≤ i
  · have e : ¬ inR L i := by unfold inR; omega
    simp only [seeE, seeX, e, if_false, Item.zero, Item.cells] at k
    simp only [go_sem, h0, h1, hg, hbn]
    exact k _ ((H.new _).dead _)
  have e : inR L i := by unfold inR; omega
  have h0' : ((0:Int) ≤ i) = True := eq_true e.1
  have h1' : (i < L.length) = True := eq_true e.2
  obtain ⟨x, hx⟩ : ∃ x, L[i.toNat]? = some x := ⟨_, List.getElem?_eq_getElem (by omega)⟩
  obtain ⟨-, bs, junk, rfl, rfl, -⟩ := hv.row (by omega)
  obtain ⟨q0, q1, q2, q3⟩ := flat_at hx junk
  have hbs := H.l2
  have hbsn : (bs = σ.next) = False := eq_false (by omega)
  have hgs : σ.get bs = _ := H.g2
  simp only [seeE, seeX, e, if_true, hx, Option.getD_some, Item.cells] at k
  simp only [go_sem, h0, h1, h0', hg, h1', hgs, hbsn, hbn, q0, q1, q2, q3]
  exact k _ ((H.new _).dead _)

theorem endB_iff (n : Int) : endB n = false ↔ (n < 0 ∨ 63 < n) := by unfold endB; simp; omega

theorem rput_ok {b : Nat} {L : List Item} {D : Int} {h r : Hp} (hB : BagP b L D h) (H : HasH σ (h ++ r)) (hL : L.length < 4096) (x : Item)
    (k : ∀ σ' h', BagP b (putL L x) (putD L x D) h' → HasH σ' (h' ++ r) → K (.int .i64 (putE L x)) σ' = some ()) :
    callK Try.prog N ann (d + 1) 22 [.ptr (some (b, 0)), .agg x.cells] σ K = some () := by
  obtain ⟨v, hs, rfl, hv⟩ := hB
  obtain ⟨o, c, rfl⟩ := hv.sl
  have hb := H.l1
  have hbn : (b = σ.next) = False := eq_false (by omega)
  have hg : σ.get b = _ := H.g1
  rw [callK_succ, Item.cells, f22_eq]
  have back : ∀ e : Int, e ≠ 0 → e ≠ 5 → putE L x = e → K (.int .i64 e) (σ.new (.cells [.int .i64 x.fr, .int .i64 x.to, .int .i64 x.since, .str x.text] true)) = some () := by
    intro e e0 e5 he
    have := k (σ.new (.cells [.int .i64 x.fr, .int .i64 x.to, .int .i64 x.since, .str x.text] true)) ((b, .cells [.slice o L.length c 4, .int .i64 D] true) :: hs)
      ⟨.slice o L.length c 4, hs, by simp only [putD, he, e5, if_false], by simpa only [putL, he, e0, if_false] using hv⟩ (H.new' _)
    rwa [he] at this
  by_cases n0 : endB x.fr = false ∨ endB x.to = false ∨ x.since < 0
  · have e : putE L x = 1 := by simp only [putE, n0, if_true]
    have b1 := back 1 (by decide) (by decide) e
    rw [endB_iff, endB_iff] at n0
    by_cases c1 : x.fr < 0
    · simp only [go_sem, c1]; exact b1
    by_cases c2 : 63 < x.fr
    · simp only [go_sem, c1, c2]; exact b1
    by_cases c3 : x.to < 0
    · simp only [go_sem, c1, c2, c3]; exact b1
    by_cases c4 : 63 < x.to
    · simp only [go_sem, c1, c2, c3, c4]; exact b1
    have c5 : x.since < 0 := by omega
    simp only [go_sem, c1, c2, c3, c4, c5]; exact b1
  have n1 := n0
  rw [endB_iff, endB_iff] at n1
  have c1 : ¬ x.fr < 0 := by omega
  have c2 : ¬ 63 < x.fr := by omega
  have c3 : ¬ x.to < 0 := by omega
  have c4 : ¬ 63 < x.to := by omega
  have c5 : ¬ x.since < 0 := by omega
  by_cases c6 : x.text.size > 1048576
  · have e : putE L x = 2 := by simp only [putE, n0, c6, if_false, if_true]
    have c6' : ((1048576 : Int) < x.text.size) = True := eq_true (by omega)
    simp only [go_sem, c1, c2, c3, c4, c5, c6']
    exact back 2 (by decide) (by decide) e
  have c6' : ((1048576 : Int) < x.text.size) = False := eq_false (by omega)
  have e : putE L x = 0 := by simp only [putE, n0, c6, show ¬ L.length = 4096 by omega, if_false]
  have c7 : ((4096 : Int) ≤ L.length) = False := eq_false (by omega)
  have hbn2 : (b = σ.next + 1) = False := eq_false (by omega)
  obtain ⟨o', c', σ', h', happ, hv', H'⟩ := hv.app (bytes := 40) (k := 1) (news := x.cells) (((H.new' (.cells x.cells true)).new' (.cells x.cells true)).down) (by decide) (by decide) rfl (by omega)
  rw [Item.cells] at happ
  have hg' := H'.up.g1
  simp only [go_sem, c1, c2, c3, c4, c5, c6', c7, hbn, hbn2, hg, elems_pos (show 1 ≠ 0 by decide), happ, hg']
  simp only [e] at k
  exact k _ ((b, .cells [.slice o' (L.length + 1) c' 4, .int .i64 D] true) :: h')
    ⟨.slice o' (L.length + 1) c' 4, h', by simp only [putD, e, show ¬ (0:Int) = 5 by decide, if_false], by simpa [putL, e, flat] using hv'⟩ (H'.up.put _)

end Go.Proofs.Ytdebkakkeaanaaa
