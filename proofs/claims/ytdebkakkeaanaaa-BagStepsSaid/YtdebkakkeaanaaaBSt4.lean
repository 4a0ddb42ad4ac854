/- Every bag, step by step: the law. -/
import Derived.Test.YtdebkakkeaanaaaBSt3
namespace Go.Proofs.Ytdebkakkeaanaaa
open Go.AM
set_option maxRecDepth 100000
set_option linter.unusedSimpArgs false
set_option linter.unusedVariables false
variable {N d : Nat} {σ : St} {K : AV → St → Option Unit}

theorem stepL_len (L : List Item) (s : Stp) : (stepL L s).length ≤ L.length + 1 := by
  have hp : ∀ x, (putL L x).length ≤ L.length + 1 := by intro x; unfold putL; split <;> simp
  unfold stepL
  split
  · exact hp _
  · split
    · unfold pickL; split
      · have := List.length_eraseIdx_le L s.i.toNat; omega
      · omega
    · split
      · unfold copyL; split
        · exact hp _
        · omega
      · omega

section
variable {b w : Nat} {r hl : Hp} {J : KF Unit} {ss : List Stp} {ol : Option (Nat × Nat)} {cl : Option Nat} {mo : Int}

theorem s_loop1 (hss : ss.length ≤ 300) (hN : 5000 ≤ N) (hA : Arg 6 (.slice ol ss.length cl 6) ss.length (ss.flatMap Stp.cells) hl) :
    ∀ (m i n : Nat) (L : List Item) (h1 h2 : Hp) (σ : St), m + i = ss.length → m < n → L.length ≤ i → BagP b L 0 h1 → BagP w L 0 h2 → HasH σ (h1 ++ (h2 ++ (hl ++ r))) →
      (∀ σ', HasH σ' r → J (.exit 0) f6e15 σ' = some ()) →
      loopK (f6L19 (callK Try.prog N ann (d + 4)) N) f6a19 n J (f6e13 mo (some (b, 0)) w ol ss.length cl ss.length i) σ = some () := by
  intro m
  induction m with
  | zero =>
    intro i n L h1 h2 σ hm hn hle hB hW H k
    obtain ⟨n, rfl⟩ : ∃ n', n = n' + 1 := ⟨n - 1, by omega⟩
    have h1 : ((i:Int) < ss.length) = False := eq_false (by omega)
    rw [loopK_succ]
    simp only [go_sem, h1]
    exact k σ H.right.right.right
  | succ m ih =>
    intro i n L h1 h2 σ hm hn hle hB hW H k
    obtain ⟨n, rfl⟩ : ∃ n', n = n' + 1 := ⟨n - 1, by omega⟩
    have h0 : ((0:Int) ≤ i) = True := eq_true (by omega)
    have c1 : ((i:Int) < ss.length) = True := eq_true (by omega)
    have hti : ((i:Int)).toNat = i := by omega
    have hw1 : IntKind.i64.wrap ((i:Int) + 1) = (i:Int) + 1 := wrap_small (n := (i:Int) + 1) (by omega) (by omega)
    obtain ⟨s, hs⟩ : ∃ s, ss[i]? = some s := ⟨_, List.getElem?_eq_getElem (by omega)⟩
    obtain ⟨ba, rfl, rfl⟩ := hA.row (by omega)
    have hga : σ.get ba = some (.cells (ss.flatMap Stp.cells) false) := H.right.right.g1
    have hba : (ba = σ.next) = False := eq_false (by have := H.right.right.l1; omega)
    have hz : ∀ a : Stp, a.cells.length = 6 := fun _ => rfl
    have q : ∀ j, j < 6 → (ss.flatMap Stp.cells)[i * 6 + j]? = s.cells[j]? := fun j hj => by simpa using flatMap_get hz hj hs []
    have q0 : (ss.flatMap Stp.cells)[i * 6]? = some (.int .i64 s.what) := q 0 (by omega)
    have q1 : (ss.flatMap Stp.cells)[i * 6 + 1]? = some (.int .i64 s.i) := q 1 (by omega)
    have q2 : (ss.flatMap Stp.cells)[i * 6 + 2]? = some (.int .i64 s.x.fr) := q 2 (by omega)
    have q3 : (ss.flatMap Stp.cells)[i * 6 + 3]? = some (.int .i64 s.x.to) := q 3 (by omega)
    have q4 : (ss.flatMap Stp.cells)[i * 6 + 4]? = some (.int .i64 s.x.since) := q 4 (by omega)
    have q5 : (ss.flatMap Stp.cells)[i * 6 + 5]? = some (.str s.x.text) := q 5 (by omega)
    have H2 := ((H.new (.cells [.int .i64 0, .int .i64 0, .int .i64 0, .int .i64 0, .int .i64 0, .str (ByteArray.mk #[])] true)).put (.cells s.cells true))
    rw [loopK_succ]
    simp only [go_sem, c1, h0, hga, hti, q0, q1, q2, q3, q4, q5, hba]
    refine does_ok (s := s) (r := (σ.next, .cells s.cells true) :: ([(ba, Blk.cells (ss.flatMap Stp.cells) false)] ++ r)) hB hW ((HasH.mid3 (h1 := [(_, _)]) H2).mid3) (by omega) hN ?_
    intro σ1 h1' h2' hB1 hW1 H3
    have hlen := stepL_len L s
    generalize stepL L s = L' at hB1 hW1 hlen
    have gs := (H3.right.right).g1
    simp only [Stp.cells] at gs
    simp only [go_sem, gs]
    refine see_ok hB1 H3 s.i ?_
    intro σ2 H4
    have H5 := ((H4.new (.cells Item.zero.cells true)).put (.cells (seeX L' s.i).cells true))
    have gs2 := (H5.tail.right.right).g1
    simp only [Stp.cells, Item.cells, Item.zero] at gs2
    simp only [go_sem, Item.cells, gs2]
    refine rsee_ok hW1 (HasH.mid (h1 := (_, _) :: h1') H5) s.i ?_
    intro σ3 H6
    have H7 := ((H6.new (.cells Item.zero.cells true)).put (.cells (seeX L' s.i).cells true))
    have gs3 := (H7.tail.right.tail.right).g1
    simp only [Stp.cells, Item.cells, Item.zero] at gs3
    simp only [go_sem, Item.cells, gs3]
    refine between_ok hB1 (HasH.mid4 (h1 := [(_, _)]) (h2 := h2') (h3 := [(_, _)]) H7) (by omega) hN ?_
    intro σ4 op cp hp hP H8
    obtain ⟨v, hw, rfl, hv⟩ := hW1
    obtain ⟨ow, cw, rfl⟩ := hv.sl
    have gw := H8.right.right.tail.g1
    simp only [go_sem, gw]
    have H9 := HasH.mid7 (h1 := h1') (h2 := hp) (h3 := [(_, _)]) (h4 := [(_, _)]) (h5 := hw) (h6 := [(_, _)]) (h7 := [(_, _)]) H8
    have H10 := HasH.mid6 (h1 := [(_, _)]) (h2 := hp) (h3 := h1') (h4 := [(_, _)]) (h5 := [(_, _)]) (h6 := hw) (HasH.mid (h1 := hp) (h2 := [(_, _)]) (HasH.mid3 (h1 := [(_, _)]) (h2 := h1') (h3 := hp) H9))
    refine s_loop2 (L := L') (s := s) (by omega) hv rfl hP L'.length 0 N σ4 (by omega) (by omega) H10 ?_
    intro σ5 H11
    have H12 := HasH.mid4 (h1 := hw) (h2 := [(_, _)]) (h3 := hp) (h4 := h1') H11
    have gx : σ5.get σ2.next = some (.cells (seeX L' s.i).cells true) := H11.get (σ2.next, _) (by simp)
    have gy : σ5.get σ3.next = some (.cells (seeX L' s.i).cells true) := H11.get (σ3.next, _) (by simp)
    simp only [Item.cells] at gx gy
    simp only [go_sem, gx]
    refine ref_ok (x := seeX L' s.i) H12 ?_
    intro σ6 H13
    have gy6 : σ6.get σ3.next = some (.cells (seeX L' s.i).cells true) := H13.get (σ3.next, _) (by simp)
    have gw6 : σ6.get w = some (.cells [.slice ow L'.length cw 4, .int .i64 0] true) := H13.get (w, _) (by simp)
    obtain ⟨v1, hb1, rfl, hv1⟩ := id hB1
    obtain ⟨o1, c1', rfl⟩ := hv1.sl
    have gb6 : σ6.get b = some (.cells [.slice o1 L'.length c1' 4, .int .i64 0] true) := H13.get (b, _) (by simp)
    simp only [Item.cells] at gy6
    simp only [go_sem, Item.cells, gy, gy6, gw6, len_eq gb6, dropped_eq gb6, decide_true]
    refine older_ok hB1 H13 (by omega) hN ?_
    intro σ7 H14
    simp only [go_sem, hw1]
    have H15 := HasH.mid (h1 := [(_, _)]) (h2 := (b, _) :: hb1) (HasH.mid6 (h1 := (b, _) :: hb1) (h2 := hw) (h3 := [(_, _)]) (h4 := hp) (h5 := [(_, _)]) (h6 := [(_, _)]) H14)
    refine ih (i + 1) n L' _ ((w, _) :: hw) σ7 (by omega) (by omega) (by omega) hB1 ⟨_, hw, rfl, hv⟩ (H15.sub ?_) k
    refine List.Sublist.append_left (List.Sublist.append_left (List.Sublist.append_left ?_ hw) [_]) _
    exact (((List.sublist_append_right [_] _).trans (List.sublist_append_right [_] _)).trans (List.sublist_append_right hp _)).trans (List.sublist_append_right [_] _)

end

theorem steps_ok {ss : List Stp} {mo : Int} {ol : Option (Nat × Nat)} {cl : Option Nat} {hl : Hp} (hA : Arg 6 (.slice ol ss.length cl 6) ss.length (ss.flatMap Stp.cells) hl)
    (H : HasH σ hl) (hN : 5000 ≤ N) (k : ∀ σ', HasH σ' [] → K (.bool true) σ' = some ()) :
    callK Try.prog N ann (d + 5) 6 [.slice ol ss.length cl 6, .int .i64 mo] σ K = some () := by
  rw [callK_succ, f6_eq]
  simp only [go_sem]
  refine new_ok H ?_
  intro σ1 b h1 hB1 H1
  by_cases c1 : 300 < (ss.length : Int)
  · simp only [go_sem, c1]
    refine three_ok H1 ?_
    intro σ2 H2
    simp only [go_sem]
    exact k _ (H2.sub (List.nil_sublist _))
  simp only [go_sem, c1]
  have H2 := H1.new (.cells [.slice none 0 (some 0) 4, .int .i64 0] true)
  refine s_loop1 (b := b) (w := σ1.next) (r := []) (by omega) hN hA ss.length 0 N [] h1 [(σ1.next, _)] _ (by omega) (by omega) (by simp) hB1 ⟨_, _, rfl, Vec.nil 4⟩ (by simpa using H2.down) ?_
  intro σ2 H2
  simp only [go_sem]
  refine three_ok H2 ?_
  intro σ3 H3
  simp only [go_sem]
  exact k _ H3

end Go.Proofs.Ytdebkakkeaanaaa
