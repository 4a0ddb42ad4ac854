/- The slot answers as its reference does: one kind. -/
import Derived.Test.YtmgacgonoodkfaaSSt1
namespace Go.Proofs.Ytmgacgonoodkfaa
open Go.AM
set_option maxRecDepth 100000
set_option linter.unusedSimpArgs false
set_option linter.unusedVariables false
variable {N d : Nat} {σ : St} {K : AV → St → Option Unit}

theorem conv_text (q : Option Vo) : (conv q).text = (q.getD vo0).text := by cases q <;> rfl
theorem conv_tag (q : Option Vo) : (conv q).tag = (q.getD vo0).tag := by cases q <;> rfl
theorem conv_there (q : Option Vo) : (conv q).there = q.isSome := by cases q <;> rfl
theorem not_self (b : Bool) : (!b == b) = false := by cases b <;> rfl

theorem certs_of {x : Slt} {L : List Vo} (R : Rel x L) {k : Int} {v w : AV} {h1 h2 : Hp} (V1 : CertR x.g (x.cert k) v h1) (V2 : CertR x.g (x.cert k) w h2) :
    ∃ text g T, T.length ≤ 100 ∧ CertV g text T v h1 ∧ CertV g text T w h2 := by
  cases hc : x.cert k with
  | none =>
    rw [hc] at V1 V2
    exact ⟨_, _, [], by simp, V1, V2⟩
  | some tT =>
    obtain ⟨t, T⟩ := tT
    rw [hc] at V1 V2
    obtain ⟨hk, hT, _⟩ := cert_is hc
    have h1 := tagsOf_len t (x.vs k) 0
    have h2 := Slt.vs_len R.ok hk
    have h3 := R.ok.2.1
    exact ⟨_, _, T, by rw [hT]; omega, V1, V2⟩

section
variable {s w vb : Nat} {x : Slt} {L : List Vo} {hs hr r : Hp} {J : KF Unit} {v : Vo} {o : Option (Nat × Nat)} {n0 : Nat} {c : Option Nat} {i0 i1 : Int}

theorem kind_round (hS : SlotP s x hs) (hR : RefP w x.g x.f x.p L hr) (R : Rel x L) (hL : L.length ≤ 300) (hN : 5000 ≤ N) {kd : Int} (h0 : 0 ≤ kd) (h3 : kd ≤ 3) {n : Nat}
    (H : HasH σ (hs ++ (hr ++ ([(vb, .cells v.cells true)] ++ r))))
    (k : ∀ σ', HasH σ' (hs ++ (hr ++ ([(vb, .cells v.cells true)] ++ r))) → loopK (f5L66 (callK Try.prog N ann (d + 4)) N) f5a66 n J (f5e40 (some (s, 0)) (some (w, 0)) vb (kd + 1) o n0 c i0 i1) σ' = some ()) :
    loopK (f5L66 (callK Try.prog N ann (d + 4)) N) f5a66 (n + 1) J (f5e40 (some (s, 0)) (some (w, 0)) vb kd o n0 c i0 i1) σ = some () := by
  have q1 : (kd ≤ 3) = True := eq_true h3
  have hw1 : IntKind.i64.wrap (kd + 1) = kd + 1 := wrap_small (n := kd + 1) (by omega) (by omega)
  have hN1 : 100 ≤ N := by omega
  have hN2 : 400 ≤ N := by omega
  have hN3 : 20 ≤ N := by omega
  obtain ⟨f0, f3, _⟩ := id R.ok
  have hag := cert_agree R kd
  rw [loopK_succ]
  simp only [go_sem, q1]
  refine cert_ok hS H hN1 kd ?_
  intro σ1 cv ht1 V1 H1
  have keep := V1
  obtain ⟨t1, g1, T1, hT1, W1, _⟩ := certs_of R V1 V1
  obtain ⟨o1, c1, rfl, U1⟩ := W1
  have H1' := (H1.new (.cells [.str (ByteArray.mk #[]), .int .i64 0, .slice none 0 (some 0) 2] true)).put (.cells [.str t1, .int .i64 g1, .slice o1 T1.length c1 2] true)
  simp only [go_sem]
  refine rcert_ok hR hL f0 f3 (HasH.mid4 (h1 := [_]) (h2 := hs) (h3 := ht1) (h4 := hr) H1') hN2 kd ?_
  rw [← hag]
  intro σ2 cw ht2 V2 H2
  obtain ⟨t2, g2, T2, hT2, W1, W2⟩ := certs_of R keep V2
  obtain ⟨o1', c1', e, U1⟩ := W1
  simp only [AV.agg.injEq, List.cons.injEq, AV.str.injEq, AV.int.injEq, AV.slice.injEq, and_true, true_and] at e
  obtain ⟨rfl, rfl, rfl, hTl, rfl⟩ := e
  obtain ⟨o2, c2, rfl, U2⟩ := W2
  have H2' := (H2.new (.cells [.str (ByteArray.mk #[]), .int .i64 0, .slice none 0 (some 0) 2] true)).put (.cells [.str t1, .int .i64 g1, .slice o2 T2.length c2 2] true)
  have gv := H2'.tail.right.right.right.right.right.g1
  simp only [Vo.cells] at gv
  simp only [go_sem, gv]
  refine own_ok hS (HasH.mid5 (h1 := [_]) (h2 := hr) (h3 := ht2) (h4 := [_]) (h5 := hs) H2') kd v.no ?_
  rw [R.at_, conv_text, conv_tag, conv_there]
  intro σ3 H3
  have gv3 := H3.right.right.right.right.right.right.g1
  simp only [Vo.cells] at gv3
  simp only [go_sem, gv3]
  refine rown_ok hR hL (HasH.mid3 (h1 := hs) (h2 := [_]) (h3 := hr) H3) hN2 kd v.no ?_
  intro σ4 H4
  have H4' := (H4.new (.cells [.int .i64 0, .int .i64 0, .str (ByteArray.mk #[]), .str (ByteArray.mk #[])] true)).put (.cells ((rown L kd v.no).getD vo0).cells true)
  have gc2 := H4.right.right.g1
  have gc1 := H4.right.right.right.right.g1
  have n2 := eq_false (show ¬ σ2.next = σ4.next by have := H4.right.right.l1; omega)
  have n1 := eq_false (show ¬ σ1.next = σ4.next by have := H4.right.right.right.right.l1; omega)
  simp only [go_sem, Vo.cells, not_self, gc1, gc2, n1, n2]
  have H5 := HasH.mid7 (h1 := ht2) (h2 := [_]) (h3 := hr) (h4 := hs) (h5 := [_]) (h6 := [_]) (h7 := ht1) (HasH.mid5 (h1 := [_]) (h2 := hr) (h3 := hs) (h4 := [_]) (h5 := ht2) H4')
  refine same_ok hT2 ⟨o1, c1, by rw [hTl], U1⟩ ⟨o2, c2, rfl, U2⟩ hN2 H5 ?_
  intro σ5 H6
  simp only [go_sem]
  refine votes_ok hS (HasH.mid5 (h1 := ht1) (h2 := ht2) (h3 := [_]) (h4 := hr) (h5 := hs) H6) hN3 kd ?_
  rw [R.cnt]
  intro σ6 H7
  simp only [go_sem]
  refine rcnt_ok hR hL (HasH.mid5 (h1 := hs) (h2 := ht1) (h3 := ht2) (h4 := [_]) (h5 := hr) H7) hN2 kd ?_
  intro σ7 H8
  have gx := H8.right.right.right.right.g1
  simp only [Vo.cells] at gx
  have ne : (((rcnt L kd : Nat) : Int) != ((rcnt L kd : Nat) : Int)) = false := by simp
  simp only [go_sem, not_self, ne, gx, decide_true, hw1]
  refine k σ7 ((HasH.mid (h1 := hr) (h2 := hs) H8).sub (List.Sublist.append_left (List.Sublist.append_left ?_ hr) hs))
  exact ((((List.sublist_append_right _ _).trans (List.sublist_append_right _ _)).trans (List.sublist_append_right _ _)).trans (List.sublist_append_right ht2 _)).trans (List.sublist_append_right ht1 _)

theorem kinds_loop (hS : SlotP s x hs) (hR : RefP w x.g x.f x.p L hr) (R : Rel x L) (hL : L.length ≤ 300) (hN : 5000 ≤ N)
    (H : HasH σ (hs ++ (hr ++ ([(vb, .cells v.cells true)] ++ r))))
    (k : ∀ σ', HasH σ' (hs ++ (hr ++ ([(vb, .cells v.cells true)] ++ r))) → J (.exit 2) (f5e19 (some (s, 0)) (some (w, 0)) o n0 c i0 i1) σ' = some ()) :
    loopK (f5L66 (callK Try.prog N ann (d + 4)) N) f5a66 N J (f5e40 (some (s, 0)) (some (w, 0)) vb 0 o n0 c i0 i1) σ = some () := by
  obtain ⟨n, hn⟩ : ∃ n, N = n + 5 := ⟨N - 5, by omega⟩
  rw [show loopK (f5L66 (callK Try.prog N ann (d + 4)) N) f5a66 N = loopK (f5L66 (callK Try.prog N ann (d + 4)) N) f5a66 (n + 4 + 1) by rw [← hn]]
  refine kind_round hS hR R hL hN (by decide) (by decide) H ?_
  intro σ1 H1
  refine kind_round hS hR R hL hN (by decide) (by decide) H1 ?_
  intro σ2 H2
  refine kind_round hS hR R hL hN (by decide) (by decide) H2 ?_
  intro σ3 H3
  refine kind_round hS hR R hL hN (by decide) (by decide) H3 ?_
  intro σ4 H4
  have q : ((0:Int) + 1 + 1 + 1 + 1 ≤ 3) = False := eq_false (by omega)
  rw [loopK_succ]
  simp only [go_sem, q]
  exact k σ4 H4

end
end Go.Proofs.Ytmgacgonoodkfaa
