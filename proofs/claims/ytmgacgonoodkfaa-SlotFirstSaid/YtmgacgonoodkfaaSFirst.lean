/- Of each replica the first vote counts: the law's walk. -/
import Derived.Test.YtmgacgonoodkfaaSP
import Derived.Test.YtmgacgonoodkfaaSlFirst
namespace Go.Proofs.Ytmgacgonoodkfaa
open Go.AM
set_option maxRecDepth 100000
set_option linter.unusedSimpArgs false
set_option linter.unusedVariables false
variable {N d : Nat} {σ : St} {K : AV → St → Option Unit}

structure Of3 where
  g : Int
  f : Int
  p : Int
def Of3.cells (o : Of3) : List AV := [.int .i64 o.g, .int .i64 o.f, .int .i64 o.p]
theorem of3_of (ys : List AV) (h : shsOK [.int .i64, .int .i64, .int .i64] ys) : ∃ a : Of3, ys = a.cells := by
  obtain ⟨_, _, rfl, ⟨a, rfl⟩, _, _, rfl, ⟨b, rfl⟩, _, _, rfl, ⟨c, rfl⟩, rfl⟩ := h
  exact ⟨⟨a, b, c⟩, rfl⟩
theorem voz (v : Vo) : v.cells.length = 4 := rfl
theorem voat {V : List Vo} {i : Nat} {v : Vo} (h : V[i]? = some v) : (V.flatMap Vo.cells)[i * 4]? = some (.int .i64 v.kd) ∧ (V.flatMap Vo.cells)[i * 4 + 1]? = some (.int .i64 v.no) ∧ (V.flatMap Vo.cells)[i * 4 + 2]? = some (.str v.text) ∧ (V.flatMap Vo.cells)[i * 4 + 3]? = some (.str v.tag) := by
  have q : ∀ j, j < 4 → (V.flatMap Vo.cells)[i * 4 + j]? = v.cells[j]? := fun j hj => by simpa using flatMap_get voz hj h []
  exact ⟨q 0 (by omega), q 1 (by omega), q 2 (by omega), q 3 (by omega)⟩

theorem newX_ok {g f p : Int} (h : newE g f p = 0) : (newX g f p).ok := by
  have hx : ¬ (g < 0 ∨ 4 < g ∨ f < 0 ∨ 3 < f ∨ p < 0 ∨ 3 * f < p) := by unfold newE at h; split at h <;> simp_all
  exact ⟨by simp [newX]; omega, by simp [newX]; omega, by simp [newX]; omega, by simp [newX]; omega, by simp [newX], by simp [newX], by simp [newX]⟩
theorem newE_cases (g f p : Int) : newE g f p = 0 ∨ newE g f p = 1 := by unfold newE; split; exact .inr rfl; exact .inl rfl

section
variable {s vb : Nat} {r hl : Hp} {J : KF Unit} {ss : List Vo} {ol : Option (Nat × Nat)} {cl : Option Nat}

theorem first_loop (hss : ss.length ≤ 300) (hA : Arg 4 (.slice ol ss.length cl 4) ss.length (ss.flatMap Vo.cells) hl) :
    ∀ (m i n : Nat) (x : Slt) (h : Hp) (σ : St), m + i = ss.length → m < n → SlotP s x h → HasH σ (h ++ (hl ++ r)) →
      (∀ σ' x' h', SlotP s x' h' → HasH σ' (h' ++ (hl ++ r)) → J (.exit 0) (f6e17 vb (some (s, 0))) σ' = some ()) →
      loopK (f6L17 (callK Try.prog N ann (d + 3)) N) f6a17 n J (f6e15 vb (some (s, 0)) ol ss.length cl ss.length i) σ = some () := by
  intro m
  induction m with
  | zero =>
    intro i n x h σ hm hn hS H k
    obtain ⟨n, rfl⟩ : ∃ n', n = n' + 1 := ⟨n - 1, by omega⟩
    have h1 : ((i:Int) < ss.length) = False := eq_false (by omega)
    rw [loopK_succ]
    simp only [go_sem, h1]
    exact k σ x h hS H
  | succ m ih =>
    intro i n x h σ hm hn hS H k
    obtain ⟨n, rfl⟩ : ∃ n', n = n' + 1 := ⟨n - 1, by omega⟩
    have h0 : ((0:Int) ≤ i) = True := eq_true (by omega)
    have h1 : ((i:Int) < ss.length) = True := eq_true (by omega)
    have hti : ((i:Int)).toNat = i := by omega
    have hw1 : IntKind.i64.wrap ((i:Int) + 1) = (i:Int) + 1 := wrap_small (n := (i:Int) + 1) (by omega) (by omega)
    obtain ⟨v, hs⟩ : ∃ v, ss[i]? = some v := ⟨_, List.getElem?_eq_getElem (by omega)⟩
    obtain ⟨ba, rfl, rfl⟩ := hA.row (by omega)
    have hga : σ.get ba = some (.cells (ss.flatMap Vo.cells) false) := H.right.g1
    have nba : (ba = σ.next) = False := eq_false (by have := H.right.l1; omega)
    obtain ⟨q0, q1, q2, q3⟩ := voat hs
    have H2 := (H.new (.cells [.int .i64 0, .int .i64 0, .str (ByteArray.mk #[]), .str (ByteArray.mk #[])] true)).put (.cells v.cells true)
    rw [loopK_succ]
    simp only [go_sem, h1, h0, hti, hga, nba, q0, q1, q2, q3]
    refine vote_ok hS H2.tail v.kd v.no v.text v.tag ?_
    intro σ1 h' hS1 H1
    simp only [go_sem, hw1]
    exact ih (i + 1) n _ h' σ1 (by omega) (by omega) hS1 H1 k

end

theorem first_law {o : Of3} {ss : List Vo} {v : Vo} {ol : Option (Nat × Nat)} {cl : Option Nat} {hl : Hp} (hA : Arg 4 (.slice ol ss.length cl 4) ss.length (ss.flatMap Vo.cells) hl)
    (H : HasH σ hl) (hN : 5000 ≤ N) (k : ∀ σ', HasH σ' [] → K (.bool true) σ' = some ()) :
    callK Try.prog N ann (d + 6) 6 [.agg o.cells, .slice ol ss.length cl 4, .agg v.cells] σ K = some () := by
  have H1 := (H.new (.cells o.cells true)).new (.cells v.cells true)
  have g1 := H1.g1
  have g2 := H1.g2
  simp only [Of3.cells, Vo.cells, St.next_new] at g1 g2
  have nd := H1.nd
  simp only [List.append_eq, List.cons_append, List.nil_append, List.map_cons, List.pairwise_cons, List.mem_cons, forall_eq_or_imp, St.next_new] at nd
  rw [callK_succ, Of3.cells, Vo.cells, f6_eq]
  simp only [go_sem, nd]
  rcases newE_cases o.g o.f o.p with he | he
  · refine new_ok H1 (by omega) o.g o.f o.p he ?_
    intro σ1 s h hS H2
    by_cases c1 : 100 < (ss.length : Int)
    · simp only [go_sem, c1]
      refine three_ok H2.right (by omega) ?_
      intro σ2 H3
      simp only [go_sem]
      exact k _ (H3.sub (List.nil_sublist _))
    simp only [go_sem, c1]
    refine first_loop (s := s) (vb := σ.next + 1) (r := [(σ.next + 1, .cells v.cells true)]) (by omega) hA ss.length 0 N (newX o.g o.f o.p) h σ1 (by omega) (by omega) hS ?_ ?_
    · refine (H2.sub (List.Sublist.append_left (List.Sublist.cons_cons _ (List.sublist_cons_self _ _)) h)).perm (List.Perm.append_left h ?_)
      exact List.perm_append_comm (l₁ := [_])
    intro σ2 x h2 hS2 H3
    have ho := hS2.1
    have gv := H3.right.right.g1
    simp only [Vo.cells] at gv
    simp only [go_sem, gv]
    refine own_ok hS2 H3 v.kd v.no ?_
    intro σ3 H4
    have gv3 := H4.right.right.g1
    simp only [Vo.cells] at gv3
    simp only [go_sem, gv3]
    refine cert_ok hS2 H4 (by omega) v.kd ?_
    intro σ4 cv ht hcv H5
    have hcv' : ∃ text g T o c, cv = .agg [.str text, .int .i64 g, .slice o T c 2] ∧ (∀ cv' ht', CertR x.g (x.cert v.kd) cv' ht' → ∃ o' c', cv' = .agg [.str text, .int .i64 g, .slice o' T c' 2]) := by
      cases hc : x.cert v.kd with
      | none =>
        rw [hc] at hcv
        obtain ⟨o, c, rfl, _⟩ := hcv
        exact ⟨_, _, _, o, c, rfl, fun cv' ht' ⟨o', c', e, _⟩ => ⟨o', c', e⟩⟩
      | some tT =>
        rw [hc] at hcv
        obtain ⟨o, c, rfl, _⟩ := hcv
        exact ⟨_, _, _, o, c, rfl, fun cv' ht' ⟨o', c', e, _⟩ => ⟨o', c', e⟩⟩
    obtain ⟨text, g, tl, oc, cc, rfl, hagain⟩ := hcv'
    have H6 := (H5.new (.cells [.str (ByteArray.mk #[]), .int .i64 0, .slice none 0 (some 0) 2] true)).put (.cells [.str text, .int .i64 g, .slice oc tl cc 2] true)
    have gv6 := H6.tail.right.right.right.g1
    simp only [Vo.cells] at gv6
    simp only [go_sem, gv6]
    refine votes_ok hS2 H6.down (by omega) v.kd ?_
    intro σ7 H7
    have gv7 := H7.right.tail.right.right.g1
    simp only [Vo.cells] at gv7
    simp only [go_sem, gv7]
    refine vote_ok hS2 H7 v.kd v.no v.text v.tag ?_
    intro σ8 h8 hS8 H8
    have gv8 := H8.right.tail.right.right.g1
    have gb8 := H8.right.g1
    simp only [Vo.cells] at gv8
    cases hC : voteC x v.kd v.no v.text v.tag with
    | false =>
      rw [voteX_same hC] at hS8
      by_cases hF : voteF x v.kd v.no v.text v.tag = 0
      · have ht : (x.at v.kd v.no).there = true := by
          cases htt : (x.at v.kd v.no).there with
          | true => rfl
          | false => simp [voteC, hF, htt] at hC
        have hb : (voteF x v.kd v.no v.text v.tag != 0) = false := by simp [hF]
        rw [ht]
        simp only [go_sem, hb, gv8]
        refine cert_ok hS8 H8 (by omega) v.kd ?_
        intro σ9 cv9 ht9 hcv9 H9
        obtain ⟨o9, c9, rfl⟩ := hagain _ _ hcv9
        have H10 := (H9.new (.cells [.str (ByteArray.mk #[]), .int .i64 0, .slice none 0 (some 0) 2] true)).put (.cells [.str text, .int .i64 g, .slice o9 tl c9 2] true)
        have gv10 := H10.tail.right.right.tail.right.right.g1
        simp only [Vo.cells] at gv10
        simp only [go_sem, gv10]
        refine own_ok hS8 H10.down v.kd v.no ?_
        intro σ11 H11
        have ga := H11.right.g1
        have gb := H11.right.tail.right.g1
        have gv11 := H11.right.tail.right.tail.right.right.g1
        simp only [Vo.cells] at gv11
        simp only [go_sem, gv11]
        refine votes_ok hS8 H11 (by omega) v.kd ?_
        intro σ12 H12
        have ga12 := H12.right.g1
        have gb12 := H12.right.tail.right.g1
        simp only [go_sem, ht, ga12, gb12, decide_true]
        refine three_ok H12 (by omega) ?_
        intro σ13 H13
        simp only [go_sem]
        exact k _ (H13.sub (List.nil_sublist _))
      · have hb : (voteF x v.kd v.no v.text v.tag != 0) = true := by simpa using hF
        simp only [go_sem, hb, gv8]
        refine cert_ok hS8 H8 (by omega) v.kd ?_
        intro σ9 cv9 ht9 hcv9 H9
        obtain ⟨o9, c9, rfl⟩ := hagain _ _ hcv9
        have H10 := (H9.new (.cells [.str (ByteArray.mk #[]), .int .i64 0, .slice none 0 (some 0) 2] true)).put (.cells [.str text, .int .i64 g, .slice o9 tl c9 2] true)
        have gv10 := H10.tail.right.right.tail.right.right.g1
        simp only [Vo.cells] at gv10
        simp only [go_sem, gv10]
        refine own_ok hS8 H10.down v.kd v.no ?_
        intro σ11 H11
        have ga := H11.right.g1
        have gb := H11.right.tail.right.g1
        have gv11 := H11.right.tail.right.tail.right.right.g1
        simp only [Vo.cells] at gv11
        simp only [go_sem, gv11]
        refine votes_ok hS8 H11 (by omega) v.kd ?_
        intro σ12 H12
        have ga12 := H12.right.g1
        have gb12 := H12.right.tail.right.g1
        simp only [go_sem, ga12, gb12, decide_true]
        refine three_ok H12 (by omega) ?_
        intro σ13 H13
        simp only [go_sem]
        exact k _ (H13.sub (List.nil_sublist _))
    | true =>
      obtain ⟨hcnt, hat⟩ := vote_counts ho hC
      have hF : voteF x v.kd v.no v.text v.tag = 0 := by simp only [voteC, Bool.and_eq_true, decide_eq_true_eq] at hC; exact hC.1
      have ht : (x.at v.kd v.no).there = false := by simp only [voteC, Bool.and_eq_true, Bool.not_eq_true'] at hC; exact hC.2
      have hb : (voteF x v.kd v.no v.text v.tag != 0) = false := by simp [hF]
      have hcl : x.cnt v.kd ≤ 100 := by
        obtain ⟨hk, _⟩ := voteF_zero hF
        have h1 := Slt.vs_len ho hk
        have h2 := List.countP_le_length (p := Vt.there) (l := x.vs v.kd)
        have h3 := ho.2.1
        unfold Slt.cnt; omega
      have hw : IntKind.i64.wrap ((x.cnt v.kd : Nat) + 1) = ((x.cnt v.kd + 1 : Nat) : Int) := wrap_small (n := ((x.cnt v.kd + 1 : Nat) : Int)) (by omega) (by omega)
      rw [ht]
      simp only [go_sem, hb, gv8]
      refine own_ok hS8 H8 v.kd v.no ?_
      rw [hat]
      intro σ9 H9
      have gv9 := H9.right.tail.right.right.g1
      simp only [Vo.cells] at gv9
      simp only [go_sem, gv9]
      refine votes_ok hS8 H9 (by omega) v.kd ?_
      rw [hcnt]
      intro σ10 H10
      have gv10 := H10.right.tail.right.right.g1
      simp only [Vo.cells] at gv10
      simp only [go_sem, gv10, hw, decide_true]
      refine three_ok H10 (by omega) ?_
      intro σ11 H11
      simp only [go_sem]
      exact k _ (H11.sub (List.nil_sublist _))
  · refine new_bad H1 o.g o.f o.p he ?_
    simp only [go_sem]
    refine three_ok H1 (by omega) ?_
    intro σ2 H3
    simp only [go_sem]
    exact k _ (H3.sub (List.nil_sublist _))

end Go.Proofs.Ytmgacgonoodkfaa
