/- The slot answers as its reference does: the law's walk. -/
import Derived.Test.YtmgacgonoodkfaaSSt2
namespace Go.Proofs.Ytmgacgonoodkfaa
open Go.AM
set_option maxRecDepth 100000
set_option linter.unusedSimpArgs false
set_option linter.unusedVariables false
variable {N d : Nat} {σ : St} {K : AV → St → Option Unit}

structure Of3 where
  g : Int
  f : Int
  p : Int
def Of3.cells (o : Of3) : List AV := [.int .i64 o.g, .int .i64 o.f, .int .i64 o.p]
theorem of3_of (ys : List AV) (h : shsOK [.int .i64, .int .i64, .int .i64] ys) : ∃ a : Of3, ys = a.cells := by
  obtain ⟨_, _, rfl, ⟨a, rfl⟩, _, _, rfl, ⟨b, rfl⟩, _, _, rfl, ⟨c, rfl⟩, rfl⟩ := h
  exact ⟨⟨a, b, c⟩, rfl⟩
theorem voteX_gfp (x : Slt) (k no : Int) (text tag : ByteArray) : (voteX x k no text tag).g = x.g ∧ (voteX x k no text tag).f = x.f ∧ (voteX x k no text tag).p = x.p := by
  unfold voteX
  split
  · unfold Slt.put; split <;> exact ⟨rfl, rfl, rfl⟩
  · exact ⟨rfl, rfl, rfl⟩

theorem steps_loop {s w : Nat} {hl : Hp} {J : KF Unit} {ss : List Vo} {ol : Option (Nat × Nat)} {cl : Option Nat} (hss : ss.length ≤ 250) (hN : 5000 ≤ N) (hA : Arg 4 (.slice ol ss.length cl 4) ss.length (ss.flatMap Vo.cells) hl)
    (kont : ∀ σ', HasH σ' [] → J (.exit 0) f5e21 σ' = some ()) :
    ∀ (m i n : Nat) (x : Slt) (L : List Vo) (hs hr : Hp) (σ : St), m + i = ss.length → m < n → SlotP s x hs → RefP w x.g x.f x.p L hr → Rel x L → L.length ≤ i → HasH σ (hs ++ (hr ++ hl)) →
      loopK (f5L27 (callK Try.prog N ann (d + 4)) N) f5a27 n J (f5e19 (some (s, 0)) (some (w, 0)) ol ss.length cl ss.length i) σ = some () := by
  intro m
  induction m with
  | zero =>
    intro i n x L hs hr σ hm hn hS hR R hL H
    obtain ⟨n, rfl⟩ : ∃ n', n = n' + 1 := ⟨n - 1, by omega⟩
    have h1 : ((i:Int) < ss.length) = False := eq_false (by omega)
    rw [loopK_succ]
    simp only [go_sem, h1]
    exact kont σ (H.sub (List.nil_sublist _))
  | succ m ih =>
    intro i n x L hs hr σ hm hn hS hR R hL H
    obtain ⟨n, rfl⟩ : ∃ n', n = n' + 1 := ⟨n - 1, by omega⟩
    have h0 : ((0:Int) ≤ i) = True := eq_true (by omega)
    have h1 : ((i:Int) < ss.length) = True := eq_true (by omega)
    have hti : ((i:Int)).toNat = i := by omega
    have hw1 : IntKind.i64.wrap ((i:Int) + 1) = (i:Int) + 1 := wrap_small (n := (i:Int) + 1) (by omega) (by omega)
    have hN2 : 400 ≤ N := by omega
    obtain ⟨v, hv⟩ : ∃ v, ss[i]? = some v := ⟨_, List.getElem?_eq_getElem (by omega)⟩
    obtain ⟨ba, rfl, rfl⟩ := hA.row (by omega)
    have hga : σ.get ba = some (.cells (ss.flatMap Vo.cells) false) := H.right.right.g1
    have nba : (ba = σ.next) = False := eq_false (by have := H.right.right.l1; omega)
    obtain ⟨q0, q1, q2, q3⟩ := voat hv []
    simp only [List.append_nil] at q0 q1 q2 q3
    obtain ⟨f0, f3, _⟩ := id R.ok
    have H2 := (H.new (.cells [.int .i64 0, .int .i64 0, .str (ByteArray.mk #[]), .str (ByteArray.mk #[])] true)).put (.cells v.cells true)
    have gv := H2.g1
    simp only [Vo.cells] at gv
    rw [loopK_succ]
    simp only [go_sem, h1, h0, hti, hga, nba, q0, q1, q2, q3, gv]
    refine vote_ok hS (HasH.mid (h1 := [_]) (h2 := hs) H2) v.kd v.no v.text v.tag ?_
    rw [relC R v, relF]
    intro σ1 hs' hS' H3
    have gv1 := H3.right.g1
    simp only [Vo.cells] at gv1
    simp only [go_sem, gv1]
    refine rvote_ok hR (by omega) f0 f3 (HasH.mid3 (h1 := hs') (h2 := [_]) (h3 := hr) H3) hN2 v ?_
    intro σ2 hr' hR' H4
    obtain ⟨e1, e2, e3⟩ := voteX_gfp x v.kd v.no v.text v.tag
    have R' := rel_vote R v
    have hRr : RefP w (voteX x v.kd v.no v.text v.tag).g (voteX x v.kd v.no v.text v.tag).f (voteX x v.kd v.no v.text v.tag).p (rvoteL x.f L v) hr' := by rw [e1, e2, e3]; exact hR'
    have hL' : (rvoteL x.f L v).length ≤ i + 1 := by unfold rvoteL; split; · simp; omega
                                                     · omega
    have ne : (rvoteF x.f v != rvoteF x.f v) = false := by simp
    simp only [go_sem, not_self, ne]
    refine proposal_ok hS' (HasH.mid (h1 := hr') (h2 := hs') H4) ?_
    rw [R'.at_, conv_text, conv_there]
    intro σ3 H5
    have gw3 : ∃ c, σ3.get w = some (.cells [.int .i64 x.g, .int .i64 x.f, .int .i64 x.p, c] true) := by
      obtain ⟨o, c, hq, _, rfl⟩ := hR'
      exact ⟨_, H5.right.g1⟩
    obtain ⟨cw, gw3⟩ := gw3
    simp only [go_sem, gw3]
    refine rown_ok hR' (by omega) (HasH.mid (h1 := hs') (h2 := hr') H5) hN2 1 x.p ?_
    intro σ4 H6
    rw [e3]
    have H7 := (H6.new (.cells [.int .i64 0, .int .i64 0, .str (ByteArray.mk #[]), .str (ByteArray.mk #[])] true)).put (.cells ((rown (rvoteL x.f L v) 1 x.p).getD vo0).cells true)
    simp only [go_sem, Vo.cells, not_self, decide_true]
    refine kinds_loop hS' hRr R' (by omega) hN (HasH.mid (h1 := hr') (h2 := hs') H7.tail) ?_
    intro σ5 H8
    simp only [go_sem, hw1]
    exact ih (i + 1) n _ _ hs' hr' σ5 (by omega) (by omega) hS' hRr R' hL' (H8.sub (List.Sublist.append_left (List.Sublist.append_left (List.sublist_append_right [_] _) hr') hs'))

theorem steps_law {o : Of3} {ss : List Vo} {ol : Option (Nat × Nat)} {cl : Option Nat} {hl : Hp} (hA : Arg 4 (.slice ol ss.length cl 4) ss.length (ss.flatMap Vo.cells) hl)
    (H : HasH σ hl) (hN : 5000 ≤ N) (k : ∀ σ', HasH σ' [] → K (.bool true) σ' = some ()) :
    callK Try.prog N ann (d + 6) 5 [.agg o.cells, .slice ol ss.length cl 4] σ K = some () := by
  have H1 := (H.new (.cells o.cells true))
  have g1 := H1.g1
  simp only [Of3.cells] at g1
  have go1 := H1.g1
  simp only [Of3.cells] at go1
  rw [callK_succ, Of3.cells, f5_eq]
  simp only [go_sem]
  rcases (show newE o.g o.f o.p = 0 ∨ newE o.g o.f o.p = 1 by unfold newE; split; exact .inr rfl; exact .inl rfl) with he | he
  · refine new_ok H1 (by omega) o.g o.f o.p he ?_
    intro σ1 s h hS H2
    have go2 := H2.right.g1
    simp only [Of3.cells] at go2
    simp only [go_sem, go2]
    refine rnew_ok H2 o.g o.f o.p he ?_
    intro σ2 w hr hR H3
    by_cases c1 : 200 < (ss.length : Int)
    · simp only [go_sem, c1]
      refine three_ok H3.right.right (by omega) ?_
      intro σ3 H4
      simp only [go_sem]
      exact k _ (H4.sub (List.nil_sublist _))
    simp only [go_sem, c1]
    refine steps_loop (s := s) (w := w) (by omega) hN hA ?_ ss.length 0 N (newX o.g o.f o.p) [] h hr σ2 (by omega) (by omega) hS hR (rel_new he) (by simp) ?_
    · intro σ3 H4
      simp only [go_sem]
      refine three_ok H4 (by omega) ?_
      intro σ4 H5
      simp only [go_sem]
      exact k _ H5
    · exact (HasH.mid (h1 := hr) (h2 := h) H3).sub (List.Sublist.append_left (List.Sublist.append_left (List.sublist_cons_self _ _) hr) h)
  · refine new_bad H1 o.g o.f o.p he ?_
    simp only [go_sem, Of3.cells]
    refine rnew_bad H1 o.g o.f o.p he ?_
    simp only [go_sem]
    refine three_ok H1 (by omega) ?_
    intro σ2 H3
    simp only [go_sem]
    exact k _ (H3.sub (List.nil_sublist _))

end Go.Proofs.Ytmgacgonoodkfaa
