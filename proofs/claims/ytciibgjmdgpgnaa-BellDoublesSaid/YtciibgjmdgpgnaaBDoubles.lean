/- BellDoubles: the walk. -/
import Derived.Test.YtciibgjmdgpgnaaH12
import Derived.Test.YtciibgjmdgpgnaaBeDoubles
namespace Go.Proofs.Ytciibgjmdgpgnaa
open Go.AM
set_option maxRecDepth 100000
set_option linter.unusedSimpArgs false
set_option linter.unusedVariables false
variable {N d : Nat} {dem : Bool} {σ : St} {K : AV → St → Option Unit}

theorem TickD.far {now : Int} {D D' ns : List Int} (h : TickD now D ns D') : D.length = 16 → ∀ k, k < 16 → now < gi D k → gi D' k = gi D k := by
  induction h with
  | stop _ => intro _ k _ _; rfl
  | @step D D' ns j hj h0 h1 hm _ ih =>
    intro hl k hk hg
    have hjk : ¬ k = j := fun e => by subst e; omega
    have e : gi (D.set j (-1)) k = gi D k := by rw [gi_set (by omega), if_neg hjk]
    rw [← e] at hg ⊢
    exact ih (by simpa using hl) k hk hg

theorem dl_loop {b : Nat} {times : Int} {J : KF Unit} (ht : times ≤ 100) (hN : 1000 < N) :
    ∀ (m i k : Nat) (σ : St) (V L : List Tm) (o : Option (Nat × Nat)) (c : Option Nat) (hv : Hp) (turn w t : Int), (i : Int) + m = times → m < k → L.length ≤ i + 1 → 1 ≤ w → w ≤ 4096 → lf V (7:Int).toNat = ⟨7, w, w, t⟩ → BI V L →
      Vec 4 (.slice o L.length c 4) L.length (tflat L) hv → HasH σ ((b, .cells (.int .i64 0 :: .int .i64 turn :: .slice o L.length c 4 :: tflat V) true) :: (hv ++ [])) →
      (∀ σ', HasH σ' [] → J (.exit 0) f3e21 σ' = some ()) →
      loopK (f3L27 (callK Try.prog N ann (d + 6)) dem N) f3a27 k J (f3e18 times (some (b, 0)) w (i : Int)) σ = some () := by
  intro m
  induction m with
  | zero =>
    intro i k σ V L o c hv turn w t hi hk hL w1 w2 h7 hI W H kont
    obtain ⟨k, rfl⟩ : ∃ k', k = k' + 1 := ⟨k - 1, by omega⟩
    rw [loopK_succ]
    have e1 : decide ((i : Int) < times) = false := decide_eq_false (by omega)
    simp only [go_sem, e1]
    exact kont _ (H.sub (List.nil_sublist _))
  | succ m ih =>
    intro i k σ V L o c hv turn w t hi hk hL w1 w2 h7 hI W H kont
    obtain ⟨k, rfl⟩ : ∃ k', k = k' + 1 := ⟨k - 1, by omega⟩
    rw [loopK_succ]
    have e1 : decide ((i : Int) < times) = true := decide_eq_true (by omega)
    have ww : IntKind.i64.wrap (2 * w) = 2 * w := wrap_small (by omega) (by omega)
    have hlive : liveB V 7 = true := by
      unfold liveB
      rw [h7, nm_t (by decide)]
      exact decide_eq_true (show 0 < w by omega)
    have hV := hI.v
    -- behind the doubling
    have rest : ∀ w' : Int, w' = dbl w → ∀ (Q : AV → St → Option Unit), (∀ σ' o' c' hv' L' turn', L'.length = L.length + 1 → BI (V.set (7:Int).toNat ⟨7, 0 + w', w', turn'⟩) L' → Vec 4 (.slice o' L'.length c' 4) L'.length (tflat L') hv' →
        HasH σ' ((b, .cells (.int .i64 0 :: .int .i64 turn' :: .slice o' L'.length c' 4 :: tflat (V.set (7:Int).toNat ⟨7, 0 + w', w', turn'⟩)) true) :: (hv' ++ [])) → Q (.tuple [.int .i64 w', .int .i64 0]) σ' = some ()) →
        callK Try.prog N ann (d + 6) dem 10 [.ptr (some (b, 0)), .int .i64 7] σ Q = some () := by
      intro w' hw Q hQ
      refine double_live (d := d + 1) hI (by omega) (by omega) (by omega) (by decide) W H hlive ?_
      intro σ' o' c' hv' L' turn' g1 g2 g3 g4
      have e : dbl (lf V (7:Int).toNat).span = w' := by rw [h7, hw]
      rw [e] at g2 g4 ⊢
      exact hQ σ' o' c' hv' L' turn' g1 g2 g3 g4
    have fin : ∀ w' : Int, w' = dbl w → ∀ σ' o' c' hv' L' turn', L'.length = L.length + 1 → BI (V.set (7:Int).toNat ⟨7, 0 + w', w', turn'⟩) L' → Vec 4 (.slice o' L'.length c' 4) L'.length (tflat L') hv' →
        HasH σ' ((b, .cells (.int .i64 0 :: .int .i64 turn' :: .slice o' L'.length c' 4 :: tflat (V.set (7:Int).toNat ⟨7, 0 + w', w', turn'⟩)) true) :: (hv' ++ [])) →
        ∀ Q : AV → St → Option Unit, (∀ σ2 x V2 L2 o2 c2 hv2, L2.length ≤ i + 1 + 1 → lf V2 (7:Int).toNat = ⟨7, w', w', turn'⟩ → BI V2 L2 → Vec 4 (.slice o2 L2.length c2 4) L2.length (tflat L2) hv2 →
          HasH σ2 ((b, .cells (.int .i64 0 :: .int .i64 turn' :: .slice o2 L2.length c2 4 :: tflat V2) true) :: (hv2 ++ [])) → ∀ oo nn cc, x = AV.tuple [.slice oo nn cc 1, .int .i64 0] → Q x σ2 = some ()) →
        callK Try.prog N ann (d + 6) dem 13 [.ptr (some (b, 0)), .int .i64 0] σ' Q = some () := by
      intro w' hw σ' o' c' hv' L' turn' g1 g2 g3 g4 Q hQ
      have hd1 : 1 ≤ w' := by rw [hw]; unfold dbl; split <;> omega
      refine tick_ok (d := d + 1) g2 (by omega) (by omega) (by omega) g3 g4 (by decide) (by decide) ?_
      intro σ2 o2 c2 hv2 V2 L2 ms oo cc vv q1 q2 q3 q4 q5 q6 q7
      refine hQ σ2 _ V2 L2 o2 c2 hv2 (by omega) ?_ q2 q5 ?_ oo ms.length cc rfl
      · have hs : (7:Int).toNat < V.length := by rw [hV]; decide
        have hk7 : (7:Int).toNat < 16 := by decide
        have e0 : lf (V.set (7:Int).toNat ⟨7, 0 + w', w', turn'⟩) (7:Int).toNat = ⟨7, 0 + w', w', turn'⟩ := by rw [lf_set hs, if_pos rfl]
        have e2 : gi (dues (V.set (7:Int).toNat ⟨7, 0 + w', w', turn'⟩)) (7:Int).toNat = w' := by
          rw [gi_dues (by simpa using hs), e0, if_pos (by simp only; omega)]; simp
        rcases q4 (7:Int).toNat hk7 with hz | hz
        · have := q3.far (by rw [dues_len]; simpa using hV) (7:Int).toNat hk7 (by rw [e2]; omega)
          rw [e2, gi_dues_zero (by rw [q2.v]; exact hk7) hz] at this
          omega
        · rw [hz, e0, Int.zero_add]
      · exact q7.sub ((List.Sublist.refl [_]).append ((List.Sublist.refl _).append (List.nil_sublist _)))
    by_cases h2 : 2 * w > 4096
    · have e2 : decide (2 * w > 4096) = true := decide_eq_true h2
      have hw : (4096 : Int) = dbl w := by unfold dbl; rw [if_neg (by omega)]
      simp only [go_sem, e1, ww, e2]
      refine rest 4096 hw _ ?_
      intro σ' o' c' hv' L' turn' g1 g2 g3 g4
      have hb : σ'.get b = _ := g4.g1
      have hs : (7:Int).toNat < V.length := by rw [hV]; decide
      have e0 : lf (V.set (7:Int).toNat ⟨7, 0 + 4096, 4096, turn'⟩) (7:Int).toNat = ⟨7, 0 + 4096, 4096, turn'⟩ := by rw [lf_set hs, if_pos rfl]
      have hlv : liveB (V.set (7:Int).toNat ⟨7, 0 + 4096, 4096, turn'⟩) 7 = true := by
        unfold liveB
        rw [e0, nm_t (by decide)]
        rfl
      have w3 : IntKind.i64.wrap 4096 = 4096 := by decide
      have w4 : IntKind.i64.wrap ((i : Int) + 1) = ((i + 1 : Nat) : Int) := by rw [wrap_small (by omega) (by omega)]; omega
      simp only [go_sem]
      rw [due_live hb g2.v hlv, e0]
      simp only [go_sem]
      rw [now_eq hb]
      simp only [go_sem, w3]
      refine fin 4096 hw σ' o' c' hv' L' turn' g1 g2 g3 g4 _ ?_
      intro σ2 x V2 L2 o2 c2 hv2 q1 q2 q3 q4 q5 oo nn cc hx
      subst hx
      simp only [go_sem, w4]
      exact ih (i + 1) k σ2 V2 L2 o2 c2 hv2 turn' 4096 turn' (by omega) (by omega) q1 (by omega) (by omega) q2 q3 q4 q5 kont
    · have e2 : decide (2 * w > 4096) = false := decide_eq_false h2
      have hw : 2 * w = dbl w := by unfold dbl; split <;> omega
      simp only [go_sem, e1, ww, e2]
      refine rest (2 * w) hw _ ?_
      intro σ' o' c' hv' L' turn' g1 g2 g3 g4
      have hb : σ'.get b = _ := g4.g1
      have hs : (7:Int).toNat < V.length := by rw [hV]; decide
      have e0 : lf (V.set (7:Int).toNat ⟨7, 0 + 2 * w, 2 * w, turn'⟩) (7:Int).toNat = ⟨7, 0 + 2 * w, 2 * w, turn'⟩ := by rw [lf_set hs, if_pos rfl]
      have hlv : liveB (V.set (7:Int).toNat ⟨7, 0 + 2 * w, 2 * w, turn'⟩) 7 = true := by
        unfold liveB
        rw [e0, nm_t (by decide)]
        exact decide_eq_true (show 0 < 2 * w by omega)
      have w3 : IntKind.i64.wrap (0 + 2 * w) = 0 + 2 * w := wrap_small (by omega) (by omega)
      have w4 : IntKind.i64.wrap ((i : Int) + 1) = ((i + 1 : Nat) : Int) := by rw [wrap_small (by omega) (by omega)]; omega
      simp only [go_sem]
      rw [due_live hb g2.v hlv, e0]
      simp only [go_sem]
      rw [now_eq hb]
      simp only [go_sem, w3]
      refine fin (2 * w) hw σ' o' c' hv' L' turn' g1 g2 g3 g4 _ ?_
      intro σ2 x V2 L2 o2 c2 hv2 q1 q2 q3 q4 q5 oo nn cc hx
      subst hx
      simp only [go_sem, w4]
      exact ih (i + 1) k σ2 V2 L2 o2 c2 hv2 turn' (2 * w) turn' (by omega) (by omega) q1 (by omega) (by omega) q2 q3 q4 q5 kont

theorem doubles_law (H : HasH σ []) (hN : 1000 < N) {span times : Int} (k : ∀ σ', HasH σ' [] → K (.bool true) σ' = some ()) : callK Try.prog N ann (d + 7) dem 3 [.int .i64 span, .int .i64 times] σ K = some () := by
  rw [go 3, f3_eq]
  simp only [go_sem, new_eq]
  have H1 := H.new (.cells (.int .i64 0 :: .int .i64 0 :: .slice none 0 (some 0) 4 :: tflat V0) true)
  by_cases t1 : times < 0
  · have e1 : decide (times < 0) = true := decide_eq_true t1
    simp only [go_sem, e1]
    refine three_ok H1.tail (by omega) ?_
    intro σ' H'
    simp only [go_sem]
    exact k _ H'
  have e1 : decide (times < 0) = false := decide_eq_false t1
  by_cases t2 : times > 100
  · have e2 : decide (times > 100) = true := decide_eq_true t2
    simp only [go_sem, e1, e2]
    refine three_ok H1.tail (by omega) ?_
    intro σ' H'
    simp only [go_sem]
    exact k _ H'
  have e2 : decide (times > 100) = false := decide_eq_false t2
  simp only [go_sem, e1, e2]
  by_cases hs : 1 ≤ span ∧ span ≤ 4096
  · refine set_ok (d := d + 2) (L := []) (V := V0) (hv := []) (r := []) (now := 0) (turn := 0) BI0 (by simp) (by simp; omega) (by omega) (by decide) (Vec.nil 4) H1 ⟨by decide, by decide, hs.1, hs.2⟩ ?_
    intro σ' o' c' hv' L' turn' g1 g2 g3 g4
    simp only [go_sem]
    have h7 : lf (V0.set (7:Int).toNat ⟨7, 0 + span, span, turn'⟩) (7:Int).toNat = ⟨7, span, span, turn'⟩ := by rw [lf_set (by decide), if_pos rfl, Int.zero_add]
    have ht : ((0 : Nat) : Int) = 0 := rfl
    refine dl_loop (i := 0) (by omega) hN times.toNat _ σ' _ L' o' c' hv' turn' span turn' (by omega) (by omega) (by rw [g1]; simp) hs.1 hs.2 h7 g2 g3 g4 ?_
    intro σ2 H2
    simp only [go_sem]
    refine three_ok H2 (by omega) ?_
    intro σ3 H3
    simp only [go_sem]
    exact k _ H3
  · rw [set_bad (by omega)]
    simp only [go_sem]
    by_cases s1 : span < 1
    · have e3 : decide (span < 1) = true := decide_eq_true s1
      simp only [go_sem, e3]
      refine three_ok H1.tail (by omega) ?_
      intro σ' H'
      simp only [go_sem]
      exact k _ H'
    · have e3 : decide (span < 1) = false := decide_eq_false s1
      have e4 : decide (span > 4096) = true := decide_eq_true (by omega)
      simp only [go_sem, e3, e4]
      refine three_ok H1.tail (by omega) ?_
      intro σ' H'
      simp only [go_sem]
      exact k _ H'

end Go.Proofs.Ytciibgjmdgpgnaa
