/- Every window, step by step: the law's walk. -/
import Derived.Test.YtmgacgonoodkfaaWSP
import Derived.Test.YtmgacgonoodkfaaWiSteps
namespace Go.Proofs.Ytmgacgonoodkfaa
open Go.AM
set_option maxRecDepth 100000
set_option linter.unusedSimpArgs false
set_option linter.unusedVariables false
variable {N d : Nat} {dem : Bool} {σ : St} {K : AV → St → Option Unit}

theorem sright_eq (g f : Int) : callK Try.prog N ann (d + 1) dem 35 [.int .i64 g, .int .i64 f] σ K = K (.bool (decide (0 ≤ g ∧ g ≤ 4 ∧ 0 ≤ f ∧ f ≤ 3))) σ := by
  rw [go 35 (by decide), f35_eq]
  by_cases c1 : 0 ≤ g
  · by_cases c2 : g ≤ 4
    · by_cases c3 : 0 ≤ f
      · by_cases c4 : f ≤ 3
        · simp only [go_sem, c1, c2, c3, c4]
        · simp only [go_sem, c1, c2, c3, c4]
      · simp only [go_sem, c1, c2, c3]
    · simp only [go_sem, c1, c2]
  · simp only [go_sem, c1]

/-- Leave, as it is known. -/
theorem leave_known {b ms mb : Nat} {x : Wn} {h r : Hp} (W : WinP b ms mb x h) (H : HasH σ (h ++ r)) (hlen : x.es.length ≤ 1000) (v : Int)
    (kont : ∀ σ' h', WinP b ms mb (leaveX x v) h' → HasH σ' (h' ++ r) → K (.int .i64 (x.es.length - (leaveX x v).es.length)) σ' = some ()) :
    callK Try.prog N ann (d + 1) false 40 [.ptr (some (b, 0)), .int .i64 v] σ K = some () := by
  obtain ⟨ho, rfl⟩ := W
  obtain ⟨g0, g4, f0, f3, l0, l1, ok1, ok2⟩ := ho
  have hb : σ.get b = _ := H.g1
  have hm : σ.get ms = _ := H.g2
  have hspec : winSpec.spec false 40 [.ptr (some (b, 0)), .int .i64 v] σ = some (.int .i64 ((x.es.map En.av).length - ((x.es.map En.av).filter fun y => decide (v ≤ viewOf y)).length), ⟨(σ.put ms (.map ((x.es.map En.av).filter fun y => decide (v ≤ viewOf y)) x.c1)).heap, σ.next + 2 + 2 * (x.es.map En.av).length⟩) := by
    show (if (40 : Nat) = 40 then (if false = true then none else leaveSpec [.ptr (some (b, 0)), .int .i64 v] σ) else none) = _
    rw [if_pos rfl, if_neg (by decide)]
    unfold leaveSpec
    simp only [hb, hm]
    rw [if_pos ⟨⟨x.es, rfl, ok1⟩, by simpa using hlen, H.l2, H.l1, H.n12⟩]
  simp only [callK, hspec]
  have e1 : (((x.es.map En.av).length : Nat) : Int) - (((x.es.map En.av).filter fun y => decide (v ≤ viewOf y)).length : Nat) = (x.es.length : Int) - ((leaveX x v).es.length : Nat) := by
    rw [filter_av]; simp [leaveX]
  rw [e1]
  refine kont _ _ ⟨⟨g0, g4, f0, f3, l0, l1, ok1.sub List.filter_sublist, ok2⟩, rfl⟩ ?_
  have H2 := H.put2 (.map ((x.es.map En.av).filter fun y => decide (v ≤ viewOf y)) x.c1)
  rw [filter_av] at H2 ⊢
  exact ⟨H2.nodup, fun p hp => H2.get p hp, fun p hp => Nat.lt_of_lt_of_le (H2.lt p hp) (by simp only [St.next_put]; omega)⟩

theorem does_ok {b ms mb rb : Nat} {x : Wn} {low : Int} {S B : List Pl} {i : Nat} {h h2 r : Hp} (W : WinP b ms mb x h) (R : RefP rb low S B h2) (L : Rel x low S B i) (hi : i ≤ 500) (H : HasH σ (h ++ (h2 ++ r))) (hN : 1001 < N) (what view n : Int) (s : ByteArray)
    (kont : ∀ σ' x' low' S' B' h' h2', WinP b ms mb x' h' → RefP rb low' S' B' h2' → Rel x' low' S' B' (i + 1) → HasH σ' (h' ++ (h2' ++ r)) → K (.bool true) σ' = some ()) :
    callK Try.prog N ann (d + 4) true 36 [.ptr (some (b, 0)), .ptr (some (rb, 0)), .agg [.int .i64 what, .int .i64 view, .int .i64 n, .str s]] σ K = some () := by
  have hS := L.len
  have q1 := L.l1
  have q2 := L.l2
  have q3 := L.l3
  have H1 : HasH (σ.new (.cells [.int .i64 what, .int .i64 view, .int .i64 n, .str s] true)) (h ++ (h2 ++ ((σ.next, Blk.cells [.int .i64 what, .int .i64 view, .int .i64 n, .str s] true) :: r))) := by
    have H0 := H.new (.cells [.int .i64 what, .int .i64 view, .int .i64 n, .str s] true)
    rw [← List.append_assoc] at H0
    have H1 := H0.down
    rw [List.append_assoc] at H1
    exact H1
  have hlw := L.lw
  subst hlw
  have drop : ∀ {σ' : St} {a b : Hp} {p : Nat × Blk}, HasH σ' (a ++ (b ++ (p :: r))) → HasH σ' (b ++ (a ++ r)) := by
    intro σ' a b p Hx
    rw [← List.append_assoc] at Hx
    have Hy := Hx.up.tail
    rw [List.append_assoc] at Hy
    exact Hy.mid
  have gs := H1.right.right.g1
  rw [go 36 (by decide), f36_eq]
  by_cases w01 : what = 0 ∨ what = 1
  · rcases w01 with rfl | rfl
    · simp only [go_sem, gs]
      refine at_ok W H1 (by omega) view n ?_ ?_ ?_
      · intro ha σ1 H2
        have g2 := H2.right.right.g1
        simp only [go_sem, g2]
        refine rat_ok R H2.mid (by omega) hN view n ?_
        intro σ2 h2' R2 H3
        rw [L.at_old (.inl ha)] at R2
        have e1 : (askE x.low view n == 0) = false := by simpa using ha
        simp only [go_sem, e1]
        exact kont _ _ _ _ _ _ _ W R2 L.up (drop H3)
      · intro ha e he e1 e2 σ1 H2
        have g2 := H2.right.right.g1
        simp only [go_sem, g2]
        refine rat_ok R H2.mid (by omega) hN view n ?_
        intro σ2 h2' R2 H3
        rw [L.at_old (.inr ⟨e, he, e1, e2⟩)] at R2
        simp only [go_sem, ha]
        exact kont _ _ _ _ _ _ _ W R2 L.up (drop H3)
      · intro ha hno σ1 s1 h' hs S1 W2 H2
        have H2' : HasH σ1 (h' ++ (h2 ++ ((σ.next, Blk.cells [.int .i64 0, .int .i64 view, .int .i64 n, .str s] true) :: r))) := by
          have := H2.mid.right
          exact this
        have g2 := H2'.right.right.g1
        simp only [go_sem, g2]
        refine rat_ok R H2'.mid (by omega) hN view n ?_
        intro σ2 h2' R2 H3
        simp only [go_sem, ha]
        exact kont _ _ _ _ _ _ _ W2 R2 (L.at_new ha hno s1) (drop H3)
    · simp only [go_sem, gs]
      refine at_ok W H1 (by omega) view n ?_ ?_ ?_
      · intro ha σ1 H2
        have g2 := H2.right.right.g1
        simp only [go_sem, g2]
        refine rat_ok R H2.mid (by omega) hN view n ?_
        intro σ2 h2' R2 H3
        rw [L.at_old (.inl ha)] at R2
        have e1 : (askE x.low view n == 0) = false := by simpa using ha
        simp only [go_sem, e1]
        exact kont _ _ _ _ _ _ _ W R2 L.up (drop H3)
      · intro ha e he e1 e2 σ1 H2
        have g2 := H2.right.right.g1
        simp only [go_sem, g2]
        refine rat_ok R H2.mid (by omega) hN view n ?_
        intro σ2 h2' R2 H3
        rw [L.at_old (.inr ⟨e, he, e1, e2⟩)] at R2
        simp only [go_sem, ha]
        exact kont _ _ _ _ _ _ _ W R2 L.up (drop H3)
      · intro ha hno σ1 s1 h' hs S1 W2 H2
        have H2' : HasH σ1 (h' ++ (h2 ++ ((σ.next, Blk.cells [.int .i64 1, .int .i64 view, .int .i64 n, .str s] true) :: r))) := by
          have := H2.mid.right
          exact this
        have g2 := H2'.right.right.g1
        simp only [go_sem, g2]
        refine rat_ok R H2'.mid (by omega) hN view n ?_
        intro σ2 h2' R2 H3
        simp only [go_sem, ha]
        exact kont _ _ _ _ _ _ _ W2 R2 (L.at_new ha hno s1) (drop H3)
  have e0 : (what == 0) = false := by simp; omega
  have e1 : (what == 1) = false := by simp; omega
  by_cases w2 : what = 2
  · have e2 : (what == 2) = true := by simp [w2]
    simp only [go_sem, gs, e0, e1, e2]
    refine note_ok W H1 view n s 1 ?_
    intro σ1 h' W2 H2
    have g2 := H2.right.right.g1
    simp only [go_sem, g2]
    refine rnote_ok R H2.mid (by omega) hN view n s ?_
    intro σ2 h2' R2 H3
    have eb := L.note_b view n
    simp only [go_sem, eb]
    exact kont _ _ _ _ _ _ _ W2 R2 (L.note view n s) (drop H3)
  have e2 : (what == 2) = false := by simp; omega
  by_cases w3 : what = 3
  · have e3 : (what == 3) = true := by simp [w3]
    simp only [go_sem, gs, e0, e1, e2, e3]
    refine raise_ok W H1 (by omega) (by omega) n ?_
    intro σ1 h' W2 H2
    have g2 := H2.right.right.g1
    simp only [go_sem, g2]
    refine rraise_ok R H2.mid (by omega) (by omega) hN n ?_ ?_
    · intro σ2 H3 hno
      have eb : raiseB x n = false := by rw [L.raise_b]; simpa using hno
      have ex : raiseX x n = x := by unfold raiseX; rw [eb]; rfl
      rw [ex] at W2
      simp only [go_sem, eb]
      exact kont _ _ _ _ _ _ _ W2 R L.up (drop H3)
    · intro σ2 h2' hyes R2 H3
      have eb : raiseB x n = true := by rw [L.raise_b]; simpa using hyes
      simp only [go_sem, eb, hyes.1]
      exact kont _ _ _ _ _ _ _ W2 R2 (L.raise hyes) (drop H3)
  have e3 : (what == 3) = false := by simp; omega
  by_cases w4 : what = 4
  · have e4 : (what == 4) = true := by simp [w4]
    simp only [go_sem, gs, e0, e1, e2, e3, e4]
    refine leave_known W H1 (by omega) view ?_
    intro σ1 h' W2 H2
    have g2 := H2.right.right.g1
    simp only [go_sem, g2, gs]
    refine rleave_ok R H2.mid (by omega) hN view ?_
    intro σ2 h2' R2 H3
    have L2 := L.leave view
    have hl2 := L2.len
    have eb : ((x.es.length : Int) - ((leaveX x view).es.length : Nat) == (S.length : Int) - ((abv x.low view S).length : Nat)) = true := by
      rw [hl2, hS]; simp
    simp only [go_sem, eb]
    exact kont _ _ _ _ _ _ _ W2 R2 L2 (drop H3)
  have e4 : (what == 4) = false := by simp; omega
  simp only [go_sem, gs, e0, e1, e2, e3, e4]
  exact kont _ _ _ _ _ _ _ W R L.up (drop H1.mid)


/-- A step. -/
structure Stp where
  w : Int
  v : Int
  n : Int
  s : ByteArray
def Stp.cells (p : Stp) : List AV := [.int .i64 p.w, .int .i64 p.v, .int .i64 p.n, .str p.s]
theorem stp_z (p : Stp) : p.cells.length = 4 := rfl
theorem stp_of (ys : List AV) (h : shsOK [.int .i64, .int .i64, .int .i64, .str] ys) : ∃ a : Stp, ys = a.cells := by
  obtain ⟨_, _, rfl, ⟨a, rfl⟩, _, _, rfl, ⟨b, rfl⟩, _, _, rfl, ⟨c, rfl⟩, _, _, rfl, ⟨d, rfl⟩, rfl⟩ := h
  exact ⟨⟨a, b, c, d⟩, rfl⟩
theorem stp_at {L : List Stp} {i : Nat} {p : Stp} (h : L[i]? = some p) : (L.flatMap Stp.cells)[i * 4]? = some (.int .i64 p.w) ∧ (L.flatMap Stp.cells)[i * 4 + 1]? = some (.int .i64 p.v) ∧ (L.flatMap Stp.cells)[i * 4 + 2]? = some (.int .i64 p.n) ∧ (L.flatMap Stp.cells)[i * 4 + 3]? = some (.str p.s) := by
  have q : ∀ j, j < 4 → (L.flatMap Stp.cells)[i * 4 + j]? = p.cells[j]? := fun j hj => by
    have := flatMap_get stp_z hj h []
    simpa using this
  exact ⟨q 0 (by omega), q 1 (by omega), q 2 (by omega), q 3 (by omega)⟩

theorem steps_loop {b ms mb rb : Nat} {l : List Stp} {o : Option (Nat × Nat)} {c : Option Nat} {hl : Hp} {J : KF Unit} (hA : Arg 4 (.slice o l.length c 4) l.length (l.flatMap Stp.cells) hl) (hll : l.length ≤ 200) (hN : 1001 < N) :
    ∀ (m i k : Nat) (x : Wn) (low : Int) (S B : List Pl) (h h2 : Hp) (σ : St), m + i = l.length → m < k → WinP b ms mb x h → RefP rb low S B h2 → Rel x low S B i → HasH σ (h ++ (h2 ++ hl)) →
      (∀ σ', HasH σ' [] → J (.exit 0) f10e19 σ' = some ()) →
      loopK (f10L27 (callK Try.prog N ann (d + 4)) true N) f10a27 k J (f10e17 (some (b, 0)) rb o l.length c l.length i) σ = some () := by
  intro m
  induction m with
  | zero =>
    intro i k x low S B h h2 σ hm hk W R L H kont
    obtain ⟨k, rfl⟩ : ∃ k', k = k' + 1 := ⟨k - 1, by omega⟩
    have q : ((i : Int) < (l.length : Int)) = False := eq_false (by omega)
    rw [loopK_succ]
    simp only [go_sem, q]
    exact kont σ (H.sub (List.nil_sublist _))
  | succ m ih =>
    intro i k x low S B h h2 σ hm hk W R L H kont
    obtain ⟨k, rfl⟩ : ∃ k', k = k' + 1 := ⟨k - 1, by omega⟩
    have q : ((i : Int) < (l.length : Int)) = True := eq_true (by omega)
    have c0 : ((0 : Int) ≤ (i : Int)) = True := eq_true (by omega)
    have hti : ((i : Int)).toNat = i := by omega
    have w1 : IntKind.i64.wrap ((i : Int) + 1) = ((i + 1 : Nat) : Int) := by rw [wrap_small (by omega) (by omega)]; rfl
    obtain ⟨ba, rfl, rfl⟩ := hA.row (by omega)
    have hga : σ.get ba = _ := H.right.right.g1
    have na : (ba = σ.next) = False := eq_false (by have := H.right.right.l1; omega)
    obtain ⟨p, hp⟩ : ∃ p, l[i]? = some p := ⟨_, List.getElem?_eq_getElem (by omega)⟩
    obtain ⟨p0, p1, p2, p3⟩ := stp_at hp
    have H1 : HasH ((σ.new (.cells [.int .i64 0, .int .i64 0, .int .i64 0, .str (ByteArray.mk #[])] true)).put σ.next (.cells p.cells true)) (h ++ (h2 ++ ((σ.next, Blk.cells p.cells true) :: [(ba, Blk.cells (l.flatMap Stp.cells) false)]))) := by
      have H0 := (H.new (.cells [.int .i64 0, .int .i64 0, .int .i64 0, .str (ByteArray.mk #[])] true)).put (.cells p.cells true)
      rw [← List.append_assoc] at H0
      have H1 := H0.down
      rw [List.append_assoc] at H1
      exact H1
    simp only [Stp.cells] at H1
    rw [loopK_succ]
    simp only [go_sem, q, c0, hti, hga, p0, p1, p2, p3]
    refine does_ok W R L (by omega) H1 hN p.w p.v p.n p.s ?_
    intro σ1 x' low' S' B' h' h2' W2 R2 L2 H2
    have g2 := H2.right.right.g1
    simp only [go_sem, g2]
    refine best_ok W2 H2 p.n ?_
    intro σ2 H3
    have g3 := H3.right.right.g1
    have n3 : (σ.next = σ2.next) = False := eq_false (by have := H3.right.right.l1; omega)
    simp only [go_sem, g3, n3]
    have H4 := ((H3.new (.cells [.str (ByteArray.mk #[]), .int .i64 0, .slice none 0 (some 0) 2] true)).put (.cells [.str (bestT x'.fs p.n), .int .i64 (bestG x'.fs p.n), .slice none 0 (some 0) 2] true))
    have q3 := L2.l3
    have H5 : HasH ((σ2.new (.cells [.str (ByteArray.mk #[]), .int .i64 0, .slice none 0 (some 0) 2] true)).put σ2.next (.cells [.str (bestT x'.fs p.n), .int .i64 (bestG x'.fs p.n), .slice none 0 (some 0) 2] true)) (h2' ++ (h' ++ ((σ2.next, Blk.cells [.str (bestT x'.fs p.n), .int .i64 (bestG x'.fs p.n), .slice none 0 (some 0) 2] true) :: (σ.next, Blk.cells [.int .i64 p.w, .int .i64 p.v, .int .i64 p.n, .str p.s] true) :: [(ba, Blk.cells (l.flatMap Stp.cells) false)]))) := by
      rw [← List.append_assoc] at H4
      have H5 := H4.down
      rw [List.append_assoc] at H5
      exact H5.mid
    refine rbest_ok R2 H5 (by omega) hN p.n ?_
    intro σ3 H6
    obtain ⟨hb1, hb2, hb3⟩ := L2.best p.n
    have hlen := L2.len
    have hlw := L2.lw
    have R2' := R2
    obtain ⟨⟨l0, l1⟩, o1, c1, k1, o2, c2, k2, rfl, V1, V2⟩ := R2
    have H7 := (H6.new (.cells [.int .i64 0, .int .i64 0, .str (ByteArray.mk #[])] true)).put (.cells [.int .i64 (rgetP B' p.n).v, .int .i64 (rgetP B' p.n).n, .str (rgetP B' p.n).t] true)
    have nn : (σ3.next = σ3.next) = True := eq_true rfl
    simp only [go_sem, Pl.cells]
    generalize hσ4 : (σ3.new (.cells [.int .i64 0, .int .i64 0, .str (ByteArray.mk #[])] true)).put σ3.next (.cells [.int .i64 (rgetP B' p.n).v, .int .i64 (rgetP B' p.n).n, .str (rgetP B' p.n).t] true) = σ4
    rw [hσ4] at H7
    have gpl : σ4.get σ3.next = _ := H7.g1
    have grb : σ4.get rb = _ := H7.g2
    have H8 : HasH σ4 (h' ++ ((σ2.next, Blk.cells [.str (bestT x'.fs p.n), .int .i64 (bestG x'.fs p.n), .slice none 0 (some 0) 2] true) :: (σ.next, Blk.cells [.int .i64 p.w, .int .i64 p.v, .int .i64 p.n, .str p.s] true) :: [(ba, Blk.cells (l.flatMap Stp.cells) false)])) := H7.tail.right
    have gct : σ4.get σ2.next = _ := H8.right.g1
    have gst : σ4.get σ.next = _ := H8.right.g2
    have e1 : (low' != low') = false := by simp
    have e2 : (!(hasB low' p.n == hasB low' p.n)) = false := by simp
    have e3 : ((x'.es.length : Int) != (S'.length : Int)) = false := by rw [hlen]; simp
    have e4 : (!((bget x'.fs p.n).isSome == (bget x'.fs p.n).isSome)) = false := by simp
    have e5 : (bestV x'.fs p.n != bestV x'.fs p.n) = false := by simp
    rw [low_ok W2 H8, hlw]
    simp only [go_sem, grb, gst, e1]
    rw [has_ok W2 H8, hlw]
    simp only [go_sem, grb, gst]
    refine rhas_raw l0 l1 grb (by omega) ?_
    simp only [go_sem, e2]
    rw [slots_ok W2 H8]
    simp only [go_sem, grb, gst, e3, hb1, e4, gpl, hb2, hb3, e5, gct]
    rw [w1]
    refine ih (i + 1) k x' low' S' B' h' _ σ4 (by omega) (by omega) W2 R2' L2 ?_ kont
    exact H7.tail.mid.sub ((List.Sublist.refl h').append ((List.Sublist.refl _).append ((List.sublist_cons_self _ _).trans (List.sublist_cons_self _ _))))

theorem steps_law {l : List Stp} {o : Option (Nat × Nat)} {c : Option Nat} {hl : Hp} (hA : Arg 4 (.slice o l.length c 4) l.length (l.flatMap Stp.cells) hl) (H : HasH σ hl) (hN : 5000 ≤ N) {g f : Int} (k : ∀ σ', HasH σ' [] → K (.bool true) σ' = some ()) :
    callK Try.prog N ann (d + 5) true 10 [.int .i64 g, .int .i64 f, .slice o l.length c 4] σ K = some () := by
  have any : ∀ {σ' : St} {h : Hp}, HasH σ' h → HasH σ' [] := fun H => H.sub (List.nil_sublist _)
  rw [go 10 (by decide), f10_eq]
  simp only [go_sem]
  refine new_ok H g f ?_ ?_
  · intro σ1 b ms mb h1 hgf W1 H1
    simp only [go_sem, sright_eq, hgf]
    by_cases hll : l.length ≤ 200
    · have q : ((200 : Int) < (l.length : Int)) = False := eq_false (by omega)
      simp only [go_sem, q]
      have hR : RefP σ1.next 0 [] [] [(σ1.next, Blk.cells [.int .i64 0, .slice none 0 (some 0) 3, .slice none 0 (some 0) 3] true)] := ⟨⟨by omega, by omega⟩, none, some 0, [], none, some 0, [], rfl, Vec.nil 3, Vec.nil 3⟩
      have hL : Rel ⟨g, f, 0, [], 0, [], 0⟩ 0 [] [] 0 := ⟨rfl, rfl, fun _ => rfl, by simp, by simp, by simp, by simp, by simp⟩
      have H2 := (H1.new (.cells [.int .i64 0, .slice none 0 (some 0) 3, .slice none 0 (some 0) 3] true)).down
      refine steps_loop hA hll (by omega) l.length 0 N _ 0 [] [] h1 _ _ (by omega) (by omega) W1 hR hL H2 ?_
      intro σ2 H3
      simp only [go_sem]
      refine moves_ok H3 (by omega) ?_
      intro σ3 H4
      simp only [go_sem]
      exact k _ H4
    · have q : ((200 : Int) < (l.length : Int)) = True := eq_true (by omega)
      simp only [go_sem, q]
      refine moves_ok H1 (by omega) ?_
      intro σ3 H4
      simp only [go_sem]
      exact k _ (any H4)
  · intro hbad
    have hbad' : (0 ≤ g ∧ g ≤ 4 ∧ 0 ≤ f ∧ f ≤ 3) = False := eq_false hbad
    simp only [go_sem, sright_eq, hbad']
    refine moves_ok H (by omega) ?_
    intro σ3 H4
    simp only [go_sem]
    exact k _ (any H4)

end Go.Proofs.Ytmgacgonoodkfaa
