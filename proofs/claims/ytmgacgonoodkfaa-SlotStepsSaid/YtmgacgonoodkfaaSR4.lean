/- The slot's reference: its certificate. -/
import Derived.Test.YtmgacgonoodkfaaSR3
namespace Go.Proofs.Ytmgacgonoodkfaa
open Go.AM
set_option maxRecDepth 100000
set_option linter.unusedSimpArgs false
set_option linter.unusedVariables false
variable {N d : Nat} {σ : St} {K : AV → St → Option Unit}

def rfirst (L : List Vo) (f p k : Int) : List Vo → Option (ByteArray × List (Nat × ByteArray))
  | [] => none
  | v :: M => if v.kd = k ∧ (k = 1 → v.no = p) ∧ 2 * f + 1 ≤ ((rtags L k v.text (3 * f + 1).toNat 0).length : Int) then some (v.text, rtags L k v.text (3 * f + 1).toNat 0) else rfirst L f p k M
def zc : List AV := [.str (ByteArray.mk #[]), .int .i64 0, .slice none 0 (some 0) 2]
theorem rtags_len (L : List Vo) (k : Int) (text : ByteArray) : ∀ m i, (rtags L k text m i).length ≤ m
  | 0, i => by simp [rtags]
  | m + 1, i => by
    have := rtags_len L k text m (i + 1)
    simp only [rtags]
    split
    · split
      · simp only [List.length_cons]; omega
      · omega
    · omega

theorem mv_one {h ht r : Hp} {x y : Nat × Blk} (H : HasH σ (h ++ (ht ++ (x :: y :: r)))) : HasH σ (y :: (h ++ (ht ++ r))) :=
  (H.sub (List.Sublist.append_left (List.Sublist.append_left (List.sublist_cons_self _ _) ht) h)).perm (by rw [← List.append_assoc, ← List.append_assoc h]; exact List.perm_middle)

theorem rcert_loop {w : Nat} {g f p : Int} {L : List Vo} {r hl : Hp} {o : Option (Nat × Nat)} {c : Option Nat} {J : KF Unit} {b2 : Nat} (hL : L.length ≤ 300) (hf0 : 0 ≤ f) (hf3 : f ≤ 3) (hN : 400 ≤ N) (k : Int)
    (hV : Vec 4 (.slice o L.length c 4) L.length (L.flatMap Vo.cells) hl) :
    ∀ (m i n : Nat) (σ : St), m + i = L.length → m < n →
      HasH σ ((b2, .cells zc true) :: (((w, .cells [.int .i64 g, .int .i64 f, .int .i64 p, .slice o L.length c 4] true) :: hl) ++ r)) →
      (∀ σ' text T oc cc ht, rfirst L f p k (L.drop i) = some (text, T) → Vec 2 (.slice oc T.length cc 2) T.length (tflat T) ht →
        HasH σ' ((b2, .cells [.str text, .int .i64 g, .slice oc T.length cc 2] true) :: (((w, .cells [.int .i64 g, .int .i64 f, .int .i64 p, .slice o L.length c 4] true) :: hl) ++ (ht ++ r))) → J .ret (f28e18 b2 true) σ' = some ()) →
      (∀ σ', rfirst L f p k (L.drop i) = none → HasH σ' ((b2, .cells zc true) :: (((w, .cells [.int .i64 g, .int .i64 f, .int .i64 p, .slice o L.length c 4] true) :: hl) ++ r)) → J (.exit 0) (f28e6 b2) σ' = some ()) →
      loopK (f28L7 (callK Try.prog N ann (d + 2)) N) f28a7 n J (f28e4 (some (w, 0)) k b2 o L.length c L.length i) σ = some () := by
  have hw2 : IntKind.i64.wrap (2 * f) = 2 * f := wrap_small (n := 2 * f) (by omega) (by omega)
  have hw3 : IntKind.i64.wrap (2 * f + 1) = 2 * f + 1 := wrap_small (n := 2 * f + 1) (by omega) (by omega)
  have hR : RefP w g f p L ((w, .cells [.int .i64 g, .int .i64 f, .int .i64 p, .slice o L.length c 4] true) :: hl) := ⟨o, c, hl, hV, rfl⟩
  intro m
  induction m with
  | zero =>
    intro i n σ hm hn H k1 k2
    obtain ⟨n, rfl⟩ : ∃ n', n = n' + 1 := ⟨n - 1, by omega⟩
    have h1 : ((i:Int) < L.length) = False := eq_false (by omega)
    rw [loopK_succ]
    simp only [go_sem, h1]
    exact k2 σ (by rw [List.drop_eq_nil_of_le (by omega)]; rfl) H
  | succ m ih =>
    intro i n σ hm hn H k1 k2
    obtain ⟨n, rfl⟩ : ∃ n', n = n' + 1 := ⟨n - 1, by omega⟩
    have h0 : ((0:Int) ≤ i) = True := eq_true (by omega)
    have h1 : ((i:Int) < L.length) = True := eq_true (by omega)
    have hti : ((i:Int)).toNat = i := by omega
    have hw1 : IntKind.i64.wrap ((i:Int) + 1) = (i:Int) + 1 := wrap_small (n := (i:Int) + 1) (by omega) (by omega)
    obtain ⟨v, hv⟩ : ∃ v, L[i]? = some v := ⟨_, List.getElem?_eq_getElem (by omega)⟩
    have hd : L.drop i = v :: L.drop (i + 1) := by
      rw [List.drop_eq_getElem_cons (by omega)]; congr 1; rw [List.getElem?_eq_getElem (by omega)] at hv; exact Option.some.inj hv
    obtain ⟨-, bl, junk, rfl, rfl, -⟩ := hV.row (by omega)
    obtain ⟨q0, q1, q2, q3⟩ := voat hv junk
    have hgb : σ.get bl = _ := H.tail.g2
    have nb : (bl = σ.next) = False := eq_false (by have := H.tail.tail.l1; omega)
    have nw : (w = σ.next) = False := eq_false (by have := H.tail.l1; omega)
    have hgw : σ.get w = _ := H.tail.g1
    have H2 := (H.new (.cells [.int .i64 0, .int .i64 0, .str (ByteArray.mk #[]), .str (ByteArray.mk #[])] true)).put (.cells v.cells true)
    have g1 := H2.g1
    simp only [Vo.cells] at g1
    rw [loopK_succ]
    simp only [go_sem, h1, h0, hti, hgb, nb, q0, q1, q2, q3]
    have skip : ∀ σ', rfirst L f p k (L.drop i) = rfirst L f p k (L.drop (i + 1)) → HasH σ' ((b2, .cells zc true) :: (((w, .cells [.int .i64 g, .int .i64 f, .int .i64 p, .slice (some (bl, 0)) L.length c 4] true) :: [(bl, .cells (L.flatMap Vo.cells ++ junk) true)]) ++ r)) →
        loopK (f28L7 (callK Try.prog N ann (d + 2)) N) f28a7 n J (f28e4 (some (w, 0)) k b2 (some (bl, 0)) L.length c L.length ((i:Int) + 1)) σ' = some () := by
      intro σ' e H'
      rw [e] at k1 k2
      exact ih (i + 1) n σ' (by omega) (by omega) H' k1 k2
    by_cases ck : v.kd = k
    · have ck' : (v.kd != k) = false := by simp [ck]
      by_cases cp : k = 1 → v.no = p
      · by_cases c1 : k = 1
        · have c1' : (k == 1) = true := by simp [c1]
          have cp' : (v.no != p) = false := by simp [cp c1]
          simp only [go_sem, g1, ck', c1', cp', hgw, nw]
          refine rgather_ok (r := (σ.next, .cells v.cells true) :: (b2, .cells zc true) :: r) hR hL hf0 hf3 (HasH.mid (h1 := [_, _]) (h2 := [_, _]) H2) hN k v.text ?_
          intro σ1 cv ht hcv H3
          obtain ⟨oc, cc, rfl, hT⟩ := hcv
          have H4 := (H3.new (.cells zc true)).put (.cells [.str v.text, .int .i64 g, .slice oc (rtags L k v.text (3 * f + 1).toNat 0).length cc 2] true)
          have gw1 : σ1.get w = _ := H3.g1
          have nw1 : (w = σ1.next) = False := eq_false (by have := H3.l1; omega)
          have H5 := mv_one H4.tail
          have Hb := mv_one H3
          have gb1 : σ1.get b2 = _ := Hb.g1
          have nb1 : (b2 = σ1.next) = False := eq_false (by have := Hb.l1; omega)
          have gc := H4.g1
          simp only [zc] at gb1 gc
          by_cases hle : 2 * f + 1 ≤ ((rtags L k v.text (3 * f + 1).toNat 0).length : Int)
          · have er : rfirst L f p k (L.drop i) = some (v.text, rtags L k v.text (3 * f + 1).toNat 0) := by rw [hd]; simp only [rfirst]; rw [if_pos ⟨ck, cp, hle⟩]
            simp only [go_sem, gc, gw1, nw1, hw2, hw3, hle, gb1, nb1, decide_true]
            exact k1 _ _ _ oc cc ht er hT (H5.put _)
          · have er : rfirst L f p k (L.drop i) = rfirst L f p k (L.drop (i + 1)) := by rw [hd]; simp only [rfirst]; rw [if_neg (fun h => hle h.2.2)]
            simp only [go_sem, gc, gw1, nw1, hw2, hw3, hle, gb1, nb1, hw1]
            exact skip _ er (H5.sub (List.Sublist.cons_cons _ (List.Sublist.append_left (List.sublist_append_right ht _) _)))
        · have c1' : (k == 1) = false := by simp [c1]
          simp only [go_sem, g1, ck', c1', hgw, nw]
          refine rgather_ok (r := (σ.next, .cells v.cells true) :: (b2, .cells zc true) :: r) hR hL hf0 hf3 (HasH.mid (h1 := [_, _]) (h2 := [_, _]) H2) hN k v.text ?_
          intro σ1 cv ht hcv H3
          obtain ⟨oc, cc, rfl, hT⟩ := hcv
          have H4 := (H3.new (.cells zc true)).put (.cells [.str v.text, .int .i64 g, .slice oc (rtags L k v.text (3 * f + 1).toNat 0).length cc 2] true)
          have gw1 : σ1.get w = _ := H3.g1
          have nw1 : (w = σ1.next) = False := eq_false (by have := H3.l1; omega)
          have H5 := mv_one H4.tail
          have Hb := mv_one H3
          have gb1 : σ1.get b2 = _ := Hb.g1
          have nb1 : (b2 = σ1.next) = False := eq_false (by have := Hb.l1; omega)
          have gc := H4.g1
          simp only [zc] at gb1 gc
          by_cases hle : 2 * f + 1 ≤ ((rtags L k v.text (3 * f + 1).toNat 0).length : Int)
          · have er : rfirst L f p k (L.drop i) = some (v.text, rtags L k v.text (3 * f + 1).toNat 0) := by rw [hd]; simp only [rfirst]; rw [if_pos ⟨ck, cp, hle⟩]
            simp only [go_sem, gc, gw1, nw1, hw2, hw3, hle, gb1, nb1, decide_true]
            exact k1 _ _ _ oc cc ht er hT (H5.put _)
          · have er : rfirst L f p k (L.drop i) = rfirst L f p k (L.drop (i + 1)) := by rw [hd]; simp only [rfirst]; rw [if_neg (fun h => hle h.2.2)]
            simp only [go_sem, gc, gw1, nw1, hw2, hw3, hle, gb1, nb1, hw1]
            exact skip _ er (H5.sub (List.Sublist.cons_cons _ (List.Sublist.append_left (List.sublist_append_right ht _) _)))
      · have c1 : k = 1 := Classical.byContradiction fun h => cp fun h' => absurd h' h
        have cp2 : ¬ v.no = p := fun h => cp fun _ => h
        have cp' : (v.no != p) = true := by simp [cp2]
        have c1' : (k == 1) = true := by simp [c1]
        simp only [go_sem, g1, ck', c1', cp', hgw, nw, hw1]
        exact skip _ (by rw [hd]; simp only [rfirst]; rw [if_neg (fun h => cp h.2.1)]) H2.tail
    · have ck' : (v.kd != k) = true := by simp [ck]
      simp only [go_sem, g1, ck', hw1]
      exact skip _ (by rw [hd]; simp only [rfirst]; rw [if_neg (fun h => ck h.1)]) H2.tail

theorem rcert_ok {w : Nat} {g f p : Int} {L : List Vo} {h r : Hp} (hR : RefP w g f p L h) (hL : L.length ≤ 300) (hf0 : 0 ≤ f) (hf3 : f ≤ 3) (H : HasH σ (h ++ r)) (hN : 400 ≤ N) (k : Int)
    (kont : ∀ σ' v ht, CertR g (rfirst L f p k L) v ht → HasH σ' (h ++ (ht ++ r)) → K (.tuple [v, .bool (rfirst L f p k L).isSome]) σ' = some ()) :
    callK Try.prog N ann (d + 3) 28 [.ptr (some (w, 0)), .int .i64 k] σ K = some () := by
  obtain ⟨o, c, hl, hV, rfl⟩ := hR
  have hg : σ.get w = _ := H.g1
  have nw : (w = σ.next) = False := eq_false (by have := H.l1; omega)
  have H1 := H.new (.cells zc true)
  rw [callK_succ, f28_eq]
  simp only [go_sem, hg, nw]
  refine rcert_loop (hl := hl) hL hf0 hf3 hN k hV L.length 0 N _ (by omega) (by omega) H1 ?_ ?_
  · intro σ' text T oc cc ht e hT H'
    rw [List.drop_zero] at e
    rw [e] at kont
    have g1 := H'.g1
    simp only [go_sem, g1]
    exact kont σ' _ ht ⟨oc, cc, rfl, hT⟩ H'.tail
  · intro σ' e H'
    rw [List.drop_zero] at e
    rw [e] at kont
    have g1 := H'.g1
    simp only [zc] at g1
    simp only [go_sem, g1]
    exact kont _ _ [] ⟨none, some 0, rfl, by simpa [tflat] using Vec.nil 2⟩ (H'.put _).tail

end Go.Proofs.Ytmgacgonoodkfaa
