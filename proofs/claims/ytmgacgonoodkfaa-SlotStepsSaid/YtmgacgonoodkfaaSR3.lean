/- The slot's reference: the votes of a text. -/
import Derived.Test.YtmgacgonoodkfaaSR2
namespace Go.Proofs.Ytmgacgonoodkfaa
open Go.AM
set_option maxRecDepth 100000
set_option linter.unusedSimpArgs false
set_option linter.unusedVariables false
variable {N d : Nat} {σ : St} {K : AV → St → Option Unit}

def rtags (L : List Vo) (k : Int) (text : ByteArray) : Nat → Nat → List (Nat × ByteArray)
  | 0, _ => []
  | m + 1, i => match rown L k i with
    | some v => if v.text = text then (i, v.tag) :: rtags L k text m (i + 1) else rtags L k text m (i + 1)
    | none => rtags L k text m (i + 1)

theorem rgather_loop {w : Nat} {g f p : Int} {L : List Vo} {h r : Hp} {J : KF Unit} {rb cb : Nat} {text : ByteArray} (hR : RefP w g f p L h) (hL : L.length ≤ 300) (hf0 : 0 ≤ f) (hf3 : f ≤ 3) (hN : 400 ≤ N) (k : Int) :
    ∀ (m i n : Nat) (T : List (Nat × ByteArray)) (o : Option (Nat × Nat)) (c : Option Nat) (ht : Hp) (σ : St), m + i = (3 * f + 1).toNat → m < n → T.length ≤ i →
      Vec 2 (.slice o T.length c 2) T.length (tflat T) ht →
      HasH σ ((cb, .cells [.str text, .int .i64 g, .slice o T.length c 2] true) :: (ht ++ (h ++ r))) →
      (∀ σ' o' c' ht', Vec 2 (.slice o' (T ++ rtags L k text m i).length c' 2) (T ++ rtags L k text m i).length (tflat (T ++ rtags L k text m i)) ht' →
        HasH σ' ((cb, .cells [.str text, .int .i64 g, .slice o' (T ++ rtags L k text m i).length c' 2] true) :: (ht' ++ (h ++ r))) → J (.exit 0) (f49e7 rb cb) σ' = some ()) →
      loopK (f49L9 (callK Try.prog N ann (d + 1)) N) f49a9 n J (f49e4 (some (w, 0)) k text rb cb i) σ = some () := by
  have hR' := hR
  obtain ⟨o1, c1, hl, hV, rfl⟩ := hR'
  have hw3 : IntKind.i64.wrap (3 * f) = 3 * f := wrap_small (n := 3 * f) (by omega) (by omega)
  intro m
  induction m with
  | zero =>
    intro i n T o c ht σ hm hn hc hT H kont
    obtain ⟨n, rfl⟩ : ∃ n', n = n' + 1 := ⟨n - 1, by omega⟩
    have h1 : ((i:Int) ≤ 3 * f) = False := eq_false (by omega)
    have hg : σ.get w = _ := H.tail.right.g1
    rw [loopK_succ]
    simp only [go_sem, hg, hw3, h1]
    have := kont σ o c ht
    simp only [rtags, List.append_nil] at this
    exact this hT H
  | succ m ih =>
    intro i n T o c ht σ hm hn hc hT H kont
    obtain ⟨n, rfl⟩ : ∃ n', n = n' + 1 := ⟨n - 1, by omega⟩
    have h1 : ((i:Int) ≤ 3 * f) = True := eq_true (by omega)
    have hw1 : IntKind.i64.wrap ((i:Int) + 1) = (i:Int) + 1 := wrap_small (n := (i:Int) + 1) (by omega) (by omega)
    have hg : σ.get w = _ := H.tail.right.g1
    rw [loopK_succ]
    simp only [go_sem, hg, hw3, h1]
    refine rown_ok hR hL (HasH.mid (h1 := _ :: ht) H) hN k i ?_
    intro σ1 H1
    have H1 := HasH.mid (h2 := _ :: ht) H1
    cases hv : rown L k i with
    | none =>
      have e : rtags L k text (m + 1) i = rtags L k text m (i + 1) := by simp [rtags, hv]
      rw [e] at kont
      simp only [go_sem, Vo.cells, vo0, Option.getD_none, Option.isSome_none, hw1]
      exact ih (i + 1) n T o c ht _ (by omega) (by omega) (by omega) hT (((H1.new _).put _).tail) kont
    | some v =>
      have H2 := (H1.new (.cells vo0.cells true)).put (.cells v.cells true)
      have gv := H2.g1
      have gc := H2.g2
      simp only [Vo.cells, vo0] at gv gc
      by_cases hx : v.text = text
      · have e : rtags L k text (m + 1) i = (i, v.tag) :: rtags L k text m (i + 1) := by simp [rtags, hv, hx]
        obtain ⟨o', c', σ', h', happ, hv', H'⟩ := hT.app (bytes := 24) (k := 1) (news := [.int .i64 i, .str v.tag]) ((H2.tail.new' (.cells [.int .i64 i, .str v.tag] true)).down) (by decide) (by decide) rfl (by omega)
        have hg' := H'.up.g1
        have hx' : (v.text = text) = True := eq_true hx
        have nc : (cb = σ1.next) = False := eq_false (by have := H1.l1; omega)
        have nc2 : (cb = σ1.next + 1) = False := eq_false (by have := H1.l1; omega)
        have gcb : σ1.get cb = _ := H1.g1
        simp only [Vo.cells, vo0] at happ
        simp only [go_sem, Vo.cells, vo0, Option.getD_some, Option.isSome_some, gv, gc, hx', decide_true, hw1, nc, nc2, gcb, elems_pos (show 1 ≠ 0 by decide), happ, hg']
        have hl2 : (T ++ [(i, v.tag)]).length = T.length + 1 := by simp
        exact ih (i + 1) n (T ++ [(i, v.tag)]) o' c' h' _ (by omega) (by omega) (by omega) (by rw [hl2]; simpa [tflat, tcells] using hv') (by rw [hl2]; exact H'.up.put _) (by
          rw [List.append_assoc, List.singleton_append, ← e]; exact kont)
      · have e : rtags L k text (m + 1) i = rtags L k text m (i + 1) := by simp [rtags, hv, hx]
        have hx' : (v.text = text) = False := eq_false hx
        rw [e] at kont
        simp only [go_sem, Vo.cells, vo0, Option.getD_some, Option.isSome_some, gv, gc, hx', hw1]
        exact ih (i + 1) n T o c ht _ (by omega) (by omega) (by omega) hT H2.tail kont

theorem rgather_ok {w : Nat} {g f p : Int} {L : List Vo} {h r : Hp} (hR : RefP w g f p L h) (hL : L.length ≤ 300) (hf0 : 0 ≤ f) (hf3 : f ≤ 3) (H : HasH σ (h ++ r)) (hN : 400 ≤ N) (k : Int) (text : ByteArray)
    (kont : ∀ σ' v ht, CertV g text (rtags L k text (3 * f + 1).toNat 0) v ht → HasH σ' (h ++ (ht ++ r)) → K v σ' = some ()) :
    callK Try.prog N ann (d + 2) 49 [.ptr (some (w, 0)), .int .i64 k, .str text] σ K = some () := by
  have hR' := hR
  obtain ⟨o1, c1, hl, hV, rfl⟩ := hR'
  have hg : σ.get w = _ := H.g1
  have nw : (w = σ.next) = False := eq_false (by have := H.l1; omega)
  have nw1 : (w = σ.next + 1) = False := eq_false (by have := H.l1; omega)
  have H1 := ((H.new (.cells [.str (ByteArray.mk #[]), .int .i64 0, .slice none 0 (some 0) 2] true)).new (.cells [.str (ByteArray.mk #[]), .int .i64 0, .slice none 0 (some 0) 2] true)).put (.cells [.str text, .int .i64 g, .slice none 0 (some 0) 2] true)
  rw [callK_succ, f49_eq]
  simp only [go_sem, hg, nw, nw1]
  refine rgather_loop (r := (σ.next, .cells [.str (ByteArray.mk #[]), .int .i64 0, .slice none 0 (some 0) 2] true) :: r) hR hL hf0 hf3 hN k (3 * f + 1).toNat 0 N [] none (some 0) [] _ (by omega) (by omega) (by simp) (by simpa [tflat] using Vec.nil 2) (H1.perm (List.Perm.cons _ List.perm_middle.symm)) ?_
  intro σ' o' c' ht' hV' H'
  simp only [List.nil_append] at hV' H'
  have gc := H'.g1
  have H3 : HasH σ' ((σ.next, .cells [.str (ByteArray.mk #[]), .int .i64 0, .slice none 0 (some 0) 2] true) :: (((w, .cells [.int .i64 g, .int .i64 f, .int .i64 p, .slice o1 L.length c1 4] true) :: hl) ++ (ht' ++ r))) :=
    (HasH.mid (h1 := ht') (h2 := _ :: hl) H'.tail).perm (by rw [← List.append_assoc, ← List.append_assoc (_ :: hl)]; exact List.perm_middle)
  have H4 := H3.put (.cells [.str text, .int .i64 g, .slice o' (rtags L k text (3 * f + 1).toNat 0).length c' 2] true)
  have gr := H3.g1
  simp only [go_sem, gc, gr]
  exact kont _ _ ht' ⟨o', c', rfl, hV'⟩ H4.tail

end Go.Proofs.Ytmgacgonoodkfaa
