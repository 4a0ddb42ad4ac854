/- The slot's reference: how many votes, and a vote. -/
import Derived.Test.YtmgacgonoodkfaaSR1
namespace Go.Proofs.Ytmgacgonoodkfaa
open Go.AM
set_option maxRecDepth 100000
set_option linter.unusedSimpArgs false
set_option linter.unusedVariables false
variable {N d : Nat} {σ : St} {K : AV → St → Option Unit}

theorem rcnt_loop {L : List Vo} {o : Option (Nat × Nat)} {c : Option Nat} {hl r : Hp} {J : KF Unit} (hL : L.length ≤ 300) (hV : Vec 4 (.slice o L.length c 4) L.length (L.flatMap Vo.cells) hl) (k : Int) :
    ∀ (m i n : Nat) (σ : St) (q : Nat), m + i = L.length → m < n → q ≤ i → HasH σ (hl ++ r) →
      (∀ σ', HasH σ' (hl ++ r) → J (.exit 0) (f32e6 ((q + rcnt (L.drop i) k : Nat) : Int)) σ' = some ()) →
      loopK (f32L9 (callK Try.prog N ann d) N) f32a9 n J (f32e4 k (q : Int) o L.length c L.length i) σ = some () := by
  intro m
  induction m with
  | zero =>
    intro i n σ q hm hn hq H kont
    obtain ⟨n, rfl⟩ : ∃ n', n = n' + 1 := ⟨n - 1, by omega⟩
    have h1 : ((i:Int) < L.length) = False := eq_false (by omega)
    rw [loopK_succ]
    simp only [go_sem, h1]
    rw [List.drop_eq_nil_of_le (by omega)] at kont
    exact kont σ H
  | succ m ih =>
    intro i n σ q hm hn hq H kont
    obtain ⟨n, rfl⟩ : ∃ n', n = n' + 1 := ⟨n - 1, by omega⟩
    have h0 : ((0:Int) ≤ i) = True := eq_true (by omega)
    have h1 : ((i:Int) < L.length) = True := eq_true (by omega)
    have hti : ((i:Int)).toNat = i := by omega
    have hw1 : IntKind.i64.wrap ((i:Int) + 1) = (i:Int) + 1 := wrap_small (n := (i:Int) + 1) (by omega) (by omega)
    have hw2 : IntKind.i64.wrap ((q:Int) + 1) = ((q + 1 : Nat) : Int) := wrap_small (n := ((q + 1 : Nat) : Int)) (by omega) (by omega)
    obtain ⟨v, hv⟩ : ∃ v, L[i]? = some v := ⟨_, List.getElem?_eq_getElem (by omega)⟩
    have hd : L.drop i = v :: L.drop (i + 1) := by
      rw [List.drop_eq_getElem_cons (by omega)]; congr 1; rw [List.getElem?_eq_getElem (by omega)] at hv; exact Option.some.inj hv
    obtain ⟨-, bl, junk, rfl, rfl, -⟩ := hV.row (by omega)
    obtain ⟨q0, q1, q2, q3⟩ := voat hv junk
    have hgb : σ.get bl = _ := H.g1
    have nb : (bl = σ.next) = False := eq_false (by have := H.l1; omega)
    have H2 := (H.new (.cells [.int .i64 0, .int .i64 0, .str (ByteArray.mk #[]), .str (ByteArray.mk #[])] true)).put (.cells v.cells true)
    have g1 := H2.g1
    simp only [Vo.cells] at g1
    rw [loopK_succ]
    simp only [go_sem, h1, h0, hti, hgb, nb, q0, q1, q2, q3]
    by_cases ck : v.kd = k
    · subst ck
      have e : q + rcnt (L.drop i) v.kd = (q + 1) + rcnt (L.drop (i + 1)) v.kd := by rw [hd]; simp [rcnt]; omega
      rw [e] at kont
      simp only [go_sem, g1, decide_true, hw1, hw2]
      exact ih (i + 1) n _ (q + 1) (by omega) (by omega) (by omega) H2.tail kont
    · have ck' : (v.kd == k) = false := by simpa using ck
      have e : rcnt (L.drop i) k = rcnt (L.drop (i + 1)) k := by rw [hd]; simp [rcnt, ck']
      rw [e] at kont
      simp only [go_sem, g1, ck', hw1]
      exact ih (i + 1) n _ q (by omega) (by omega) (by omega) H2.tail kont

theorem rcnt_ok {w : Nat} {g f p : Int} {L : List Vo} {h r : Hp} (hR : RefP w g f p L h) (hL : L.length ≤ 300) (H : HasH σ (h ++ r)) (hN : 400 ≤ N) (k : Int)
    (kont : ∀ σ', HasH σ' (h ++ r) → K (.int .i64 (rcnt L k : Nat)) σ' = some ()) :
    callK Try.prog N ann (d + 1) 32 [.ptr (some (w, 0)), .int .i64 k] σ K = some () := by
  obtain ⟨o, c, hl, hV, rfl⟩ := hR
  have hg : σ.get w = _ := H.g1
  rw [callK_succ, f32_eq]
  simp only [go_sem, hg]
  refine rcnt_loop (hl := hl) (r := (w, _) :: r) hL hV k L.length 0 N _ 0 (by omega) (by omega) (by omega) (H.perm List.perm_middle.symm) ?_
  intro σ' H'
  rw [List.drop_zero, Nat.zero_add]
  simp only [go_sem]
  exact kont σ' (H'.perm List.perm_middle)

def rvoteF (f : Int) (v : Vo) : Int :=
  if kindB v.kd = false ∨ v.no < 0 ∨ 3 * f < v.no then 1 else if 30000 < v.text.size then 2 else if v.tag.size ≠ 16 then 4 else 0
def rvoteC (f : Int) (L : List Vo) (v : Vo) : Bool := decide (rvoteF f v = 0) && !(rown L v.kd v.no).isSome
def rvoteL (f : Int) (L : List Vo) (v : Vo) : List Vo := if rvoteC f L v = true then L ++ [v] else L

theorem rvote_ok {w : Nat} {g f p : Int} {L : List Vo} {h r : Hp} (hR : RefP w g f p L h) (hL : L.length ≤ 300) (hf0 : 0 ≤ f) (hf3 : f ≤ 3) (H : HasH σ (h ++ r)) (hN : 400 ≤ N) (v : Vo)
    (kont : ∀ σ' h', RefP w g f p (rvoteL f L v) h' → HasH σ' (h' ++ r) → K (.tuple [.bool (rvoteC f L v), .int .i64 (rvoteF f v)]) σ' = some ()) :
    callK Try.prog N ann (d + 2) 25 [.ptr (some (w, 0)), .agg v.cells] σ K = some () := by
  have hR' := hR
  obtain ⟨o, c, hl, hV, rfl⟩ := hR
  have H1 := H.new (.cells v.cells true)
  have g1 := H1.g1
  have hg : σ.get w = _ := H.g1
  have nw : (w = σ.next) = False := eq_false (by have := H.l1; omega)
  have hw : IntKind.i64.wrap (3 * f) = 3 * f := wrap_small (n := 3 * f) (by omega) (by omega)
  have hbad : rvoteF f v ≠ 0 → HasH (σ.new (.cells v.cells true)) ((w, .cells [.int .i64 g, .int .i64 f, .int .i64 p, .slice o L.length c 4] true) :: hl ++ r) → K (.tuple [.bool false, .int .i64 (rvoteF f v)]) (σ.new (.cells v.cells true)) = some () := by
    intro hne HH
    have e : rvoteC f L v = false := by simp [rvoteC, hne]
    have := kont _ _ (by rw [show rvoteL f L v = L by simp [rvoteL, e]]; exact hR') HH
    rwa [e] at this
  simp only [Vo.cells] at g1 hbad
  rw [callK_succ, Vo.cells, f25_eq]
  by_cases c1 : v.kd < 1
  · have e : rvoteF f v = 1 := by unfold rvoteF kindB; rw [if_pos (.inl (by simp; omega))]
    simp only [go_sem, g1, c1]
    rw [e] at hbad
    exact hbad (by decide) H1.tail
  by_cases c2 : 2 < v.kd
  · have e : rvoteF f v = 1 := by unfold rvoteF kindB; rw [if_pos (.inl (by simp; omega))]
    simp only [go_sem, g1, c1, c2]
    rw [e] at hbad
    exact hbad (by decide) H1.tail
  have hkb : kindB v.kd = true := by unfold kindB; simp; omega
  by_cases c3 : v.no < 0
  · have e : rvoteF f v = 1 := by unfold rvoteF; rw [if_pos (.inr (.inl c3))]
    simp only [go_sem, g1, c1, c2, c3]
    rw [e] at hbad
    exact hbad (by decide) H1.tail
  by_cases c4 : 3 * f < v.no
  · have e : rvoteF f v = 1 := by unfold rvoteF; rw [if_pos (.inr (.inr c4))]
    simp only [go_sem, g1, c1, c2, c3, hg, nw, hw, c4]
    rw [e] at hbad
    exact hbad (by decide) H1.tail
  have hif : ¬ (kindB v.kd = false ∨ v.no < 0 ∨ 3 * f < v.no) := by rw [hkb]; simp; omega
  by_cases c5 : 30000 < (v.text.size : Int)
  · have e : rvoteF f v = 2 := by unfold rvoteF; rw [if_neg hif, if_pos (by omega)]
    simp only [go_sem, g1, c1, c2, c3, hg, nw, hw, c4, c5]
    rw [e] at hbad
    exact hbad (by decide) H1.tail
  by_cases c6 : (v.tag.size : Int) = 16
  · have e : rvoteF f v = 0 := by unfold rvoteF; rw [if_neg hif, if_neg (by omega), if_neg (by omega)]
    have c6' : ((v.tag.size : Int) != 16) = false := by simp [c6]
    rw [e] at kont
    simp only [go_sem, g1, c1, c2, c3, hg, nw, hw, c4, c5, c6']
    refine rown_ok hR' hL (H1.down) hN v.kd v.no ?_
    intro σ2 H2
    have gv2 := H2.right.g1
    simp only [Vo.cells] at gv2
    cases hown : rown L v.kd v.no with
    | some u =>
      have eC : rvoteC f L v = false := by simp [rvoteC, hown]
      have eL : rvoteL f L v = L := by simp [rvoteL, eC]
      rw [eC, eL] at kont
      simp only [go_sem, Vo.cells, Option.getD_some, Option.isSome_some]
      exact kont _ _ hR' (((H2.new _).dead _).sub (List.Sublist.append_left (List.sublist_cons_self _ _) _))
    | none =>
      have eC : rvoteC f L v = true := by simp [rvoteC, hown, e]
      have eL : rvoteL f L v = L ++ [v] := by simp [rvoteL, eC]
      rw [eC, eL] at kont
      have hg2 : σ2.get w = _ := H2.g1
      have nw2 : (w = σ2.next) = False := eq_false (by have := H2.l1; omega)
      have nw3 : (w = σ2.next + 1) = False := eq_false (by have := H2.l1; omega)
      have nv2 : (σ.next = σ2.next) = False := eq_false (by have := H2.right.l1; omega)
      have nv3 : (σ.next = σ2.next + 1) = False := eq_false (by have := H2.right.l1; omega)
      have H3 := (((H2.new (.cells vo0.cells true)).put (.cells vo0.cells true)).tail)
      obtain ⟨o', c', σ', h', happ, hv', H'⟩ := hV.app (bytes := 48) (k := 1) (news := v.cells) ((H3.new' (.cells v.cells true)).perm List.perm_middle.symm) (by decide) (by decide) rfl (by omega)
      have hg' := H'.right.g1
      simp only [Vo.cells, vo0] at happ
      simp only [go_sem, Vo.cells, vo0, Option.getD_none, Option.isSome_none, gv2, hg2, nw2, nw3, nv2, nv3, elems_pos (show 1 ≠ 0 by decide), happ, hg']
      have hl' : (L ++ [v]).length = L.length + 1 := by simp
      have hfm : (L ++ [v]).flatMap Vo.cells = L.flatMap Vo.cells ++ v.cells := by simp
      exact kont _ _ ⟨o', c', h', by rw [hl', hfm]; exact hv', rfl⟩ (by rw [hl']; exact (H'.up.put _).dropMid)
  · have e : rvoteF f v = 4 := by unfold rvoteF; rw [if_neg hif, if_neg (by omega), if_pos (by omega)]
    have c6' : ((v.tag.size : Int) != 16) = true := by simpa using c6
    simp only [go_sem, g1, c1, c2, c3, hg, nw, hw, c4, c5, c6']
    rw [e] at hbad
    exact hbad (by decide) H1.tail

end Go.Proofs.Ytmgacgonoodkfaa
