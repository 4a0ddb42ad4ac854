/- What a slot's functions do: the certificate. -/
import Derived.Test.YtmgacgonoodkfaaSS4
namespace Go.Proofs.Ytmgacgonoodkfaa
open Go.AM
set_option maxRecDepth 100000
set_option linter.unusedSimpArgs false
set_option linter.unusedVariables false
variable {N d : Nat} {σ : St} {K : AV → St → Option Unit}

def Slt.first (x : Slt) : List Vt → Option (ByteArray × List (Nat × ByteArray))
  | [] => none
  | v :: V => if v.there = true then (match x.gather 2 v.text with | some T => some (v.text, T) | none => x.first V) else x.first V
def Slt.cert (x : Slt) (k : Int) : Option (ByteArray × List (Nat × ByteArray)) :=
  if k = 1 then (if (x.at 1 x.p).there = true then (x.gather 1 (x.at 1 x.p).text).map fun T => ((x.at 1 x.p).text, T) else none)
  else if k = 2 then x.first x.V2 else none
/-- A certificate that is handed back, or none. -/
def CertR (g : Int) (c : Option (ByteArray × List (Nat × ByteArray))) (v : AV) (ht : Hp) : Prop :=
  match c with | some (text, T) => CertV g text T v ht | none => CertV 0 (ByteArray.mk #[]) [] v ht

theorem cert_nil {r : Hp} (H : HasH σ r) (k : Int) (kont : ∀ σ' v, (∃ ht, CertV 0 (ByteArray.mk #[]) [] v ht) → HasH σ' r → K (.tuple [v, .bool false]) σ' = some ()) :
    callK Try.prog N ann (d + 1) 21 [.ptr none, .int .i64 k] σ K = some () := by
  rw [callK_succ, f21_eq]
  simp only [go_sem]
  exact kont _ _ ⟨[], none, some 0, rfl, by simpa [tflat] using Vec.nil 2⟩ ((H.new _).dead _)

theorem cert_loop {s rb : Nat} {x : Slt} {h r : Hp} {J : KF Unit} (hS : SlotP s x h) (hN : 100 ≤ N) {o0 : Option (Nat × Nat)} {b2 : Nat} (hb : (b2, .cells (vflat x.V2) true) ∈ h) {c0 : Option Nat} :
    ∀ (m i n : Nat) (σ : St), m + i = x.V2.length → m < n → HasH σ ((rb, .cells [.str (ByteArray.mk #[]), .int .i64 0, .slice none 0 (some 0) 2] true) :: (h ++ r)) →
      (∀ σ' text T o c ht, x.first (x.V2.drop i) = some (text, T) → Vec 2 (.slice o T.length c 2) T.length (tflat T) ht → HasH σ' ((rb, .cells [.str text, .int .i64 x.g, .slice o T.length c 2] true) :: (h ++ (ht ++ r))) → J .ret (f21e7 rb true) σ' = some ()) →
      (x.first (x.V2.drop i) = none → ∀ σ', HasH σ' ((rb, .cells [.str (ByteArray.mk #[]), .int .i64 0, .slice none 0 (some 0) 2] true) :: (h ++ r)) → J (.exit 1) (f21e20 rb) σ' = some ()) →
      loopK (f21L32 (callK Try.prog N ann (d + 1)) N) f21a32 n J (f21e18 (some (s, 0)) 2 rb (some (b2, 0)) x.V2.length c0 x.V2.length i) σ = some () := by
  have hlen : x.V2.length ≤ 50 := by obtain ⟨f0, f3, _, _, _, _, l2⟩ := hS.1; omega
  intro m
  induction m with
  | zero =>
    intro i n σ hm hn H kr kn
    obtain ⟨n, rfl⟩ : ∃ n', n = n' + 1 := ⟨n - 1, by omega⟩
    have h1 : ((i:Int) < x.V2.length) = False := eq_false (by omega)
    rw [loopK_succ]
    simp only [go_sem, h1]
    exact kn (by rw [List.drop_eq_nil_of_le (by omega)]; rfl) σ H
  | succ m ih =>
    intro i n σ hm hn H kr kn
    obtain ⟨n, rfl⟩ : ∃ n', n = n' + 1 := ⟨n - 1, by omega⟩
    have h0 : ((0:Int) ≤ i) = True := eq_true (by omega)
    have h1 : ((i:Int) < x.V2.length) = True := eq_true (by omega)
    have hti : ((i:Int)).toNat = i := by omega
    have hw1 : IntKind.i64.wrap ((i:Int) + 1) = (i:Int) + 1 := wrap_small (n := (i:Int) + 1) (by omega) (by omega)
    obtain ⟨v, hv⟩ : ∃ v, x.V2[i]? = some v := ⟨_, List.getElem?_eq_getElem (by omega)⟩
    obtain ⟨q0, q1, q2⟩ := vat hv
    have hd : x.V2.drop i = v :: x.V2.drop (i + 1) := by
      rw [List.drop_eq_getElem_cons (by omega)]; congr 1; rw [List.getElem?_eq_getElem (by omega)] at hv; exact Option.some.inj hv
    have hgk : σ.get b2 = some (.cells (vflat x.V2) true) := H.get (b2, _) (List.mem_cons_of_mem _ (List.mem_append_left _ hb))
    have nk : (b2 = σ.next) = False := eq_false (by have := H.lt (b2, .cells (vflat x.V2) true) (List.mem_cons_of_mem _ (List.mem_append_left _ hb)); simp only at this; omega)
    have H2 := (H.new (.cells Vt.zero.cells true)).put (.cells v.cells true)
    rw [loopK_succ]
    simp only [go_sem, h1, h0, hti, hgk, q0, q1, q2, nk]
    refine gather_ok hS (HasH.mid (h1 := [_, _]) H2) hN 2 (.inr rfl) v.text ?_
    intro σ1 c ht hc H3
    have gv : σ1.get σ.next = _ := H3.right.right.g1
    simp only [Vt.cells] at gv
    have nv : (σ.next = σ1.next) = False := eq_false (by have := H3.right.right.l1; omega)
    have gr : σ1.get rb = _ := H3.right.right.g2
    have nr : (rb = σ1.next) = False := eq_false (by have := H3.right.right.l2; omega)
    have H4 := fun w => (H3.new (.cells [.str (ByteArray.mk #[]), .int .i64 0, .slice none 0 (some 0) 2] true)).put (.cells w true)
    have H5 := fun w => HasH.mid4 (h1 := h) (h2 := ht) (h3 := [_]) (h4 := [_]) (H4 w).tail
    have H6 := fun w => (H5 w).sub (List.Sublist.cons_cons _ (List.Sublist.append_left ((List.sublist_append_right [_] r).trans (List.sublist_append_right ht _)) h))
    have go := fun (e : x.first (x.V2.drop i) = x.first (x.V2.drop (i + 1))) w => ih (i + 1) n _ (by omega) (by omega) (H6 w) (by rw [← e]; exact kr) (by rw [← e]; exact kn)
    cases hg : x.gather 2 v.text with
    | none =>
      rw [hg] at hc
      obtain ⟨o, cp, rfl, hT⟩ := hc
      have e : x.first (x.V2.drop i) = x.first (x.V2.drop (i + 1)) := by rw [hd]; simp [Slt.first, hg]
      cases hth : v.there with
      | false =>
        simp only [go_sem, gv, hth, nv, hw1]
        exact go e _
      | true =>
        simp only [go_sem, gv, hth, nv, hw1]
        exact go e _
    | some T =>
      rw [hg] at hc
      obtain ⟨o, cp, rfl, hT⟩ := hc
      cases hth : v.there with
      | false =>
        have e : x.first (x.V2.drop i) = x.first (x.V2.drop (i + 1)) := by rw [hd]; simp [Slt.first, hth]
        simp only [go_sem, gv, hth, nv, hw1]
        exact go e _
      | true =>
        have e : x.first (x.V2.drop i) = some (v.text, T) := by rw [hd]; simp [Slt.first, hth, hg]
        simp only [go_sem, gv, hth, nv, gr, nr]
        refine kr _ v.text T o cp ht e hT ?_
        exact ((H5 _).put _).sub (List.Sublist.cons_cons _ (List.Sublist.append_left (List.Sublist.append_left (List.sublist_append_right [_] r) ht) h))

theorem cert_ok {s : Nat} {x : Slt} {h r : Hp} (hS : SlotP s x h) (H : HasH σ (h ++ r)) (hN : 100 ≤ N) (k : Int)
    (kont : ∀ σ' v ht, CertR x.g (x.cert k) v ht → HasH σ' (h ++ (ht ++ r)) → K (.tuple [v, .bool (x.cert k).isSome]) σ' = some ()) :
    callK Try.prog N ann (d + 4) 21 [.ptr (some (s, 0)), .int .i64 k] σ K = some () := by
  have H1 := H.new (.cells [.str (ByteArray.mk #[]), .int .i64 0, .slice none 0 (some 0) 2] true)
  rw [callK_succ, f21_eq]
  have none_ok : x.cert k = none → ∀ σ', HasH σ' (h ++ r) → K (.tuple [.agg [.str (ByteArray.mk #[]), .int .i64 0, .slice none 0 (some 0) 2], .bool false]) σ' = some () := by
    intro e σ' H'
    rw [e] at kont
    exact kont σ' _ [] ⟨none, some 0, rfl, by simpa [tflat] using Vec.nil 2⟩ H'
  by_cases hk : ¬ (k = 1 ∨ k = 2)
  · have hkd : kindB k = false := by simpa [kindB] using hk
    have e : x.cert k = none := by unfold Slt.cert; rw [if_neg (by omega), if_neg (by omega)]
    simp only [go_sem, kinds_eq, hkd]
    exact none_ok e _ (H1.dead _)
  have hk := Classical.not_not.1 hk
  have hkd : kindB k = true := by simpa [kindB] using hk
  rcases hk with rfl | rfl
  · simp only [go_sem, kinds_eq, hkd]
    refine proposal_ok hS H1.down ?_
    intro σ1 H2
    cases ht : (x.at 1 x.p).there with
    | false =>
      have e : x.cert 1 = none := by unfold Slt.cert; rw [if_pos rfl, ht]; rfl
      have gr := H2.up.g1
      simp only [go_sem, gr]
      exact none_ok e _ (by first | exact H2.up.tail | exact (H2.up.put _).tail)
    | true =>
      simp only [go_sem]
      refine gather_ok hS H2 hN 1 (.inl rfl) _ ?_
      intro σ2 v htt hv H3
      have e : x.cert 1 = (x.gather 1 (x.at 1 x.p).text).map fun T => ((x.at 1 x.p).text, T) := by unfold Slt.cert; rw [if_pos rfl, ht]; rfl
      have gr := H3.right.right.g1
      have H4 := fun w => ((HasH.mid3 (h1 := h) (h2 := htt) (h3 := [_]) H3).put (.cells w true)).tail
      cases hgt : x.gather 1 (x.at 1 x.p).text with
      | none =>
        rw [hgt] at hv e
        obtain ⟨o, c, rfl, hT⟩ := hv
        rw [e] at kont
        simp only [go_sem, gr]
        exact kont _ _ htt ⟨o, c, rfl, hT⟩ (H4 _)
      | some T =>
        rw [hgt] at hv e
        obtain ⟨o, c, rfl, hT⟩ := hv
        rw [e] at kont
        simp only [go_sem, gr]
        exact kont _ _ htt ⟨o, c, rfl, hT⟩ (H4 _)
  · have hS' := hS
    obtain ⟨ho, b0, b1, b2, rfl⟩ := hS
    have hlen : x.V2.length ≤ 50 := by obtain ⟨f0, f3, _, _, _, _, l2⟩ := ho; omega
    have gs : (σ.new (.cells [.str (ByteArray.mk #[]), .int .i64 0, .slice none 0 (some 0) 2] true)).get s = _ := H1.g2
    have e : x.cert 2 = x.first x.V2 := by unfold Slt.cert; rw [if_neg (by decide), if_pos rfl]
    have ns : (s = σ.next) = False := eq_false (by have := H.l1; omega)
    have gs0 : σ.get s = _ := H.g1
    simp only [go_sem, kinds_eq, hkd, gs0, ns]
    refine cert_loop (b2 := b2) (o0 := none) hS' hN (by simp) x.V2.length 0 N _ (by omega) (by omega) H1 ?_ ?_
    · intro σ' text T o c ht he hT H'
      rw [List.drop_zero] at he
      have gr := H'.g1
      rw [e, he] at kont
      simp only [go_sem, gr]
      exact kont _ _ ht ⟨o, c, rfl, hT⟩ H'.tail
    · intro he σ' H'
      rw [List.drop_zero] at he
      have gr := H'.g1
      simp only [go_sem, gr]
      exact none_ok (by rw [e, he]) _ (by first | exact H'.tail | exact (H'.put _).tail)

end Go.Proofs.Ytmgacgonoodkfaa
