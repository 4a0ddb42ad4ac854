/- What a slot's functions do: certificates. -/
import Derived.Test.YtmgacgonoodkfaaSS3
namespace Go.Proofs.Ytmgacgonoodkfaa
open Go.AM
set_option maxRecDepth 100000
set_option linter.unusedSimpArgs false
set_option linter.unusedVariables false
variable {N d : Nat} {σ : St} {K : AV → St → Option Unit}

/-- The tags of a text, from a number on. -/
def tagsOf (text : ByteArray) : List Vt → Nat → List (Nat × ByteArray)
  | [], _ => []
  | v :: V, i => if v.there = true ∧ v.text = text then (i, v.tag) :: tagsOf text V (i + 1) else tagsOf text V (i + 1)
def tcells (t : Nat × ByteArray) : List AV := [.int .i64 t.1, .str t.2]
def tflat (l : List (Nat × ByteArray)) : List AV := l.flatMap tcells

theorem gather_loop {s : Nat} {V : List Vt} (hV : V.length ≤ 100) {bk rb cb : Nat} {text : ByteArray} {g : Int} {r : Hp} {J : KF Unit} {c0 : Option Nat} :
    ∀ (m i n : Nat) (T : List (Nat × ByteArray)) (o : Option (Nat × Nat)) (c : Option Nat) (ht : Hp) (σ : St), m + i = V.length → m < n → T.length ≤ i →
      Vec 2 (.slice o T.length c 2) T.length (tflat T) ht →
      HasH σ ((cb, .cells [.str text, .int .i64 g, .slice o T.length c 2] true) :: (ht ++ ((bk, .cells (vflat V) true) :: r))) →
      (∀ σ' o' c' ht', Vec 2 (.slice o' (T ++ tagsOf text (V.drop i) i).length c' 2) (T ++ tagsOf text (V.drop i) i).length (tflat (T ++ tagsOf text (V.drop i) i)) ht' →
        HasH σ' ((cb, .cells [.str text, .int .i64 g, .slice o' (T ++ tagsOf text (V.drop i) i).length c' 2] true) :: (ht' ++ ((bk, .cells (vflat V) true) :: r))) → J (.exit 0) (f47e8 (some (s, 0)) rb cb) σ' = some ()) →
      loopK (f47L9 (callK Try.prog N ann d) N) f47a9 n J (f47e6 (some (s, 0)) text rb cb (some (bk, 0)) V.length c0 V.length i) σ = some () := by
  intro m
  induction m with
  | zero =>
    intro i n T o c ht σ hm hn hc hT H kont
    obtain ⟨n, rfl⟩ : ∃ n', n = n' + 1 := ⟨n - 1, by omega⟩
    have h1 : ((i:Int) < V.length) = False := eq_false (by omega)
    rw [loopK_succ]
    simp only [go_sem, h1]
    have := kont σ o c ht
    rw [List.drop_eq_nil_of_le (by omega)] at this
    simp only [tagsOf, List.append_nil] at this
    exact this hT H
  | succ m ih =>
    intro i n T o c ht σ hm hn hc hT H kont
    obtain ⟨n, rfl⟩ : ∃ n', n = n' + 1 := ⟨n - 1, by omega⟩
    have h0 : ((0:Int) ≤ i) = True := eq_true (by omega)
    have h1 : ((i:Int) < V.length) = True := eq_true (by omega)
    have hti : ((i:Int)).toNat = i := by omega
    have hw1 : IntKind.i64.wrap ((i:Int) + 1) = (i:Int) + 1 := wrap_small (n := (i:Int) + 1) (by omega) (by omega)
    obtain ⟨v, hv⟩ : ∃ v, V[i]? = some v := ⟨_, List.getElem?_eq_getElem (by omega)⟩
    obtain ⟨q0, q1, q2⟩ := vat hv
    have hd : V.drop i = v :: V.drop (i + 1) := by
      rw [List.drop_eq_getElem_cons (by omega)]; congr 1; rw [List.getElem?_eq_getElem (by omega)] at hv; exact Option.some.inj hv
    have hgk : σ.get bk = _ := H.tail.right.g1
    have nk : (bk = σ.next) = False := eq_false (by have := H.tail.right.l1; omega)
    have hgc : σ.get cb = _ := H.g1
    have nc : (cb = σ.next) = False := eq_false (by have := H.l1; omega)
    rw [loopK_succ]
    simp only [go_sem, h1, h0, hti, hgk, q0, q1, q2, nk]
    cases hth : v.there with
    | false =>
      have e : tagsOf text (V.drop i) i = tagsOf text (V.drop (i + 1)) (i + 1) := by rw [hd]; simp [tagsOf, hth]
      simp only [go_sem, hth, nk, nc, hgc, hw1]
      exact ih (i + 1) n T o c ht _ (by omega) (by omega) (by omega) hT ((H.new _).dead _) (by rw [← e]; exact kont)
    | true =>
      by_cases hx : ¬ v.text = text
      · have e : tagsOf text (V.drop i) i = tagsOf text (V.drop (i + 1)) (i + 1) := by rw [hd]; simp [tagsOf, hx]
        simp only [go_sem, hth, nk, nc, hgc, hw1, hx]
        exact ih (i + 1) n T o c ht _ (by omega) (by omega) (by omega) hT ((H.new _).dead _) (by rw [← e]; exact kont)
      · have hx := Classical.not_not.1 hx
        have e : tagsOf text (V.drop i) i = (i, v.tag) :: tagsOf text (V.drop (i + 1)) (i + 1) := by rw [hd]; simp [tagsOf, hx, hth]
        have hx' : (v.text = text) = True := eq_true hx
        have H2 := (H.new (.cells Vt.zero.cells true)).put (.cells v.cells true)
        have nc2 : (cb = σ.next + 1) = False := eq_false (by have := H.l1; omega)
        obtain ⟨o', c', σ', h', happ, hv', H'⟩ := hT.app (bytes := 24) (k := 1) (news := [.int .i64 i, .str v.tag]) ((H2.tail.new' (.cells [.int .i64 i, .str v.tag] true)).down) (by decide) (by decide) rfl (by omega)
        have hg' := H'.up.g1
        have gv := H2.g1
        simp only [Vt.cells, Vt.zero, hth] at happ gv
        simp only [go_sem, hth, nk, nc, hgc, hw1, hx', decide_true, nc2, elems_pos (show 1 ≠ 0 by decide), happ, hg']
        have hl : (T ++ [(i, v.tag)]).length = T.length + 1 := by simp
        have := ih (i + 1) n (T ++ [(i, v.tag)]) o' c' h' _ (by omega) (by omega) (by omega) (by rw [hl]; simpa [tflat, tcells] using hv') (by rw [hl]; exact H'.up.put _) (by
          rw [List.append_assoc, List.singleton_append, ← e]; exact kont)
        exact this

/-- A certificate of enough votes, or none. -/
def Slt.gather (x : Slt) (k : Int) (text : ByteArray) : Option (List (Nat × ByteArray)) :=
  if 2 * x.f + 1 ≤ ((tagsOf text (x.vs k) 0).length : Int) then some (tagsOf text (x.vs k) 0) else none

theorem tagsOf_len (text : ByteArray) (V : List Vt) : ∀ i, (tagsOf text V i).length ≤ V.length := by
  induction V with
  | nil => intro i; simp [tagsOf]
  | cons v V ih =>
    intro i
    simp only [tagsOf]
    split
    · simp only [List.length_cons]; have := ih (i + 1); omega
    · simp only [List.length_cons]; have := ih (i + 1); omega

/-- What is handed back: a certificate's cells. -/
def CertV (g : Int) (text : ByteArray) (T : List (Nat × ByteArray)) (v : AV) (ht : Hp) : Prop := ∃ o c, v = .agg [.str text, .int .i64 g, .slice o T.length c 2] ∧ Vec 2 (.slice o T.length c 2) T.length (tflat T) ht

theorem gather_end {s rb cb n : Nat} {text : ByteArray} {g f : Int} {o : Option (Nat × Nat)} {c : Option Nat} {rest : Hp} {tl : List AV} {q : Nat × Blk} (hf : 0 ≤ f ∧ f ≤ 3) {call : CallF Unit}
    (H : HasH σ ((rb, .cells [.str (ByteArray.mk #[]), .int .i64 0, .slice none 0 (some 0) 2] true) :: (s, .cells (.int .i64 g :: .int .i64 f :: tl) true) :: q :: (cb, .cells [.str text, .int .i64 g, .slice o n c 2] true) :: rest))
    (k1 : 2 * f + 1 ≤ (n : Int) → ∀ σ', HasH σ' ((s, .cells (.int .i64 g :: .int .i64 f :: tl) true) :: q :: rest) → K (.tuple [.agg [.str text, .int .i64 g, .slice o n c 2], .bool true]) σ' = some ())
    (k2 : ¬ 2 * f + 1 ≤ (n : Int) → ∀ σ', HasH σ' ((s, .cells (.int .i64 g :: .int .i64 f :: tl) true) :: q :: rest) → K (.tuple [.agg [.str (ByteArray.mk #[]), .int .i64 0, .slice none 0 (some 0) 2], .bool false]) σ' = some ()) :
    blockC 0 f47a8 (seqC (fun K e σ => runK Try.prog call N f47c6 f47a6 K e σ) f47a4 (bodyC Try.prog f47rs K)) (.exit 0) (f47e8 (some (s, 0)) rb cb) σ = some () := by
  have hw : IntKind.i64.wrap (2 * f) = 2 * f := wrap_small (n := 2 * f) (by omega) (by omega)
  have hw2 : IntKind.i64.wrap (2 * f + 1) = 2 * f + 1 := wrap_small (n := 2 * f + 1) (by omega) (by omega)
  have g1 := H.g1
  have g2 := H.g2
  have g3 := H.g4
  have nd := H.nd
  simp only [List.map_cons, List.pairwise_cons, List.mem_cons, forall_eq_or_imp] at nd
  by_cases h : 2 * f + 1 ≤ (n : Int)
  · have h' : ((n : Int) < 2 * f + 1) = False := eq_false (by omega)
    simp only [go_sem, g1, g2, g3, hw, hw2, h']
    exact k1 h _ (H.put _).tail.drop3
  · have h' : ((n : Int) < 2 * f + 1) = True := eq_true (by omega)
    simp only [go_sem, g1, g2, g3, hw, hw2, h']
    exact k2 h _ (H.put _).tail.drop3

theorem gather_ok {s : Nat} {x : Slt} {h r : Hp} (hS : SlotP s x h) (H : HasH σ (h ++ r)) (hN : 100 ≤ N) (k : Int) (hk : k = 1 ∨ k = 2) (text : ByteArray)
    (kont : ∀ σ' v ht, (match x.gather k text with | some T => CertV x.g text T v ht | none => CertV 0 (ByteArray.mk #[]) [] v ht) → HasH σ' (h ++ (ht ++ r)) → K (.tuple [v, .bool (x.gather k text).isSome]) σ' = some ()) :
    callK Try.prog N ann (d + 1) 47 [.ptr (some (s, 0)), .int .i64 k, .str text] σ K = some () := by
  have hS' := hS
  obtain ⟨ho, b0, b1, b2, rfl⟩ := hS
  have ho' := ho
  obtain ⟨f0, f3, p0, p3, l0, l1, l2⟩ := ho
  have hg : σ.get s = _ := H.g1
  have n0 : (s = σ.next) = False := eq_false (by have := H.l1; omega)
  have n1 : (s = σ.next + 1) = False := eq_false (by have := H.l1; omega)
  have hw : IntKind.i64.wrap (2 * x.f) = 2 * x.f := wrap_small (n := 2 * x.f) (by omega) (by omega)
  have hw2 : IntKind.i64.wrap (2 * x.f + 1) = 2 * x.f + 1 := wrap_small (n := 2 * x.f + 1) (by omega) (by omega)
  have H1 := (H.new (.cells [.str (ByteArray.mk #[]), .int .i64 0, .slice none 0 (some 0) 2] true)).new (.cells [.str (ByteArray.mk #[]), .int .i64 0, .slice none 0 (some 0) 2] true)
  rw [callK_succ, f47_eq]
  have tl := tagsOf_len text (x.vs k) 0
  rcases hk with rfl | rfl
  · simp only [go_sem, hg, n0, n1]
    simp only [Slt.vs, if_true, Slt.gather] at kont tl
    refine gather_loop (V := x.V1) (by omega) (r := [(σ.next, _), (s, _), (b0, _)] ++ ((b2, _) :: r)) x.V1.length 0 N [] none (some 0) [] _ (by omega) (by omega) (by simp) (by simpa [tflat] using Vec.nil 2) ((H1.put (.cells [.str text, .int .i64 x.g, .slice none 0 (some 0) 2] true)).perm (List.Perm.cons _ (HasH.pc (a := [_, _, _]) (b := [_])))) ?_
    intro σ' o' c' ht' hT H'
    simp only [List.nil_append, List.drop_zero] at hT H' ⊢
    have H2 := HasH.mid4 (h1 := [_]) (h2 := ht') (h3 := [_]) (h4 := [_, _, _]) H'
    refine gather_end ⟨f0, f3⟩ H2 ?_ ?_
    · intro hle σ3 H3
      simp only [hle, if_true] at kont
      exact kont σ3 _ ht' ⟨o', c', rfl, hT⟩ (H3.perm (List.Perm.cons _ (List.Perm.cons _ (HasH.pc (a := ht') (b := [_, _])))))
    · intro hle σ3 H3
      simp only [hle, if_false] at kont
      exact kont σ3 _ [] ⟨none, some 0, rfl, by simpa [tflat] using Vec.nil 2⟩ (H3.sub (List.Sublist.cons_cons _ (List.Sublist.cons_cons _ (List.sublist_append_right ht' _))))
  · simp only [go_sem, hg, n0, n1]
    simp only [Slt.vs, show ¬ (2:Int) = 1 by decide, if_true, if_false, Slt.gather] at kont tl
    refine gather_loop (V := x.V2) (by omega) (r := [(σ.next, _), (s, _), (b0, _)] ++ ((b1, _) :: r)) x.V2.length 0 N [] none (some 0) [] _ (by omega) (by omega) (by simp) (by simpa [tflat] using Vec.nil 2) ((H1.put (.cells [.str text, .int .i64 x.g, .slice none 0 (some 0) 2] true)).perm (List.Perm.cons _ (HasH.pc (a := [_, _, _, _]) (b := [_])))) ?_
    intro σ' o' c' ht' hT H'
    simp only [List.nil_append, List.drop_zero] at hT H' ⊢
    have H2 := HasH.mid4 (h1 := [_]) (h2 := ht') (h3 := [_]) (h4 := [_, _, _]) H'
    refine gather_end ⟨f0, f3⟩ H2 ?_ ?_
    · intro hle σ3 H3
      simp only [hle, if_true] at kont
      exact kont σ3 _ ht' ⟨o', c', rfl, hT⟩ (H3.perm (List.Perm.cons _ (List.Perm.cons _ ((HasH.pc (a := ht') (b := [_, _])).trans (List.Perm.swap _ _ _)))))
    · intro hle σ3 H3
      simp only [hle, if_false] at kont
      exact kont σ3 _ [] ⟨none, some 0, rfl, by simpa [tflat] using Vec.nil 2⟩ ((H3.sub (List.Sublist.cons_cons _ (List.Sublist.cons_cons _ (List.sublist_append_right ht' _)))).perm (List.Perm.cons _ (List.Perm.cons _ (List.Perm.swap _ _ _))))

end Go.Proofs.Ytmgacgonoodkfaa
