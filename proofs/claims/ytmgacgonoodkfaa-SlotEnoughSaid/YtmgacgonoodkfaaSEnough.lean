/- A certificate is of enough: the law's walk. -/
import Derived.Test.YtmgacgonoodkfaaSP
import Derived.Test.YtmgacgonoodkfaaSlEnough
namespace Go.Proofs.Ytmgacgonoodkfaa
open Go.AM
set_option maxRecDepth 100000
set_option linter.unusedSimpArgs false
set_option linter.unusedVariables false
variable {N d : Nat} {σ : St} {K : AV → St → Option Unit}

structure Of3 where
  g : Int
  f : Int
  p : Int
def Of3.cells (o : Of3) : List AV := [.int .i64 o.g, .int .i64 o.f, .int .i64 o.p]
theorem of3_of (ys : List AV) (h : shsOK [.int .i64, .int .i64, .int .i64] ys) : ∃ a : Of3, ys = a.cells := by
  obtain ⟨_, _, rfl, ⟨a, rfl⟩, _, _, rfl, ⟨b, rfl⟩, _, _, rfl, ⟨c, rfl⟩, rfl⟩ := h
  exact ⟨⟨a, b, c⟩, rfl⟩
theorem voz (v : Vo) : v.cells.length = 4 := rfl
theorem voat {V : List Vo} {i : Nat} {v : Vo} (h : V[i]? = some v) : (V.flatMap Vo.cells)[i * 4]? = some (.int .i64 v.kd) ∧ (V.flatMap Vo.cells)[i * 4 + 1]? = some (.int .i64 v.no) ∧ (V.flatMap Vo.cells)[i * 4 + 2]? = some (.str v.text) ∧ (V.flatMap Vo.cells)[i * 4 + 3]? = some (.str v.tag) := by
  have q : ∀ j, j < 4 → (V.flatMap Vo.cells)[i * 4 + j]? = v.cells[j]? := fun j hj => by simpa using flatMap_get voz hj h []
  exact ⟨q 0 (by omega), q 1 (by omega), q 2 (by omega), q 3 (by omega)⟩
theorem newE_cases (g f p : Int) : newE g f p = 0 ∨ newE g f p = 1 := by unfold newE; split; exact .inr rfl; exact .inl rfl
theorem voteX_gfp (x : Slt) (k no : Int) (text tag : ByteArray) : (voteX x k no text tag).g = x.g ∧ (voteX x k no text tag).f = x.f ∧ (voteX x k no text tag).p = x.p := by
  unfold voteX
  split
  · unfold Slt.put; split <;> exact ⟨rfl, rfl, rfl⟩
  · exact ⟨rfl, rfl, rfl⟩

/-- What a certificate is. -/
theorem cert_some {x : Slt} {k : Int} {text : ByteArray} {T : List (Nat × ByteArray)} (h : x.cert k = some (text, T)) :
    (k = 1 ∨ k = 2) ∧ T = tagsOf text (x.vs k) 0 ∧ 2 * x.f + 1 ≤ (T.length : Int) ∧ (k = 1 → (x.at 1 x.p).there = true ∧ (x.at 1 x.p).text = text) := by
  have gat : ∀ k text T, x.gather k text = some T → T = tagsOf text (x.vs k) 0 ∧ 2 * x.f + 1 ≤ (T.length : Int) := by
    intro k text T h
    unfold Slt.gather at h
    split at h
    · injection h with h; subst h; exact ⟨rfl, by assumption⟩
    · cases h
  unfold Slt.cert at h
  split at h
  · rename_i hk
    subst hk
    split at h
    · rename_i ht
      simp only [Option.map_eq_some_iff] at h
      obtain ⟨T', h1, h2⟩ := h
      injection h2 with h2 h3
      subst h2 h3
      exact ⟨.inl rfl, (gat _ _ _ h1).1, (gat _ _ _ h1).2, fun _ => ⟨ht, rfl⟩⟩
    · cases h
  · split at h
    · rename_i hk
      subst hk
      have : ∀ V, x.first V = some (text, T) → x.gather 2 text = some T := by
        intro V
        induction V with
        | nil => intro h; cases h
        | cons v V ih =>
          intro h
          simp only [Slt.first] at h
          split at h
          · split at h
            · rename_i T' hT
              injection h with h; injection h with h1 h2
              subst h1 h2
              exact hT
            · exact ih h
          · exact ih h
      have hg := gat _ _ _ (this _ h)
      exact ⟨.inr rfl, hg.1, hg.2, fun h => by cases h⟩
    · cases h

section
variable {s ob : Nat} {r hl : Hp} {J : KF Unit} {ss : List Vo} {ol : Option (Nat × Nat)} {cl : Option Nat} {o : Of3}

theorem enough_loop1 (hss : ss.length ≤ 300) (hA : Arg 4 (.slice ol ss.length cl 4) ss.length (ss.flatMap Vo.cells) hl) :
    ∀ (m i n : Nat) (x : Slt) (h : Hp) (σ : St), m + i = ss.length → m < n → SlotP s x h → (x.g = o.g ∧ x.f = o.f ∧ x.p = o.p) → HasH σ (h ++ (hl ++ r)) →
      (∀ σ' x' h', SlotP s x' h' → (x'.g = o.g ∧ x'.f = o.f ∧ x'.p = o.p) → HasH σ' (h' ++ (hl ++ r)) → J (.exit 0) (f8e17 ob (some (s, 0))) σ' = some ()) →
      loopK (f8L17 (callK Try.prog N ann (d + 3)) N) f8a17 n J (f8e15 ob (some (s, 0)) ol ss.length cl ss.length i) σ = some () := by
  intro m
  induction m with
  | zero =>
    intro i n x h σ hm hn hS hx H k
    obtain ⟨n, rfl⟩ : ∃ n', n = n' + 1 := ⟨n - 1, by omega⟩
    have h1 : ((i:Int) < ss.length) = False := eq_false (by omega)
    rw [loopK_succ]
    simp only [go_sem, h1]
    exact k σ x h hS hx H
  | succ m ih =>
    intro i n x h σ hm hn hS hx H k
    obtain ⟨n, rfl⟩ : ∃ n', n = n' + 1 := ⟨n - 1, by omega⟩
    have h0 : ((0:Int) ≤ i) = True := eq_true (by omega)
    have h1 : ((i:Int) < ss.length) = True := eq_true (by omega)
    have hti : ((i:Int)).toNat = i := by omega
    have hw1 : IntKind.i64.wrap ((i:Int) + 1) = (i:Int) + 1 := wrap_small (n := (i:Int) + 1) (by omega) (by omega)
    obtain ⟨v, hs⟩ : ∃ v, ss[i]? = some v := ⟨_, List.getElem?_eq_getElem (by omega)⟩
    obtain ⟨ba, rfl, rfl⟩ := hA.row (by omega)
    have hga : σ.get ba = some (.cells (ss.flatMap Vo.cells) false) := H.right.g1
    have nba : (ba = σ.next) = False := eq_false (by have := H.right.l1; omega)
    obtain ⟨q0, q1, q2, q3⟩ := voat hs
    have H2 := (H.new (.cells [.int .i64 0, .int .i64 0, .str (ByteArray.mk #[]), .str (ByteArray.mk #[])] true)).put (.cells v.cells true)
    rw [loopK_succ]
    simp only [go_sem, h1, h0, hti, hga, nba, q0, q1, q2, q3]
    refine vote_ok hS H2.tail v.kd v.no v.text v.tag ?_
    intro σ1 h' hS1 H1
    simp only [go_sem, hw1]
    obtain ⟨e1, e2, e3⟩ := voteX_gfp x v.kd v.no v.text v.tag
    exact ih (i + 1) n _ h' σ1 (by omega) (by omega) hS1 ⟨e1.trans hx.1, e2.trans hx.2.1, e3.trans hx.2.2⟩ H1 k

theorem tat {T : List (Nat × ByteArray)} {i : Nat} {t : Nat × ByteArray} (h : T[i]? = some t) (junk : List AV) : (tflat T ++ junk)[i * 2]? = some (.int .i64 t.1) ∧ (tflat T ++ junk)[i * 2 + 1]? = some (.str t.2) := by
  have hz : ∀ t : Nat × ByteArray, (tcells t).length = 2 := fun _ => rfl
  have q : ∀ j, j < 2 → (tflat T ++ junk)[i * 2 + j]? = (tcells t)[j]? := fun j hj => flatMap_get hz hj h junk
  exact ⟨q 0 (by omega), q 1 (by omega)⟩

def prim (T : List (Nat × ByteArray)) (p : Int) : Bool := T.any fun t => (t.1 : Int) == p

theorem enough_loop3 {x : Slt} {h : Hp} (hS : SlotP s x h) {kd : Int} {text : ByteArray} {g : Int} {T : List (Nat × ByteArray)} {cb : Nat} (hTl : T.length ≤ 100) (hT : ∀ t ∈ T, x.at kd t.1 = ⟨true, text, t.2⟩) (hr : T.Pairwise fun a b => a.1 < b.1)
    {oc : Option (Nat × Nat)} {cc : Option Nat} {ht : Hp} (hV : Vec 2 (.slice oc T.length cc 2) T.length (tflat T) ht) :
    ∀ (m i n : Nat) (σ : St), m + i = T.length → m < n → HasH σ (h ++ (ht ++ ((cb, .cells [.str text, .int .i64 g, .slice oc T.length cc 2] true) :: (ob, .cells o.cells true) :: r))) →
      (∀ σ', HasH σ' (h ++ (ht ++ ((cb, .cells [.str text, .int .i64 g, .slice oc T.length cc 2] true) :: (ob, .cells o.cells true) :: r))) → J (.exit 4) (f8e31 ob (some (s, 0)) kd cb (prim T o.p)) σ' = some ()) →
      loopK (f8L59 (callK Try.prog N ann (d + 3)) N) f8a59 n J (f8e33 ob (some (s, 0)) kd cb (prim (T.take i) o.p) oc T.length cc T.length i) σ = some () := by
  intro m
  induction m with
  | zero =>
    intro i n σ hm hn H k
    obtain ⟨n, rfl⟩ : ∃ n', n = n' + 1 := ⟨n - 1, by omega⟩
    have h1 : ((i:Int) < T.length) = False := eq_false (by omega)
    rw [loopK_succ]
    simp only [go_sem, h1]
    rw [List.take_of_length_le (by omega)]
    exact k σ H
  | succ m ih =>
    intro i n σ hm hn H k
    obtain ⟨n, rfl⟩ : ∃ n', n = n' + 1 := ⟨n - 1, by omega⟩
    have h0 : ((0:Int) ≤ i) = True := eq_true (by omega)
    have h1 : ((i:Int) < T.length) = True := eq_true (by omega)
    have hti : ((i:Int)).toNat = i := by omega
    have hw1 : IntKind.i64.wrap ((i:Int) + 1) = (i:Int) + 1 := wrap_small (n := (i:Int) + 1) (by omega) (by omega)
    have hw2 : IntKind.i64.wrap ((i:Int) - 1) = (i:Int) - 1 := wrap_small (n := (i:Int) - 1) (by omega) (by omega)
    obtain ⟨t, hs⟩ : ∃ t, T[i]? = some t := ⟨_, List.getElem?_eq_getElem (by omega)⟩
    obtain ⟨-, bt, junk, rfl, rfl, -⟩ := hV.row (by omega)
    have hgt : σ.get bt = _ := H.right.g1
    have nbt : (bt = σ.next) = False := eq_false (by have := H.right.l1; omega)
    obtain ⟨q0, q1⟩ := tat hs junk
    have hat := hT t (List.mem_of_getElem? hs)
    have hp : prim (T.take (i + 1)) o.p = (prim (T.take i) o.p || ((t.1 : Int) == o.p)) := by
      rw [List.take_add_one, hs]; simp [prim]
    have H2 := (H.new (.cells [.int .i64 0, .str (ByteArray.mk #[])] true)).put (.cells (tcells t) true)
    rw [loopK_succ]
    simp only [go_sem, h1, h0, hti, hgt, nbt, q0, q1]
    refine own_ok hS H2.down kd t.1 ?_
    rw [hat]
    intro σ1 H3
    have gtb := H3.right.g1
    have gcb := H3.right.tail.right.g1
    have gob := H3.right.tail.right.g2
    have gbt := H3.right.tail.g1
    simp only [tcells, Of3.cells] at gtb gob
    have next : loopK (f8L59 (callK Try.prog N ann (d + 3)) N) f8a59 n J (f8e33 ob (some (s, 0)) kd cb (prim (T.take (i + 1)) o.p) (some (bt, 0)) T.length cc T.length ((i:Int) + 1)) σ1 = some () :=
      ih (i + 1) n σ1 (by omega) (by omega) H3.up.tail k
    rw [hp] at next
    by_cases hi : i = 0
    · have hpos : ((0:Int) < i) = False := eq_false (by omega)
      cases hpp : prim (T.take i) o.p with
      | true =>
        rw [hpp, Bool.true_or] at next
        simp only [go_sem, gtb, gcb, gob, decide_true, hpos, hpp, hw1]
        exact next
      | false =>
        rw [hpp, Bool.false_or] at next
        simp only [go_sem, gtb, gcb, gob, decide_true, hpos, hpp, hw1]
        exact next
    · have hpos : ((0:Int) < i) = True := eq_true (by omega)
      obtain ⟨u, hu⟩ : ∃ u, T[i - 1]? = some u := ⟨_, List.getElem?_eq_getElem (by omega)⟩
      obtain ⟨z0, z1⟩ := tat hu junk
      have c1 : ((0:Int) ≤ (i:Int) - 1) = True := eq_true (by omega)
      have c2 : ((i:Int) - 1 < T.length) = True := eq_true (by omega)
      have hti2 : ((i:Int) - 1).toNat = i - 1 := by omega
      have hlt : ((t.1 : Int) ≤ u.1) = False := eq_false (by
        have := List.pairwise_iff_getElem.1 hr (i - 1) i (by omega) (by omega) (by omega)
        rw [List.getElem?_eq_getElem (by omega)] at hs hu
        injection hs with hs; injection hu with hu
        rw [hs, hu] at this; omega)
      cases hpp : prim (T.take i) o.p with
      | true =>
        rw [hpp, Bool.true_or] at next
        simp only [go_sem, gtb, gcb, gob, decide_true, hpos, hw2, c1, c2, hti2, gbt, z0, z1, hlt, hpp, hw1]
        exact next
      | false =>
        rw [hpp, Bool.false_or] at next
        simp only [go_sem, gtb, gcb, gob, decide_true, hpos, hw2, c1, c2, hti2, gbt, z0, z1, hlt, hpp, hw1]
        exact next

theorem enough_round {x : Slt} {h : Hp} (hS : SlotP s x h) (hx : x.g = o.g ∧ x.f = o.f ∧ x.p = o.p) (hN : 5000 ≤ N) {kd : Int} (hk : kd = 1 ∨ kd = 2) {n : Nat} (H : HasH σ (h ++ ((ob, .cells o.cells true) :: r)))
    (k : ∀ σ', HasH σ' (h ++ ((ob, .cells o.cells true) :: r)) → loopK (f8L34 (callK Try.prog N ann (d + 4)) N) f8a34 n J (f8e22 ob (some (s, 0)) (kd + 1)) σ' = some ()) :
    loopK (f8L34 (callK Try.prog N ann (d + 4)) N) f8a34 (n + 1) J (f8e22 ob (some (s, 0)) kd) σ = some () := by
  have c1 : (kd ≤ 2) = True := eq_true (by omega)
  have hw1 : IntKind.i64.wrap (kd + 1) = kd + 1 := wrap_small (n := kd + 1) (by omega) (by omega)
  rw [loopK_succ]
  simp only [go_sem, c1]
  refine cert_ok hS H (by omega) kd ?_
  intro σ1 cv ht hcv H1
  cases hc : x.cert kd with
  | none =>
    rw [hc] at hcv
    obtain ⟨oc, cc, rfl, hV⟩ := hcv
    have H2 := (H1.new (.cells [.str (ByteArray.mk #[]), .int .i64 0, .slice none 0 (some 0) 2] true)).put (.cells [.str (ByteArray.mk #[]), .int .i64 0, .slice oc 0 cc 2] true)
    simp only [go_sem, hw1]
    exact k _ (H2.tail.mid.right)
  | some tT =>
    obtain ⟨text, T⟩ := tT
    rw [hc] at hcv
    obtain ⟨oc, cc, rfl, hV⟩ := hcv
    obtain ⟨-, hT, hlen, hprim⟩ := cert_some hc
    obtain ⟨f0, f3, p0, p3, _, _, _⟩ := id hS.1
    have hvl := Slt.vs_len hS.1 hk
    have hTl : T.length ≤ 100 := by rw [hT]; have := tagsOf_len text (x.vs kd) 0; omega
    have hat : ∀ t ∈ T, x.at kd t.1 = ⟨true, text, t.2⟩ := by
      intro t ht
      rw [hT] at ht
      obtain ⟨_, v, h1, h2⟩ := tagsOf_mem ht
      rw [at_eq (by omega)]
      simp only [Nat.sub_zero] at h1
      rw [show ((t.1 : Int)).toNat = t.1 by omega, h1, Option.getD_some, h2]
    have H2 := (H1.new (.cells [.str (ByteArray.mk #[]), .int .i64 0, .slice none 0 (some 0) 2] true)).put (.cells [.str text, .int .i64 x.g, .slice oc T.length cc 2] true)
    have H3 := (HasH.mid (h1 := [_]) (h2 := h) H2)
    have H4 := H3.perm (List.Perm.append_left h (HasH.pc (a := [_]) (b := ht)))
    have gcb := H2.g1
    simp only [go_sem, gcb]
    refine enough_loop3 (o := o) (r := r) hS hTl hat (hT ▸ tagsOf_rise) hV T.length 0 N _ (by omega) (by omega) H4 ?_
    intro σ5 H5
    have gc5 := H5.right.right.g1
    have go5 := H5.right.right.g2
    simp only [Of3.cells] at go5
    have hw2 : IntKind.i64.wrap (2 * o.f) = 2 * o.f := wrap_small (n := 2 * o.f) (by omega) (by omega)
    have hw3 : IntKind.i64.wrap (2 * o.f + 1) = 2 * o.f + 1 := wrap_small (n := 2 * o.f + 1) (by omega) (by omega)
    have hlt : ((T.length : Int) < 2 * o.f + 1) = False := eq_false (by omega)
    have hgne : (o.g != o.g) = false := by simp
    rw [hx.1] at gc5
    have HF : HasH σ5 (h ++ ((ob, .cells o.cells true) :: r)) := H5.sub (List.Sublist.append_left ((List.sublist_cons_self _ _).trans (List.sublist_append_right ht _)) h)
    rcases hk with rfl | rfl
    · have hpr : prim T o.p = true := by
        obtain ⟨a, b⟩ := hprim rfl
        have hlp : x.p.toNat < (x.vs 1).length := by omega
        rw [at_eq p0, List.getElem?_eq_getElem hlp, Option.getD_some] at a b
        have hm := tagsOf_of (i := 0) (List.getElem?_eq_getElem hlp) a b
        rw [← hT] at hm
        unfold prim
        rw [List.any_eq_true]
        refine ⟨_, hm, ?_⟩
        simp only [beq_iff_eq]
        omega
      simp only [go_sem, gc5, go5, hw2, hw3, hlt, hgne, hpr, hw1]
      exact k _ HF
    · have hk2 : ((2:Int) == 1) = false := rfl
      simp only [go_sem, gc5, go5, hw2, hw3, hlt, hgne, hk2, hw1]
      exact k _ HF

theorem enough_loop2 {x : Slt} {h : Hp} (hS : SlotP s x h) (hx : x.g = o.g ∧ x.f = o.f ∧ x.p = o.p) (hN : 5000 ≤ N) (H : HasH σ (h ++ ((ob, .cells o.cells true) :: r)))
    (k : ∀ σ', HasH σ' (h ++ ((ob, .cells o.cells true) :: r)) → J (.exit 2) f8e25 σ' = some ()) :
    loopK (f8L34 (callK Try.prog N ann (d + 4)) N) f8a34 N J (f8e22 ob (some (s, 0)) 1) σ = some () := by
  obtain ⟨n, rfl⟩ : ∃ n, N = n + 3 := ⟨N - 3, by omega⟩
  refine enough_round hS hx hN (.inl rfl) H ?_
  intro σ1 H1
  refine enough_round hS hx hN (.inr rfl) H1 ?_
  intro σ2 H2
  have c1 : ((2:Int) + 1 ≤ 2) = False := eq_false (by omega)
  rw [loopK_succ]
  simp only [go_sem, c1]
  exact k _ H2

end

theorem enough_law {o : Of3} {ss : List Vo} {ol : Option (Nat × Nat)} {cl : Option Nat} {hl : Hp} (hA : Arg 4 (.slice ol ss.length cl 4) ss.length (ss.flatMap Vo.cells) hl)
    (H : HasH σ hl) (hN : 5000 ≤ N) (k : ∀ σ', HasH σ' [] → K (.bool true) σ' = some ()) :
    callK Try.prog N ann (d + 6) 8 [.agg o.cells, .slice ol ss.length cl 4] σ K = some () := by
  have H1 := (H.new (.cells o.cells true))
  have g1 := H1.g1
  simp only [Of3.cells] at g1
  rw [callK_succ, Of3.cells, f8_eq]
  simp only [go_sem]
  rcases newE_cases o.g o.f o.p with he | he
  · refine new_ok H1 (by omega) o.g o.f o.p he ?_
    intro σ1 s h hS H2
    have hx0 : (newX o.g o.f o.p).g = o.g ∧ (newX o.g o.f o.p).f = o.f ∧ (newX o.g o.f o.p).p = o.p := ⟨rfl, rfl, rfl⟩
    by_cases c1 : 200 < (ss.length : Int)
    · simp only [go_sem, c1]
      refine three_ok H2.right (by omega) ?_
      intro σ2 H3
      simp only [go_sem]
      exact k _ (H3.sub (List.nil_sublist _))
    simp only [go_sem, c1]
    refine enough_loop1 (s := s) (ob := σ.next) (o := o) (r := [(σ.next, .cells o.cells true)]) (by omega) hA ss.length 0 N (newX o.g o.f o.p) h σ1 (by omega) (by omega) hS hx0 ?_ ?_
    · exact H2.perm (List.Perm.append_left h (List.perm_append_comm (l₁ := [_])))
    intro σ2 x h2 hS2 hx H3
    simp only [go_sem]
    refine enough_loop2 (o := o) (r := hl) hS2 hx hN (H3.perm (List.Perm.append_left h2 (List.perm_append_comm (l₂ := [_])))) ?_
    intro σ3 H4
    simp only [go_sem]
    refine three_ok H4.right (by omega) ?_
    intro σ4 H5
    simp only [go_sem]
    exact k _ (H5.sub (List.nil_sublist _))
  · refine new_bad H1 o.g o.f o.p he ?_
    simp only [go_sem]
    refine three_ok H1 (by omega) ?_
    intro σ2 H3
    simp only [go_sem]
    exact k _ (H3.sub (List.nil_sublist _))

end Go.Proofs.Ytmgacgonoodkfaa
