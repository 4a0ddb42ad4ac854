/- Of one kind there is one certified text: the walk of fails and fill. -/
import Derived.Test.YtmgacgonoodkfaaSOneP
import Derived.Test.YtmgacgonoodkfaaSlOne
namespace Go.Proofs.Ytmgacgonoodkfaa
open Go.AM
set_option maxRecDepth 100000
set_option linter.unusedSimpArgs false
set_option linter.unusedVariables false
structure Of3 where
  g : Int
  f : Int
  p : Int
def Of3.cells (o : Of3) : List AV := [.int .i64 o.g, .int .i64 o.f, .int .i64 o.p]
theorem of3_of (ys : List AV) (h : shsOK [.int .i64, .int .i64, .int .i64] ys) : ∃ a : Of3, ys = a.cells := by
  obtain ⟨_, _, rfl, ⟨a, rfl⟩, _, _, rfl, ⟨b, rfl⟩, _, _, rfl, ⟨c, rfl⟩, rfl⟩ := h
  exact ⟨⟨a, b, c⟩, rfl⟩
variable {N d : Nat} {σ : St} {K : AV → St → Option Unit}

def shK (y0 y2 : Int) : Int := Int.fdiv y0 ((2 : Int) ^ min (Int.toNat (IntKind.wrap IntKind.u64 y2)) (64 : Nat))
def andK (x : Int) : Int := IntKind.wrap IntKind.i64 (BitVec.toNat (BitVec.and (BitVec.ofInt 64 x) (BitVec.ofInt 64 1)))
theorem andK_eq (x : Int) : andK x = x % 2 := by
  show IntKind.wrap IntKind.i64 (((Int.toNat (x % (18446744073709551616 : Int))) &&& 1 : Nat) : Int) = x % 2
  rw [Nat.and_one_is_mod]
  rw [wrap_small (by omega) (by omega)]
  omega
theorem bit_eq (s k : Int) : andK (shK s k) = bit s k := andK_eq _
theorem r19 {R : Type} (call : CallF R) (N : Nat) (y0 : Int) (y1 : Int) (y2 : Int) (y3 : Int) (y4 : Int) (J : KF R) (σ : St) :
    runK Try.prog call N f45c19 f45a19 J (f45e3 y0 y1 y2 y3 y4) σ =
    if IntKind.wrap IntKind.u64 y4 < (0 : Int) then none else
    J Ex.normal (f45e6 y0 y1 y2 (IntKind.wrap IntKind.i64 (y3 + andK (shK y0 y4))) y4 y3 y0 y4 (IntKind.wrap IntKind.u64 y4) (shK y0 y4) (andK (shK y0 y4)) (IntKind.wrap IntKind.i64 (y3 + andK (shK y0 y4)))) σ := hide (by kernel_rfl)
theorem r20 {R : Type} (call : CallF R) (N : Nat) (y0 : Int) (y1 : Int) (y2 : Int) (y3 : Int) (J : KF R) (σ : St) :
    runK Try.prog call N f45c20 f45a20 J (f45e2 y0 y1 y2 y3) σ =
    if IntKind.wrap IntKind.u64 y2 < (0 : Int) then none else
    if (andK (shK y0 y2) == (1:Int)) = true then
      J Ex.normal (f45e8 y0 y1 y2 (decide (y3 ≤ y1)) y3 y0 y2 (IntKind.wrap IntKind.u64 y2) (shK y0 y2) (andK (shK y0 y2)) (andK (shK y0 y2) == (1:Int)) true y3 y1 (decide (y3 ≤ y1)) (decide (y3 ≤ y1))) σ
    else
      J Ex.normal (f45e9 y0 y1 y2 false y3 y0 y2 (IntKind.wrap IntKind.u64 y2) (shK y0 y2) (andK (shK y0 y2)) (andK (shK y0 y2) == (1:Int)) false false) σ := hide (by kernel_rfl)

attribute [-go_sem] f45r19_f45e3 f45r20_f45e2
attribute [go_sem] r19 r20

theorem fails_loop {s f i : Int} {J : KF Unit} (hi : i ≤ 100) :
    ∀ (m : Nat) (k n : Nat), (m : Int) + k = i + 1 → m < n → J (.exit 0) (f45e2 s f i (bits s (k + m))) σ = some () →
      loopK (f45L9 (callK Try.prog N ann d) N) f45a9 n J (f45e3 s f i (bits s k) k) σ = some () := by
  intro m
  induction m with
  | zero =>
    intro k n hm hn kont
    obtain ⟨n, rfl⟩ : ∃ n', n = n' + 1 := ⟨n - 1, by omega⟩
    have h1 : ((k:Int) ≤ i) = False := eq_false (by omega)
    rw [loopK_succ]
    simp only [go_sem, h1]
    exact kont
  | succ m ih =>
    intro k n hm hn kont
    obtain ⟨n, rfl⟩ : ∃ n', n = n' + 1 := ⟨n - 1, by omega⟩
    have h1 : ((k:Int) ≤ i) = True := eq_true (by omega)
    have hu : IntKind.wrap IntKind.u64 (k:Int) = (k:Int) := by unfold IntKind.wrap; simp [IntKind.bits, IntKind.signed]; omega
    have h2 : (IntKind.wrap IntKind.u64 (k:Int) < 0) = False := eq_false (by rw [hu]; omega)
    have b1 := bits_le s k
    have b2 := bits_le s (k + 1)
    have hw : IntKind.wrap IntKind.i64 (bits s k + bit s k) = bits s (k + 1) := wrap_small (n := bits s (k + 1)) (by omega) (by omega)
    have hw1 : IntKind.i64.wrap ((k:Int) + 1) = (k:Int) + 1 := wrap_small (n := (k:Int) + 1) (by omega) (by omega)
    rw [loopK_succ]
    simp only [go_sem, h1, h2, bit_eq, hw, hw1]
    exact ih (k + 1) n (by omega) (by omega) (by rw [show k + 1 + m = k + (m + 1) by omega]; exact kont)

theorem fails_eq {s f : Int} {i : Nat} (hi : i ≤ 99) (hN : 200 ≤ N) (kont : K (.bool (failsB s f i)) σ = some ()) :
    callK Try.prog N ann (d + 1) 45 [.int .i64 s, .int .i64 f, .int .i64 i] σ K = some () := by
  have hu : IntKind.wrap IntKind.u64 (i:Int) = (i:Int) := by unfold IntKind.wrap; simp [IntKind.bits, IntKind.signed]; omega
  have h2 : (IntKind.wrap IntKind.u64 (i:Int) < 0) = False := eq_false (by rw [hu]; omega)
  rw [callK_succ, f45_eq]
  simp only [go_sem]
  refine fails_loop (s := s) (f := f) (i := i) (by omega) (i + 1) 0 N (by omega) (by omega) ?_
  simp only [Nat.zero_add, go_sem, h2, bit_eq]
  unfold failsB at kont
  by_cases c : bit s i = 1
  · have c' : (bit s i == 1) = true := by simpa using c
    simp only [c', Bool.true_and] at kont
    simp only [go_sem, c, c', decide_true]
    exact kont
  · have c' : (bit s i == 1) = false := by simpa using c
    simp only [c', Bool.false_and] at kont
    simp only [go_sem, c, c']
    exact kont

theorem same_one {b i : Nat} {xs : List AV} {own : Bool} {t : ByteArray} (hg : σ.get b = some (.cells xs own)) (h : xs[i]? = some (.str t)) : σ.same b i [.str t] = true := by
  obtain ⟨hi, h⟩ := List.getElem?_eq_some_iff.1 h
  have e : (xs.drop i).take 1 = [.str t] := by rw [List.drop_eq_getElem_cons hi, h]; rfl
  have c : i + [AV.str t].length ≤ xs.length := by simp only [List.length_cons, List.length_nil]; omega
  rw [same_get, lds_get, hg]
  show (match (if i + [AV.str t].length ≤ xs.length then some (List.take 1 (List.drop i xs)) else none) with | some us => AV.beqL us [AV.str t] | none => false) = true
  rw [if_pos c, e]
  simp [AV.beqL, AV.beq]
attribute [-go_sem] same_get

section
variable {s ob tb : Nat} {r hh hv : Hp} {J : KF Unit} {o : Of3} {set kd : Int} {hs vs : List ByteArray} {oh ov : Option (Nat × Nat)} {ch cv : Option Nat} {ya yb : AV} {x0 : Slt}

theorem fill_loop (h0 : 0 ≤ o.f) (h3 : o.f ≤ 3) (hN : 200 ≤ N) (hA : Arg 1 (.slice oh hs.length ch 1) hs.length (hs.map AV.str) hh) (hB : Arg 1 (.slice ov vs.length cv 1) vs.length (vs.map AV.str) hv) :
    ∀ (m i n : Nat) (h : Hp) (σ : St), m + i = (3 * o.f + 1).toNat → m < n → SlotP s (fillX (pick (failsB set o.f) hs vs) kd tg x0 i) h →
      HasH σ (h ++ ((tb, .cells [.int .i64 set, .slice oh hs.length ch 1, ya, yb] true) :: (ob, .cells o.cells true) :: (hh ++ (hv ++ r)))) →
      (∀ σ' h', SlotP s (fillX (pick (failsB set o.f) hs vs) kd tg x0 (3 * o.f + 1).toNat) h' → HasH σ' (h' ++ ((tb, .cells [.int .i64 set, .slice oh hs.length ch 1, ya, yb] true) :: (ob, .cells o.cells true) :: (hh ++ (hv ++ r)))) → J (.exit 0) (f20e13 (some (s, 0))) σ' = some ()) →
      loopK (f20L17 (callK Try.prog N ann (d + 3)) N) f20a17 n J (f20e10 kd ov vs.length cv ob tb (some (s, 0)) i) σ = some () := by
  have hw3 : IntKind.i64.wrap (3 * o.f) = 3 * o.f := wrap_small (n := 3 * o.f) (by omega) (by omega)
  intro m
  induction m with
  | zero =>
    intro i n h σ hm hn hS H k
    obtain ⟨n, rfl⟩ : ∃ n', n = n' + 1 := ⟨n - 1, by omega⟩
    have h1 : ((i:Int) ≤ 3 * o.f) = False := eq_false (by omega)
    have go := H.right.tail.g1
    simp only [Of3.cells] at go
    rw [loopK_succ]
    simp only [go_sem, go, hw3, h1]
    rw [show i = (3 * o.f + 1).toNat by omega] at hS
    exact k σ h hS H
  | succ m ih =>
    intro i n h σ hm hn hS H k
    obtain ⟨n, rfl⟩ : ∃ n', n = n' + 1 := ⟨n - 1, by omega⟩
    have h1 : ((i:Int) ≤ 3 * o.f) = True := eq_true (by omega)
    have hw1 : IntKind.i64.wrap ((i:Int) + 1) = (i:Int) + 1 := wrap_small (n := (i:Int) + 1) (by omega) (by omega)
    have hti : ((i:Int)).toNat = i := by omega
    have c0 : ((0:Int) ≤ i) = True := eq_true (by omega)
    have go := H.right.tail.g1
    have gt := H.right.g1
    simp only [Of3.cells] at go
    have next : ∀ h' σ', SlotP s (fillX (pick (failsB set o.f) hs vs) kd tg x0 (i + 1)) h' → HasH σ' (h' ++ ((tb, .cells [.int .i64 set, .slice oh hs.length ch 1, ya, yb] true) :: (ob, .cells o.cells true) :: (hh ++ (hv ++ r)))) →
        loopK (f20L17 (callK Try.prog N ann (d + 3)) N) f20a17 n J (f20e10 kd ov vs.length cv ob tb (some (s, 0)) ((i:Int) + 1)) σ' = some () := fun h' σ' hS' H' => ih (i + 1) n h' σ' (by omega) (by omega) hS' H' k
    rw [loopK_succ]
    simp only [go_sem, go, gt, hw3, h1]
    refine fails_eq (by omega) (by omega) ?_
    cases hF : failsB set o.f i with
    | true =>
      have hp : pick (failsB set o.f) hs vs i = vs[i]? := by simp [pick, hF]
      by_cases hi : i < vs.length
      · obtain ⟨t, ht⟩ : ∃ t, vs[i]? = some t := ⟨_, List.getElem?_eq_getElem hi⟩
        have h2 : ((i:Int) < vs.length) = True := eq_true (by omega)
        obtain ⟨bv, rfl, rfl⟩ := hB.row (by omega)
        have gv := H.right.tail.tail.right.g1
        have q : (vs.map AV.str)[i]? = some (.str t) := by rw [List.getElem?_map, ht]; rfl
        have hsm := same_one gv q
        simp only [go_sem, h2, c0, hti, gv, q, Nat.mul_one, tag_eq, hsm]
        refine vote_ok hS H kd i t tg ?_
        intro σ1 h' hS1 H1
        simp only [go_sem, hw1]
        refine next h' σ1 ?_ H1
        simp only [fillX, hp, ht]; exact hS1
      · have h2 : ((i:Int) < vs.length) = False := eq_false (by omega)
        simp only [go_sem, h2, hw1]
        refine next h σ ?_ H
        simp only [fillX, hp, List.getElem?_eq_none (by omega : vs.length ≤ i)]; exact hS
    | false =>
      have hp : pick (failsB set o.f) hs vs i = hs[i]? := by simp [pick, hF]
      by_cases hi : i < hs.length
      · obtain ⟨t, ht⟩ : ∃ t, hs[i]? = some t := ⟨_, List.getElem?_eq_getElem hi⟩
        have h2 : ((i:Int) < hs.length) = True := eq_true (by omega)
        obtain ⟨bv, rfl, rfl⟩ := hA.row (by omega)
        have gv := H.right.tail.tail.g1
        have q : (hs.map AV.str)[i]? = some (.str t) := by rw [List.getElem?_map, ht]; rfl
        have hsm := same_one gv q
        simp only [go_sem, h2, c0, hti, gv, q, Nat.mul_one, tag_eq, hsm]
        refine vote_ok hS H kd i t tg ?_
        intro σ1 h' hS1 H1
        simp only [go_sem, hw1]
        refine next h' σ1 ?_ H1
        simp only [fillX, hp, ht]; exact hS1
      · have h2 : ((i:Int) < hs.length) = False := eq_false (by omega)
        simp only [go_sem, h2, hw1]
        refine next h σ ?_ H
        simp only [fillX, hp, List.getElem?_eq_none (by omega : hs.length ≤ i)]; exact hS

theorem fill_ok {R : Hp} {oa obb : Option (Nat × Nat)} {la lb : Nat} {ca cb : Option Nat} (hN : 200 ≤ N) (hA : Arg 1 (.slice oh hs.length ch 1) hs.length (hs.map AV.str) hh) (hB : Arg 1 (.slice ov vs.length cv 1) vs.length (vs.map AV.str) hv)
    (H : HasH σ R) (hP : R.Perm (hh ++ (hv ++ r)))
    (kbad : newE o.g o.f o.p = 1 → ∀ σ', HasH σ' R → K (.ptr none) σ' = some ())
    (kok : newE o.g o.f o.p = 0 → ∀ σ' s h', SlotP s (fillX (pick (failsB set o.f) hs vs) kd tg (newX o.g o.f o.p) (3 * o.f + 1).toNat) h' → HasH σ' (h' ++ R) → K (.ptr (some (s, 0))) σ' = some ()) :
    callK Try.prog N ann (d + 4) 20 [.agg o.cells, .int .i64 kd, .agg [.int .i64 set, .slice oh hs.length ch 1, .slice oa la ca 1, .slice obb lb cb 1], .slice ov vs.length cv 1] σ K = some () := by
  have H1 := ((H.perm hP).new (.cells o.cells true)).new (.cells [.int .i64 set, .slice oh hs.length ch 1, .slice oa la ca 1, .slice obb lb cb 1] true)
  have g1 := H1.g1
  have g2 := H1.g2
  simp only [Of3.cells, St.next_new] at g1 g2
  have nd := H1.nd
  simp only [List.append_eq, List.cons_append, List.nil_append, List.map_cons, List.pairwise_cons, List.mem_cons, forall_eq_or_imp, St.next_new] at nd
  rw [callK_succ, Of3.cells, f20_eq]
  simp only [go_sem, nd, g1, g2]
  rcases (show newE o.g o.f o.p = 0 ∨ newE o.g o.f o.p = 1 by unfold newE; split; exact .inr rfl; exact .inl rfl) with he | he
  · have hb : 0 ≤ o.f ∧ o.f ≤ 3 := by unfold newE at he; split at he; cases he; omega
    refine new_ok H1 (by omega) o.g o.f o.p he ?_
    intro σ1 s h hS H2
    simp only [go_sem]
    refine fill_loop (o := o) (x0 := newX o.g o.f o.p) hb.1 hb.2 hN hA hB (3 * o.f + 1).toNat 0 N h σ1 (by omega) (by omega) hS H2 ?_
    intro σ2 h2 hS2 H3
    simp only [go_sem]
    exact kok he σ2 s h2 hS2 ((H3.sub (List.Sublist.append_left ((List.sublist_cons_self _ _).trans (List.sublist_cons_self _ _)) h2)).perm (List.Perm.append_left h2 hP.symm))
  · refine new_bad H1 o.g o.f o.p he ?_
    simp only [go_sem]
    exact kbad he _ (H1.tail.tail.perm hP.symm)

end

theorem perm_a {x y : Nat × Blk} {hh ha hb : Hp} : (x :: y :: (hh ++ (ha ++ hb))).Perm (hh ++ (ha ++ (hb ++ [x, y]))) := by
  have := List.perm_append_comm (l₁ := [x, y]) (l₂ := hh ++ (ha ++ hb))
  simpa [List.append_assoc] using this
theorem perm_b {x y : Nat × Blk} {h1 hh ha hb : Hp} : (h1 ++ (x :: y :: (hh ++ (ha ++ hb)))).Perm (hh ++ (hb ++ ((h1 ++ [x, y]) ++ ha))) := by
  have p1 := List.perm_append_comm (l₁ := h1 ++ [x, y]) (l₂ := hh ++ (ha ++ hb))
  have p2 := List.Perm.append_left hh (List.perm_append_comm (l₁ := ha) (l₂ := hb ++ (h1 ++ [x, y])))
  simp only [List.append_assoc, List.cons_append, List.nil_append] at p1 p2 ⊢
  exact p1.trans p2

/-- What a certificate is. -/
theorem cert_is {x : Slt} {k : Int} {text : ByteArray} {T : List (Nat × ByteArray)} (h : x.cert k = some (text, T)) :
    (k = 1 ∨ k = 2) ∧ T = tagsOf text (x.vs k) 0 ∧ 2 * x.f + 1 ≤ (T.length : Int) ∧ (k = 1 → (x.at 1 x.p).there = true ∧ (x.at 1 x.p).text = text) := by
  have gat : ∀ k text T, x.gather k text = some T → T = tagsOf text (x.vs k) 0 ∧ 2 * x.f + 1 ≤ (T.length : Int) := by
    intro k text T h
    unfold Slt.gather at h
    split at h
    · injection h with h; subst h; exact ⟨rfl, by assumption⟩
    · cases h
  unfold Slt.cert at h
  split at h
  · rename_i hk
    subst hk
    split at h
    · rename_i ht
      simp only [Option.map_eq_some_iff] at h
      obtain ⟨T', h1, h2⟩ := h
      injection h2 with h2 h3
      subst h2 h3
      exact ⟨.inl rfl, (gat _ _ _ h1).1, (gat _ _ _ h1).2, fun _ => ⟨ht, rfl⟩⟩
    · cases h
  · split at h
    · rename_i hk
      subst hk
      have : ∀ V, x.first V = some (text, T) → x.gather 2 text = some T := by
        intro V
        induction V with
        | nil => intro h; cases h
        | cons v V ih =>
          intro h
          simp only [Slt.first] at h
          split at h
          · split at h
            · rename_i T' hT
              injection h with h; injection h with h1 h2
              subst h1 h2
              exact hT
            · exact ih h
          · exact ih h
      have hg := gat _ _ _ (this _ h)
      exact ⟨.inr rfl, hg.1, hg.2, fun h => by cases h⟩
    · cases h

theorem newX_ok {g f p : Int} (he : newE g f p = 0) : (newX g f p).ok := by
  have hx : ¬ (g < 0 ∨ 4 < g ∨ f < 0 ∨ 3 < f ∨ p < 0 ∨ 3 * f < p) := by
    unfold newE at he; split at he <;> simp_all
  unfold Slt.ok newX
  refine ⟨by show 0 ≤ f; omega, by show f ≤ 3; omega, by show 0 ≤ p; omega, by show p ≤ 3 * f; omega, ?_, ?_, ?_⟩ <;> exact List.length_replicate
theorem newX_zero {g f p : Int} {kd : Int} : ∀ v ∈ (newX g f p).vs kd, v.there = false := by
  intro v hv
  unfold Slt.vs newX at hv
  split at hv
  · rw [List.eq_of_mem_replicate hv]; rfl
  · split at hv
    · rw [List.eq_of_mem_replicate hv]; rfl
    · cases hv

theorem certV_of {g : Int} {c : Option (ByteArray × List (Nat × ByteArray))} {v : AV} {ht : Hp} (h : CertR g c v ht) :
    ∃ text g' tl oc cc, v = .agg [.str text, .int .i64 g', .slice oc tl cc 2] ∧ ∀ t T, c = some (t, T) → text = t := by
  cases c with
  | none =>
    obtain ⟨o, c, rfl, _⟩ := h
    exact ⟨_, _, _, o, c, rfl, fun t T e => by cases e⟩
  | some tT =>
    obtain ⟨o, c, rfl, _⟩ := h
    exact ⟨_, _, _, o, c, rfl, fun t T e => by injection e with e; rw [e]⟩

theorem one_law {o : Of3} {set kd : Int} {hs va vb : List ByteArray} {oh oa ob : Option (Nat × Nat)} {ch ca cb : Option Nat} {hh ha hb : Hp}
    (hA : Arg 1 (.slice oh hs.length ch 1) hs.length (hs.map AV.str) hh) (hB : Arg 1 (.slice oa va.length ca 1) va.length (va.map AV.str) ha) (hC : Arg 1 (.slice ob vb.length cb 1) vb.length (vb.map AV.str) hb)
    (H : HasH σ (hh ++ (ha ++ hb))) (hN : 5000 ≤ N) (k : ∀ σ', HasH σ' [] → K (.bool true) σ' = some ()) :
    callK Try.prog N ann (d + 6) 4 [.agg o.cells, .int .i64 kd, .agg [.int .i64 set, .slice oh hs.length ch 1, .slice oa va.length ca 1, .slice ob vb.length cb 1]] σ K = some () := by
  have H1 := (H.new (.cells o.cells true)).new (.cells [.int .i64 set, .slice oh hs.length ch 1, .slice oa va.length ca 1, .slice ob vb.length cb 1] true)
  have g1 := H1.g1
  have g2 := H1.g2
  simp only [Of3.cells, St.next_new] at g1 g2
  have nd := H1.nd
  simp only [List.append_eq, List.cons_append, List.nil_append, List.map_cons, List.pairwise_cons, List.mem_cons, forall_eq_or_imp, St.next_new] at nd
  have hN2 : 200 ≤ N := by omega
  have fin : ∀ σ' h, HasH σ' h → callK Try.prog N ann (d + 5) 19 [] σ' (fun v σ => K v σ) = some () := fun σ' h H' => three_ok H' (by omega) (fun σ2 H2 => k σ2 (H2.sub (List.nil_sublist _)))
  rw [callK_succ, Of3.cells, f4_eq]
  by_cases c1 : o.f < 0
  · simp only [go_sem, nd, g1, g2, c1]
    refine three_ok H1 (by omega) ?_
    intro σ2 H2
    simp only [go_sem]
    exact k _ (H2.sub (List.nil_sublist _))
  by_cases c2 : 3 < o.f
  · simp only [go_sem, nd, g1, g2, c1, c2]
    refine three_ok H1 (by omega) ?_
    intro σ2 H2
    simp only [go_sem]
    exact k _ (H2.sub (List.nil_sublist _))
  by_cases c3 : kd < 1
  · simp only [go_sem, nd, g1, g2, c1, c2, c3]
    refine three_ok H1 (by omega) ?_
    intro σ2 H2
    simp only [go_sem]
    exact k _ (H2.sub (List.nil_sublist _))
  by_cases c4 : 2 < kd
  · simp only [go_sem, nd, g1, g2, c1, c2, c3, c4]
    refine three_ok H1 (by omega) ?_
    intro σ2 H2
    simp only [go_sem]
    exact k _ (H2.sub (List.nil_sublist _))
  have hk : kd = 1 ∨ kd = 2 := by omega
  simp only [go_sem, nd, g1, g2, c1, c2, c3, c4]
  refine fill_ok hN2 hA hB H1 perm_a ?_ ?_
  · intro he σ1 H2
    have g12 := H2.g1
    have g22 := H2.g2
    simp only [Of3.cells, St.next_new] at g12 g22
    simp only [go_sem, g12, g22]
    refine fill_ok hN2 hA hC H2 (perm_b (h1 := [])) ?_ ?_
    · intro _ σ2 H3
      simp only [go_sem]
      refine three_ok H3 (by omega) ?_
      intro σ3 H4
      simp only [go_sem]
      exact k _ (H4.sub (List.nil_sublist _))
    · intro he'
      rw [he] at he'; cases he'
  · intro he σ1 s1 h1 hS1 H2
    have g12 := H2.right.g1
    have g22 := H2.right.g2
    simp only [Of3.cells, St.next_new] at g12 g22
    simp only [go_sem, g12, g22]
    refine fill_ok hN2 hA hC H2 perm_b ?_ ?_
    · intro he'
      rw [he] at he'; cases he'
    intro _ σ2 s2 h2 hS2 H3
    simp only [go_sem]
    refine cert_ok hS1 (H3.perm (List.perm_append_comm_assoc h2 h1 _)) (by omega) kd ?_
    intro σ3 cv ht hcv H4
    obtain ⟨ta, ga, tla, oca, cca, rfl, hta⟩ := certV_of hcv
    have H5 := ((H4.right.right).new (.cells [.str (ByteArray.mk #[]), .int .i64 0, .slice none 0 (some 0) 2] true)).put (.cells [.str ta, .int .i64 ga, .slice oca tla cca 2] true)
    have ga5 := H5.g1
    simp only [go_sem]
    refine cert_ok hS2 (H5.down) (by omega) kd ?_
    intro σ4 cv' ht' hcv' H6
    obtain ⟨tb, gb, tlb, ocb, ccb, rfl, htb⟩ := certV_of hcv'
    have H7 := ((H6.right.right).new (.cells [.str (ByteArray.mk #[]), .int .i64 0, .slice none 0 (some 0) 2] true)).put (.cells [.str tb, .int .i64 gb, .slice ocb tlb ccb 2] true)
    have gb7 := H7.g1
    have ga7 := H7.g2
    have fin2 : ∀ σ' h, HasH σ' h → ∀ K' : AV → St → Option Unit, (∀ σ2, HasH σ2 [] → K' (.bool true) σ2 = some ()) → callK Try.prog N ann (d + 5) 19 [] σ' K' = some () := fun σ' h H' K' hK => three_ok H' (by omega) (fun σ2 H2 => hK σ2 (H2.sub (List.nil_sublist _)))
    have go7 : ∀ σ2 : St, HasH σ2 [] → K (.bool true) σ2 = some () := k
    cases hx : (fillX (pick (failsB set o.f) hs va) kd tg (newX o.g o.f o.p) (3 * o.f + 1).toNat).cert kd with
    | none =>
      simp only [go_sem, Option.isSome_none]
      refine three_ok H7 (by omega) ?_
      intro σ5 H8
      simp only [go_sem]
      exact k _ (H8.sub (List.nil_sublist _))
    | some tA =>
      cases hy : (fillX (pick (failsB set o.f) hs vb) kd tg (newX o.g o.f o.p) (3 * o.f + 1).toNat).cert kd with
      | none =>
        simp only [go_sem, Option.isSome_none, Option.isSome_some]
        refine three_ok H7 (by omega) ?_
        intro σ5 H8
        simp only [go_sem]
        exact k _ (H8.sub (List.nil_sublist _))
      | some tB =>
        obtain ⟨t1, T1⟩ := tA
        obtain ⟨t2, T2⟩ := tB
        obtain ⟨-, e1, l1, -⟩ := cert_is hx
        obtain ⟨-, e2, l2, -⟩ := cert_is hy
        have hoN : (newX o.g o.f o.p).ok := newX_ok he
        have hag : t1 = t2 := by
          rw [e1] at l1
          rw [e2] at l2
          refine one_agree (s := set) (hs := hs) (va := va) (vb := vb) hS1.1 hS2.1 (by rw [fillX_f, fillX_f]) ?_ ?_ hk l1 l2
          · rw [fillX_f]; exact fillX_told hoN hk newX_zero _
          · rw [fillX_f]; exact fillX_told hoN hk newX_zero _
        have hab : ta = tb := by rw [hta _ _ hx, htb _ _ hy, hag]
        subst hab
        simp only [go_sem, Option.isSome_some, ga7, gb7, decide_true]
        refine three_ok H7 (by omega) ?_
        intro σ5 H8
        simp only [go_sem]
        exact k _ (H8.sub (List.nil_sublist _))

end Go.Proofs.Ytmgacgonoodkfaa
