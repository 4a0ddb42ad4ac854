/- The low mark is raised. -/
import Derived.Test.YtmgacgonoodkfaaW5
namespace Go.Proofs.Ytmgacgonoodkfaa
open Go.AM
set_option maxRecDepth 100000
set_option linter.unusedSimpArgs false
set_option linter.unusedVariables false
variable {N d : Nat} {σ : St} {K : AV → St → Option Unit}

theorem bk_av (e : Bn) : BK.av e = (.int .i64 e.number, .agg [.int .i64 e.view, .str e.text, .int .i64 e.group, .slice none 0 (some 0) 2], e.born) := rfl
theorem bk_born (e : Bn) : BK.born e = e.born := rfl

theorem drop_bn {es : List Bn} (hn : (es.map Bn.born).Nodup) {e : Bn} (he : e ∈ es) : (es.filter fun x => decide (x.born ≠ e.born)).length + 1 = es.length := by
  induction es with
  | nil => simp at he
  | cons a es ih =>
    simp only [List.map_cons, List.nodup_cons] at hn
    rw [List.filter_cons]
    rcases List.mem_cons.1 he with rfl | he
    · have : ∀ x ∈ es, decide (x.born ≠ e.born) = true := by
        intro x hx
        simp only [decide_eq_true_eq, ne_eq]
        intro h
        exact hn.1 (by rw [← h]; exact List.mem_map_of_mem hx)
      rw [if_neg (by simp), List.filter_eq_self.2 this]
      simp
    · have : a.born ≠ e.born := fun h => hn.1 (by rw [h]; exact List.mem_map_of_mem he)
      rw [if_pos (by simpa using this)]
      have := ih hn.2 he
      simp only [List.length_cons]
      omega

def curB (low : Int) (fs : List Bn) (seen : List Nat) : List Bn := fs.filter fun e => !(seen.contains e.born && decide (e.number ≤ low))

theorem bn_inj {x e : Bn} : ∀ {l : List Bn} {c : Nat}, BK.Ok l c → x ∈ l → e ∈ l → (x.born = e.born ↔ x.number = e.number) := by
  intro l
  induction l with
  | nil => intro c _ h; simp at h
  | cons a l ih =>
    intro c ok h1 h2
    obtain ⟨hb, hlt, hk⟩ := ok
    simp only [List.map_cons, List.nodup_cons] at hk hb
    rcases List.mem_cons.1 h1 with rfl | g1
    · rcases List.mem_cons.1 h2 with rfl | g2
      · simp
      · exact ⟨fun h => absurd (by rw [show BK.born x = BK.born e from h]; exact List.mem_map_of_mem g2) hb.1, fun h => absurd (by rw [show BK.key x = BK.key e from h]; exact List.mem_map_of_mem g2) hk.1⟩
    · rcases List.mem_cons.1 h2 with rfl | g2
      · exact ⟨fun h => absurd (by rw [← show BK.born x = BK.born e from h]; exact List.mem_map_of_mem g1) hb.1, fun h => absurd (by rw [← show BK.key x = BK.key e from h]; exact List.mem_map_of_mem g1) hk.1⟩
      · exact ih ⟨hb.2, fun y hy => hlt y (List.mem_cons_of_mem _ hy), hk.2⟩ g1 g2

theorem curB_same {low : Int} {fs : List Bn} {c : Nat} (ok : BK.Ok fs c) (seen : List Nat) {e : Bn} (he : e ∈ fs) (hP : ¬ e.number ≤ low) : curB low fs (seen ++ [e.born]) = curB low fs seen := by
  unfold curB
  refine List.filter_congr fun x hx => ?_
  rw [contains_snoc]
  by_cases h : x.born = e.born
  · have := (bn_inj ok hx he).1 h
    rw [this]
    simp [hP]
  · simp [h]

theorem curB_drop {low : Int} {fs : List Bn} {c : Nat} (ok : BK.Ok fs c) (seen : List Nat) {e : Bn} (he : e ∈ fs) (hP : e.number ≤ low) :
    curB low fs (seen ++ [e.born]) = (curB low fs seen).filter fun x => decide (BK.key x ≠ e.number) := by
  unfold curB
  rw [List.filter_filter]
  refine List.filter_congr fun x hx => ?_
  rw [contains_snoc]
  by_cases h : x.born = e.born
  · have hk := (bn_inj ok hx he).1 h
    have hk' : BK.key x = e.number := hk
    rw [show decide (x.born = e.born) = true by simp [h], hk]
    simp [hk', hP]
  · have hk : ¬ x.number = e.number := fun hk => h ((bn_inj ok hx he).2 hk)
    have hk' : BK.key x ≠ e.number := hk
    rw [show decide (x.born = e.born) = false by simp [h]]
    simp [hk']

theorem raise_loop {g f lw low : Int} {fs : List Bn} {c : Nat} (ok : BK.Ok fs c) {b ms mb q it : Nat} {r : Hp} {J : KF Unit} {o : Option (Nat × Nat)} (ho : o = some (b, 0)) :
    ∀ (u n : Nat) (seen : List Nat) (σ : St), (fs.filter fun e => !seen.contains e.born).length = u → u < n →
      HasH σ ((it, .miter (some mb) c seen c) :: (mb, .map ((curB low fs seen).map Bn.av) c) :: (q, .cells [.int .i64 low] true) :: (b, .cells [.int .i64 g, .int .i64 f, .int .i64 lw, .map (some ms), .map (some mb)] true) :: r) →
      (∀ σ', HasH σ' ((mb, .map ((fs.filter fun e => decide (low < e.number)).map Bn.av) c) :: (q, .cells [.int .i64 low] true) :: (b, .cells [.int .i64 g, .int .i64 f, .int .i64 lw, .map (some ms), .map (some mb)] true) :: r) → J (.exit 1) f14e21 σ' = some ()) →
      loopK (f14L32 (callK Try.prog N ann (d + 1)) true N) f14a32 n J (f14e17 o q it) σ = some () := by
  subst ho
  intro u
  induction u using Nat.strongRecOn with
  | _ u ih =>
    intro n seen σ hu hn H kont
    obtain ⟨n, rfl⟩ : ∃ n', n = n' + 1 := ⟨n - 1, by omega⟩
    have hgi : σ.get it = _ := H.g1
    have hgm : σ.get mb = _ := H.g2
    have hgq : σ.get q = _ := H.g3
    have hgb : σ.get b = _ := H.g4
    have okc : BK.Ok (curB low fs seen) c := ok.sub List.filter_sublist
    have hnd := H.nd
    simp only [List.map_cons, List.pairwise_cons, List.mem_cons, forall_eq_or_imp] at hnd
    rw [loopK_succ]
    simp only [go_sem]
    refine BK.next (es := curB low fs seen) hgi hgm okc.2.1 ?_ ?_
    · intro hall
      simp only [go_sem]
      have hall' : ∀ e ∈ fs, seen.contains e.born = true := by
        intro e he
        cases hs : seen.contains e.born with
        | true => rfl
        | false =>
          exfalso
          have : e ∈ curB low fs seen := by
            unfold curB
            rw [List.mem_filter]
            exact ⟨he, by simp only [hs, Bool.false_and, Bool.not_false]⟩
          have := hall e this
          rw [bk_born] at this
          rw [List.contains_eq_mem, decide_eq_false_iff_not] at hs
          exact hs this
      have hc : curB low fs seen = fs.filter fun e => decide (low < e.number) := by
        unfold curB
        refine List.filter_congr fun e he => ?_
        rw [hall' e he]
        by_cases h : e.number ≤ low
        · simp [h]
        · simp [h]; omega
      rw [hc] at H
      exact kont σ H.tail
    · intro e he hns
      rw [bk_born] at hns
      have hee : e ∈ fs := (List.mem_filter.1 he).1
      have n1 : (mb = it) = False := eq_false (by have := hnd.1.1; exact this.2)
      have n2 : (q = it) = False := eq_false (by have := hnd.1.2.1; exact this.2)
      have n3 : (b = it) = False := eq_false (by have := hnd.1.2.2.1; exact this.2)
      have hent := BK.entry (σ := σ.put it (.miter (some mb) c (seen ++ [BK.born e]) c)) (it := it) (mb := mb) (c := c) (seen := seen) (es := curB low fs seen) (e := e) (by simp) (by simp only [St.get_put, n1, if_false]; exact hgm) okc.1 he
      rw [bk_born] at hent
      have H1 := H.put (.miter (some mb) c (seen ++ [e.born]) c)
      have cnt : (fs.filter fun x => !(seen ++ [e.born]).contains x.born).length + 1 = u := by
        have hf : (fs.filter fun x => !(seen ++ [e.born]).contains x.born) = (fs.filter fun x => !seen.contains x.born).filter fun x => decide (x.born ≠ e.born) := by
          rw [List.filter_filter]
          refine List.filter_congr fun x _ => ?_
          rw [contains_snoc]
          by_cases h : x.born = e.born <;> simp [h]
        have hbn : (fs.map Bn.born).Nodup := ok.1
        rw [hf, ← hu]
        refine drop_bn (hbn.sublist ((List.filter_sublist).map _)) ?_
        rw [List.mem_filter]
        exact ⟨hee, by rw [List.contains_eq_mem]; simpa using hns⟩
      simp only [go_sem, bk_born]
      rw [hent]
      by_cases hP : e.number ≤ low
      · have hdel := BK.del (k := e.number) (es := curB low fs seen) okc.2.2
        have hdel' : mapDel false [.int .i64] [.int .i64 e.number] ((curB low fs seen).map Bn.av) = some (((curB low fs seen).filter fun x => decide (BK.key x ≠ e.number)).map Bn.av) := hdel
        simp only [go_sem, bk_av, n1, n2, n3, hgm, hgq, hgb, hP, hdel']
        refine ih _ (by omega) n (seen ++ [e.born]) _ rfl (by omega) ?_ kont
        rw [curB_drop ok seen hee hP]
        exact H1.put2 _
      · simp only [go_sem, bk_av, n1, n2, n3, hgm, hgq, hgb, hP]
        refine ih _ (by omega) n (seen ++ [e.born]) _ rfl (by omega) ?_ kont
        rw [curB_same ok seen hee hP]
        exact H1

theorem keep_one {σ σ' : St} {b : Nat} {x y : Blk} {h : Hp} (H : HasH σ ((b, x) :: h)) (k : Keeps σ σ' [b]) (hn : σ.next ≤ σ'.next) (hg : σ'.get b = some y) : HasH σ' ((b, y) :: h) := by
  have nd := H.nodup
  simp only [List.map_cons, List.nodup_cons] at nd
  have H2 : HasH σ' h := HasH.keep H.tail k hn (by
    intro p hp
    simp only [List.mem_singleton]
    intro he
    exact nd.1 (by rw [← he]; exact List.mem_map_of_mem hp))
  refine ⟨by simpa using nd, ?_, ?_⟩
  · intro p hp
    rcases List.mem_cons.1 hp with rfl | hp
    · exact hg
    · exact H2.get p hp
  · intro p hp
    rcases List.mem_cons.1 hp with rfl | hp
    · exact Nat.lt_of_lt_of_le (H.lt (b, x) (by simp)) hn
    · exact H2.lt p hp

def raiseE (low : Int) : Int := if low < 0 ∨ 1099511627768 < low then 1 else 0
def raiseB (x : Wn) (low : Int) : Bool := decide (raiseE low = 0) && decide (x.low < low)
def raiseX (x : Wn) (low : Int) : Wn := if raiseB x low = true then { x with low := low, es := x.es.filter (fun e => decide (low < e.number)), fs := x.fs.filter fun e => decide (low < e.number) } else x

theorem raise_ok {b ms mb : Nat} {x : Wn} {h r : Hp} (W : WinP b ms mb x h) (H : HasH σ (h ++ r)) (hN : x.es.length < N) (hN2 : x.fs.length < N) (low : Int)
    (kont : ∀ σ' h', WinP b ms mb (raiseX x low) h' → HasH σ' (h' ++ r) → K (.tuple [.bool (raiseB x low), .int .i64 (raiseE low)]) σ' = some ()) :
    callK Try.prog N ann (d + 3) true 14 [.ptr (some (b, 0)), .int .i64 low] σ K = some () := by
  have W' := W
  obtain ⟨ho, rfl⟩ := W
  obtain ⟨g0, g4, f0, f3, l0, l1, ok1, ok2⟩ := ho
  have n0 : (b = σ.next) = False := eq_false (by have := H.l1; omega)
  have n1 : (ms = σ.next) = False := eq_false (by have := H.l2; omega)
  have n2 : (mb = σ.next) = False := eq_false (by have := H.l3; omega)
  have hg : σ.get b = _ := H.g1
  have hm : σ.get ms = _ := H.g2
  have hmb : σ.get mb = _ := H.g3
  have H1 := H.new (.cells [.int .i64 low] true)
  rw [callK_succ _ _ _ _ _ _ _ _ _ (win_true _ _ _), f14_eq]
  by_cases c1 : low < 0
  · have e1 : raiseE low = 1 := by simp [raiseE, c1]
    have e2 : raiseB x low = false := by simp [raiseB, e1]
    have e3 : raiseX x low = x := by simp [raiseX, e2]
    rw [e1, e2, e3] at kont
    simp only [go_sem, c1]
    exact kont _ _ W' H1.tail
  by_cases c2 : 1099511627768 < low
  · have e1 : raiseE low = 1 := by simp [raiseE, c2]
    have e2 : raiseB x low = false := by simp [raiseB, e1]
    have e3 : raiseX x low = x := by simp [raiseX, e2]
    rw [e1, e2, e3] at kont
    simp only [go_sem, c1, c2]
    exact kont _ _ W' H1.tail
  have e1 : raiseE low = 0 := by simp [raiseE, c1, c2]
  by_cases c3 : low ≤ x.low
  · have e2 : raiseB x low = false := by simp [raiseB, e1, c3]
    have e3 : raiseX x low = x := by simp [raiseX, e2]
    rw [e1, e2, e3] at kont
    simp only [go_sem, c1, c2, hg, n0, c3]
    exact kont _ _ W' H1.tail
  have e2 : raiseB x low = true := by simp [raiseB, e1]; omega
  have e3 : raiseX x low = { x with low := low, es := x.es.filter (fun e => decide (low < e.number)), fs := x.fs.filter fun e => decide (low < e.number) } := by simp [raiseX, e2]
  rw [e1, e2, e3] at kont
  have H2 := H1.put2 (.cells [.int .i64 x.g, .int .i64 x.f, .int .i64 low, .map (some ms), .map (some mb)] true)
  simp only [go_sem, c1, c2, hg, hm, hmb, n0, n1, n2, c3]
  have n12 : ms ≠ b := fun e => H.n12 e.symm
  refine del_ok win_true (test42 win_true low) ok1 hN (ms := ms) (q := σ.next) H2.g3 H2.l3 H2.g1 H2.l1 (by intro e; exact absurd e.symm (by simpa using of_eq_false n1)) ?_
  intro σ1 h1 h2 h3
  have hfe : (x.es.filter fun e => !decide (e.number ≤ low)) = x.es.filter fun e => decide (low < e.number) := by
    refine List.filter_congr fun e _ => ?_
    by_cases h : e.number ≤ low
    · simp [h]
    · simp [h]; omega
  rw [hfe] at h3
  have H3 := keep_one (H2.perm (((List.Perm.swap _ _ _).cons _).trans (List.Perm.swap _ _ _))) h2 (by omega) h3
  have hb3 : σ1.get b = _ := H3.g3
  have hq3 : σ1.get σ.next = _ := H3.g2
  have hm3 : σ1.get mb = _ := H3.g4
  simp only [go_sem, hb3, hq3, hm3]
  have hc0 : curB low x.fs [] = x.fs := by
    unfold curB
    exact List.filter_eq_self.2 fun x _ => by simp
  refine raise_loop (g := x.g) (f := x.f) (lw := low) ok2 (low := low) (b := b) (ms := ms) (mb := mb) (r := (ms, .map ((x.es.filter fun e => decide (low < e.number)).map En.av) x.c1) :: r) rfl _ N [] _ rfl ?_ ?_ ?_
  · exact Nat.lt_of_le_of_lt (List.length_filter_le _ _) hN2
  · rw [hc0]
    have H4 := H3.new (.miter (some mb) x.c2 [] x.c2)
    refine H4.perm (List.Perm.cons _ ?_)
    -- ms, q, b, mb, r to mb, q, b, ms, r
    refine ((List.Perm.swap _ _ _).trans (((List.Perm.swap _ _ _).cons _).trans ?_))
    refine (((List.Perm.swap _ _ _).cons _).cons _).trans ?_
    refine (((List.Perm.swap _ _ _).cons _)).trans ?_
    exact List.Perm.swap _ _ _
  · intro σ2 H5
    simp only [go_sem]
    refine kont σ2 _ ⟨⟨g0, g4, f0, f3, by simp only; omega, by simp only; omega, ok1.sub List.filter_sublist, ok2.sub List.filter_sublist⟩, rfl⟩ ?_
    -- mb, q, b, ms, r to b, ms, mb, r
    have H6 := H5.rot.tail
    exact H6.perm ((List.Perm.swap _ _ _).trans ((List.Perm.swap _ _ _).cons _))

theorem raise_nil (low : Int) {r : Hp} (H : HasH σ r) (kont : ∀ σ', HasH σ' r → K (.tuple [.bool false, .int .i64 (if low < 0 ∨ 1099511627768 < low then 1 else 7)]) σ' = some ()) :
    callK Try.prog N ann (d + 3) true 14 [.ptr none, .int .i64 low] σ K = some () := by
  rw [callK_succ _ _ _ _ _ _ _ _ _ (win_true _ _ _), f14_eq]
  by_cases c1 : low < 0
  · rw [if_pos (.inl c1)] at kont
    simp only [go_sem, c1]
    exact kont _ (H.new' _)
  by_cases c2 : 1099511627768 < low
  · rw [if_pos (.inr c2)] at kont
    simp only [go_sem, c1, c2]
    exact kont _ (H.new' _)
  rw [if_neg (by omega)] at kont
  simp only [go_sem, c1, c2]
  exact kont _ (H.new' _)

end Go.Proofs.Ytmgacgonoodkfaa
