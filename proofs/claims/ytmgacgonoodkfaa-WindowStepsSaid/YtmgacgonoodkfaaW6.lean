/- Entries are dropped: DeleteFunc, Leave, Raise. -/
import Derived.Test.YtmgacgonoodkfaaW4
import Derived.Test.YtmgacgonoodkfaaWiRaise
import Derived.Test.YtmgacgonoodkfaaWiLeave
namespace Go.Proofs.Ytmgacgonoodkfaa
open Go.AM
set_option maxRecDepth 100000
set_option linter.unusedSimpArgs false
set_option linter.unusedVariables false

/-- Nothing but these blocks has been changed. -/
def Keeps (σ σ' : St) (bs : List Nat) : Prop := ∀ i, i < σ.next → i ∉ bs → σ'.get i = σ.get i

theorem HasH.keep {σ σ' : St} {h : Hp} {bs : List Nat} (H : HasH σ h) (k : Keeps σ σ' bs) (hn : σ.next ≤ σ'.next) (hb : ∀ p ∈ h, p.1 ∉ bs) : HasH σ' h :=
  ⟨H.nodup, fun p hp => by rw [k p.1 (H.lt p hp) (hb p hp)]; exact H.get p hp, fun p hp => Nat.lt_of_lt_of_le (H.lt p hp) hn⟩

theorem ek_av (e : En) : EK.av e = (.agg [.int .i64 e.view, .int .i64 e.number], .ptr (some (e.s, 0)), e.born) := rfl
theorem ek_born (e : En) : EK.born e = e.born := rfl

theorem drop_one {es : List En} (hn : (es.map En.born).Nodup) {e : En} (he : e ∈ es) : (es.filter fun x => decide (x.born ≠ e.born)).length + 1 = es.length := by
  induction es with
  | nil => simp at he
  | cons a es ih =>
    simp only [List.map_cons, List.nodup_cons] at hn
    rw [List.filter_cons]
    rcases List.mem_cons.1 he with rfl | he
    · have : ∀ x ∈ es, decide (x.born ≠ e.born) = true := by
        intro x hx
        simp only [decide_eq_true_eq, ne_eq]
        intro h
        exact hn.1 (by rw [← h]; exact List.mem_map_of_mem hx)
      rw [if_neg (by simp), List.filter_eq_self.2 this]
      simp
    · have : a.born ≠ e.born := fun h => hn.1 (by rw [h]; exact List.mem_map_of_mem he)
      rw [if_pos (by simpa using this)]
      have := ih hn.2 he
      simp only [List.length_cons]
      omega

/-- What is left of entries when some have been looked at. -/
def curOf (P : Int → Int → Bool) (es : List En) (seen : List Nat) : List En := es.filter fun e => !(seen.contains e.born && P e.view e.number)

theorem contains_snoc (seen : List Nat) (b x : Nat) : (seen ++ [b]).contains x = (seen.contains x || decide (x = b)) := by
  rw [Bool.eq_iff_iff]
  simp [List.contains_eq_mem]

theorem cur_same {P : Int → Int → Bool} {es : List En} (hn : (es.map En.born).Nodup) (seen : List Nat) {e : En} (he : e ∈ es) (hP : P e.view e.number = false) : curOf P es (seen ++ [e.born]) = curOf P es seen := by
  unfold curOf
  refine List.filter_congr fun x hx => ?_
  rw [contains_snoc]
  by_cases h : x.born = e.born
  · have : x = e := by
      have : ∀ {l : List En}, (l.map En.born).Nodup → x ∈ l → e ∈ l → x.born = e.born → x = e := by
        intro l
        induction l with
        | nil => intro _ h; simp at h
        | cons a l ih =>
          intro hn h1 h2 h3
          simp only [List.map_cons, List.nodup_cons] at hn
          rcases List.mem_cons.1 h1 with rfl | g1
          · rcases List.mem_cons.1 h2 with rfl | g2
            · rfl
            · exact absurd (by rw [h3]; exact List.mem_map_of_mem g2) hn.1
          · rcases List.mem_cons.1 h2 with rfl | g2
            · exact absurd (by rw [← h3]; exact List.mem_map_of_mem g1) hn.1
            · exact ih hn.2 g1 g2 h3
      exact this hn hx he h
    subst this
    simp [hP]
  · simp [h]

theorem cur_drop {P : Int → Int → Bool} {es : List En} {c : Nat} (ok : EK.Ok es c) (seen : List Nat) {e : En} (he : e ∈ es) (hP : P e.view e.number = true) :
    curOf P es (seen ++ [e.born]) = (curOf P es seen).filter fun x => decide (EK.key x ≠ (e.view, e.number)) := by
  unfold curOf
  rw [List.filter_filter]
  refine List.filter_congr fun x hx => ?_
  rw [contains_snoc]
  have inj : ∀ {l : List En}, (l.map EK.key).Nodup → (l.map EK.born).Nodup → x ∈ l → e ∈ l → (x.born = e.born ↔ EK.key x = EK.key e) := by
    intro l
    induction l with
    | nil => intro _ _ h; simp at h
    | cons a l ih =>
      intro hk hb h1 h2
      simp only [List.map_cons, List.nodup_cons] at hk hb
      rcases List.mem_cons.1 h1 with rfl | g1
      · rcases List.mem_cons.1 h2 with rfl | g2
        · simp
        · exact ⟨fun h => absurd (by rw [show EK.born x = EK.born e from h]; exact List.mem_map_of_mem g2) hb.1, fun h => absurd (by rw [h]; exact List.mem_map_of_mem g2) hk.1⟩
      · rcases List.mem_cons.1 h2 with rfl | g2
        · exact ⟨fun h => absurd (by rw [← show EK.born x = EK.born e from h]; exact List.mem_map_of_mem g1) hb.1, fun h => absurd (by rw [← h]; exact List.mem_map_of_mem g1) hk.1⟩
        · exact ih hk.2 hb.2 g1 g2
  have hi := inj ok.2.2 ok.1 hx he
  by_cases h : x.born = e.born
  · have hk : EK.key x = (e.view, e.number) := hi.1 h
    have hxk : x.view = e.view ∧ x.number = e.number := by
      have : (x.view, x.number) = (e.view, e.number) := hk
      simpa using this
    rw [show decide (x.born = e.born) = true by simp [h], hxk.1, hxk.2, hP]
    simp [hk]
  · have hk : EK.key x ≠ (e.view, e.number) := fun hk => h (hi.2 hk)
    rw [show decide (x.born = e.born) = false by simp [h]]
    simp [hk]

section
variable [S : AM.Spec] {N d : Nat} {σ : St} {K : AV → St → Option Unit}

/-- A test of places: its function, its answer. -/
def TestOk (F : Nat) (k : Int) (P : Int → Int → Bool) (N d : Nat) : Prop :=
  ∀ (σ : St) (K : AV → St → Option Unit) (q : Nat) (v n : Int) (s : AV), σ.get q = some (.cells [.int .i64 k] true) → q < σ.next → s.toPtr.isSome = true →
    (∀ σ', σ'.next = σ.next + 1 → Keeps σ σ' [] → K (.bool (P v n)) σ' = some ()) → callK Try.prog N ann d true F [.agg [.int .i64 v, .int .i64 n], s, .ptr (some (q, 0))] σ K = some ()

theorem del_loop {F : Nat} {k : Int} {P : Int → Int → Bool} (hT : TestOk F k P N (d + 1)) {es : List En} {c : Nat} (ok : EK.Ok es c) {ms q it : Nat} {J : KF Unit} (σ0 : St)
    (hms : ms < σ0.next) (hq0 : σ0.get q = some (.cells [.int .i64 k] true)) (hq : q < σ0.next) (hqm : q ≠ ms) (hit : it = σ0.next) :
    ∀ (u n : Nat) (seen : List Nat) (σ : St), (es.filter fun e => !seen.contains e.born).length = u → u < n → σ.next + 2 * u = σ0.next + 1 + 2 * es.length → σ0.next + 1 ≤ σ.next → Keeps σ0 σ [ms] →
      σ.get it = some (.miter (some ms) c seen c) → σ.get ms = some (.map ((curOf P es seen).map En.av) c) →
      (∀ σ', σ'.next = σ0.next + 1 + 2 * es.length → Keeps σ0 σ' [ms] → σ'.get ms = some (.map ((es.filter fun e => !P e.view e.number).map En.av) c) → J (.exit 0) f41e6 σ' = some ()) →
      loopK (f41L3 (callK Try.prog N ann (d + 1)) true N) f41a3 n J (f41e2 (some ms) F q it) σ = some () := by
  intro u
  induction u using Nat.strongRecOn with
  | _ u ih =>
    intro n seen σ hu hn hnx hle hkeep hgi hgm kont
    obtain ⟨n, rfl⟩ : ∃ n', n = n' + 1 := ⟨n - 1, by omega⟩
    rw [loopK_succ]
    simp only [go_sem]
    have okc : EK.Ok (curOf P es seen) c := ok.sub List.filter_sublist
    refine EK.next (es := curOf P es seen) hgi hgm okc.2.1 ?_ ?_
    · intro hall
      simp only [go_sem]
      have hu0 : es.filter (fun e => !seen.contains e.born) = [] := by
        rw [List.filter_eq_nil_iff]
        intro e he h
        have hns : seen.contains e.born = false := by simpa using h
        have : e ∈ curOf P es seen := by
          unfold curOf
          rw [List.mem_filter]
          exact ⟨he, by simp only [hns, Bool.false_and, Bool.not_false]⟩
        have := hall e this
        have hb : EK.born e = e.born := rfl
        rw [hb] at this
        rw [List.contains_eq_mem, decide_eq_false_iff_not] at hns
        exact hns this
      have hall' : ∀ e ∈ es, seen.contains e.born = true := by
        intro e he
        rw [List.filter_eq_nil_iff] at hu0
        simpa using hu0 e he
      refine kont σ (by rw [hu0] at hu; simp at hu; omega) hkeep ?_
      rw [hgm]
      congr 3
      unfold curOf
      refine List.filter_congr fun e he => ?_
      rw [hall' e he]; simp
    · intro e he hns
      have hb : EK.born e = e.born := rfl
      rw [hb] at hns
      have hee : e ∈ es := (List.mem_filter.1 he).1
      have hne : (it = ms) = False := eq_false (by omega)
      have hme : (ms = it) = False := eq_false (by omega)
      have hent := EK.entry (σ := σ.put it (.miter (some ms) c (seen ++ [EK.born e]) c)) (it := it) (mb := ms) (c := c) (seen := seen) (es := curOf P es seen) (e := e) (by simp) (by simp [hme, hgm, EK]) okc.1 he
      rw [ek_born] at hent
      simp only [go_sem, ek_born]
      rw [hent]
      have nq1 : (q = σ.next) = False := eq_false (by omega)
      have nq2 : (q = it) = False := eq_false (by omega)
      have hqs : σ.get q = some (.cells [.int .i64 k] true) := by rw [hkeep q hq (by simpa using hqm)]; exact hq0
      simp only [go_sem, ek_av]
      refine hT _ _ q e.view e.number _ (by simp only [go_sem, nq1, nq2, hqs]) (by simp only [go_sem]; omega) rfl ?_
      intro σ1 hn1 hk1
      have hn1' : σ1.next = σ.next + 2 := hn1
      have i1 : (it = σ.next) = False := eq_false (by omega)
      have m1 : (ms = σ.next) = False := eq_false (by omega)
      have gi1 : σ1.get it = some (.miter (some ms) c (seen ++ [e.born]) c) := by
        rw [hk1 it (by simp only [St.next_put, St.next_new]; omega) (by simp)]
        simp only [go_sem, i1]
      have gm1 : σ1.get ms = some (.map ((curOf P es seen).map En.av) c) := by
        rw [hk1 ms (by simp only [St.next_put, St.next_new]; omega) (by simp)]
        simp only [go_sem, m1, hme, hgm]
      have gk1 : σ1.get σ.next = some (.cells [.int .i64 e.view, .int .i64 e.number] true) := by
        rw [hk1 σ.next (by simp only [St.next_put, St.next_new]; omega) (by simp)]
        simp only [go_sem]
      have keep1 : Keeps σ0 σ1 [ms] := by
        intro i hi hni
        have : i ≠ it := by omega
        have h2 : i ≠ σ.next := by omega
        rw [hk1 i (by simp only [St.next_put, St.next_new]; omega) (by simp), St.get_put, if_neg h2, St.get_new, St.next_put, if_neg h2, St.get_put, if_neg this]
        exact hkeep i hi hni
      have hbn : (es.map En.born).Nodup := ok.1
      have cnt : (es.filter fun x => !(seen ++ [e.born]).contains x.born).length + 1 = u := by
        have hf : (es.filter fun x => !(seen ++ [e.born]).contains x.born) = (es.filter fun x => !seen.contains x.born).filter fun x => decide (x.born ≠ e.born) := by
          rw [List.filter_filter]
          refine List.filter_congr fun x _ => ?_
          rw [contains_snoc]
          by_cases h : x.born = e.born <;> simp [h]
        rw [hf, ← hu]
        refine drop_one (hbn.sublist ((List.filter_sublist).map _)) ?_
        rw [List.mem_filter]
        exact ⟨hee, by rw [List.contains_eq_mem]; simpa using hns⟩
      cases hP : P e.view e.number with
      | true =>
        have hdel := EK.del (k := (e.view, e.number)) (es := curOf P es seen) okc.2.2
        have hdel' : mapDel true [.int .i64, .int .i64] [.int .i64 e.view, .int .i64 e.number] ((curOf P es seen).map En.av) = some (((curOf P es seen).filter fun x => decide (EK.key x ≠ (e.view, e.number))).map En.av) := hdel
        simp only [go_sem, hP, gk1, gm1, hdel']
        refine ih _ (by omega) n (seen ++ [e.born]) _ rfl (by omega) ?_ ?_ ?_ ?_ ?_ kont
        · simp only [St.next_put]; omega
        · simp only [St.next_put]; omega
        · intro i hi hni
          rw [St.get_put, if_neg (by simpa using hni)]
          exact keep1 i hi hni
        · rw [St.get_put, if_neg (by omega)]; exact gi1
        · rw [St.get_put, if_pos rfl, cur_drop ok seen hee hP]
      | false =>
        simp only [go_sem, hP]
        refine ih _ (by omega) n (seen ++ [e.born]) _ rfl (by omega) ?_ ?_ keep1 gi1 ?_ kont
        · omega
        · omega
        · rw [cur_same hbn seen hee hP]; exact gm1

variable (hS : ∀ f args σ, S.spec true f args σ = none)
include hS

theorem test42 (low : Int) : TestOk 42 low (fun _ n => decide (n ≤ low)) N (d + 1) := by
  intro σ K q v n s hq hlt hs kont
  cases s <;> simp [AV.toPtr] at hs
  have n0 : (q = σ.next) = False := eq_false (by omega)
  rw [callK_succ _ _ _ _ _ _ _ _ _ (hS _ _ _), f42_eq]
  simp only [go_sem, hq, n0]
  exact kont _ rfl fun i hi _ => by rw [St.get_new, if_neg (by omega)]

theorem test55 (w : Int) : TestOk 55 w (fun v _ => decide (v < w)) N (d + 1) := by
  intro σ K q v n s hq hlt hs kont
  cases s <;> simp [AV.toPtr] at hs
  have n0 : (q = σ.next) = False := eq_false (by omega)
  rw [callK_succ _ _ _ _ _ _ _ _ _ (hS _ _ _), f55_eq]
  simp only [go_sem, hq, n0]
  exact kont _ rfl fun i hi _ => by rw [St.get_new, if_neg (by omega)]

/-- DeleteFunc. -/
theorem del_ok {F : Nat} {k : Int} {P : Int → Int → Bool} (hT : TestOk F k P N (d + 1)) {es : List En} {c : Nat} (ok : EK.Ok es c) {ms q : Nat} (hN : es.length < N) (hm : σ.get ms = some (.map (es.map En.av) c))
    (hms : ms < σ.next) (hq0 : σ.get q = some (.cells [.int .i64 k] true)) (hq : q < σ.next) (hqm : q ≠ ms)
    (kont : ∀ σ', σ'.next = σ.next + 1 + 2 * es.length → Keeps σ σ' [ms] → σ'.get ms = some (.map ((es.filter fun e => !P e.view e.number).map En.av) c) → K (.tuple []) σ' = some ()) :
    callK Try.prog N ann (d + 2) true 41 [.map (some ms), .func (.func F) [] [.ptr (some (q, 0))]] σ K = some () := by
  have m1 : (ms = σ.next) = False := eq_false (by omega)
  rw [callK_succ _ _ _ _ _ _ _ _ _ (hS _ _ _), f41_eq]
  simp only [go_sem, hm, m1]
  have hc0 : curOf P es [] = es := by
    unfold curOf
    exact List.filter_eq_self.2 fun x _ => by simp
  refine del_loop hT ok (it := σ.next) σ hms hq0 hq hqm rfl _ N [] _ rfl ?_ ?_ ?_ ?_ ?_ ?_ ?_
  · exact Nat.lt_of_le_of_lt (List.length_filter_le _ _) hN
  · simp only [St.next_new]
    have : (es.filter fun e => !([] : List Nat).contains e.born) = es := List.filter_eq_self.2 fun x _ => by simp
    rw [this]
  · simp only [St.next_new]; omega
  · intro i hi _; rw [St.get_new, if_neg (by omega)]
  · simp only [go_sem]
  · rw [St.get_new, if_neg (by omega), hc0]; exact hm
  · intro σ' h1 h2 h3
    simp only [go_sem]
    exact kont σ' h1 h2 h3

/-- Leave, told of memory itself. -/
theorem leave_raw {b ms mb : Nat} {g f low : Int} {es : List En} {c : Nat} (ok : EK.Ok es c) (hN : es.length < N) (hlen : es.length ≤ 1000) (v : Int)
    (hb : σ.get b = some (.cells [.int .i64 g, .int .i64 f, .int .i64 low, .map (some ms), .map (some mb)] true)) (hm : σ.get ms = some (.map (es.map En.av) c)) (hbl : b < σ.next) (hml : ms < σ.next) (hne : b ≠ ms)
    (kont : ∀ σ', σ'.next = σ.next + 2 + 2 * es.length → Keeps σ σ' [ms] → σ'.get ms = some (.map ((es.filter fun e => decide (v ≤ e.view)).map En.av) c) →
      K (.int .i64 (es.length - (es.filter fun e => decide (v ≤ e.view)).length)) σ' = some ()) :
    callK Try.prog N ann (d + 3) true 40 [.ptr (some (b, 0)), .int .i64 v] σ K = some () := by
  have n0 : (b = σ.next) = False := eq_false (by omega)
  have n1 : (ms = σ.next) = False := eq_false (by omega)
  rw [callK_succ _ _ _ _ _ _ _ _ _ (hS _ _ _), f40_eq]
  simp only [go_sem, hb, hm, n0, n1]
  refine del_ok hS (test55 hS v) ok hN (ms := ms) (q := σ.next) (by simp only [go_sem, n1, hm]) (by simp only [St.next_new]; omega) (by simp only [go_sem]) (by simp only [St.next_new]; omega) (by omega) ?_
  intro σ1 h1 h2 h3
  have hfe : (es.filter fun e => !decide (e.view < v)) = es.filter fun e => decide (v ≤ e.view) := by
    refine List.filter_congr fun e _ => ?_
    by_cases h : e.view < v
    · simp [h]
    · simp [h]; omega
  rw [hfe] at h3
  have hb1 : σ1.get b = some (.cells [.int .i64 g, .int .i64 f, .int .i64 low, .map (some ms), .map (some mb)] true) := by
    rw [h2 b (by simp only [St.next_new]; omega) (by simpa using hne), St.get_new, if_neg (by omega)]; exact hb
  have hl : (es.filter fun e => decide (v ≤ e.view)).length ≤ es.length := List.length_filter_le _ _
  have hw : IntKind.i64.wrap ((es.length : Int) - ((es.filter fun e => decide (v ≤ e.view)).length : Nat)) = (es.length : Int) - ((es.filter fun e => decide (v ≤ e.view)).length : Nat) := wrap_small (by omega) (by omega)
  simp only [go_sem, hb1, h3, List.length_map, hw]
  refine kont σ1 (by rw [h1]; simp only [St.next_new]) ?_ h3
  intro i hi hni
  rw [h2 i (by simp only [St.next_new]; omega) hni, St.get_new, if_neg (by omega)]

end

section
variable {N d : Nat} {σ : St} {K : AV → St → Option Unit}

theorem win_true : ∀ f args σ, winSpec.spec true f args σ = none := by
  intro f args σ
  show (if f = 40 then (if true = true then none else leaveSpec args σ) else none) = none
  split <;> rfl

def leaveX (x : Wn) (v : Int) : Wn := { x with es := x.es.filter fun e => decide (v ≤ e.view) }
theorem leave_ok {b ms mb : Nat} {x : Wn} {h r : Hp} (W : WinP b ms mb x h) (H : HasH σ (h ++ r)) (hN : x.es.length < N) (hlen : x.es.length ≤ 1000) (v : Int)
    (kont : ∀ σ' h', WinP b ms mb (leaveX x v) h' → HasH σ' (h' ++ r) → K (.int .i64 (x.es.length - (leaveX x v).es.length)) σ' = some ()) :
    callK Try.prog N ann (d + 3) true 40 [.ptr (some (b, 0)), .int .i64 v] σ K = some () := by
  obtain ⟨ho, rfl⟩ := W
  obtain ⟨g0, g4, f0, f3, l0, l1, ok1, ok2⟩ := ho
  refine leave_raw win_true ok1 hN hlen v H.g1 H.g2 H.l1 H.l2 H.n12 ?_
  intro σ' h1 h2 h3
  refine kont σ' _ ⟨⟨g0, g4, f0, f3, l0, l1, ok1.sub List.filter_sublist, ok2⟩, rfl⟩ ?_
  have H1 := H.rot
  have H2 : HasH σ' ((b, Blk.cells [.int .i64 x.g, .int .i64 x.f, .int .i64 x.low, .map (some ms), .map (some mb)] true) :: (mb, .map (x.fs.map Bn.av) x.c2) :: r) := by
    refine HasH.keep H1.tail h2 (by omega) ?_
    intro p hp
    have := H1.nodup
    simp only [List.map_cons, List.nodup_cons] at this
    simp only [List.mem_singleton]
    intro he
    refine this.1 ?_
    rw [← he]
    exact List.mem_map_of_mem hp
  refine (HasH.rot ⟨?_, ?_, ?_⟩)
  · have := H1.nodup
    simpa using this
  · intro p hp
    rcases List.mem_cons.1 hp with rfl | hp
    · exact h3
    · exact H2.get p hp
  · intro p hp
    rcases List.mem_cons.1 hp with rfl | hp
    · have := H.l2; simp only; omega
    · exact H2.lt p hp

theorem leave_nil (v : Int) {r : Hp} (H : HasH σ r) (kont : ∀ σ', HasH σ' r → K (.int .i64 0) σ' = some ()) : callK Try.prog N ann (d + 3) true 40 [.ptr none, .int .i64 v] σ K = some () := by
  rw [callK_succ _ _ _ _ _ _ _ _ _ (win_true _ _ _), f40_eq]
  simp only [go_sem]
  exact kont _ (H.new' _)

end
end Go.Proofs.Ytmgacgonoodkfaa

namespace Go.Proofs.Ytmgacgonoodkfaa
open Go.AM
set_option maxRecDepth 100000
set_option linter.unusedSimpArgs false
set_option linter.unusedVariables false
variable {N d : Nat} {σ : St} {K : AV → St → Option Unit}

theorem bk_av (e : Bn) : BK.av e = (.int .i64 e.number, .agg [.int .i64 e.view, .str e.text, .int .i64 e.group, .slice none 0 (some 0) 2], e.born) := rfl
theorem bk_born (e : Bn) : BK.born e = e.born := rfl

theorem drop_bn {es : List Bn} (hn : (es.map Bn.born).Nodup) {e : Bn} (he : e ∈ es) : (es.filter fun x => decide (x.born ≠ e.born)).length + 1 = es.length := by
  induction es with
  | nil => simp at he
  | cons a es ih =>
    simp only [List.map_cons, List.nodup_cons] at hn
    rw [List.filter_cons]
    rcases List.mem_cons.1 he with rfl | he
    · have : ∀ x ∈ es, decide (x.born ≠ e.born) = true := by
        intro x hx
        simp only [decide_eq_true_eq, ne_eq]
        intro h
        exact hn.1 (by rw [← h]; exact List.mem_map_of_mem hx)
      rw [if_neg (by simp), List.filter_eq_self.2 this]
      simp
    · have : a.born ≠ e.born := fun h => hn.1 (by rw [h]; exact List.mem_map_of_mem he)
      rw [if_pos (by simpa using this)]
      have := ih hn.2 he
      simp only [List.length_cons]
      omega

def curB (low : Int) (fs : List Bn) (seen : List Nat) : List Bn := fs.filter fun e => !(seen.contains e.born && decide (e.number ≤ low))

theorem bn_inj {x e : Bn} : ∀ {l : List Bn} {c : Nat}, BK.Ok l c → x ∈ l → e ∈ l → (x.born = e.born ↔ x.number = e.number) := by
  intro l
  induction l with
  | nil => intro c _ h; simp at h
  | cons a l ih =>
    intro c ok h1 h2
    obtain ⟨hb, hlt, hk⟩ := ok
    simp only [List.map_cons, List.nodup_cons] at hk hb
    rcases List.mem_cons.1 h1 with rfl | g1
    · rcases List.mem_cons.1 h2 with rfl | g2
      · simp
      · exact ⟨fun h => absurd (by rw [show BK.born x = BK.born e from h]; exact List.mem_map_of_mem g2) hb.1, fun h => absurd (by rw [show BK.key x = BK.key e from h]; exact List.mem_map_of_mem g2) hk.1⟩
    · rcases List.mem_cons.1 h2 with rfl | g2
      · exact ⟨fun h => absurd (by rw [← show BK.born x = BK.born e from h]; exact List.mem_map_of_mem g1) hb.1, fun h => absurd (by rw [← show BK.key x = BK.key e from h]; exact List.mem_map_of_mem g1) hk.1⟩
      · exact ih ⟨hb.2, fun y hy => hlt y (List.mem_cons_of_mem _ hy), hk.2⟩ g1 g2

theorem curB_same {low : Int} {fs : List Bn} {c : Nat} (ok : BK.Ok fs c) (seen : List Nat) {e : Bn} (he : e ∈ fs) (hP : ¬ e.number ≤ low) : curB low fs (seen ++ [e.born]) = curB low fs seen := by
  unfold curB
  refine List.filter_congr fun x hx => ?_
  rw [contains_snoc]
  by_cases h : x.born = e.born
  · have := (bn_inj ok hx he).1 h
    rw [this]
    simp [hP]
  · simp [h]

theorem curB_drop {low : Int} {fs : List Bn} {c : Nat} (ok : BK.Ok fs c) (seen : List Nat) {e : Bn} (he : e ∈ fs) (hP : e.number ≤ low) :
    curB low fs (seen ++ [e.born]) = (curB low fs seen).filter fun x => decide (BK.key x ≠ e.number) := by
  unfold curB
  rw [List.filter_filter]
  refine List.filter_congr fun x hx => ?_
  rw [contains_snoc]
  by_cases h : x.born = e.born
  · have hk := (bn_inj ok hx he).1 h
    have hk' : BK.key x = e.number := hk
    rw [show decide (x.born = e.born) = true by simp [h], hk]
    simp [hk', hP]
  · have hk : ¬ x.number = e.number := fun hk => h ((bn_inj ok hx he).2 hk)
    have hk' : BK.key x ≠ e.number := hk
    rw [show decide (x.born = e.born) = false by simp [h]]
    simp [hk']

theorem raise_loop {g f lw low : Int} {fs : List Bn} {c : Nat} (ok : BK.Ok fs c) {b ms mb q it : Nat} {r : Hp} {J : KF Unit} {o : Option (Nat × Nat)} (ho : o = some (b, 0)) :
    ∀ (u n : Nat) (seen : List Nat) (σ : St), (fs.filter fun e => !seen.contains e.born).length = u → u < n →
      HasH σ ((it, .miter (some mb) c seen c) :: (mb, .map ((curB low fs seen).map Bn.av) c) :: (q, .cells [.int .i64 low] true) :: (b, .cells [.int .i64 g, .int .i64 f, .int .i64 lw, .map (some ms), .map (some mb)] true) :: r) →
      (∀ σ', HasH σ' ((mb, .map ((fs.filter fun e => decide (low < e.number)).map Bn.av) c) :: (q, .cells [.int .i64 low] true) :: (b, .cells [.int .i64 g, .int .i64 f, .int .i64 lw, .map (some ms), .map (some mb)] true) :: r) → J (.exit 1) f14e21 σ' = some ()) →
      loopK (f14L32 (callK Try.prog N ann (d + 1)) true N) f14a32 n J (f14e17 o q it) σ = some () := by
  subst ho
  intro u
  induction u using Nat.strongRecOn with
  | _ u ih =>
    intro n seen σ hu hn H kont
    obtain ⟨n, rfl⟩ : ∃ n', n = n' + 1 := ⟨n - 1, by omega⟩
    have hgi : σ.get it = _ := H.g1
    have hgm : σ.get mb = _ := H.g2
    have hgq : σ.get q = _ := H.g3
    have hgb : σ.get b = _ := H.g4
    have okc : BK.Ok (curB low fs seen) c := ok.sub List.filter_sublist
    have hnd := H.nd
    simp only [List.map_cons, List.pairwise_cons, List.mem_cons, forall_eq_or_imp] at hnd
    rw [loopK_succ]
    simp only [go_sem]
    refine BK.next (es := curB low fs seen) hgi hgm okc.2.1 ?_ ?_
    · intro hall
      simp only [go_sem]
      have hall' : ∀ e ∈ fs, seen.contains e.born = true := by
        intro e he
        cases hs : seen.contains e.born with
        | true => rfl
        | false =>
          exfalso
          have : e ∈ curB low fs seen := by
            unfold curB
            rw [List.mem_filter]
            exact ⟨he, by simp only [hs, Bool.false_and, Bool.not_false]⟩
          have := hall e this
          rw [bk_born] at this
          rw [List.contains_eq_mem, decide_eq_false_iff_not] at hs
          exact hs this
      have hc : curB low fs seen = fs.filter fun e => decide (low < e.number) := by
        unfold curB
        refine List.filter_congr fun e he => ?_
        rw [hall' e he]
        by_cases h : e.number ≤ low
        · simp [h]
        · simp [h]; omega
      rw [hc] at H
      exact kont σ H.tail
    · intro e he hns
      rw [bk_born] at hns
      have hee : e ∈ fs := (List.mem_filter.1 he).1
      have n1 : (mb = it) = False := eq_false (by have := hnd.1.1; exact this.2)
      have n2 : (q = it) = False := eq_false (by have := hnd.1.2.1; exact this.2)
      have n3 : (b = it) = False := eq_false (by have := hnd.1.2.2.1; exact this.2)
      have hent := BK.entry (σ := σ.put it (.miter (some mb) c (seen ++ [BK.born e]) c)) (it := it) (mb := mb) (c := c) (seen := seen) (es := curB low fs seen) (e := e) (by simp) (by simp only [St.get_put, n1, if_false]; exact hgm) okc.1 he
      rw [bk_born] at hent
      have H1 := H.put (.miter (some mb) c (seen ++ [e.born]) c)
      have cnt : (fs.filter fun x => !(seen ++ [e.born]).contains x.born).length + 1 = u := by
        have hf : (fs.filter fun x => !(seen ++ [e.born]).contains x.born) = (fs.filter fun x => !seen.contains x.born).filter fun x => decide (x.born ≠ e.born) := by
          rw [List.filter_filter]
          refine List.filter_congr fun x _ => ?_
          rw [contains_snoc]
          by_cases h : x.born = e.born <;> simp [h]
        have hbn : (fs.map Bn.born).Nodup := ok.1
        rw [hf, ← hu]
        refine drop_bn (hbn.sublist ((List.filter_sublist).map _)) ?_
        rw [List.mem_filter]
        exact ⟨hee, by rw [List.contains_eq_mem]; simpa using hns⟩
      simp only [go_sem, bk_born]
      rw [hent]
      by_cases hP : e.number ≤ low
      · have hdel := BK.del (k := e.number) (es := curB low fs seen) okc.2.2
        have hdel' : mapDel false [.int .i64] [.int .i64 e.number] ((curB low fs seen).map Bn.av) = some (((curB low fs seen).filter fun x => decide (BK.key x ≠ e.number)).map Bn.av) := hdel
        simp only [go_sem, bk_av, n1, n2, n3, hgm, hgq, hgb, hP, hdel']
        refine ih _ (by omega) n (seen ++ [e.born]) _ rfl (by omega) ?_ kont
        rw [curB_drop ok seen hee hP]
        exact H1.put2 _
      · simp only [go_sem, bk_av, n1, n2, n3, hgm, hgq, hgb, hP]
        refine ih _ (by omega) n (seen ++ [e.born]) _ rfl (by omega) ?_ kont
        rw [curB_same ok seen hee hP]
        exact H1

theorem keep_one {σ σ' : St} {b : Nat} {x y : Blk} {h : Hp} (H : HasH σ ((b, x) :: h)) (k : Keeps σ σ' [b]) (hn : σ.next ≤ σ'.next) (hg : σ'.get b = some y) : HasH σ' ((b, y) :: h) := by
  have nd := H.nodup
  simp only [List.map_cons, List.nodup_cons] at nd
  have H2 : HasH σ' h := HasH.keep H.tail k hn (by
    intro p hp
    simp only [List.mem_singleton]
    intro he
    exact nd.1 (by rw [← he]; exact List.mem_map_of_mem hp))
  refine ⟨by simpa using nd, ?_, ?_⟩
  · intro p hp
    rcases List.mem_cons.1 hp with rfl | hp
    · exact hg
    · exact H2.get p hp
  · intro p hp
    rcases List.mem_cons.1 hp with rfl | hp
    · exact Nat.lt_of_lt_of_le (H.lt (b, x) (by simp)) hn
    · exact H2.lt p hp

def raiseE (low : Int) : Int := if low < 0 ∨ 1099511627768 < low then 1 else 0
def raiseB (x : Wn) (low : Int) : Bool := decide (raiseE low = 0) && decide (x.low < low)
def raiseX (x : Wn) (low : Int) : Wn := if raiseB x low = true then { x with low := low, es := x.es.filter (fun e => decide (low < e.number)), fs := x.fs.filter fun e => decide (low < e.number) } else x

theorem raise_ok {b ms mb : Nat} {x : Wn} {h r : Hp} (W : WinP b ms mb x h) (H : HasH σ (h ++ r)) (hN : x.es.length < N) (hN2 : x.fs.length < N) (low : Int)
    (kont : ∀ σ' h', WinP b ms mb (raiseX x low) h' → HasH σ' (h' ++ r) → K (.tuple [.bool (raiseB x low), .int .i64 (raiseE low)]) σ' = some ()) :
    callK Try.prog N ann (d + 3) true 14 [.ptr (some (b, 0)), .int .i64 low] σ K = some () := by
  have W' := W
  obtain ⟨ho, rfl⟩ := W
  obtain ⟨g0, g4, f0, f3, l0, l1, ok1, ok2⟩ := ho
  have n0 : (b = σ.next) = False := eq_false (by have := H.l1; omega)
  have n1 : (ms = σ.next) = False := eq_false (by have := H.l2; omega)
  have n2 : (mb = σ.next) = False := eq_false (by have := H.l3; omega)
  have hg : σ.get b = _ := H.g1
  have hm : σ.get ms = _ := H.g2
  have hmb : σ.get mb = _ := H.g3
  have H1 := H.new (.cells [.int .i64 low] true)
  rw [callK_succ _ _ _ _ _ _ _ _ _ (win_true _ _ _), f14_eq]
  by_cases c1 : low < 0
  · have e1 : raiseE low = 1 := by simp [raiseE, c1]
    have e2 : raiseB x low = false := by simp [raiseB, e1]
    have e3 : raiseX x low = x := by simp [raiseX, e2]
    rw [e1, e2, e3] at kont
    simp only [go_sem, c1]
    exact kont _ _ W' H1.tail
  by_cases c2 : 1099511627768 < low
  · have e1 : raiseE low = 1 := by simp [raiseE, c2]
    have e2 : raiseB x low = false := by simp [raiseB, e1]
    have e3 : raiseX x low = x := by simp [raiseX, e2]
    rw [e1, e2, e3] at kont
    simp only [go_sem, c1, c2]
    exact kont _ _ W' H1.tail
  have e1 : raiseE low = 0 := by simp [raiseE, c1, c2]
  by_cases c3 : low ≤ x.low
  · have e2 : raiseB x low = false := by simp [raiseB, e1, c3]
    have e3 : raiseX x low = x := by simp [raiseX, e2]
    rw [e1, e2, e3] at kont
    simp only [go_sem, c1, c2, hg, n0, c3]
    exact kont _ _ W' H1.tail
  have e2 : raiseB x low = true := by simp [raiseB, e1]; omega
  have e3 : raiseX x low = { x with low := low, es := x.es.filter (fun e => decide (low < e.number)), fs := x.fs.filter fun e => decide (low < e.number) } := by simp [raiseX, e2]
  rw [e1, e2, e3] at kont
  have H2 := H1.put2 (.cells [.int .i64 x.g, .int .i64 x.f, .int .i64 low, .map (some ms), .map (some mb)] true)
  simp only [go_sem, c1, c2, hg, hm, hmb, n0, n1, n2, c3]
  have n12 : ms ≠ b := fun e => H.n12 e.symm
  refine del_ok win_true (test42 win_true low) ok1 hN (ms := ms) (q := σ.next) H2.g3 H2.l3 H2.g1 H2.l1 (by intro e; exact absurd e.symm (by simpa using of_eq_false n1)) ?_
  intro σ1 h1 h2 h3
  have hfe : (x.es.filter fun e => !decide (e.number ≤ low)) = x.es.filter fun e => decide (low < e.number) := by
    refine List.filter_congr fun e _ => ?_
    by_cases h : e.number ≤ low
    · simp [h]
    · simp [h]; omega
  rw [hfe] at h3
  have H3 := keep_one (H2.perm (((List.Perm.swap _ _ _).cons _).trans (List.Perm.swap _ _ _))) h2 (by omega) h3
  have hb3 : σ1.get b = _ := H3.g3
  have hq3 : σ1.get σ.next = _ := H3.g2
  have hm3 : σ1.get mb = _ := H3.g4
  simp only [go_sem, hb3, hq3, hm3]
  have hc0 : curB low x.fs [] = x.fs := by
    unfold curB
    exact List.filter_eq_self.2 fun x _ => by simp
  refine raise_loop (g := x.g) (f := x.f) (lw := low) ok2 (low := low) (b := b) (ms := ms) (mb := mb) (r := (ms, .map ((x.es.filter fun e => decide (low < e.number)).map En.av) x.c1) :: r) rfl _ N [] _ rfl ?_ ?_ ?_
  · exact Nat.lt_of_le_of_lt (List.length_filter_le _ _) hN2
  · rw [hc0]
    have H4 := H3.new (.miter (some mb) x.c2 [] x.c2)
    refine H4.perm (List.Perm.cons _ ?_)
    -- ms, q, b, mb, r to mb, q, b, ms, r
    refine ((List.Perm.swap _ _ _).trans (((List.Perm.swap _ _ _).cons _).trans ?_))
    refine (((List.Perm.swap _ _ _).cons _).cons _).trans ?_
    refine (((List.Perm.swap _ _ _).cons _)).trans ?_
    exact List.Perm.swap _ _ _
  · intro σ2 H5
    simp only [go_sem]
    refine kont σ2 _ ⟨⟨g0, g4, f0, f3, by simp only; omega, by simp only; omega, ok1.sub List.filter_sublist, ok2.sub List.filter_sublist⟩, rfl⟩ ?_
    -- mb, q, b, ms, r to b, ms, mb, r
    have H6 := H5.rot.tail
    exact H6.perm ((List.Perm.swap _ _ _).trans ((List.Perm.swap _ _ _).cons _))

theorem raise_nil (low : Int) {r : Hp} (H : HasH σ r) (kont : ∀ σ', HasH σ' r → K (.tuple [.bool false, .int .i64 (if low < 0 ∨ 1099511627768 < low then 1 else 7)]) σ' = some ()) :
    callK Try.prog N ann (d + 3) true 14 [.ptr none, .int .i64 low] σ K = some () := by
  rw [callK_succ _ _ _ _ _ _ _ _ _ (win_true _ _ _), f14_eq]
  by_cases c1 : low < 0
  · rw [if_pos (.inl c1)] at kont
    simp only [go_sem, c1]
    exact kont _ (H.new' _)
  by_cases c2 : 1099511627768 < low
  · rw [if_pos (.inr c2)] at kont
    simp only [go_sem, c1, c2]
    exact kont _ (H.new' _)
  rw [if_neg (by omega)] at kont
  simp only [go_sem, c1, c2]
  exact kont _ (H.new' _)

end Go.Proofs.Ytmgacgonoodkfaa
