/- The abstract machine against the model: regions that draw their order: the steps, the whole. -/
import Derived.Test.YtnjhcfcnpapaiaaGreatDoorA24
set_option linter.unusedVariables false
set_option linter.unusedSimpArgs false
namespace Go.AM
open Go.RowKit (Below)

section
variable {B : Nat} {P : Program} {R : Type}
variable {call : CallF R} {ops : Array Oper} {E : Nat → Env} {S : Nat → St} {V : Nat → AV} {ran : Nat → Bool} {pt : Nat → Nat × Nat}
variable {D : Nat → Prop} {m m0 : Mp} {w w0 : World} {a : Act}

theorem Run.nexts (X : Run B P call ops E S V ran pt) (r : R) {k j : Nat} (hkj : k < j) (hj : j ≤ ops.size) (hk : AlAt ops ran k) (h : ∀ i, k ≤ i → i < j → ¬ EffAt ops ran i) : (S k).next < (S j).next := by
  obtain ⟨cs, hcs⟩ := X.alloc r (by omega) hk
  have := (X.segment' r (y := k + 1) hkj hj fun i a b => h i (by omega) b).1
  rw [hcs, St.next_new] at this
  omega

/-- Where an allocation whose turn has come lies. -/
theorem Run.allocAt (X : Run B P call ops E S V ran pt) (hcl : ∀ i j, D j → ord (Region.before ops) i j = true → D i) {j : Nat} (T : Turn ops D j) (ha : AlAt ops ran j) {q t : Nat} {σ : St} (H : HeapAt B ops S ran D m w q t σ) : q ≤ j ∧ j < t := by
  constructor
  · refine Nat.le_of_not_lt fun hjq => ?_
    rcases H.bot with hb | ⟨hb0, hb⟩
    · omega
    · have hqn : q - 1 < ops.size := by have := H.qt; have := H.tn; omega
      have hD : D (q - 1) := (H.effs _ hqn hb).2 (by omega)
      by_cases hj : j = q - 1
      · exact T.new (hj ▸ hD)
      · by_cases ho : ord (Region.before ops) j (q - 1) = true
        · exact T.new (hcl j _ hD ho)
        · exact (X.pair (by omega) hqn (ordF ho)).2.2.2.2 ⟨ha.2, hb.2⟩
  · refine Nat.lt_of_not_le fun htj => ?_
    have hT : EffAt ops ran t := by
      rcases H.top with h | h
      · have := T.lt; omega
      · exact h
    have hne : t ≠ j := fun h => by have := hT.2; rw [h, ha.2] at this; cases this
    by_cases ho : ord (Region.before ops) t j = true
    · have := (H.effs t (by have := T.lt; omega) hT).1 (T.pre t ho)
      have := H.qt; omega
    · exact (X.pair (by omega) T.lt (ordF ho)).2.2.2.1 ⟨hT.2, ha.2⟩

theorem Run.effAt (X : Run B P call ops E S V ran pt) {j : Nat} (T : Turn ops D j) (ha : EffAt ops ran j) {q t : Nat} {σ : St} (H : HeapAt B ops S ran D m w q t σ) : j = t := by
  have h1 : q ≤ j := Nat.le_of_not_lt fun h => T.new ((H.effs j T.lt ha).2 h)
  have h2 : t ≤ j := Nat.le_of_not_lt fun h => H.mid j h1 h ha
  by_cases hne : j = t
  · exact hne
  · have hT : EffAt ops ran t := by
      rcases H.top with h | h
      · have := T.lt; omega
      · exact h
    by_cases ho : ord (Region.before ops) t j = true
    · have := (H.effs t (by have := T.lt; omega) hT).1 (T.pre t ho)
      have := H.qt; omega
    · exact absurd ⟨hT.2, ha.2⟩ (X.pair (by omega) T.lt (ordF ho)).2.2.1

theorem Run.heapAlloc (X : Run B P call ops E S V ran pt) (r : R) {j : Nat} (hnD : ¬ D j) (hj : j < ops.size) (ha : AlAt ops ran j) {q t : Nat} {σ : St} (H : HeapAt B ops S ran D m w q t σ) (hqj : q ≤ j) (hjt : j < t)
    {bx : Blk} (hcs : (S j).new bx = S (j + 1)) : m (S j).next = none ∧ ∀ (L : Loc) (w' : World), (∀ (σ0 σ' : St), Sim B σ0 m w → (∀ i, σ'.get i = if i = (S j).next then some bx else σ0.get i) → Sim B σ' (upd m (S j).next L) w') →
      ∃ σ', HeapAt B ops S ran (fun k => D k ∨ k = j) (upd m (S j).next L) w' q t σ' := by
  have htn := H.tn
  have hmid : ∀ {x y : Nat}, q ≤ x → y ≤ t → ∀ k, x ≤ k → k < y → ¬ EffAt ops ran k := fun h1 h2 k a b => H.mid k (by omega) (by omega)
  have hno : ¬ Has S ops ran D q t (S j).next := by
    rintro (h | ⟨k, k1, k2, k3, k4, k5⟩)
    · have := (X.segment' r hqj (by omega) (hmid (Nat.le_refl _) (by omega))).1; omega
    · rcases Nat.lt_trichotomy k j with h | h | h
      · have := X.nexts r h (by omega) k4 (hmid k2 (by omega)); omega
      · exact hnD (h ▸ k1)
      · have := X.nexts r h (by omega) ha (hmid hqj (by omega)); omega
  refine ⟨(H.gone _ hno).2, fun L w' hsim => ⟨σ.put (S j).next bx, ⟨H.qt, H.tn, H.mid, H.top, H.bot, fun k hk he => ?_, hsim σ _ H.sim (fun i => by rw [St.get_put]), H.dead, fun i hi => ?_, fun i hi => ?_⟩⟩⟩
  · rw [← H.effs k hk he]
    have hkj : k ≠ j := fun h => by have := he.2; rw [h, ha.2] at this; cases this
    simp [hkj]
  · rw [St.get_put]
    split
    · rename_i hin
      subst hin
      rw [(X.segment' r (y := j + 1) (x := t) hjt htn (hmid (by omega) (Nat.le_refl _))).2.1 _ (.inl (by rw [← hcs, St.next_new]; omega)), ← hcs, St.get_new, if_pos rfl]
    · rename_i hin
      refine H.here i ?_
      rcases hi with h | ⟨k, k1, k2, k3, k4, k5⟩
      · exact .inl h
      · rcases k1 with k1 | k1
        · exact .inr ⟨k, k1, k2, k3, k4, k5⟩
        · subst k1; exact absurd k5.symm hin
  · have hin : i ≠ (S j).next := fun h => hi (.inr ⟨j, .inr rfl, hqj, hjt, ha, h.symm⟩)
    have hno' : ¬ Has S ops ran D q t i := fun h => hi (h.imp id fun ⟨k, k1, k2⟩ => ⟨k, .inl k1, k2⟩)
    obtain ⟨g1, g2⟩ := H.gone i hno'
    rw [St.get_put, if_neg hin]
    refine ⟨g1, ?_⟩
    unfold upd; rw [if_neg hin]; exact g2

/-- Where all that comes ahead has run, the heap is the text's. -/
theorem Run.heapAll (X : Run B P call ops E S V ran pt) (r : R) {q t : Nat} {σ : St} (H : HeapAt B ops S ran D m w q t σ) (hall : ∀ k, q ≤ k → k < t → AlAt ops ran k → D k) : Sim B (S t) m w ∧ Fr m (S t).next := by
  obtain ⟨n1, g1, s1⟩ := X.segment' r H.qt H.tn H.mid
  have hh : ∀ i, i < (S t).next → Has S ops ran D q t i := by
    intro i hi
    by_cases hq : i < (S q).next
    · exact .inl hq
    · obtain ⟨k, k1, k2, k3, k4⟩ := s1 i (by omega) hi
      exact .inr ⟨k, hall k k1 k2 k3, k1, k2, k3, k4⟩
  have hn : ∀ i, (S t).next ≤ i → ¬ Has S ops ran D q t i := by
    rintro i hi (h | ⟨k, k1, k2, k3, k4, k5⟩)
    · omega
    · have := X.nexts r k3 H.tn k4 (fun i a b => H.mid i (by omega) b); omega
  refine ⟨H.sim.congr fun i => ?_, fun i hi => (H.gone i (hn i hi)).2⟩
  by_cases hi : i < (S t).next
  · exact .inl (H.here i (hh i hi)).symm
  · exact .inr (by rw [g1 i (.inr (by omega))]; exact H.dead i (by omega))

theorem Run.heapEffect (X : Run B P call ops E S V ran pt) (r : R) (hcl : ∀ i j, D j → ord (Region.before ops) i j = true → D i) {q t : Nat} {σ : St} (T : Turn ops D t) (ha : EffAt ops ran t) (H : HeapAt B ops S ran D m w q t σ) {m' : Mp} {w' : World} (hs : Sim B (S (t + 1)) m' w') (hf : Fr m' (S (t + 1)).next) :
    ∃ q' t' σ', HeapAt B ops S ran (fun k => D k ∨ k = t) m' w' q' t' σ' := by
  obtain ⟨t', t1, t2, t3, t4⟩ := next_eff ops.size ran ops (ops.size - (t + 1)) (t + 1) (by have := T.lt; omega)
  obtain ⟨n1, g1, s1⟩ := X.segment' r t1 t2 t3
  refine ⟨t + 1, t', S (t + 1), t1, t2, t3, t4, .inr ⟨by omega, by simpa using ha⟩, fun k hk he => ?_, hs, fun i hi => hs.dead (hf i hi), fun i hi => ?_, fun i hi => ?_⟩
  · have hk' := H.effs k hk he
    have := H.qt
    rw [hk']
    constructor
    · rintro (h | h) <;> omega
    · intro h
      by_cases hkt : k = t
      · exact .inr hkt
      · refine .inl (Nat.lt_of_not_le fun hq => H.mid k hq (by omega) he)
  · rcases hi with h | ⟨k, k1, k2, k3, k4, k5⟩
    · exact (g1 i (.inl h)).symm
    · rcases k1 with k1 | k1
      · by_cases ho : ord (Region.before ops) t k = true
        · exact absurd (hcl t k k1 ho) T.new
        · exact absurd ⟨ha.2, k4.2⟩ (X.pair (by omega) (by omega) (ordF ho)).2.2.2.1
      · omega
  · have : (S (t + 1)).next ≤ i := Nat.le_of_not_lt fun h => hi (.inl h)
    exact ⟨hs.dead (hf i this), hf i this⟩

/-- One operation whose turn has come. -/
theorem Run.op (X : Run B P call ops E S V ran pt) (r : R) {j : Nat} (I : Inv B ops E S ran m0 w0 D m w a) (T : Turn ops D j) {Q : Exit → Act → World → Prop} {next : Act → World → Prop}
    (hn : ∀ m' w' a', Inv B ops E S ran m0 w0 (fun k => D k ∨ k = j) m' w' a' → next a' w') : wpOp P ops Q j next a w := by
  obtain ⟨e, he⟩ := I.env
  obtain ⟨q, t, σ, H⟩ := I.heap
  have hlook : ∀ t, t ∈ (opAt ops j).looksAt ops → e.at t = (E j).at t := fun t ht => X.looks I.closed T he ht
  have hcong : ∀ (σ : St) (K : AV → St → Option R), aop P call (opAt ops j) (E j) σ K = aop P call (opAt ops j) e σ K := fun σ K => aop_congr (fun x hx t hxt => (hlook t (by
    unfold Oper.looksAt
    refine List.mem_append_left _ (List.mem_filterMap.2 ⟨x, hx, ?_⟩)
    rw [hxt])).symm) σ K
  have hlt' : ∀ k, D k ∨ k = j → k < ops.size := fun k h => h.elim (I.lt k) (fun h => h ▸ T.lt)
  have hcl' : ∀ i k, (D k ∨ k = j) → ord (Region.before ops) i k = true → D i ∨ i = j := fun i k h ho => h.elim (fun h => .inl (I.closed i k h ho)) (fun h => .inl (T.pre i (h ▸ ho)))
  have hdef : ∀ v, (a.put (opAt ops j).dst v).defers = [] := fun v => by cases (opAt ops j).dst <;> exact I.defers
  have hgd : ∀ g want, guardOf ops (opAt ops j) = .on g want → e.at g = (E j).at g := by
    intro g want hg
    refine hlook g ?_
    unfold guardOf at hg
    unfold Oper.looksAt
    refine List.mem_append_right _ ?_
    split at hg
    · cases hg
    · rename_i j' want' hgd
      split at hg
      · rename_i g' hj'; cases hg; rw [hgd]; simp only []; rw [hj']; simp
      · cases hg
  unfold wpOp
  rw [opAt_some T.lt]
  obtain ⟨_, ⟨h1, h2, h3, g, wt, hg, hv⟩ | ⟨hr, hg, hstep, hpt⟩⟩ := X.text.step j (Nat.zero_le _) T.lt
  · -- left out
    obtain ⟨gb, gt⟩ := guard_wanted hg he.rep
    have hw : Region.wanted (opAt ops j) (yielded ops a.tmps) = false := by
      rw [← hgd g wt hg] at hv
      rcases hv with hv | hv
      · exact gt hv
      · rw [gb _ hv]; cases wt <;> rfl
    simp only [hw, Bool.false_eq_true, if_false]
    have hna : ¬ AlAt ops ran j := fun h => by rw [h.1] at h1; cases h1
    have hne : ¬ EffAt ops ran j := fun h => by rw [h.1] at h1; cases h1
    refine hn m w _ ⟨hlt', hcl', ⟨_, X.envStep I.closed T he (.refl _ _) (cv := undef) (by rw [h2]; exact .tuple [] #[] .nil)⟩, ⟨q, t, σ, H.same hna hne⟩, hdef _, I.grows, I.below⟩
  · have hw : Region.wanted (opAt ops j) (yielded ops a.tmps) = true := by
      rcases hg with hg | ⟨g, wt, hg, hv⟩
      · exact guard_none hg _
      · obtain ⟨gb, gt⟩ := guard_wanted hg he.rep
        rw [← hgd g wt hg] at hv
        rw [gb _ hv]; cases wt <;> rfl
    simp only [hw, if_true]
    refine .inl ?_
    have hwants := X.wants r T.lt hr
    rw [hcong] at hwants
    have stay : ∀ cv, Does P (opAt ops j) a w cv w → RepV m w (V j) cv → ¬ AlAt ops ran j → ¬ EffAt ops ran j → (opAt ops j).wp P a w next Q := fun cv hd hv hna hne =>
      hd.wp (hn m w _ ⟨hlt', hcl', ⟨_, X.envStep I.closed T he (.refl _ _) hv⟩, ⟨q, t, σ, H.same hna hne⟩, hdef _, I.grows, I.below⟩)
    cases hk : kindOf (opAt ops j) with
    | quiet =>
      obtain ⟨v, cv, q1, q2, q3, _⟩ := quiet_sound hk hwants he.rep
      rw [(want_some q1).1] at q2
      exact stay cv (.inl (q3 w)) q2 (fun h => by have := h.2; rw [hk] at this; cases this) (fun h => by have := h.2; rw [hk] at this; cases this)
    | load =>
      obtain ⟨ty, x, hop, hx⟩ := hpt hk
      obtain ⟨v, p, p1, p2, p3, p4⟩ := load_form hop (X.wants r T.lt hr)
      obtain ⟨hvj, _⟩ := want_some p2
      subst hvj
      rw [hx] at p1
      cases p1
      have hσ := X.loads r I.closed T hr hk H p3
      have h5 : aop P call (opAt ops j) e σ (want r (V j) σ) = some r := by rw [← hcong, p4 σ hσ]; exact want_self r _ _
      obtain ⟨v', cv, p', _, q2, q3, q4, _⟩ := load_sound hop h5 H.sim he.rep
      rw [(want_some q2).1] at q3
      exact stay cv (.inl q4) q3 (fun h => by have := h.2; rw [hk] at this; cases this) (fun h => by have := h.2; rw [hk] at this; cases this)
    | alloc =>
      have ha : AlAt ops ran j := ⟨hr, hk⟩
      obtain ⟨hqj, hjt⟩ := X.allocAt I.closed T ha H
      obtain ⟨cs, val, q1, q3⟩ := alloc_op hk hwants X.hC.1
      obtain ⟨hv, hcs⟩ := want_some q1
      obtain ⟨hm, hheap⟩ := X.heapAlloc r T.new T.lt ha H hqj hjt hcs
      refine q3 ⟨σ, H.sim⟩ he.rep hm fun cv w' L r2 r3 r4 r5 => ?_
      rw [hv] at r4
      obtain ⟨σ', H'⟩ := hheap L w' r5
      exact hn _ w' _ ⟨hlt', hcl', ⟨_, X.envStep I.closed T he r2 r4⟩, ⟨q, t, σ', H'⟩, hdef _, I.grows.trans r2, I.below.trans r3⟩
    | effect =>
      have ha : EffAt ops ran j := ⟨hr, hk⟩
      obtain rfl := X.effAt T ha H
      obtain ⟨hs, hf⟩ := X.heapAll r H fun k k1 k2 k3 => by
        by_cases ho : ord (Region.before ops) k j = true
        · exact T.pre k ho
        · exact absurd ⟨k3.2, hk⟩ (X.pair k2 T.lt (ordF ho)).2.2.2.2
      refine aop_sound X.hC hwants hs hf he.rep ?_
      intro v σ' m' w' cv q1 q2 q3 q4 q5 q6
      obtain ⟨rfl, rfl⟩ := want_some q1
      exact hn m' w' _ ⟨hlt', hcl', ⟨_, X.envStep I.closed T he q3 q5⟩, X.heapEffect r I.closed T ha H q2 q6, hdef _, I.grows.trans q3, I.below.trans q4⟩
    | bad => exact absurd hk (drawOK_edge X.hok T.lt).1

/-- The end. -/
theorem Run.done (X : Run B P call ops E S V ran pt) (r : R) (I : Inv B ops E S ran m0 w0 D m w a) (hall : ∀ j, j < ops.size → D j) : Sim B (S ops.size) m w ∧ Fr m (S ops.size).next ∧ RepE m w (E ops.size) a := by
  obtain ⟨e, he⟩ := I.env
  obtain ⟨q, t, σ, H⟩ := I.heap
  have ht : t = ops.size := by
    rcases H.top with h | h
    · exact h
    · by_cases hlt : t < ops.size
      · have := (H.effs t hlt h).1 (hall t hlt); have := H.qt; omega
      · have := H.tn; omega
  subst ht
  obtain ⟨h1, h2⟩ := X.heapAll r H fun k k1 k2 _ => hall k k2
  refine ⟨h1, h2, ?_⟩
  have : e = E ops.size := Env.ext_at (by rw [he.len, X.length _ (Nat.le_refl _)]) fun t => he.rd t ops.size (Nat.le_refl _) fun k hk _ => ⟨fun _ => hk, fun _ => hall k hk⟩
  rw [← this]; exact he.rep

theorem Run.any (X : Run B P call ops E S V ran pt) (r : R) {Q : Exit → Act → World → Prop}
    (hQ : ∀ m' w' a', Sim B (S ops.size) m' w' → Grows m0 w0 m' w' → Below B w0 w' → RepE m' w' (E ops.size) a' → Fr m' (S ops.size).next → a'.defers = [] → Q .normal a' w') :
    ∀ (fuel : Nat) (listed : Array Bool) (m : Mp) (w : World) (a : Act), listed.size = ops.size → (∃ l : List Nat, l.length ≤ fuel ∧ ∀ k, k < ops.size → listed.getD k false = false → k ∈ l) →
      Inv B ops E S ran m0 w0 (fun k => listed.getD k false = true) m w a → wpAny P .any ops Q fuel listed a w := by
  intro fuel
  induction fuel with
  | zero =>
    intro listed m w a hsz ⟨l, hl, hall⟩ I
    have hl' : l = [] := by simpa using hl
    subst hl'
    have hD : ∀ j, j < ops.size → listed.getD j false = true := fun j hj => by
      cases h : listed.getD j false with
      | true => rfl
      | false => exact absurd (hall j hj h) (by simp)
    obtain ⟨h1, h2, h3⟩ := X.done r I hD
    refine ⟨?_, hQ m w a h1 I.grows I.below h3 h2 I.defers⟩
    refine List.eq_nil_iff_forall_not_mem.2 fun j hj => ?_
    obtain ⟨h4, o, h5, _⟩ := mem_ready.1 hj
    have hlt : j < ops.size := (Array.getElem?_eq_some_iff.1 h5).1
    have := hD j hlt
    rw [Array.getD_eq_getD_getElem?, Array.getElem?_eq_getElem (by omega)] at this h4
    simp at this h4
    rw [this] at h4; cases h4
  | succ fuel ih =>
    intro listed m w a hsz ⟨l, hl, hall⟩ I
    refine ⟨fun hr => ?_, fun j hj => ?_⟩
    · have hD : ∀ n, ∀ j, j < n → j < ops.size → listed.getD j false = true := by
        intro n
        induction n with
        | zero => intro j h; omega
        | succ n ihn =>
          intro j h1 h2
          cases h : listed.getD j false with
          | true => rfl
          | false =>
            have : j ∈ Region.ready .any ops listed := by
              refine mem_ready.2 ⟨?_, opAt ops j, opAt_some h2, fun e he hb => ?_⟩
              · rw [Array.getD_eq_getD_getElem?, Array.getElem?_eq_getElem (by omega)] at h ⊢
                simpa using h
              · have := (drawOK_edge X.hok h2).2.1 e (Array.mem_toList_iff.2 he) hb
                exact ihn e.on (by omega) (by omega)
            rw [hr] at this; cases this
      obtain ⟨h1, h2, h3⟩ := X.done r I fun j hj => hD _ j (Nat.lt_succ_self j) hj
      exact hQ m w a h1 I.grows I.below h3 h2 I.defers
    · obtain ⟨h4, o, h5, h6⟩ := mem_ready.1 hj
      have hlt : j < ops.size := (Array.getElem?_eq_some_iff.1 h5).1
      have hnew : listed.getD j false = false := by
        rw [Array.getD_eq_getD_getElem?, Array.getElem?_eq_getElem (by omega)] at h4 ⊢
        simpa using h4
      have ho : o = opAt ops j := by rw [opAt_some hlt] at h5; exact (Option.some.inj h5).symm
      subst ho
      have T : Turn ops (fun k => listed.getD k false = true) j := by
        refine ⟨hlt, by rw [hnew]; simp, fun i hi => ?_⟩
        obtain ⟨e, he, hb, hie⟩ := (ord_spec hlt (drawOK_edge X.hok hlt).2.1 i).1 hi
        have hD := h6 e (Array.mem_toList_iff.1 he) hb
        rcases hie with rfl | hie
        · exact hD
        · exact I.closed i _ hD hie
      refine X.op r I T fun m' w' a' I' => ?_
      have hset : ∀ k, (listed.setIfInBounds j true).getD k false = true ↔ (listed.getD k false = true ∨ k = j) := by
        intro k
        by_cases hkj : k = j
        · subst hkj
          simp [Array.getD_eq_getD_getElem?, Array.getElem?_setIfInBounds, hsz, hlt]
        · rw [getD_set_ne false (Ne.symm hkj)]; simp [hkj]
      refine ih _ m' w' a' (by simpa using hsz) ⟨l.erase j, ?_, fun k hk hf => ?_⟩ ?_
      · have := List.length_erase_of_mem (hall j hlt hnew); omega
      · have hk' : ¬ (listed.getD k false = true ∨ k = j) := fun h => by rw [(hset k).2 h] at hf; cases hf
        refine (List.mem_erase_of_ne (fun h => hk' (.inr h))).2 (hall k hk ?_)
        cases h : listed.getD k false with
        | false => rfl
        | true => exact absurd (.inl h) hk'
      · have : (fun k => (listed.setIfInBounds j true).getD k false = true) = fun k => listed.getD k false = true ∨ k = j := funext fun k => propext (hset k)
        rw [this]; exact I'

/-- Regions that draw their order are right. -/
theorem draw_sound (hm : P.follows .mixedOrders = true) (hN : NatCall call) (hC : SoundCall B P call) : DrawSound B P call := by
  intro id ops K e σ m w a r Q hok h hs hf he hd hQ
  obtain ⟨E, S, V, ran, pt, hE, hS, htext, hK, _, _⟩ := drawK_text hN ops.toList 0 [] [] e σ h (by intro j; simp)
  simp only [Nat.zero_add, Array.length_toList] at htext hK
  have X : Run B P call ops E S V ran pt := ⟨hN, hC, hok, htext⟩
  refine wp_region_any hm ?_
  refine X.any r (m0 := m) (w0 := w) (fun m' w' a' h1 h2 h3 h4 h5 h6 => hQ _ _ m' w' a' hK h1 h2 h3 h4 h5 h6) ops.size _ m _ a (by simp) ⟨List.range ops.size, by simp, fun k hk _ => by simpa using hk⟩ ?_
  obtain ⟨t, t1, t2, t3, t4⟩ := next_eff ops.size ran ops ops.size 0 (by omega)
  have hnD : ∀ k, ¬ (Array.replicate ops.size false).getD k false = true := by
    intro k; simp only [Array.getD_eq_getD_getElem?, Array.getElem?_replicate]; split <;> simp
  obtain ⟨n1, g1, s1⟩ := X.segment' r t1 t2 t3
  refine ⟨fun j hj => absurd hj (hnD j), fun i j hj => absurd hj (hnD j), ⟨e, RepE.mono Grows.drew he, by rw [hE], fun t x hx h => ?_⟩, ⟨0, t, σ, t1, t2, t3, t4, .inl rfl, fun k hk _ => ⟨fun h => absurd h (hnD k), fun h => by omega⟩, hs.drew, fun i hi => ?_, fun i hi => ?_, fun i hi => ?_⟩, hd, Grows.drew, (Below.refl B w).drew⟩
  · rw [X.at' (Nat.zero_le x) hx fun k h1 h2 hdk => hnD k ((h k (by omega) hdk).2 h2), hE]
  · rw [hS] at hi ⊢; exact hs.dead (hf i hi)
  · rcases hi with h | ⟨k, k1, _⟩
    · rw [g1 i (.inl h), hS]
    · exact absurd k1 (hnD k)
  · have : σ.next ≤ i := Nat.le_of_not_lt fun h => hi (.inl (by rw [hS]; exact h))
    exact ⟨hs.dead (hf i this), hf i this⟩

/-- The whole machine. -/
theorem callK_right [S : Spec] (hS : SpecSound S B P) [Subsingleton R] (hm : P.follows .mixedOrders = true) (N : Nat) (ann : FuncId → Ann) (d : Nat) (b : Bool) : SoundCall (R := R) B P (callK P N ann d b) :=
  callK_sound hS (fun d hC => draw_sound hm (callK_nat d) hC) d b

end
end Go.AM
