/- The slot answers as its reference does: the plain law. -/
import Derived.Test.YtmgacgonoodkfaaSR4
import Derived.Test.YtmgacgonoodkfaaSOneP
namespace Go.Proofs.Ytmgacgonoodkfaa
open Go.AM
set_option linter.unusedSimpArgs false
set_option linter.unusedVariables false

/-- What a certificate is. -/
theorem cert_is {x : Slt} {k : Int} {text : ByteArray} {T : List (Nat × ByteArray)} (h : x.cert k = some (text, T)) :
    (k = 1 ∨ k = 2) ∧ T = tagsOf text (x.vs k) 0 ∧ 2 * x.f + 1 ≤ (T.length : Int) ∧ (k = 1 → (x.at 1 x.p).there = true ∧ (x.at 1 x.p).text = text) := by
  have gat : ∀ k text T, x.gather k text = some T → T = tagsOf text (x.vs k) 0 ∧ 2 * x.f + 1 ≤ (T.length : Int) := by
    intro k text T h
    unfold Slt.gather at h
    split at h
    · injection h with h; subst h; exact ⟨rfl, by assumption⟩
    · cases h
  unfold Slt.cert at h
  split at h
  · rename_i hk
    subst hk
    split at h
    · rename_i ht
      simp only [Option.map_eq_some_iff] at h
      obtain ⟨T', h1, h2⟩ := h
      injection h2 with h2 h3
      subst h2 h3
      exact ⟨.inl rfl, (gat _ _ _ h1).1, (gat _ _ _ h1).2, fun _ => ⟨ht, rfl⟩⟩
    · cases h
  · split at h
    · rename_i hk
      subst hk
      have : ∀ V, x.first V = some (text, T) → x.gather 2 text = some T := by
        intro V
        induction V with
        | nil => intro h; cases h
        | cons v V ih =>
          intro h
          simp only [Slt.first] at h
          split at h
          · split at h
            · rename_i T' hT
              injection h with h; injection h with h1 h2
              subst h1 h2
              exact hT
            · exact ih h
          · exact ih h
      have hg := gat _ _ _ (this _ h)
      exact ⟨.inr rfl, hg.1, hg.2, fun h => by cases h⟩
    · cases h


def conv : Option Vo → Vt
  | some v => ⟨true, v.text, v.tag⟩
  | none => .zero

/-- The slot holds the votes of the list. -/
structure Rel (x : Slt) (L : List Vo) : Prop where
  ok : x.ok
  at_ : ∀ k no, x.at k no = conv (rown L k no)
  cnt : ∀ k, x.cnt k = rcnt L k
  kinds : ∀ v ∈ L, (v.kd = 1 ∨ v.kd = 2) ∧ 0 ≤ v.no ∧ v.no ≤ 3 * x.f
  own : ∀ v ∈ L, rown L v.kd v.no = some v

theorem rown_mem {L : List Vo} {k no : Int} {v : Vo} (h : rown L k no = some v) : v ∈ L ∧ v.kd = k ∧ v.no = no := by
  have h1 := List.mem_of_find?_eq_some h
  have h2 := List.find?_some h
  simp only [Bool.and_eq_true, beq_iff_eq] at h2
  exact ⟨h1, h2⟩

theorem rel_new {g f p : Int} (he : newE g f p = 0) : Rel (newX g f p) [] := by
  have hx : ¬ (g < 0 ∨ 4 < g ∨ f < 0 ∨ 3 < f ∨ p < 0 ∨ 3 * f < p) := by
    unfold newE at he; split at he <;> simp_all
  have z : ∀ k (v : Vt), v ∈ (newX g f p).vs k → v = .zero := by
    intro k v hv
    unfold Slt.vs newX at hv
    split at hv
    · exact List.eq_of_mem_replicate hv
    · split at hv
      · exact List.eq_of_mem_replicate hv
      · cases hv
  refine ⟨?_, ?_, ?_, by simp, by simp⟩
  · unfold Slt.ok newX
    refine ⟨by show 0 ≤ f; omega, by show f ≤ 3; omega, by show 0 ≤ p; omega, by show p ≤ 3 * f; omega, ?_, ?_, ?_⟩ <;> exact List.length_replicate
  · intro k no
    show _ = Vt.zero
    unfold Slt.at
    split
    · cases hq : ((newX g f p).vs k)[no.toNat]? with
      | none => rfl
      | some v => exact z k v (List.mem_of_getElem? hq)
    · rfl
  · intro k
    show _ = 0
    unfold Slt.cnt
    rw [List.countP_eq_zero]
    intro v hv
    rw [z k v hv]
    simp [Vt.zero]

theorem relF {x : Slt} {k no : Int} {text tag : ByteArray} : voteF x k no text tag = rvoteF x.f ⟨k, no, text, tag⟩ := rfl
theorem relC {x : Slt} {L : List Vo} (R : Rel x L) (v : Vo) : voteC x v.kd v.no v.text v.tag = rvoteC x.f L v := by
  unfold voteC rvoteC
  rw [R.at_, relF]
  cases rown L v.kd v.no <;> rfl

theorem rel_vote {x : Slt} {L : List Vo} (R : Rel x L) (v : Vo) : Rel (voteX x v.kd v.no v.text v.tag) (rvoteL x.f L v) := by
  have hC := relC R v
  cases h : voteC x v.kd v.no v.text v.tag with
  | false =>
    rw [h] at hC
    have e1 : voteX x v.kd v.no v.text v.tag = x := voteX_same h
    have e2 : rvoteL x.f L v = L := by simp [rvoteL, ← hC]
    rw [e1, e2]; exact R
  | true =>
    rw [h] at hC
    have e2 : rvoteL x.f L v = L ++ [v] := by simp [rvoteL, ← hC]
    have hn : rown L v.kd v.no = none := by
      have hC' := hC.symm
      simp only [rvoteC, Bool.and_eq_true, Bool.not_eq_true'] at hC'
      have := hC'.2
      cases hq : rown L v.kd v.no with
      | none => rfl
      | some u => rw [hq] at this; cases this
    have hF : voteF x v.kd v.no v.text v.tag = 0 := by simp only [voteC, Bool.and_eq_true, decide_eq_true_eq] at h; exact h.1
    obtain ⟨hk, h0, h1⟩ := voteF_zero hF
    have hX : voteX x v.kd v.no v.text v.tag = x.put v.kd v.no.toNat ⟨true, v.text, v.tag⟩ := by simp [voteX, h]
    have hl := Slt.vs_len R.ok hk
    have hown : ∀ k no, rown (L ++ [v]) k no = if k = v.kd ∧ no = v.no then some v else rown L k no := by
      intro k no
      unfold rown
      rw [List.find?_append]
      by_cases c : k = v.kd ∧ no = v.no
      · obtain ⟨rfl, rfl⟩ := c
        unfold rown at hn
        rw [hn]; simp
      · rw [if_neg c]
        have : ([v].find? fun u => u.kd == k && u.no == no) = none := by
          simp only [List.find?_cons, List.find?_nil]
          have : (v.kd == k && v.no == no) = false := by
            simp only [Bool.and_eq_false_iff, beq_eq_false_iff_ne]
            by_cases ck : v.kd = k
            · exact .inr fun cn => c ⟨ck.symm, cn.symm⟩
            · exact .inl ck
          rw [this]
        rw [this]; simp
    obtain ⟨c1, c2⟩ := vote_counts R.ok h
    rw [e2]
    refine ⟨voteX_ok R.ok _ _ _ _, ?_, ?_, ?_, ?_⟩
    · intro k no
      rw [hown]
      by_cases c : k = v.kd ∧ no = v.no
      · obtain ⟨rfl, rfl⟩ := c
        rw [if_pos ⟨rfl, rfl⟩, c2]; rfl
      · rw [if_neg c, ← R.at_, hX]
        unfold Slt.at
        split
        · rename_i hno
          rw [put_vs hk]
          by_cases ck : k = v.kd
          · subst ck
            rw [if_pos rfl, List.getElem?_set_ne]
            intro he
            exact c ⟨rfl, by omega⟩
          · rw [if_neg ck]
        · rfl
    · intro k
      by_cases ck : k = v.kd
      · subst ck
        rw [c1, R.cnt]
        unfold rcnt
        rw [List.countP_append]; simp
      · have : (voteX x v.kd v.no v.text v.tag).cnt k = x.cnt k := by
          rw [hX]; unfold Slt.cnt; rw [put_vs hk, if_neg ck]
        rw [this, R.cnt]
        unfold rcnt
        rw [List.countP_append]
        have : (v.kd == k) = false := by simpa using fun h => ck h.symm
        simp [this]
    · intro u hu
      have hf : (voteX x v.kd v.no v.text v.tag).f = x.f := by rw [hX]; unfold Slt.put; split <;> rfl
      rw [hf]
      rcases List.mem_append.1 hu with hu | hu
      · exact R.kinds u hu
      · simp at hu; subst hu; exact ⟨hk, h0, h1⟩
    · intro u hu
      rw [hown]
      rcases List.mem_append.1 hu with hu | hu
      · have := R.own u hu
        rw [if_neg]
        · exact this
        · rintro ⟨a, b⟩
          rw [a, b, hn] at this; cases this
      · simp at hu; subst hu; rw [if_pos ⟨rfl, rfl⟩]

/-- The tags of a text. -/
theorem rtags_eq {x : Slt} {L : List Vo} (R : Rel x L) {k : Int} (hk : k = 1 ∨ k = 2) (text : ByteArray) :
    ∀ (m i : Nat), i + m = (x.vs k).length → rtags L k text m i = tagsOf text ((x.vs k).drop i) i
  | 0, i, h => by rw [List.drop_eq_nil_of_le (by omega)]; rfl
  | m + 1, i, h => by
    have ih := rtags_eq R hk text m (i + 1) (by omega)
    have ha := R.at_ k i
    rw [at_eq (by omega), Int.toNat_natCast, List.getElem?_eq_getElem (by omega), Option.getD_some] at ha
    rw [List.drop_eq_getElem_cons (by omega), ha]
    simp only [rtags, tagsOf]
    cases rown L k i with
    | none => simp [conv, Vt.zero]; exact ih
    | some v =>
      simp only [conv, true_and]
      by_cases c : v.text = text
      · rw [if_pos c, if_pos c, ih]
      · rw [if_neg c, if_neg c, ih]
theorem rtags_all {x : Slt} {L : List Vo} (R : Rel x L) {k : Int} (hk : k = 1 ∨ k = 2) (text : ByteArray) : rtags L k text (3 * x.f + 1).toNat 0 = tagsOf text (x.vs k) 0 := by
  have := rtags_eq R hk text (x.vs k).length 0 (by omega)
  rw [List.drop_zero, Slt.vs_len R.ok hk] at this
  exact this

theorem rfirst_some {L : List Vo} {f p k : Int} {text : ByteArray} {T : List (Nat × ByteArray)} : ∀ {M : List Vo}, rfirst L f p k M = some (text, T) →
    ∃ v ∈ M, v.kd = k ∧ (k = 1 → v.no = p) ∧ 2 * f + 1 ≤ ((rtags L k v.text (3 * f + 1).toNat 0).length : Int) ∧ text = v.text ∧ T = rtags L k v.text (3 * f + 1).toNat 0
  | [], h => by cases h
  | v :: M, h => by
    simp only [rfirst] at h
    split at h
    · rename_i c
      injection h with h; injection h with h1 h2
      exact ⟨v, by simp, c.1, c.2.1, c.2.2, h1.symm, h2.symm⟩
    · obtain ⟨u, hu, r⟩ := rfirst_some h
      exact ⟨u, List.mem_cons_of_mem _ hu, r⟩
theorem rfirst_none {L : List Vo} {f p k : Int} : ∀ {M : List Vo}, rfirst L f p k M = none → ∀ v ∈ M, ¬ (v.kd = k ∧ (k = 1 → v.no = p) ∧ 2 * f + 1 ≤ ((rtags L k v.text (3 * f + 1).toNat 0).length : Int))
  | [], _, v, h => by cases h
  | u :: M, h, v, hv => by
    simp only [rfirst] at h
    split at h
    · cases h
    · rename_i c
      rcases List.mem_cons.1 hv with rfl | hv
      · exact c
      · exact rfirst_none h v hv
theorem first_none {x : Slt} : ∀ {V : List Vt}, x.first V = none → ∀ v ∈ V, v.there = true → x.gather 2 v.text = none
  | [], _, v, h, _ => by cases h
  | u :: V, h, v, hv, ht => by
    simp only [Slt.first] at h
    split at h
    · split at h
      · cases h
      · rename_i hg
        rcases List.mem_cons.1 hv with rfl | hv
        · exact hg
        · exact first_none h v hv ht
    · rename_i hu
      rcases List.mem_cons.1 hv with rfl | hv
      · exact absurd ht hu
      · exact first_none h v hv ht

theorem two_texts {V : List Vt} {f : Int} {ta tb : ByteArray} (h0 : 0 ≤ f) (hl : V.length = (3 * f + 1).toNat) (h1 : 2 * f + 1 ≤ ((tagsOf ta V 0).length : Int)) (h2 : 2 * f + 1 ≤ ((tagsOf tb V 0).length : Int)) : ta = tb := by
  apply Decidable.byContradiction
  intro hne
  have := two_tags (ta := ta) (tb := tb) (F := fun _ => false) V V 0 rfl (by
    intro j v w hv hw ⟨_, v2⟩ ⟨_, w2⟩
    rw [hv] at hw
    injection hw with hw
    subst hw
    exact absurd (v2.symm.trans w2) hne)
  have z : ∀ n, cntF (fun _ => false) n = 0 := by
    intro n
    induction n with
    | zero => rfl
    | succ n ih => simp [cntF, ih]
  rw [z, z] at this
  omega

theorem gather_of {x : Slt} {k : Int} {text : ByteArray} (h : 2 * x.f + 1 ≤ ((tagsOf text (x.vs k) 0).length : Int)) : x.gather k text = some (tagsOf text (x.vs k) 0) := by
  unfold Slt.gather; rw [if_pos h]

/-- The certificates agree. -/
theorem cert_agree {x : Slt} {L : List Vo} (R : Rel x L) (k : Int) : x.cert k = rfirst L x.f x.p k L := by
  obtain ⟨f0, f3, p0, p3, l0, l1, l2⟩ := id R.ok
  by_cases hk : k = 1 ∨ k = 2
  · have hl := Slt.vs_len R.ok hk
    cases hc : x.cert k with
    | some tT =>
      obtain ⟨t, T⟩ := tT
      obtain ⟨-, hT, hlen, hp⟩ := cert_is hc
      subst hT
      cases hr : rfirst L x.f x.p k L with
      | some uU =>
        obtain ⟨u, U⟩ := uU
        obtain ⟨v, hv, r1, r2, r3, rfl, rfl⟩ := rfirst_some hr
        rw [rtags_all R hk] at r3 ⊢
        have : t = v.text := two_texts f0 hl hlen r3
        rw [this]
      | none =>
        exfalso
        have hno := rfirst_none hr
        rcases hk with rfl | rfl
        · obtain ⟨a, b⟩ := hp rfl
          rw [R.at_] at a b
          cases ho : rown L 1 x.p with
          | none => rw [ho] at a; cases a
          | some v =>
            rw [ho] at b
            obtain ⟨m1, m2, m3⟩ := rown_mem ho
            refine hno v m1 ⟨m2, fun _ => m3, ?_⟩
            rw [rtags_all R (.inl rfl), show v.text = t from b]; exact hlen
        · obtain ⟨q, hq⟩ : ∃ q, q ∈ tagsOf t (x.vs 2) 0 := by
            cases hq : tagsOf t (x.vs 2) 0 with
            | nil => rw [hq] at hlen; simp at hlen; omega
            | cons a l => exact ⟨a, by simp⟩
          obtain ⟨_, u, h1, h2⟩ := tagsOf_mem hq
          simp only [Nat.sub_zero] at h1
          have ha := R.at_ 2 q.1
          rw [at_eq (by omega), Int.toNat_natCast, h1, Option.getD_some, h2] at ha
          cases ho : rown L 2 q.1 with
          | none => rw [ho] at ha; simp [conv, Vt.zero] at ha
          | some v =>
            rw [ho] at ha
            obtain ⟨m1, m2, m3⟩ := rown_mem ho
            refine hno v m1 ⟨m2, fun h => absurd h (by decide), ?_⟩
            simp only [conv, Vt.mk.injEq, true_and] at ha
            rw [rtags_all R (.inr rfl), ← ha.1]; exact hlen
    | none =>
      cases hr : rfirst L x.f x.p k L with
      | none => rfl
      | some uU =>
        exfalso
        obtain ⟨u, U⟩ := uU
        obtain ⟨v, hv, r1, r2, r3, rfl, rfl⟩ := rfirst_some hr
        rw [rtags_all R hk] at r3
        have ho := R.own v hv
        have hat := R.at_ v.kd v.no
        rw [ho] at hat
        rcases hk with rfl | rfl
        · rw [r1, r2 rfl] at hat
          unfold Slt.cert at hc
          rw [if_pos rfl, hat, if_pos (show (conv (some v)).there = true from rfl)] at hc
          simp only [conv] at hc
          rw [gather_of r3] at hc
          cases hc
        · rw [r1] at hat
          obtain ⟨-, n0, n1⟩ := R.kinds v hv
          rw [at_eq n0, List.getElem?_eq_getElem (by omega), Option.getD_some] at hat
          have hm : conv (some v) ∈ x.vs 2 := by rw [← hat]; exact List.getElem_mem _
          unfold Slt.cert at hc
          rw [if_neg (by decide), if_pos rfl] at hc
          have := first_none hc _ (by simpa [Slt.vs] using hm) rfl
          simp only [conv] at this
          rw [gather_of r3] at this
          cases this
  · have e : x.cert k = none := by unfold Slt.cert; rw [if_neg (by omega), if_neg (by omega)]
    rw [e]
    cases hr : rfirst L x.f x.p k L with
    | none => rfl
    | some uU =>
      obtain ⟨u, U⟩ := uU
      obtain ⟨v, hv, r1, _⟩ := rfirst_some hr
      have := (R.kinds v hv).1
      omega

end Go.Proofs.Ytmgacgonoodkfaa
