/- The abstract machine: what it does does not hang on what is done with it. -/
import Derived.Test.YtnjhcfcnpapaiaaGreatDoorA18
set_option linter.unusedVariables false
set_option linter.unusedSimpArgs false
namespace Go.AM

def NatCall {R : Type} (call : CallF R) : Prop := ∀ f args σ K r, call f args σ K = some r → ∃ v σ', K v σ' = some r ∧ ∀ K', call f args σ K' = K' v σ'

section
variable {P : Program} {R : Type}

theorem abin_nat {op : BinOp} {t : TypeId} {x y : AV} {K : AV → Option R} {r : R} (h : abin P op t x y K = some r) : ∃ v, K v = some r ∧ ∀ (K' : AV → Option R), abin P op t x y K' = K' v := by
  unfold abin at h ⊢
  split at h
  · split at h
    · split at h
      · simp at h
      · rename_i hb; exact ⟨_, h, fun _ => by simp [hb]⟩
    · split at h
      · simp at h
      · rename_i hb; exact ⟨_, h, fun _ => by simp [hb]⟩
    · split at h
      · rename_i hk
        subst hk
        split at h
        · exact ⟨_, h, fun _ => by simp⟩
        · exact ⟨_, h, fun _ => by simp⟩
        · exact ⟨_, h, fun _ => by simp⟩
        · split at h
          · simp at h
          · rename_i hb; exact ⟨_, h, fun _ => by simp [hb]⟩
        · split at h
          · simp at h
          · rename_i hb; exact ⟨_, h, fun _ => by simp [hb]⟩
        · exact ⟨_, h, fun _ => by simp⟩
        · exact ⟨_, h, fun _ => by simp⟩
        · exact ⟨_, h, fun _ => by simp⟩
        · exact ⟨_, h, fun _ => by simp⟩
        · exact ⟨_, h, fun _ => by simp⟩
        · exact ⟨_, h, fun _ => by simp⟩
        · simp only [Option.bind_eq_some_iff] at h
          obtain ⟨n, hn, h⟩ := h
          refine ⟨_, h, fun K' => ?_⟩
          cases op <;> first | (simp [intBits] at hn; done) | (simp [hn]; done) | (simp_all; done)
      · simp at h
  · split at h
    · split at h
      · simp at h
      · rename_i hb; exact ⟨_, h, fun _ => by rw [if_neg hb]⟩
    · exact ⟨_, h, fun _ => by simp⟩
    · exact ⟨_, h, fun _ => by simp⟩
    · exact ⟨_, h, fun _ => by simp⟩
    · exact ⟨_, h, fun _ => by simp⟩
    · exact ⟨_, h, fun _ => by simp⟩
    · exact ⟨_, h, fun _ => by simp⟩
    · simp at h
  · split at h
    · simp only [Option.bind_eq_some_iff] at h
      obtain ⟨b, hb, h⟩ := h
      exact ⟨_, h, fun _ => by simp [hb]⟩
    · simp only [Option.bind_eq_some_iff] at h
      obtain ⟨b, hb, h⟩ := h
      exact ⟨_, h, fun _ => by simp [hb]⟩
    · simp at h

theorem aun_nat {op : UnOp} {x : AV} {K : AV → Option R} {r : R} (h : aun op x K = some r) : ∃ v, K v = some r ∧ ∀ (K' : AV → Option R), aun op x K' = K' v := by
  unfold aun at h ⊢
  split at h
  · exact ⟨_, h, fun _ => rfl⟩
  · exact ⟨_, h, fun _ => rfl⟩
  · simp only [Option.bind_eq_some_iff] at h
    obtain ⟨n, hn, h⟩ := h
    exact ⟨_, h, fun _ => by simp [hn]⟩
  · simp at h

theorem castVals_nat2 : ∀ {ts : List TypeId} {vs : List AV} {K : List AV → Option R} {r : R}, castVals P ts vs K = some r →
    ∀ (K' : List AV → Option R), castVals P ts vs K' = K' (vs.take ts.length) := by
  intro ts
  induction ts with
  | nil => intro vs K r h K'; rfl
  | cons t ts ih =>
    intro vs K r h K'
    cases vs with
    | nil => simp [castVals] at h
    | cons v vs =>
      simp only [castVals, List.head?_cons, Option.bind_some, List.tail_cons] at h ⊢
      obtain ⟨h1, h2⟩ := castVal_nat h
      rw [h2, ih h1]; simp

theorem castRes_nat {t : TypeId} {v : AV} {K : AV → Option R} {r : R} (h : castRes P t v K = some r) (K' : AV → Option R) : castRes P t v K' = K' v := by
  unfold castRes at h ⊢
  split at h
  · rename_i ts hu
    cases hv : v.toTuple with
    | none => simp [hv] at h
    | some vs =>
      obtain rfl := AV.toTuple_some hv
      simp only [hv, Option.bind_some] at h ⊢
      split at h
      · rename_i hl
        rw [if_pos hl, castVals_nat2 h, ← hl, List.take_length]
      · simp at h
  · exact (castVal_nat h).2 _ _

theorem ldV_nat {t : TypeId} {σ : St} {p : Nat × Nat} {K : AV → Option R} {r : R} (h : ldV P t σ p K = some r) : ∃ v, K v = some r ∧ ∀ K' : AV → Option R, ldV P t σ p K' = K' v := by
  unfold ldV at h ⊢
  split at h
  · split at h
    · rename_i hl
      obtain ⟨cs, h1, h2, h3, h4⟩ := ldT_some h
      by_cases ha : isAggT P t = true
      · simp only [ha, if_true] at h1
        exact ⟨_, h1, fun K' => by rw [if_pos hl, h4 σ h3]; simp [ha]⟩
      · simp only [ha, if_false, Bool.false_eq_true] at h1
        split at h1
        · exact ⟨_, h1, fun K' => by rw [if_pos hl, h4 σ h3]; simp [ha]⟩
        · simp at h1
    · simp at h
  · simp at h

theorem recvOf_nat {t : TypeId} {ptr : Bool} {v : AV} {σ : St} {K : AV → Option R} {r : R} (h : recvOf P t ptr v σ K = some r) : ∃ u, K u = some r ∧ ∀ K' : AV → Option R, recvOf P t ptr v σ K' = K' u := by
  unfold recvOf at h ⊢
  split at h
  · split at h
    · rename_i hp; exact ⟨v, h, fun K' => by rw [if_pos hp]⟩
    · rename_i hp
      simp only [Option.bind_eq_some_iff] at h
      obtain ⟨o, ho, p, rfl, h⟩ := h
      obtain ⟨u, h1, h2⟩ := ldV_nat h
      exact ⟨u, h1, fun K' => by rw [if_neg hp]; simp only [ho, Option.bind_some]; exact h2 _⟩
  · split at h
    · simp at h
    · rename_i hp; exact ⟨v, h, fun K' => by rw [if_neg hp]⟩
  · simp at h

theorem aop_nat' {call : CallF R} (hN : NatCall call) {o : Oper} {e : Env} {σ : St} {K : AV → St → Option R} {r : R} (h : aop P call o e σ K = some r) :
    ∃ v σ', K v σ' = some r ∧ (∀ K', aop P call o e σ K' = K' v σ') ∧ ((kindOf o = .quiet ∨ kindOf o = .load) → σ' = σ) := by
  cases hop : o.op with
  | move x => simp only [aop, hop] at h ⊢; exact ⟨_, _, h, fun _ => rfl, fun hk => by first | rfl | (simp_all [kindOf])⟩
  | assign x => simp only [aop, hop] at h ⊢; exact ⟨_, _, h, fun _ => rfl, fun hk => by first | rfl | (simp_all [kindOf])⟩
  | pick c x y =>
    simp only [aop, hop] at h ⊢
    simp only [Option.bind_eq_some_iff] at h
    obtain ⟨t, ht, h⟩ := h
    cases t with
    | true => simp only [if_true] at h; obtain ⟨h1, h2⟩ := castVal_nat h; exact ⟨_, _, h1, fun K' => by simp only [ht, Option.bind_some, if_true]; exact h2 _ _, fun hk => by first | rfl | (simp_all [kindOf])⟩
    | false => simp only [Bool.false_eq_true, if_false] at h; obtain ⟨h1, h2⟩ := castVal_nat h; exact ⟨_, _, h1, fun K' => by simp only [ht, Option.bind_some, Bool.false_eq_true, if_false]; exact h2 _ _, fun hk => by first | rfl | (simp_all [kindOf])⟩
  | alloc t => obtain ⟨cs, val, h1, h2, _⟩ := alloc_op0 (by simp [kindOf, hop]) (fun c => by simp [hop]) h; exact ⟨_, _, h1, fun K' => h2 call σ K', fun hk => by first | rfl | (simp_all [kindOf])⟩
  | makeMap t rsv =>
    cases rsv with
    | none => obtain ⟨cs, val, h1, h2, _⟩ := alloc_op0 (by simp [kindOf, hop]) (fun c => by simp [hop]) h; exact ⟨_, _, h1, fun K' => h2 call σ K', fun hk => by first | rfl | (simp_all [kindOf])⟩
    | some x => simp [aop, hop] at h
  | box t x => obtain ⟨cs, val, h1, h2, _⟩ := alloc_op0 (by simp [kindOf, hop]) (fun c => by simp [hop]) h; exact ⟨_, _, h1, fun K' => h2 call σ K', fun hk => by first | rfl | (simp_all [kindOf])⟩
  | buildSlice t n ps => obtain ⟨cs, val, h1, h2, _⟩ := alloc_op0 (by simp [kindOf, hop]) (fun c => by simp [hop]) h; exact ⟨_, _, h1, fun K' => h2 call σ K', fun hk => by first | rfl | (simp_all [kindOf])⟩
  | build t ps =>
    simp only [aop, hop] at h ⊢
    split at h
    · simp at h
    · rename_i hc
      simp only [Option.bind_eq_some_iff] at h
      obtain ⟨z, hz, cs, hcs, h⟩ := h
      split at h
      · rename_i ha
        exact ⟨_, _, h, fun K' => by rw [if_neg hc]; simp [hz, hcs, ha], fun hk => by first | rfl | (simp_all [kindOf])⟩
      · simp at h
  | makeSlice t l c =>
    simp only [aop, hop] at h ⊢
    split at h
    · simp only [Option.bind_eq_some_iff] at h
      obtain ⟨z, hz, h⟩ := h
      split at h
      · rename_i hc
        exact ⟨_, _, h, fun K' => by simp only [hz, Option.bind_some, if_pos hc], fun hk => by first | rfl | (simp_all [kindOf])⟩
      · simp at h
    · simp at h
  | load t x =>
    simp only [aop, hop] at h ⊢
    split at h
    · rename_i p shs hp hsh
      split at h
      · rename_i hl
        obtain ⟨cs, h1, h2, h3, h4⟩ := ldT_some h
        by_cases ha : isAggT P t = true
        · simp only [ha, if_true] at h1
          exact ⟨_, _, h1, fun K' => by simp only [hp, hsh, if_pos hl]; rw [h4 σ h3]; simp [ha], fun hk => by first | rfl | (simp_all [kindOf])⟩
        · simp only [ha, if_false, Bool.false_eq_true] at h1
          split at h1
          · exact ⟨_, _, h1, fun K' => by simp only [hp, hsh, if_pos hl]; rw [h4 σ h3]; simp [ha], fun hk => by first | rfl | (simp_all [kindOf])⟩
          · simp at h1
      · simp at h
    · simp at h
  | typeAssert x xt t ok =>
    simp only [aop, hop] at h ⊢
    split at h
    · simp at h
    · rename_i d u v hdi hd hev
      split at h
      · rename_i hut
        obtain ⟨h1, h2⟩ := castVal_nat h
        exact ⟨_, _, h1, fun K' => by
          cases d <;> first | exact (hdi _ rfl).elim | (simp only [if_pos hut]; exact h2 _ _), fun _ => rfl⟩
      · rename_i hut
        split at h
        · rename_i hok
          simp only [Option.bind_eq_some_iff] at h
          obtain ⟨z, hz, h⟩ := h
          exact ⟨_, _, h, fun K' => by
            cases d <;> first | exact (hdi _ rfl).elim | (simp only [if_neg hut, if_pos hok, hz, Option.bind_some]), fun _ => rfl⟩
        · simp at h
    · simp at h
  | lookup t x ix ok =>
    simp only [aop, hop] at h ⊢
    split at h
    · rename_i kt et mo hu hmo
      simp only [Option.bind_eq_some_iff] at h
      obtain ⟨q, hq, es, hes, r', hr', h⟩ := h
      cases r' with
      | some p =>
        obtain ⟨h1, h2⟩ := castVal_nat h
        exact ⟨_, _, h1, fun K' => by simp only [hq, hes, hr', Option.bind_some]; exact h2 _ _, fun hk => by simp [kindOf, hop] at hk⟩
      | none =>
        simp only [Option.bind_eq_some_iff] at h
        obtain ⟨z, hz, h⟩ := h
        exact ⟨_, _, h, fun K' => by simp only [hq, hes, hr', hz, Option.bind_some], fun hk => by simp [kindOf, hop] at hk⟩
    · simp at h
  | mapUpdate t x k v =>
    simp only [aop, hop] at h ⊢
    split at h
    · rename_i kt et b hu hmo
      simp only [Option.bind_eq_some_iff] at h
      obtain ⟨q, hq, s, hsm, r', hr', h⟩ := h
      exact ⟨_, _, h, fun K' => by simp only [hq, hsm, hr', Option.bind_some], fun hk => by simp [kindOf, hop] at hk⟩
    · simp at h
  | store t x y =>
    simp only [aop, hop] at h ⊢
    split at h
    · rename_i p hp
      split at h
      · rename_i hc
        simp only [Option.bind_eq_some_iff] at h
        obtain ⟨σ', hst, h⟩ := h
        exact ⟨_, _, h, fun K' => by simp only [hp, if_pos hc, hst, Option.bind_some], fun hk => by first | rfl | (simp_all [kindOf])⟩
      · simp at h
    · simp at h
  | nilCheck x =>
    simp only [aop, hop] at h ⊢
    split at h
    · rename_i p hp
      simp only [Option.bind_eq_some_iff] at h
      obtain ⟨q, rfl, h⟩ := h
      exact ⟨_, _, h, fun K' => by simp, fun hk => by first | rfl | (simp_all [kindOf])⟩
    · exact ⟨_, _, h, fun K' => rfl, fun hk => by first | rfl | (simp_all [kindOf])⟩
    · exact ⟨_, _, h, fun K' => rfl, fun hk => by first | rfl | (simp_all [kindOf])⟩
    · simp at h
  | binOp op t x y u => simp only [aop, hop] at h ⊢; obtain ⟨v, h1, h2⟩ := abin_nat h; exact ⟨_, _, h1, fun K' => h2 _, fun hk => by first | rfl | (simp_all [kindOf])⟩
  | unOp op t x => simp only [aop, hop] at h ⊢; obtain ⟨v, h1, h2⟩ := aun_nat h; exact ⟨_, _, h1, fun K' => h2 _, fun hk => by first | rfl | (simp_all [kindOf])⟩
  | convert s d x =>
    simp only [aop, hop] at h ⊢
    split at h
    · exact ⟨_, _, h, fun K' => rfl, fun hk => by first | rfl | (simp_all [kindOf])⟩
    · exact ⟨_, _, h, fun K' => rfl, fun hk => by first | rfl | (simp_all [kindOf])⟩
    · simp at h
  | makeInterface t x =>
    simp only [aop, hop] at h ⊢
    split at h
    · simp at h
    · simp at h
    · exact ⟨_, _, h, fun K' => rfl, fun hk => by first | rfl | (simp_all [kindOf])⟩
  | makeFunc fn f c => simp only [aop, hop] at h ⊢; exact ⟨_, _, h, fun _ => rfl, fun hk => by first | rfl | (simp_all [kindOf])⟩
  | slice t x lo hi mx =>
    simp only [aop, hop] at h ⊢
    simp only [Option.bind_eq_some_iff] at h
    obtain ⟨lo', hlo, hi', hhi, mx', hmx, h⟩ := h
    split at h
    · rename_i s hu hs
      split at h
      · simp at h
      · rename_i hm
        simp only [Option.bind_eq_some_iff] at h
        obtain ⟨r', hr', h⟩ := h
        exact ⟨_, _, h, fun K' => by simp [hlo, hhi, hmx, hu, hs, hm, hr'], fun hk => by first | rfl | (simp_all [kindOf])⟩
    · rename_i el o' n c z hu hs
      split at h
      · rename_i hz
        simp only [Option.bind_eq_some_iff] at h
        obtain ⟨r', hr', h⟩ := h
        exact ⟨_, _, h, fun K' => by simp only [hlo, hhi, hmx, hu, hs, Option.bind_some, hr', if_pos hz], fun hk => by first | rfl | (simp_all [kindOf])⟩
      · simp at h
    · rename_i n el p hu hs
      split at h
      · rename_i hz
        simp only [Option.bind_eq_some_iff] at h
        obtain ⟨r', hr', h⟩ := h
        exact ⟨_, _, h, fun K' => by simp only [hlo, hhi, hmx, hu, hs, Option.bind_some, hr', if_pos hz], fun hk => by first | rfl | (simp_all [kindOf])⟩
      · simp at h
    · simp at h
  | fieldAddr t x f =>
    simp only [aop, hop] at h ⊢
    split at h
    · rename_i fs p hu hp
      split at h
      · rename_i g hg
        split at h
        · simp at h
        · rename_i h0
          simp only [Option.bind_eq_some_iff] at h
          obtain ⟨q, rfl, h⟩ := h
          exact ⟨_, _, h, fun K' => by simp only [hu, hp, hg, h0, if_false, Option.bind_some], fun hk => by first | rfl | (simp_all [kindOf])⟩
      · simp at h
    · simp at h
  | field t x f =>
    simp only [aop, hop] at h ⊢
    split at h
    · rename_i fs cs hu hp
      simp only [Option.bind_eq_some_iff] at h
      obtain ⟨v, ⟨g, hg, hv⟩, h⟩ := h
      exact ⟨_, _, h, fun K' => by simp only [hu, hp, hg, hv, Option.bind_some], fun hk => by first | rfl | (simp_all [kindOf])⟩
    · simp at h
  | indexAddr t x i =>
    simp only [aop, hop] at h ⊢
    split at h
    · rename_i el o' n c z k j hu hp hq
      split at h
      · rename_i hz
        split at h
        · rename_i hb
          simp only [Option.bind_eq_some_iff] at h
          obtain ⟨q, rfl, h⟩ := h
          exact ⟨_, _, h, fun K' => by simp only [hu, hp, hq, if_pos hz, if_pos hb, Option.bind_some], fun hk => by first | rfl | (simp_all [kindOf])⟩
        · simp at h
      · simp at h
    · rename_i n el q k j hu hp hq
      split at h
      · rename_i hb
        exact ⟨_, _, h, fun K' => by simp only [hu, hp, hq, if_pos hb], fun hk => by first | rfl | (simp_all [kindOf])⟩
      · simp at h
    · simp at h
  | index t x i =>
    simp only [aop, hop] at h ⊢
    split at h
    · rename_i s k j hu hp hq
      simp only [Option.bind_eq_some_iff] at h
      obtain ⟨b, hb, h⟩ := h
      exact ⟨_, _, h, fun K' => by simp only [hu, hp, hq, hb, Option.bind_some], fun hk => by first | rfl | (simp_all [kindOf])⟩
    · rename_i n el cs k j hu hp hq
      split at h
      · rename_i hb
        simp only [Option.bind_eq_some_iff] at h
        obtain ⟨v, hv, h⟩ := h
        obtain ⟨h1, h2⟩ := castVal_nat h
        exact ⟨_, _, h1, fun K' => by simp only [hu, hp, hq, if_pos hb, hv, Option.bind_some]; exact h2 _ _, fun hk => by first | rfl | (simp_all [kindOf])⟩
      · simp at h
    · simp at h
  | extract x i =>
    simp only [aop, hop] at h ⊢
    split at h
    · rename_i vs hp
      simp only [Option.bind_eq_some_iff] at h
      obtain ⟨v, hv, h⟩ := h
      exact ⟨_, _, h, fun K' => by simp only [hv, Option.bind_some], fun hk => by first | rfl | (simp_all [kindOf])⟩
    · simp at h
  | call c =>
    simp only [aop, hop] at h ⊢
    cases hc : c.callee with
    | invoke rv nm =>
      simp only [hc] at h ⊢
      split at h
      · rename_i t v hev
        simp only [Option.bind_eq_some_iff] at h
        obtain ⟨q, hq, h⟩ := h
        obtain ⟨u, h1, h2⟩ := recvOf_nat h
        obtain ⟨v', σ', h3, h4⟩ := hN _ _ _ _ _ h1
        exact ⟨v', σ', castRes_some h3, fun K' => by simp only [hq, Option.bind_some]; rw [h2, h4, castRes_nat h3], fun hk => by simp [kindOf, hop, hc] at hk⟩
      · simp at h
    | value f =>
      cases hfc : freshC f c.args with
      | some cs =>
        simp only [hc, hfc] at h ⊢
        exact ⟨_, _, h, fun K' => rfl, fun hk => by simp [kindOf, hop, hc, hfc] at hk⟩
      | none =>
        simp only [hc, hfc] at h ⊢
        unfold callV at h ⊢
        split at h
        · rename_i i first captured hev
          obtain ⟨v, σ', h1, h2⟩ := hN _ _ _ _ _ h
          refine ⟨v, σ', castRes_some h1, fun K' => ?_, fun hk => by simp [kindOf, hop, hc, hfc] at hk⟩
          rw [h2, castRes_nat h1]
        · simp at h
    | builtin b =>
      simp only [hc] at h ⊢
      unfold abuiltin at h ⊢
      split at h
      · split at h
        · rename_i hu; exact ⟨_, _, h, fun K' => by simp only [hu], fun hk => by first | rfl | (simp_all [kindOf])⟩
        · simp at h
      · split at h
        · rename_i hu; exact ⟨_, _, h, fun K' => by simp only [hu], fun hk => by first | rfl | (simp_all [kindOf])⟩
        · simp at h
      · split at h
        · rename_i el el' ht hu
          split at h
          · rename_i hcond
            split at h
            · split at h
              · rename_i he2
                simp only [Option.bind_eq_some_iff] at h
                obtain ⟨news, hne, s2, happ, h⟩ := h
                exact ⟨_, _, h, fun K' => by simp only [ht, hu, if_pos hcond, he2, hne, happ, Option.bind_some, if_true], fun hk => by first | rfl | (simp_all [kindOf])⟩
              · simp at h
            · simp at h
          · simp at h
        · simp at h
      · split at h
        · rename_i el el' ht hu
          split at h
          · rename_i hcond
            simp only [Option.bind_eq_some_iff] at h
            obtain ⟨kk, hcp, h⟩ := h
            exact ⟨_, _, h, fun K' => by simp only [ht, hu, if_pos hcond, hcp, Option.bind_some], fun hk => by first | rfl | (simp_all [kindOf])⟩
          · simp at h
        · simp at h
      · split at h
        · rename_i hk; exact ⟨_, _, h, fun K' => by simp only [hk, if_true], fun hk => by first | rfl | (simp_all [kindOf])⟩
        · simp at h
      · split at h
        · rename_i hk; exact ⟨_, _, h, fun K' => by simp only [hk, if_true], fun hk => by first | rfl | (simp_all [kindOf])⟩
        · simp at h
      · simp at h
  | _ => simp [aop, hop] at h


theorem aop_nat {call : CallF R} (hN : NatCall call) {o : Oper} {e : Env} {σ : St} {K : AV → St → Option R} {r : R} (h : aop P call o e σ K = some r) :
    ∃ v σ', K v σ' = some r ∧ ∀ K', aop P call o e σ K' = K' v σ' := by
  obtain ⟨v, σ', h1, h2, _⟩ := aop_nat' hN h
  exact ⟨v, σ', h1, h2⟩

end

end Go.AM
