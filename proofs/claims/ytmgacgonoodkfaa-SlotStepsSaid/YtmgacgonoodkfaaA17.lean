/- The abstract machine against the model: calls; every operation; regions in the text's order. -/
import Derived.Test.YtmgacgonoodkfaaA16
import Derived.Tactics
set_option linter.unusedVariables false
set_option linter.unusedSimpArgs false
namespace Go.AM
open Go.RowKit (Below)

/-- Calls that are right. -/
def SoundCall {R : Type} (B : Nat) (P : Program) (call : CallF R) : Prop :=
  ∀ f args σ K r, call f args σ K = some r → (∃ fn, P.funcs[f]? = some fn ∧ fn.body.isSome = true ∧ (fn.name == "runtime.NumGoroutine") = false) ∧
    ∀ m w cargs, Sim B σ m w → Fr m σ.next → RepL m w args cargs.toList → Calls P f cargs w fun e w' => ∃ v σ' m' cv, e = .returned cv ∧ K v σ' = some r ∧
      Sim B σ' m' w' ∧ Grows m w m' w' ∧ Below B w w' ∧ RepV m' w' v cv ∧ Fr m' σ'.next

section
variable {B : Nat} {σ : St} {m : Mp} {w : World} {P : Program} {R : Type}

theorem call_op {call : CallF R} (hC : SoundCall B P call) {o : Oper} {c : Call} {f : Operand} (hop : o.op = .call c) (hcal : c.callee = .value f) {e : Env} {a : Act} {K : AV → St → Option R} {r : R} (h : aop P call o e σ K = some r)
    (hs : Sim B σ m w) (hf : Fr m σ.next) (he : RepE m w e a) {next : Act → World → Prop} {Q : Exit → Act → World → Prop}
    (hn : ∀ v σ' m' w' cv, K v σ' = some r → Sim B σ' m' w' → Grows m w m' w' → Below B w w' → RepV m' w' v cv → Fr m' σ'.next → next (a.put o.dst cv) w') : o.wp P a w next Q := by
  simp only [aop, hop, hcal] at h
  unfold callV at h
  have hfv := ev_rep (P := P) he f
  have hargs := evArgs_rep (P := P) he c.argTypes.toList c.args.toList
  split at h
  · rename_i i first captured hev
    rw [hev] at hfv
    obtain ⟨f2, c2, hfe, hr1, hr2⟩ : ∃ f2 c2, a.eval f = .func (.func i) f2 c2 ∧ RepL m w first f2.toList ∧ RepL m w captured c2.toList := by
      cases hv : a.eval f <;> rw [hv] at hfv <;> cases hfv
      exact ⟨_, _, rfl, by assumption, by assumption⟩
    obtain ⟨⟨fn, hfn, hbody, hname⟩, hcalls⟩ := hC _ _ _ _ _ h
    have hrun : (execOp a.eval o).run P w = .ok (.enter i (f2 ++ c.args.map a.eval ++ c2)) w := by
      simp only [execOp, hop, resolve, hcal, Deferred.ofValue, hfe, Sem.run_bind, Sem.run_pure, Result.andThen_ok, invoke, callFunc, run_program]
      have : fn.body.isNone = false := by simpa using hbody
      simp [hfn, hname, this]
    unfold Oper.wp
    rw [hrun]
    refine (hcalls m w _ hs hf (by simp only [Array.toList_append, Array.toList_map]; exact (hr1.append hargs).append hr2)).mono ?_
    rintro e2 w2 ⟨v, σ2, m2, cv, rfl, hk, q1, q2, q3, q4, q5⟩
    exact hn v σ2 m2 w2 cv (castRes_some hk) q1 q2 q3 q4 q5
  · simp at h

theorem abuiltin_exec {o : Oper} {c : Call} {b : Builtin} (hop : o.op = .call c) (hc : c.callee = .builtin b) {a : Act} {us : List Value} (hus : c.args.toList.map a.eval = us) :
    (execOp a.eval o) = builtin b c.argTypes o.type (c.args.map fun | .const _ => true | _ => false) us.toArray := by
  have : c.args.map a.eval = us.toArray := by rw [← hus, ← Array.toList_map, Array.toArray_toList]
  simp only [execOp, hop, resolve, hc, this]
  rfl

theorem builtin_op {call : CallF R} {o : Oper} {c : Call} {b : Builtin} (hop : o.op = .call c) (hc : c.callee = .builtin b) (hb : b = .append ∨ b = .copy) {e : Env} {a : Act} {K : AV → St → Option R} {r : R} (h : aop P call o e σ K = some r)
    (hs : Sim B σ m w) (hn : m σ.next = none) (he : RepE m w e a) : Eff B m w P o e a K σ r := by
  unfold Eff
  simp only [aop, hop, hc] at h ⊢
  have hargs := evArgs_rep (P := P) he c.argTypes.toList c.args.toList
  unfold abuiltin at h ⊢
  split at h
  · simp at hb
  · simp at hb
  · rename_i t u o1 n1 c1 e1 x hts hp
    split at h
    · rename_i el el' ht hu
      split at h
      · rename_i hcond
        split at h
        · rename_i o2 n2 c2 e2
          split at h
          · rename_i he2
            subst he2
            simp only [Option.bind_eq_some_iff] at h
            obtain ⟨news, hne, ⟨s2, σ2⟩, happ, h⟩ := h
            rw [hp] at hargs
            obtain ⟨u1, u2, hus, hr1, hr2⟩ := two_inv hargs
            have htt : c.argTypes = #[t, u] := by rw [← Array.toList_inj, hts]
            obtain ⟨m', w', cv, q1, q2, q3, q4, q5, q6⟩ := app_sim (ty := o.type) hs hn ht hu hcond.1 hcond.2.1 hcond.2.2 hr1 hr2 hne happ
            refine ⟨_, σ2, cv, w', m', h, fun call' K' => by simp only [hts, hp, ht, hu, if_pos hcond, hne, happ, Option.bind_some, if_true], .inl ?_, q2, q3, q4, q5, q6⟩
            rw [abuiltin_exec hop hc hus, htt]
            simp [builtin, q1]
          · simp at h
        · simp at h
      · simp at h
    · simp at h
  · rename_i t u o1 n1 c1 e1 o2 n2 c2 e2 hts hp
    split at h
    · rename_i el el' ht hu
      split at h
      · rename_i hcond
        obtain ⟨hc1, hc2, hc3⟩ := hcond
        subst hc2
        simp only [Option.bind_eq_some_iff] at h
        obtain ⟨⟨k, σ2⟩, hcp, h⟩ := h
        rw [hp] at hargs
        obtain ⟨u1, u2, hus, hr1, hr2⟩ := two_inv hargs
        have htt : c.argTypes = #[t, u] := by rw [← Array.toList_inj, hts]
        obtain ⟨w', q1, q2, q3, q4, q5⟩ := copy_sim (ty := o.type) hs ht hu hc1 hc3 hr1 hr2 hcp
        refine ⟨_, σ2, _, w', m, h, fun call' K' => by simp only [hts, hp, ht, hu]; rw [if_pos ⟨hc1, trivial, hc3⟩, hcp]; rfl, .inl ?_, q2, q3, q4, .int _ _, .inl ⟨q5, rfl⟩⟩
        rw [abuiltin_exec hop hc hus, htt]
        simp [builtin, q1]
      · simp at h
    · simp at h
  · simp at hb
  · simp at hb
  · simp at h

/-- Every operation. -/
theorem aop_sound {call : CallF R} (hC : SoundCall B P call) {o : Oper} {e : Env} {a : Act} {K : AV → St → Option R} {r : R} (h : aop P call o e σ K = some r)
    (hs : Sim B σ m w) (hf : Fr m σ.next) (he : RepE m w e a) {next : Act → World → Prop} {Q : Exit → Act → World → Prop}
    (hn : ∀ v σ' m' w' cv, K v σ' = some r → Sim B σ' m' w' → Grows m w m' w' → Below B w w' → RepV m' w' v cv → Fr m' σ'.next → next (a.put o.dst cv) w') : o.wp P a w next Q := by
  have eff : Eff B m w P o e a K σ r → o.wp P a w next Q := by
    rintro ⟨v, σ', cv, w', m', h1, _, h2, h3, h4, h5, h6, h7⟩
    exact h2.wp (hn v σ' m' w' cv h1 h3 h4 h5 h6 (h7.fr hf))
  cases hk : kindOf o with
  | quiet =>
    obtain ⟨v, cv, h1, h2, h3, _⟩ := quiet_sound hk h he
    exact Does.wp (.inl (h3 w)) (hn v σ m w cv h1 hs (.refl _ _) (Below.refl _ _) h2 hf)
  | load =>
    cases hop : o.op with
    | load t x =>
      obtain ⟨v, cv, p, _, h1, h2, h3, _⟩ := load_sound hop h hs he
      exact Does.wp (.inl h3) (hn v σ m w cv h1 hs (.refl _ _) (Below.refl _ _) h2 hf)
    | call c => simp only [kindOf, hop] at hk; split at hk <;> simp at hk
    | _ => simp [kindOf, hop] at hk
  | alloc =>
    obtain ⟨cs, val, h1, _, h2⟩ := alloc_op hk h
    obtain ⟨cv, w', L, q1, q2, q3, q4, q5⟩ := h2 ⟨σ, hs⟩ he (hf σ.next (Nat.le_refl _))
    exact Does.wp (.inl q1) (hn _ _ _ w' cv h1 (q5 σ _ hs (fun i => by rw [St.get_new])) q2 q3 q4 (Fresh.fr (.inr ⟨rfl, L, rfl⟩) hf))
  | effect =>
    cases hop : o.op with
    | store t x y => exact eff (store_op hop h hs he)
    | call c =>
      cases hc : c.callee with
      | value f => exact call_op hC hop hc h hs hf he hn
      | invoke rv nm => simp [kindOf, hop, hc] at hk
      | builtin b =>
        refine eff (builtin_op hop hc ?_ h hs (hf σ.next (Nat.le_refl _)) he)
        cases b <;> simp [kindOf, hop, hc] at hk <;> simp
    | _ => simp [kindOf, hop] at hk
  | bad =>
    exfalso
    cases hop : o.op with
    | call c =>
      cases hc : c.callee with
      | value f => simp [kindOf, hop, hc] at hk
      | invoke rv nm => simp [aop, hop, hc] at h
      | builtin b =>
        simp only [aop, hop, hc] at h
        cases b <;> simp [kindOf, hop, hc] at hk <;> simp [abuiltin] at h
    | _ => first | (simp [kindOf, hop] at hk; done) | simp [aop, hop] at h

/-- Setting what is there already. -/
theorem Env.set_same {e : Env} {g : Nat} {v : AV} (h : e.at g = v) (hv : v ≠ .undef) : e.set g v = e := by
  unfold Env.at at h
  cases he : e[g]? with
  | none => simp [he] at h; exact absurd h.symm hv
  | some u =>
    simp [he] at h; subst h
    apply List.ext_getElem?
    intro i
    rw [List.getElem?_set]
    split
    · rename_i hi; subst hi; rw [he]; split <;> simp_all
    · rfl

/-- A guard that says yes or no. -/
theorem guard_wanted {ops : Array Oper} {o : Oper} {g : Nat} {want : Bool} (hg : guardOf ops o = .on g want) {e : Env} {a : Act} (he : RepE m w e a) :
    (∀ t, e.at g = .bool t → Region.wanted o (yielded ops a.tmps) = (t == want)) ∧ (e.at g = .tuple [] → Region.wanted o (yielded ops a.tmps) = false) := by
  unfold guardOf at hg
  split at hg
  · simp at hg
  · rename_i j want' hgd
    split at hg
    · rename_i g' hj
      simp only [Guard.on.injEq] at hg
      obtain ⟨rfl, rfl⟩ := hg
      have hr := he.at g'
      have hy : yielded ops a.tmps j = match a.tmps[g']? with | some (.bool b) => some b | _ => none := by
        unfold yielded; rw [hj]; rfl
      refine ⟨fun t ht => ?_, fun ht => ?_⟩
      · rw [ht] at hr
        have : a.tmps[g']? = some (.bool t) := by
          cases hv : a.tmps[g']? with
          | none => simp [Array.getD_eq_getD_getElem?, hv, undef] at hr; cases hr
          | some u => simp [Array.getD_eq_getD_getElem?, hv] at hr; cases hr; rfl
        simp only [Region.wanted, hgd, hy, this]
        cases t <;> cases want' <;> rfl
      · rw [ht] at hr
        simp only [Region.wanted, hgd, hy]
        cases hv : a.tmps[g']? with
        | none => rfl
        | some u =>
          simp [Array.getD_eq_getD_getElem?, hv] at hr
          cases hr
          rfl
    · simp at hg

theorem guard_none {ops : Array Oper} {o : Oper} (hg : guardOf ops o = .none) (y : Nat → Option Bool) : Region.wanted o y = true := by
  unfold guardOf at hg
  split at hg
  · rename_i h; simp [Region.wanted, h]
  · split at hg <;> simp at hg

/-- Operations one behind the other. -/
theorem opsK_sound {call : CallF R} (hC : SoundCall B P call) {ops : Array Oper} {Q : Exit → Act → World → Prop} {K : Env → St → Option R} {r : R} : ∀ (l : List Oper) {e : Env} {σ : St} {m : Mp} {w : World} {a : Act},
    opsK P call ops l K e σ = some r → Sim B σ m w → Fr m σ.next → RepE m w e a → a.defers = [] →
    (∀ e' σ' m' w' a', K e' σ' = some r → Sim B σ' m' w' → Grows m w m' w' → Below B w w' → RepE m' w' e' a' → Fr m' σ'.next → a'.defers = [] → Q .normal a' w') →
    wpList P ops Q l a w := by
  intro l
  induction l with
  | nil =>
    intro e σ m w a h hs hf he hd hQ
    exact wpList_nil (hQ e σ m w a h hs (.refl _ _) (Below.refl _ _) he hf hd)
  | cons o rest ih =>
    intro e σ m w a h hs hf he hd hQ
    simp only [opsK] at h
    -- what is left behind one operation
    have skip : opsK P call ops rest K (e.put o.dst (.tuple [])) σ = some r → wpList P ops Q rest (a.put o.dst undef) w := by
      intro h
      refine ih h hs hf (he.put o.dst (.tuple [] #[] .nil)) ?_ hQ
      cases o.dst <;> exact hd
    have run : (aop P call o e σ fun v σ' => opsK P call ops rest K (e.put o.dst v) σ') = some r → ∀ K' : Act → World → Prop, (∀ a w, wpList P ops Q rest a w → K' a w) → o.wp P a w K' Q := by
      intro h K' hK'
      refine aop_sound hC h hs hf he fun v σ' m' w' cv h1 q1 q2 q3 q4 q5 => hK' _ _ ?_
      refine ih h1 q1 q5 ((he.mono q2).put o.dst q4) (by cases o.dst <;> exact hd) fun e2 σ2 m2 w2 a2 p1 p2 p3 p4 p5 p6 p7 => ?_
      exact hQ e2 σ2 m2 w2 a2 p1 p2 (q2.trans p3) (q3.trans p4) p5 p6 p7
    refine wpList_step fun K' hK' => ?_
    split at h
    · rename_i hg
      rw [if_pos (guard_none hg _)]
      exact run h K' hK'
    · simp at h
    · rename_i g want hg
      obtain ⟨gb, gt⟩ := guard_wanted hg he
      split at h
      · rename_i hv
        rw [gt hv, if_neg (by simp)]
        exact hK' _ _ (skip h)
      · rename_i t hv
        rw [gb t hv]
        cases t with
        | true =>
          simp only [if_true] at h
          rw [Env.set_same hv (by simp)] at h
          cases want with
          | true => simp only [if_true] at h; rw [if_pos (by rfl)]; exact run h K' hK'
          | false => simp only [Bool.false_eq_true, if_false] at h; rw [if_neg (by simp)]; exact hK' _ _ (skip h)
        | false =>
          simp only [Bool.false_eq_true, if_false] at h
          rw [Env.set_same hv (by simp)] at h
          cases want with
          | true => simp only [if_true] at h; rw [if_neg (by simp)]; exact hK' _ _ (skip h)
          | false => simp only [Bool.false_eq_true, if_false] at h; rw [if_pos (by rfl)]; exact run h K' hK'
      · simp at h
end

end Go.AM
