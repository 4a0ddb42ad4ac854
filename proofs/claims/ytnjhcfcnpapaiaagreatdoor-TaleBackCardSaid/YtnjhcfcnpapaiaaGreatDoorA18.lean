/- The abstract machine against the model: code, functions, calls; regions that draw are taken on trust of a lemma behind. -/
import Derived.Test.YtnjhcfcnpapaiaaGreatDoorA17
import Derived.LoopN
set_option linter.unusedVariables false
set_option linter.unusedSimpArgs false
namespace Go.AM
open Go.RowKit (Below)

def Ex.toExit : Ex → Exit | .normal => .normal | .exit i => .exit i | .ret => .ret

/-- What holds behind code: of each end the machine's continuation gives r. -/
def After {R : Type} (B : Nat) (m : Mp) (w : World) (K : KF R) (r : R) (Q : Exit → Act → World → Prop) : Prop :=
  ∀ x e' σ' m' w' a', K x e' σ' = some r → Sim B σ' m' w' → Grows m w m' w' → Below B w w' → RepE m' w' e' a' → Fr m' σ'.next → a'.defers = [] → Q x.toExit a' w'

/-- Regions that draw their order. -/
def DrawSound {R : Type} (B : Nat) (P : Program) (call : CallF R) : Prop :=
  ∀ (id : Nat) (ops : Array Oper) (K : Env → St → Option R) (e : Env) (σ : St) (m : Mp) (w : World) (a : Act) (r : R) (Q : Exit → Act → World → Prop),
    drawOK ops = true → drawK P call ops (Region.before ops) ops.toList 0 [] [] K e σ = some r → Sim B σ m w → Fr m σ.next → RepE m w e a → a.defers = [] →
    (∀ e' σ' m' w' a', K e' σ' = some r → Sim B σ' m' w' → Grows m w m' w' → Below B w w' → RepE m' w' e' a' → Fr m' σ'.next → a'.defers = [] → Q .normal a' w') →
    (Code.region id ops true).wp P Q a w

section
variable {B : Nat} {P : Program} {R : Type}

theorem After.trans {m m1 : Mp} {w w1 : World} {K : KF R} {r : R} {Q : Exit → Act → World → Prop} (h : After B m w K r Q) (g : Grows m w m1 w1) (b : Below B w w1) : After B m1 w1 K r Q :=
  fun x e' σ' m' w' a' hk hs hg hb he hf hd => h x e' σ' m' w' a' hk hs (g.trans hg) (b.trans hb) he hf hd

theorem clrGo_rep {m : Mp} {w : World} (k : Nat) : ∀ (e : Env) (i : Nat) (us : List Value), RepL m w e us → RepL m w (Ann.clrGo k i e) us := by
  intro e
  induction e with
  | nil => intro i us h; cases h; exact .nil
  | cons v e ih =>
    intro i us h
    cases h with
    | cons _ u _ y h t =>
      refine .cons _ _ _ _ ?_ (ih (i + 1) y t)
      split
      · exact h
      · exact .undef _

theorem clr_rep {m : Mp} {w : World} {e : Env} {a : Act} (A : Ann) (h : RepE m w e a) : RepE m w (A.clr e) a := by
  cases A with
  | m k x y => exact clrGo_rep k e 0 _ h
  | _ => exact h

theorem loopK_sound {body : KF R → Env → St → Option R} {c : Code} {A : Ann} {r : R}
    (hb : ∀ (K : KF R) (e : Env) (σ : St) (m : Mp) (w : World) (a : Act) (Q : Exit → Act → World → Prop), body K e σ = some r → Sim B σ m w → Fr m σ.next → RepE m w e a → a.defers = [] → After B m w K r Q → c.wp P Q a w) :
    ∀ (n : Nat) (K : KF R) (e : Env) (σ : St) (m : Mp) (w : World) (a : Act) (Q : Exit → Act → World → Prop), loopK body A n K e σ = some r → Sim B σ m w → Fr m σ.next → RepE m w e a → a.defers = [] → After B m w K r Q →
      Code.rounds P c Q n a w := by
  intro n
  induction n with
  | zero => intro K e σ m w a Q h; simp [loopK] at h
  | succ n ih =>
    intro K e σ m w a Q h hs hf he hd hQ
    simp only [loopK, seqC] at h
    rw [rounds_succ]
    refine hb _ e σ m w a _ h hs hf he hd ?_
    intro x e' σ' m' w' a' hk h1 h2 h3 h4 h5 h6
    cases x with
    | normal => exact ih K (A.clr e') σ' m' w' a' Q hk h1 h5 (clr_rep A h4) h6 (hQ.trans h2 h3)
    | exit i => exact hQ (.exit i) e' σ' m' w' a' hk h1 h2 h3 h4 h5 h6
    | ret => exact hQ .ret e' σ' m' w' a' hk h1 h2 h3 h4 h5 h6

theorem runK_sound [Subsingleton R] {call : Bool → CallF R} (hC : ∀ b, SoundCall B P (call b)) (hD : DrawSound B P (call false)) {dem : Bool} {N : Nat} {r : R} : ∀ (c : Code) (A : Ann) (K : KF R) (e : Env) (σ : St) (m : Mp) (w : World) (a : Act) (Q : Exit → Act → World → Prop),
    runK P call dem N c A K e σ = some r → Sim B σ m w → Fr m σ.next → RepE m w e a → a.defers = [] → After B m w K r Q → c.wp P Q a w := by
  intro c
  induction c with
  | skip =>
    intro A K e σ m w a Q h hs hf he hd hQ
    simp only [runK, seqC, condC, blockC] at h
    exact wp_skip (hQ .normal e σ m w a h hs (.refl _ _) (Below.refl _ _) he hf hd)
  | region id ops draw =>
    intro A K e σ m w a Q h hs hf he hd hQ
    cases draw with
    | false =>
      simp only [runK, seqC, condC, blockC] at h
      refine wp_region_list (opsK_sound (hC dem) ops.toList h hs hf he hd ?_)
      intro e' σ' m' w' a' hk h1 h2 h3 h4 h5 h6
      exact hQ .normal e' σ' m' w' a' hk h1 h2 h3 h4 h5 h6
    | true =>
      simp only [runK, seqC, condC, blockC] at h
      split at h
      · rename_i hok
        refine hD id ops _ e σ m w a r Q hok h hs hf he hd ?_
        intro e' σ' m' w' a' hk h1 h2 h3 h4 h5 h6
        exact hQ .normal e' σ' m' w' a' hk h1 h2 h3 h4 h5 h6
      · simp at h
  | seq x y ihx ihy =>
    intro A K e σ m w a Q h hs hf he hd hQ
    simp only [runK, seqC, condC, blockC] at h
    refine wp_seq (ihx A.l _ e σ m w a _ h hs hf he hd ?_)
    intro z e' σ' m' w' a' hk h1 h2 h3 h4 h5 h6
    cases z with
    | normal => exact ihy A.r K (A.clr e') σ' m' w' a' Q hk h1 h5 (clr_rep A h4) h6 (hQ.trans h2 h3)
    | exit i => exact hQ (.exit i) e' σ' m' w' a' hk h1 h2 h3 h4 h5 h6
    | ret => exact hQ .ret e' σ' m' w' a' hk h1 h2 h3 h4 h5 h6
  | cond c x y ihx ihy =>
    intro A K e σ m w a Q h hs hf he hd hQ
    simp only [runK, condC, Option.bind_eq_some_iff] at h
    obtain ⟨t, ht, h⟩ := h
    have hc := ev_rep (P := P) he c
    rw [AV.toBool_some ht] at hc
    have hcv : a.eval c = .bool t := by cases hv : a.eval c <;> rw [hv] at hc <;> cases hc; rfl
    have aft : After B m w (condC A K) r Q := by
      intro z e' σ' m' w' a' hk h1 h2 h3 h4 h5 h6
      cases z with
      | normal => exact hQ .normal (A.clr e') σ' m' w' a' hk h1 h2 h3 (clr_rep A h4) h5 h6
      | exit i => exact hQ (.exit i) e' σ' m' w' a' hk h1 h2 h3 h4 h5 h6
      | ret => exact hQ .ret e' σ' m' w' a' hk h1 h2 h3 h4 h5 h6
    refine wp_cond hcv ?_
    cases t with
    | true => simp only [if_true] at h ⊢; exact ihx A.l _ e σ m w a Q h hs hf he hd aft
    | false => simp only [Bool.false_eq_true, if_false] at h ⊢; exact ihy A.r _ e σ m w a Q h hs hf he hd aft
  | block id c ih =>
    intro A K e σ m w a Q h hs hf he hd hQ
    simp only [runK, seqC, condC, blockC] at h
    refine wp_block (ih A.l _ e σ m w a _ h hs hf he hd ?_)
    intro z e' σ' m' w' a' hk h1 h2 h3 h4 h5 h6
    cases z with
    | normal => exact hQ .normal (A.clr e') σ' m' w' a' hk h1 h2 h3 (clr_rep A h4) h5 h6
    | exit i =>
      simp only [blockC, Ex.toExit, Exit.inBlock] at hk ⊢
      split
      · rename_i hi
        rw [if_pos hi] at hk
        exact hQ .normal (A.clr e') σ' m' w' a' hk h1 h2 h3 (clr_rep A h4) h5 h6
      · rename_i hi
        rw [if_neg hi] at hk
        exact hQ (.exit i) e' σ' m' w' a' hk h1 h2 h3 h4 h5 h6
    | ret => exact hQ .ret e' σ' m' w' a' hk h1 h2 h3 h4 h5 h6
  | loop c ih =>
    intro A K e σ m w a Q h hs hf he hd hQ
    simp only [runK, seqC, condC, blockC] at h
    refine wp_loop_rounds N ?_
    exact loopK_sound (body := fun K e σ => runK P call dem N c A.l K e σ) (A := A) (fun K e σ m w a Q h hs hf he hd hQ => ih A.l K e σ m w a Q h hs hf he hd hQ) N K (A.clr e) σ m w a Q h hs hf (clr_rep A he) hd hQ
  | exit id =>
    intro A K e σ m w a Q h hs hf he hd hQ
    simp only [runK, seqC, condC, blockC] at h
    exact wp_exit (hQ (.exit id) (A.clr e) σ m w a h hs (.refl _ _) (Below.refl _ _) (clr_rep A he) hf hd)
  | ret =>
    intro A K e σ m w a Q h hs hf he hd hQ
    simp only [runK, seqC, condC, blockC] at h
    exact wp_ret (hQ .ret (A.clr e) σ m w a h hs (.refl _ _) (Below.refl _ _) (clr_rep A he) hf hd)
  | _ => intro A K e σ m w a Q h; simp [runK] at h

/-- One result. -/
def resOne (tmps : Array Value) : ResultVar → Sem Value
  | .tmp t => pure (tmps.getD t undef)
  | .cell a t => do loadVar t (← asAddr (tmps.getD a undef))

/-- What a function hands back. -/
theorem resK_sound {m : Mp} {w : World} {σ : St} (hs : Sim B σ m w) {e : Env} {a : Act} (he : RepE m w e a) {r : R} : ∀ (rs : List ResultVar) (K : List AV → Option R), resK P e σ rs K = some r →
    ∃ vs us, K vs = some r ∧ RepL m w vs us ∧ (rs.mapM (resOne a.tmps)).run P w = .ok us w := by
  intro rs
  induction rs with
  | nil => intro K h; exact ⟨[], [], h, .nil, by simp⟩
  | cons rv rs ih =>
    intro K h
    cases rv with
    | tmp t =>
      simp only [resK] at h
      obtain ⟨vs, us, h1, h2, h3⟩ := ih _ h
      refine ⟨_, _, h1, .cons _ _ _ _ (he.at t) h2, ?_⟩
      simp only [List.mapM_cons, resOne, Sem.run_bind, Sem.run_pure, Result.andThen_ok, h3]
    | cell x t =>
      simp only [resK] at h
      have hx := he.at x
      split at h
      · rename_i p shs hp hsh
        split at h
        · rename_i hl
          obtain ⟨cs, h1, h2, h3, _⟩ := ldT_some h
          rw [hp] at hx
          obtain ⟨id, off⟩ := p
          obtain ⟨L, hL, hv⟩ := ptr_inv hx
          obtain ⟨qs, hr, h1s, hc⟩ := hs.cellsAt hL h3
          obtain ⟨d, hu⟩ := shOf_underlying hsh
          obtain ⟨ie, hie⟩ := info_of_underlying hu
          have hlen := hr.length
          by_cases ha : isAggT P t = true
          · simp only [ha, if_true] at h1
            obtain ⟨vs, us, h4, h5, h6⟩ := ih _ h1
            refine ⟨_, _, h4, .cons _ (.agg qs.toArray) _ us (.agg _ _ (by simpa using hr)) h5, ?_⟩
            have hlc := run_loadCells_list (P := P) w _ qs hc
            have hlv : (resOne a.tmps (.cell x t)).run P w = .ok (.agg qs.toArray) w := by
              simp [resOne, hv, asAddr, loadVar, run_isAggT hu, ha, run_size hie, ← hl, ← h2, hlen, hlc]
            simp only [List.mapM_cons, Sem.run_bind, hlv, Sem.run_pure, Result.andThen_ok, h6]
          · simp only [ha, if_false, Bool.false_eq_true] at h1
            split at h1
            · rename_i v
              obtain ⟨vs, us, h4, h5, h6⟩ := ih _ h1
              cases hr with
              | cons _ u _ y hvr ht =>
                cases ht
                have hcell := hc 0 u rfl
                simp only [Addr.add_lit, Nat.add_zero] at hcell
                refine ⟨_, _, h4, .cons _ u _ us hvr h5, ?_⟩
                have hlv : (resOne a.tmps (.cell x t)).run P w = .ok u w := by
                  simp [resOne, hv, asAddr, loadVar, run_isAggT hu, ha, hcell]
                simp only [List.mapM_cons, Sem.run_bind, hlv, Sem.run_pure, Result.andThen_ok, h6]
            · simp at h1
        · simp at h
      · simp at h

theorem results_eq (fn : Func) (tmps : Array Value) {us : List Value} {w : World} (h : (fn.results.toList.mapM (resOne tmps)).run P w = .ok us w) :
    (results fn tmps).run P w = .ok (if us.length = 1 then us.headD undef else .tuple us.toArray) w := by
  have e : results fn tmps = (do let vs ← fn.results.mapM (resOne tmps); pure (if h : vs.size = 1 then vs[0] else .tuple vs) : Sem Value) := by
    unfold results
    congr 1
  rw [e]
  have e2 : fn.results.mapM (resOne tmps) = List.toArray <$> fn.results.toList.mapM (resOne tmps) := Array.mapM_eq_mapM_toList
  rw [e2]
  simp only [Sem.run_bind, Sem.run_map, h, Result.andThen_ok, Sem.run_pure]
  congr 1
  match us with
  | [] => rfl
  | [u] => rfl
  | u :: v :: us => simp

/-- What is known is right. -/
def SpecSound (S : Spec) (B : Nat) (P : Program) : Prop :=
  FreshSound P ∧ ∀ dem f args σ v σ', S.spec dem f args σ = some (v, σ') → (∃ fn, P.funcs[f]? = some fn ∧ fn.body.isSome = true ∧ (fn.name == "runtime.NumGoroutine") = false) ∧
    ∀ m w cargs, Sim B σ m w → Fr m σ.next → RepL m w args cargs.toList → Calls P f cargs w fun e w' => ∃ m' cv, e = .returned cv ∧
      Sim B σ' m' w' ∧ Grows m w m' w' ∧ Below B w w' ∧ RepV m' w' v cv ∧ Fr m' σ'.next

theorem nospec_sound (hF : FreshSound P) : SpecSound nospec B P := ⟨hF, fun _ _ _ _ _ _ h => by cases h⟩

/-- Calls, so deep, are right. -/
theorem callK_sound [S : Spec] (hS : SpecSound S B P) [Subsingleton R] {N : Nat} {ann : FuncId → Ann} (hD : ∀ d, SoundCall B P (callK (R := R) P N ann d false) → DrawSound B P (callK (R := R) P N ann d false)) : ∀ d b, SoundCall (R := R) B P (callK P N ann d b) := by
  intro d
  induction d with
  | zero => intro dem; exact ⟨hS.1, fun f args σ K r h => by simp [callK] at h⟩
  | succ d ih =>
    intro dem
    refine ⟨hS.1, fun f args σ K r h => ?_⟩
    simp only [callK] at h
    split at h
    · rename_i q hq
      obtain ⟨h1, h2⟩ := hS.2 dem f args σ q.1 q.2 hq
      refine ⟨h1, fun m w cargs hs hf hargs => (h2 m w cargs hs hf hargs).mono ?_⟩
      rintro e w' ⟨m', cv, rfl, p1, p2, p3, p4, p5⟩
      exact ⟨q.1, q.2, m', cv, rfl, h, p1, p2, p3, p4, p5⟩
    unfold bodyK at h
    split at h
    · simp at h
    · rename_i fn hfn
      split at h
      · simp at h
      · rename_i hname
        split at h
        · simp at h
        · rename_i c hbody
          refine ⟨⟨fn, hfn, by rw [hbody]; rfl, by simpa using hname⟩, ?_⟩
          intro m w cargs hs hf hargs
          refine calls_of_wp hfn hbody ?_
          refine runK_sound ih (hD d (ih false)) c (ann f) _ _ σ m w _ _ h hs hf ?_ rfl ?_
          · unfold RepE
            simp only [Array.toList_append, Array.toList_replicate]
            have : args.length = cargs.size := by simpa using hargs.length
            rw [this]
            exact hargs.append (RepL.replicate _ _ (.undef _))
          · intro x e' σ' m' w' a' hk h1 h2 h3 h4 h5 h6
            have fin : (resK P e' σ' fn.results.toList fun vs => K (packRes vs) σ') = some r →
                a'.defers = [] ∧ ∃ v, (results fn a'.tmps).run P w' = .ok v w' ∧ ∃ v' σ2 m2 cv, Ending.returned v = .returned cv ∧ K v' σ2 = some r ∧ Sim B σ2 m2 w' ∧ Grows m w m2 w' ∧ Below B w w' ∧ RepV m2 w' v' cv ∧ Fr m2 σ2.next := by
              intro hk
              obtain ⟨vs, us, q1, q2, q3⟩ := resK_sound h1 h4 _ _ hk
              refine ⟨h6, _, results_eq fn a'.tmps q3, packRes vs, σ', m', _, rfl, q1, h1, h2, h3, ?_, h5⟩
              have hl := q2.length
              unfold packRes
              split
              · rename_i v
                simp at hl
                rw [if_pos hl.symm]
                cases q2 with | cons _ u _ y hv ht => cases ht; exact hv
              · rename_i hne
                rw [if_neg ?_]
                · exact .tuple _ _ (by simpa using q2)
                · intro h1
                  match vs, hl, h1 with
                  | [v], _, _ => exact hne v rfl
                  | [], hl, h1 => simp at hl; omega
                  | _ :: _ :: _, hl, h1 => simp at hl; omega
            cases x with
            | normal => exact fin hk
            | exit i => simp [bodyC] at hk
            | ret => exact fin hk

end

end Go.AM
