/- The abstract machine against the model: calls; every operation; regions in the text's order. -/
import Derived.Test.YtnjhcfcnpapaiaaGreatDoorA16m
import Derived.Laws.IdiomRangeMap
import Derived.Laws.BytesString
import Derived.Tactics
set_option linter.unusedVariables false
set_option linter.unusedSimpArgs false
namespace Go.AM
open Go.RowKit (Below)

/-- Calls that are right. -/
def FreshSound (P : Program) : Prop := ∀ f cs, freshOf f = some cs → cs.all AV.one = true ∧ (∃ fn, P.funcs[f]? = some fn ∧ fn.body.isSome = true ∧ (fn.name == "runtime.NumGoroutine") = false) ∧
  ∃ (us : Array Value) (el : TypeId), (∀ m w, RepL m w cs us.toList) ∧ ∀ w, Calls P f #[] w fun e w' => e = .returned (.pointer (some ⟨w.heap.size, 0, none⟩)) ∧ w'.heap = (w.alloc (.cells us el)).heap ∧ w'.os = w.os ∧ w'.tape = w.tape ∧ w'.output = w.output
def SoundCall {R : Type} (B : Nat) (P : Program) (call : CallF R) : Prop :=
  FreshSound P ∧ ∀ f args σ K r, call f args σ K = some r → (∃ fn, P.funcs[f]? = some fn ∧ fn.body.isSome = true ∧ (fn.name == "runtime.NumGoroutine") = false) ∧
    ∀ m w cargs, Sim B σ m w → Fr m σ.next → RepL m w args cargs.toList → Calls P f cargs w fun e w' => ∃ v σ' m' cv, e = .returned cv ∧ K v σ' = some r ∧
      Sim B σ' m' w' ∧ Grows m w m' w' ∧ Below B w w' ∧ RepV m' w' v cv ∧ Fr m' σ'.next
section
variable {B : Nat} {σ : St} {m : Mp} {w : World} {P : Program} {R : Type}

theorem grows_heap {m : Mp} {w w' : World} (h : w'.heap = w.heap) : Grows m w m w' := ⟨fun _ _ h => h, fun k => by unfold blkSize; rw [h]; exact Nat.le_refl _⟩
theorem heap_sim {B : Nat} {σ : St} {m : Mp} {w w' : World} (hs : Sim B σ m w) (hh : w'.heap = w.heap) : Sim B σ m w' := by
  have g := grows_heap (m := m) hh
  refine ⟨fun id cs own h => ?_, fun id x h hx => ?_, hs.sep, by rw [hh]; exact hs.le, fun id n cs h => ?_⟩
  · obtain ⟨L, ccs, el, fr, h1, h2, h3, h4, h5, h6⟩ := hs.row id cs own h
    exact ⟨L, ccs, el, fr, h1, h2, by rw [hh]; exact h3, h4, RepL.mono g h5, h6⟩
  · obtain ⟨L, o, h1, h2, h3, h4⟩ := hs.obj id x h hx
    exact ⟨L, o, h1, h2, by rw [hh]; exact h3, h4.mono g⟩
  · obtain ⟨h1, ccs, el, fr, h2, h3⟩ := hs.glob id n cs h
    exact ⟨h1, ccs, el, fr, by rw [hh]; exact h2, h3.mono g⟩

theorem call_op {call : CallF R} (hC : SoundCall B P call) {o : Oper} {c : Call} {f : Operand} (hop : o.op = .call c) (hcal : c.callee = .value f) (hfc : freshC f c.args = none) {e : Env} {a : Act} {K : AV → St → Option R} {r : R} (h : aop P call o e σ K = some r)
    (hs : Sim B σ m w) (hf : Fr m σ.next) (he : RepE m w e a) {next : Act → World → Prop} {Q : Exit → Act → World → Prop}
    (hn : ∀ v σ' m' w' cv, K v σ' = some r → Sim B σ' m' w' → Grows m w m' w' → Below B w w' → RepV m' w' v cv → Fr m' σ'.next → next (a.put o.dst cv) w') : o.wp P a w next Q := by
  simp only [aop, hop, hcal, hfc] at h
  unfold callV at h
  have hfv := ev_rep (P := P) he f
  have hargs := evArgs_rep (P := P) he c.argTypes.toList c.args.toList
  split at h
  · rename_i i first captured hev
    rw [hev] at hfv
    obtain ⟨f2, c2, hfe, hr1, hr2⟩ : ∃ f2 c2, a.eval f = .func (.func i) f2 c2 ∧ RepL m w first f2.toList ∧ RepL m w captured c2.toList := by
      cases hv : a.eval f <;> rw [hv] at hfv <;> cases hfv
      exact ⟨_, _, rfl, by assumption, by assumption⟩
    obtain ⟨⟨fn, hfn, hbody, hname⟩, hcalls⟩ := hC.2 _ _ _ _ _ h
    have hrun : (execOp a.eval o).run P w = .ok (.enter i (f2 ++ c.args.map a.eval ++ c2)) w := by
      simp only [execOp, hop, resolve, hcal, Deferred.ofValue, hfe, Sem.run_bind, Sem.run_pure, Result.andThen_ok, invoke, callFunc, run_program]
      have : fn.body.isNone = false := by simpa using hbody
      simp [hfn, hname, this]
    unfold Oper.wp
    rw [hrun]
    refine (hcalls m w _ hs hf (by simp only [Array.toList_append, Array.toList_map]; exact (hr1.append hargs).append hr2)).mono ?_
    rintro e2 w2 ⟨v, σ2, m2, cv, rfl, hk, q1, q2, q3, q4, q5⟩
    exact hn v σ2 m2 w2 cv (castRes_some hk) q1 q2 q3 q4 q5
  · simp at h

/-- A variable's value. -/
theorem ldV_sound {t : TypeId} {p : Nat × Nat} {K : AV → Option R} {r : R} (h : ldV P t σ p K = some r) (hs : Sim B σ m w) {L : Loc} (hL : m p.1 = some L) :
    ∃ v cv, K v = some r ∧ RepV m w v cv ∧ (loadVar t ⟨L.blk, L.base + p.2, none⟩).run P w = .ok cv w ∧ ∀ (R' : Type) (K' : AV → Option R'), ldV P t σ p K' = K' v := by
  unfold ldV at h ⊢
  split at h
  · rename_i shs hsh
    split at h
    · rename_i hl
      obtain ⟨cs, h1, h2, h3, h4⟩ := ldT_some h
      obtain ⟨qs, hr, h1s, hc⟩ := hs.cellsAt hL h3
      obtain ⟨d, hu⟩ := shOf_underlying hsh
      obtain ⟨ie, hie⟩ := info_of_underlying hu
      have hlen := hr.length
      by_cases ha : isAggT P t = true
      · simp only [ha, if_true] at h1
        refine ⟨_, .agg qs.toArray, h1, .agg _ _ (by simpa using hr), ?_, fun R' K' => ?_⟩
        · have hlc := run_loadCells_list (P := P) w _ qs hc
          simp [loadVar, run_isAggT hu, ha, run_size hie, ← hl, ← h2, hlen, hlc]
        · rw [if_pos hl, h4 σ h3]; simp [ha]
      · simp only [ha, if_false, Bool.false_eq_true] at h1
        split at h1
        · rename_i v
          cases hr with
          | cons _ u _ y hvr ht =>
            cases ht
            have hcell := hc 0 u rfl
            simp only [Addr.add_lit, Nat.add_zero] at hcell
            refine ⟨v, u, h1, hvr, ?_, fun R' K' => ?_⟩
            · simp [loadVar, run_isAggT hu, ha, hcell]
            · rw [if_pos hl, h4 σ h3]; simp [ha]
        · simp at h1
    · simp at h
  · simp at h

theorem AV.toPtr_some {v : AV} {p : Option (Nat × Nat)} (h : v.toPtr = some p) : v = .ptr p := by
  cases v <;> simp [AV.toPtr] at h
  rw [h]

theorem recvOf_sound {t : TypeId} {name : String} {q : FuncId × Bool} (hm : methodOf P t name = some q) {v : AV} {cv : Value} (hv : RepV m w v cv) {K : AV → Option R} {r : R} (h : recvOf P t q.2 v σ K = some r) (hs : Sim B σ m w) (n : Nat) :
    ∃ u cu, K u = some r ∧ RepV m w u cu ∧ (method (n + 1) t cv name).run P w = .ok (q.1, cu) w ∧ ∀ (R' : Type) (K' : AV → Option R'), recvOf P t q.2 v σ K' = K' u := by
  unfold methodOf at hm
  simp only [Option.bind_eq_some_iff] at hm
  obtain ⟨i, hi, me, hme, hp⟩ := hm
  split at hp
  · rename_i hpe
    have hpath : me.path.toList = [] := by simpa using hpe
    obtain ⟨f, pr⟩ := q
    have key : ∀ cu, (∀ nm, (receiverAt t (.val cv) pr (some nm)).run P w = .ok cu w) → (method (n + 1) t cv name).run P w = .ok (f, cu) w := by
      intro cu hcu
      have hpe' : me.path = #[] := by simpa using hpe
      unfold method
      simp [typeInfo, hi, hme, hpath, follow, hp, hpe', hcu]
    unfold recvOf at h ⊢
    split at h
    · rename_i el hu
      split at h
      · rename_i hpr
        simp only at hpr
        subst hpr
        exact ⟨v, cv, h, hv, key cv (fun nm => by simp [receiverAt, run_underlying hu, Place.get]), fun R' K' => by simp only [if_true]⟩
      · rename_i hpr
        simp only [Bool.not_eq_true] at hpr
        subst hpr
        simp only [Option.bind_eq_some_iff] at h
        obtain ⟨o, ho, p, rfl, h⟩ := h
        obtain rfl := AV.toPtr_some ho
        obtain ⟨id, off⟩ := p
        obtain ⟨L, hL, hcv⟩ := ptr_inv hv
        obtain ⟨u, cu, h1, h2, h3, h4⟩ := ldV_sound h hs hL
        refine ⟨u, cu, h1, h2, key cu fun nm => ?_, fun R' K' => by simp only [Bool.false_eq_true, if_false, ho, Option.bind_some]; exact h4 _ _⟩
        have hssa : ∀ (ts : Array TypeId) (ty : TypeId) (ad : Addr) (x y : String), Builtin.ssaWrapNilChk_ ts ty #[.pointer (some ad), strVal x, strVal y] = pure (.pointer (some ad)) := fun _ _ _ _ _ => rfl
        simp [receiverAt, run_underlying hu, Place.get, hcv, hssa, asAddr, h3]
    · rename_i d hnp hu
      split at h
      · simp at h
      · rename_i hpr
        simp only [Bool.not_eq_true] at hpr
        subst hpr
        refine ⟨v, cv, h, hv, key cv fun nm => ?_, fun R' K' => by simp only [Bool.false_eq_true, if_false]⟩
        simp only [receiverAt, Sem.run_bind, run_underlying hu, Result.andThen_ok]
        cases d <;> first | exact (hnp _ rfl).elim | simp [Place.get]
    · simp at h
  · simp at hp

theorem invoke_op {call : CallF R} (hC : SoundCall B P call) {o : Oper} {c : Call} {rv : Operand} {name : String} (hop : o.op = .call c) (hcal : c.callee = .invoke rv name) {e : Env} {a : Act} {K : AV → St → Option R} {r : R} (h : aop P call o e σ K = some r)
    (hs : Sim B σ m w) (hf : Fr m σ.next) (he : RepE m w e a) {next : Act → World → Prop} {Q : Exit → Act → World → Prop}
    (hn : ∀ v σ' m' w' cv, K v σ' = some r → Sim B σ' m' w' → Grows m w m' w' → Below B w w' → RepV m' w' v cv → Fr m' σ'.next → next (a.put o.dst cv) w') : o.wp P a w next Q := by
  simp only [aop, hop, hcal] at h
  have hfv := ev_rep (P := P) he rv
  have hargs := evArgs_rep (P := P) he c.argTypes.toList c.args.toList
  split at h
  · rename_i t v hev
    rw [hev] at hfv
    obtain ⟨cv, hce, hrv⟩ : ∃ cv, a.eval rv = .iface t cv ∧ RepV m w v cv := by
      cases hv : a.eval rv <;> rw [hv] at hfv <;> cases hfv
      exact ⟨_, rfl, by assumption⟩
    simp only [Option.bind_eq_some_iff] at h
    obtain ⟨q, hq, h⟩ := h
    obtain ⟨n, hn'⟩ : ∃ n, P.types.size + Made.depth = n + 1 := ⟨P.types.size + 99, by unfold Made.depth; omega⟩
    obtain ⟨u, cu, h1, hu, hmet, _⟩ := recvOf_sound hq hrv h hs n
    obtain ⟨⟨fn, hfn, hbody, hname⟩, hcalls⟩ := hC.2 _ _ _ _ _ h1
    have hrun : (execOp a.eval o).run P w = .ok (.enter q.1 (#[cu] ++ c.args.map a.eval)) w := by
      have hb : fn.body.isNone = false := by simpa using hbody
      have hex : (#[Value.iface t cv] ++ c.args.map a.eval).extract 1 (#[Value.iface t cv] ++ c.args.map a.eval).size = c.args.map a.eval := by
        apply Array.toList_inj.1
        simp
        rw [List.take_of_length_le (by simp)]
      have h0 : (#[Value.iface t cv] ++ c.args.map a.eval)[0]? = some (.iface t cv) := by rw [← Array.getElem?_toList, Array.toList_append]; rfl
      have hinv : (invoke (.fn (.method name) #[]) (#[Value.iface t cv] ++ c.args.map a.eval)) = callMethod (.iface t cv) name (c.args.map a.eval) := by
        simp only [invoke, h0, hex]
      simp only [execOp, hop, resolve, hcal, hce, Sem.run_bind, Sem.run_pure, Result.andThen_ok, hinv]
      simp only [callMethod, Sem.run_bind, run_program, Result.andThen_ok, hn', hmet, callFunc]
      simp [hfn, hname, hb]
    unfold Oper.wp
    rw [hrun]
    refine (hcalls m w _ hs hf (by simp only [Array.toList_append, Array.toList_map]; exact .cons _ _ _ _ hu hargs)).mono ?_
    rintro e2 w2 ⟨v, σ2, m2, cv, rfl, hk, q1, q2, q3, q4, q5⟩
    exact hn v σ2 m2 w2 cv (castRes_some hk) q1 q2 q3 q4 q5
  · simp at h

theorem abuiltin_exec {o : Oper} {c : Call} {b : Builtin} (hop : o.op = .call c) (hc : c.callee = .builtin b) {a : Act} {us : List Value} (hus : c.args.toList.map a.eval = us) :
    (execOp a.eval o) = builtin b c.argTypes o.type (c.args.map fun | .const _ => true | _ => false) us.toArray := by
  have : c.args.map a.eval = us.toArray := by rw [← hus, ← Array.toList_map, Array.toArray_toList]
  simp only [execOp, hop, resolve, hc, this]
  rfl

theorem builtin_op {call : CallF R} {o : Oper} {c : Call} {b : Builtin} (hop : o.op = .call c) (hc : c.callee = .builtin b) (hb : b = .append ∨ b = .copy) {e : Env} {a : Act} {K : AV → St → Option R} {r : R} (h : aop P call o e σ K = some r)
    (hs : Sim B σ m w) (hn : m σ.next = none) (he : RepE m w e a) : Eff B m w P o e a K σ r := by
  unfold Eff
  simp only [aop, hop, hc] at h ⊢
  have hargs := evArgs_rep (P := P) he c.argTypes.toList c.args.toList
  unfold abuiltin at h ⊢
  split at h
  · simp at hb
  · simp at hb
  · rename_i t u o1 n1 c1 e1 x hts hp
    split at h
    · rename_i el el' ht hu
      split at h
      · rename_i hcond
        split at h
        · rename_i o2 n2 c2 e2
          split at h
          · rename_i he2
            subst he2
            simp only [Option.bind_eq_some_iff] at h
            obtain ⟨news, hne, ⟨s2, σ2⟩, happ, h⟩ := h
            rw [hp] at hargs
            obtain ⟨u1, u2, hus, hr1, hr2⟩ := two_inv hargs
            have htt : c.argTypes = #[t, u] := by rw [← Array.toList_inj, hts]
            obtain ⟨m', w', cv, q1, q2, q3, q4, q5, q6⟩ := app_sim (ty := o.type) hs hn ht hu hcond.1 hcond.2.1 hcond.2.2 hr1 hr2 hne happ
            refine ⟨_, σ2, cv, w', m', h, fun call' K' => by simp only [hts, hp, ht, hu, if_pos hcond, hne, happ, Option.bind_some, if_true], .inl ?_, q2, q3, q4, q5, q6⟩
            rw [abuiltin_exec hop hc hus, htt]
            simp [builtin, q1]
          · simp at h
        · simp at h
      · simp at h
    · simp at h
  · rename_i t u o1 n1 c1 e1 o2 n2 c2 e2 hts hp
    split at h
    · rename_i el el' ht hu
      split at h
      · rename_i hcond
        obtain ⟨hc1, hc2, hc3⟩ := hcond
        subst hc2
        simp only [Option.bind_eq_some_iff] at h
        obtain ⟨⟨k, σ2⟩, hcp, h⟩ := h
        rw [hp] at hargs
        obtain ⟨u1, u2, hus, hr1, hr2⟩ := two_inv hargs
        have htt : c.argTypes = #[t, u] := by rw [← Array.toList_inj, hts]
        obtain ⟨w', q1, q2, q3, q4, q5⟩ := copy_sim (ty := o.type) hs ht hu hc1 hc3 hr1 hr2 hcp
        refine ⟨_, σ2, _, w', m, h, fun call' K' => by simp only [hts, hp, ht, hu]; rw [if_pos ⟨hc1, trivial, hc3⟩, hcp]; rfl, .inl ?_, q2, q3, q4, .int _ _, .inl ⟨q5, rfl⟩⟩
        rw [abuiltin_exec hop hc hus, htt]
        simp [builtin, q1]
      · simp at h
    · simp at h
  · simp at hb
  · simp at hb
  · simp at h

/-- An operation that lays a new block. -/
theorem alloc_op {call : CallF R} {o : Oper} (hk : kindOf o = .alloc) {e : Env} {K : AV → St → Option R} {r : R} (h : aop P call o e σ K = some r) (hF : FreshSound P) :
    ∃ (bx : Blk) (val : Nat → AV), K (val σ.next) (σ.new bx) = some r ∧
      ∀ {B : Nat} {m : Mp} {w : World} {a : Act} {n : Nat}, (∃ σ0, Sim B σ0 m w) → RepE m w e a → m n = none → ∀ {next : Act → World → Prop} {Q : Exit → Act → World → Prop},
        (∀ cv w' L, Grows m w (upd m n L) w' → Below B w w' → RepV (upd m n L) w' (val n) cv →
          (∀ (σ0 σ' : St), Sim B σ0 m w → (∀ i, σ'.get i = if i = n then some bx else σ0.get i) → Sim B σ' (upd m n L) w') → next (a.put o.dst cv) w') → o.wp P a w next Q := by
  by_cases hc : ∃ c, o.op = .call c
  · obtain ⟨c, hop⟩ := hc
    simp only [kindOf, hop] at hk
    cases hcal : c.callee with
    | builtin b => rw [hcal] at hk; cases b <;> simp at hk
    | invoke rv nm => rw [hcal] at hk; simp at hk
    | value f =>
      rw [hcal] at hk
      simp only at hk
      split at hk
      · rename_i hfs
        obtain ⟨cs, hfc⟩ := Option.isSome_iff_exists.1 hfs
        simp only [aop, hop, hcal, hfc] at h
        refine ⟨.cells cs true, fun n => .ptr (some (n, 0)), h, ?_⟩
        intro B m w a n ⟨σ0, hs0⟩ he hn next Q kont
        unfold freshC at hfc
        split at hfc
        · rename_i g
          split at hfc
          · rename_i hsz
            obtain ⟨h1, ⟨fn, hfn, hbody, hname⟩, us, el, hr, hcalls⟩ := hF g cs hfc
            have hca : c.args = #[] := Array.eq_empty_of_size_eq_zero hsz
            have hrun : (execOp a.eval o).run P w = .ok (.enter g #[]) w := by
              simp only [execOp, hop, resolve, hcal, Deferred.ofValue, Act.eval, Sem.run_bind, Sem.run_pure, Result.andThen_ok, invoke, callFunc, run_program, hca]
              have : fn.body.isNone = false := by simpa using hbody
              simp [hfn, hname, this]
            unfold Oper.wp
            rw [hrun]
            refine (hcalls w).mono ?_
            rintro e2 w2 ⟨rfl, hh, ho1, ho2, ho3⟩
            obtain ⟨g1, g2, _⟩ := new_sim_at hs0 el (hr m w) h1 hn (extra := #[])
            simp only [Array.append_empty] at g1 g2
            refine kont _ _ ⟨w.heap.size, 0, cs.length⟩ (g1.trans (grows_heap hh)) ⟨ho1, ho2, ho3, by rw [hh]; exact g2.size, fun k hk => by rw [hh]; exact g2.block k hk⟩ (.ptr n 0 ⟨w.heap.size, 0, cs.length⟩ (by simp [upd])) ?_
            intro σ1 σ' hs1 hσ
            have := (new_sim_at hs1 el (hr m w) h1 hn (extra := #[])).2.2 σ' hσ
            simp only [Array.append_empty] at this
            exact heap_sim this hh
          · cases hfc
        · cases hfc
      · cases hk
  · obtain ⟨bx, val, h1, _, h3⟩ := alloc_op0 hk (fun c h => hc ⟨c, h⟩) h
    refine ⟨bx, val, h1, ?_⟩
    intro B m w a n hs he hn next Q kont
    obtain ⟨cv, w', L, q1, q2, q3, q4, q5⟩ := h3 hs he hn
    exact Does.wp (.inl q1) (kont cv w' L q2 q3 q4 q5)

/-- Every operation. -/
theorem aop_sound {call : CallF R} (hC : SoundCall B P call) {o : Oper} {e : Env} {a : Act} {K : AV → St → Option R} {r : R} (h : aop P call o e σ K = some r)
    (hs : Sim B σ m w) (hf : Fr m σ.next) (he : RepE m w e a) {next : Act → World → Prop} {Q : Exit → Act → World → Prop}
    (hn : ∀ v σ' m' w' cv, K v σ' = some r → Sim B σ' m' w' → Grows m w m' w' → Below B w w' → RepV m' w' v cv → Fr m' σ'.next → next (a.put o.dst cv) w') : o.wp P a w next Q := by
  have eff : Eff B m w P o e a K σ r → o.wp P a w next Q := by
    rintro ⟨v, σ', cv, w', m', h1, _, h2, h3, h4, h5, h6, h7⟩
    exact h2.wp (hn v σ' m' w' cv h1 h3 h4 h5 h6 (h7.fr hf))
  cases hk : kindOf o with
  | quiet =>
    obtain ⟨v, cv, h1, h2, h3, _⟩ := quiet_sound hk h he
    exact Does.wp (.inl (h3 w)) (hn v σ m w cv h1 hs (.refl _ _) (Below.refl _ _) h2 hf)
  | load =>
    cases hop : o.op with
    | load t x =>
      obtain ⟨v, cv, p, _, h1, h2, h3, _⟩ := load_sound hop h hs he
      exact Does.wp (.inl h3) (hn v σ m w cv h1 hs (.refl _ _) (Below.refl _ _) h2 hf)
    | call c => simp only [kindOf, hop] at hk; split at hk <;> first | (cases hk; done) | (split at hk <;> cases hk)
    | _ => simp [kindOf, hop] at hk
  | alloc =>
    obtain ⟨cs, val, h1, h2⟩ := alloc_op hk h hC.1
    exact h2 ⟨σ, hs⟩ he (hf σ.next (Nat.le_refl _)) fun cv w' L q2 q3 q4 q5 => hn _ _ _ w' cv h1 (q5 σ _ hs (fun i => by rw [St.get_new])) q2 q3 q4 (Fresh.fr (.inr ⟨rfl, L, rfl⟩) hf)
  | effect =>
    cases hop : o.op with
    | store t x y => exact eff (store_op hop h hs he)
    | lookup t x ix ok => exact eff (lookup_op hop h hs he)
    | mapUpdate t x k v => exact eff (mapUpdate_op hop h hs he)
    | call c =>
      cases hc : c.callee with
      | value f =>
        refine call_op hC hop hc ?_ h hs hf he hn
        simp only [kindOf, hop, hc] at hk
        split at hk
        · cases hk
        · rename_i hfs; simpa using hfs
      | invoke rv nm => exact invoke_op hC hop hc h hs hf he hn
      | builtin b =>
        refine eff (builtin_op hop hc ?_ h hs (hf σ.next (Nat.le_refl _)) he)
        cases b <;> simp [kindOf, hop, hc] at hk <;> simp
    | _ => simp [kindOf, hop] at hk
  | bad =>
    exfalso
    cases hop : o.op with
    | call c =>
      cases hc : c.callee with
      | value f => simp only [kindOf, hop, hc] at hk; split at hk <;> cases hk
      | invoke rv nm => simp [kindOf, hop, hc] at hk
      | builtin b =>
        simp only [aop, hop, hc] at h
        cases b <;> simp [kindOf, hop, hc] at hk <;> simp [abuiltin] at h
    | _ => first | (simp [kindOf, hop] at hk; done) | simp [aop, hop] at h

theorem allK_some [Subsingleton R] {α : Type} {f : α → Option R} {r : R} : ∀ {l : List α}, allK l f = some r → ∀ x ∈ l, f x = some r := by
  intro l
  induction l with
  | nil => intro h; simp [allK] at h
  | cons c cs ih =>
    intro h x hx
    cases cs with
    | nil => simp [allK] at h; simp at hx; subst hx; exact h
    | cons d ds =>
      simp only [allK, Option.bind_eq_some_iff] at h
      obtain ⟨r', h1, h2⟩ := h
      rcases List.mem_cons.1 hx with rfl | hx
      · rw [h1, Subsingleton.elim r' r]
      · exact ih h2 x hx

theorem getObj_of {w : World} {k : Nat} {o : Obj} (h : w.heap[k]? = some o) (hr : isRow o = false) : (getObj k).run P w = .ok o w := by
  cases o <;> simp_all [getObj, Sem.run, isRow]

theorem setObj_of {w : World} {k : Nat} {o : Obj} (o' : Obj) (h : w.heap[k]? = some o) (hr : isRow o = false) : (setObj k o').run P w = .ok () (wput w k o') := by
  cases o <;> simp_all [setObj, Sem.run, isRow, wput]

theorem run_newObj' (o : Obj) (w : World) : (newObj o).run P w = .ok w.heap.size (w.alloc o) := rfl

/-- An iterator that is there. -/
theorem Sim.iterAt (hs : Sim B σ m w) {b : Nat} {q : Option Nat × Nat × List Nat × Nat} (h : σ.iter b = some q) {L : Loc} (hm : m b = some L) :
    (B ≤ L.blk ∧ L.base = 0) ∧ ∃ mo seen, w.heap[L.blk]? = some (.mapIter mo q.2.1 seen q.2.2.2) ∧ q.2.2.1 = seen.toList ∧ ((q.1 = none ∧ mo = none) ∨ ∃ i M, q.1 = some i ∧ m i = some M ∧ mo = some M.blk) := by
  obtain ⟨L2, o, h1, h2, h3, h4⟩ := hs.obj b _ (St.iter_some h) rfl
  rw [hm] at h1
  obtain rfl := Option.some.inj h1
  obtain ⟨mo, a, l, c⟩ := q
  refine ⟨h2, ?_⟩
  cases o with
  | mapIter mo' a' l' c' =>
    cases mo with
    | none =>
      cases mo' with
      | none => obtain ⟨e1, e2, e3⟩ := h4; exact ⟨none, l', by rw [h3]; simp only at e1 e3; rw [e1, e3], e2, .inl ⟨rfl, rfl⟩⟩
      | some k => exact h4.elim
    | some i =>
      cases mo' with
      | none => exact h4.elim
      | some k => obtain ⟨e1, e2, e3, M, e4, e5⟩ := h4; exact ⟨some k, l', by rw [h3]; simp only at e1 e3; rw [e1, e3], e2, .inr ⟨i, M, rfl, e4, by rw [e5]⟩⟩
  | _ => cases mo <;> exact h4.elim

theorem RepEs.mem {es : List (AV × AV × Nat)} {ces : List MapEntry} (h : RepEs m w es ces) {c : MapEntry} (hc : c ∈ ces) : ∃ e ∈ es, RepV m w e.1 c.key ∧ RepV m w e.2.1 c.val ∧ c.born = e.2.2 := by
  induction h with
  | nil => simp at hc
  | cons k v n c' es ces hk hv hb _ ih =>
    rcases List.mem_cons.1 hc with rfl | hc
    · exact ⟨(k, v, n), by simp, hk, hv, hb⟩
    · obtain ⟨e, h1, h2⟩ := ih hc; exact ⟨e, by simp [h1], h2⟩

/-- A round's choice. -/
theorem next_op [Subsingleton R] {dem : Bool} {o : Oper} {it : Operand} (hop : o.op = .next it false) {e : Env} {a : Act} {K : AV → St → Option R} {r : R} {b : Nat} (hb : ev P e it = .ptr (some (b, 0))) (h : nextK dem σ b (K (.tuple [.bool false]) σ) (fun k v σ' => K (.tuple [.bool true, k, v]) σ') = some r)
    (hs : Sim B σ m w) (hf : Fr m σ.next) (he : RepE m w e a) {next : Act → World → Prop} {Q : Exit → Act → World → Prop}
    (hn : ∀ v σ' m' w' cv, K v σ' = some r → Sim B σ' m' w' → Grows m w m' w' → Below B w w' → RepV m' w' v cv → Fr m' σ'.next → next (a.put o.dst cv) w') : o.wp P a w next Q := by
  have hx := ev_rep (P := P) he it
  rw [hb] at hx
  obtain ⟨L, hL, hv⟩ := ptr_inv hx
  unfold nextK at h
  simp only [Option.bind_eq_some_iff] at h
  obtain ⟨q, hq, h⟩ := h
  obtain ⟨hB, mo, seen, hw, hse, hmo⟩ := hs.iterAt hq hL
  have hv0 : a.eval it = .pointer (some ⟨L.blk, 0, none⟩) := by rw [hv, hB.2]
  rcases hmo with ⟨h1, rfl⟩ | ⟨mb, M, h1, hM, rfl⟩
  · simp only [h1] at h
    refine Does.wp (cv := .tuple #[.bool false]) (w' := w) (.inl ?_) (hn _ σ m w _ h hs (.refl _ _) (Below.refl _ _) (.tuple _ _ (.cons _ _ _ _ (.bool false) .nil)) hf)
    simp [execOp, hop, hv0, Instr.next, getObj_of hw rfl]
  · simp only [h1, Option.bind_eq_some_iff] at h
    obtain ⟨s, hsm, l, hl, h⟩ := h
    obtain ⟨_, ces, hwm, hrep⟩ := hs.mapAt hsm hM
    unfold leftOf at hl
    split at hl
    · rename_i hc
      simp only [Option.some.injEq] at hl
      obtain ⟨hc1, hc2⟩ := hc
      have hborn : ∀ x ∈ ces.toList, x.born < q.2.1 := by
        intro x hx
        obtain ⟨e', he1, _, _, he2⟩ := hrep.mem hx
        have := List.all_eq_true.1 hc1 e' he1
        simp at this; omega
      have htest : (!seen.isEmpty && !ces.isEmpty && ces.all fun x => decide (x.born ≥ q.2.2.2)) = false := Go.next_test_false seen ces q.2.1 q.2.2.2 hborn hc2
      have hleft : RepEs m w l (ces.filter fun e => !seen.contains e.born).toList := by
        rw [← hl, Array.toList_filter]
        have := hrep.filter fun n => !seen.contains n
        rw [hse]
        simpa using this
      have hmem : ∀ x ∈ (Array.filter (fun e => !seen.contains e.born) ces).toList, x.born < q.2.1 := fun x hx => hborn x (by simp at hx ⊢; exact hx.1)
      have hrun : (Instr.next (.pointer (some ⟨L.blk, 0, none⟩)) false o.type).run P w = (do
          let left := ces.filter fun e => !seen.contains e.born
          match ((if left.isEmpty then #[none] else #[]) ++ left.map some)[← choose (.mapNext ((if left.isEmpty then #[none] else #[]) ++ left.map some).size)]? with
          | some (some e) =>
            setObj L.blk (.mapIter (some M.blk) q.2.1 (seen.push e.born) s.2)
            pure (.tuple #[.bool true, e.key, e.val])
          | some none => pure (.tuple #[.bool false])
          | none => stuck "Next: no such candidate" : Sem Value).run P w := by
        simp only [Instr.next, Sem.run_bind, getObj_of hw rfl, getObj_of hwm rfl, Result.andThen_ok, htest, Bool.false_eq_true, if_false]
        generalize Array.filter (fun e => !seen.contains e.born) ces = A at hmem ⊢
        have e1 : A.filter (fun x => decide (x.born < q.2.1)) = A := Array.filter_eq_self.2 (fun x hx => by simpa using hmem x (by simpa using hx))
        have e2 : A.filter (fun x => decide (x.born ≥ q.2.1)) = #[] := by
          rw [Array.filter_eq_empty_iff]
          intro x hx
          have := hmem x (by simpa using hx)
          simp
          omega
        simp only [e1, e2, Array.append_empty, Sem.run_bind]
        rfl
      generalize hA : Array.filter (fun e => !seen.contains e.born) ces = A at hleft hrun
      cases hle : l.isEmpty with
      | true =>
        simp only [hle, if_true] at h
        have hl0 : l = [] := by simpa using hle
        subst hl0
        have hA0 : A = #[] := by
          generalize hAl : A.toList = Al at hleft
          cases hleft
          exact Array.toList_eq_nil_iff.1 hAl
        subst hA0
        refine Does.wp (cv := .tuple #[.bool false]) (w' := w) (.inl ?_) (hn _ σ m w _ h hs (.refl _ _) (Below.refl _ _) (.tuple _ _ (.cons _ _ _ _ (.bool false) .nil)) hf)
        simp only [execOp, hop, hv0, Sem.run_bind, hrun]
        simp [choose, Sem.run, Question.forced]
      | false =>
        simp only [hle, Bool.false_eq_true, if_false] at h
        have hall : ∀ x ∈ l, K (.tuple [.bool true, x.1, x.2.1]) (σ.put b (.miter (some mb) q.2.1 (q.2.2.1 ++ [x.2.2]) s.2)) = some r := by
          split at h
          · exact allK_some h
          · split at h
            · intro x hx; simp at hx; subst hx; exact h
            · simp at h
        have hsz : A.size ≠ 0 := by
          have h1 := hleft.length
          have h2 : 0 < l.length := List.length_pos_iff.2 (by intro h0; rw [h0] at hle; simp at hle)
          have h3 : A.toList.length = A.size := Array.length_toList
          omega
        have hne : A.isEmpty = false := by simp [Array.isEmpty, hsz]
        obtain ⟨j, w1, hj, hw1, hch⟩ : ∃ (j : Nat) (w1 : World), j < A.size ∧ (w1 = w ∨ w1 = w.drew) ∧ (choose (Question.mapNext A.size)).run P w = .ok j w1 := by
          by_cases hf : A.size ≤ 1
          · exact ⟨0, w, by omega, .inl rfl, by simp [choose, Sem.run, Question.forced, hf]⟩
          · exact ⟨_, w.drew, Nat.mod_lt _ (by omega), .inr rfl, by
              simp only [choose, Sem.run, Question.forced, decide_eq_true_eq, hf, if_false, Question.cut]
              rfl⟩
        have hs1 : Sim B σ m w1 := by rcases hw1 with rfl | rfl; exact hs; exact hs.drew
        have hg1 : Grows m w m w1 := by rcases hw1 with rfl | rfl; exact .refl _ _; exact Grows.drew
        have hb1 : Below B w w1 := by rcases hw1 with rfl | rfl; exact Below.refl _ _; exact (Below.refl B w).drew
        have hwi : w1.heap[L.blk]? = some (.mapIter (some M.blk) q.2.1 seen q.2.2.2) := by rcases hw1 with rfl | rfl; exact hw; exact hw
        obtain ⟨e', he1, he2, he3, he4⟩ := hleft.mem (c := A[j]) (by simp)
        obtain ⟨g1, g2, g3⟩ := putObj_sim hs1 (St.iter_some hq) rfl hL hB hwi rfl (o := .mapIter (some M.blk) q.2.1 (seen.push A[j].born) s.2) (x := .miter (some mb) q.2.1 (q.2.2.1 ++ [e'.2.2]) s.2) rfl rfl
          ⟨rfl, by rw [Array.toList_push, hse, he4], rfl, M, hM, rfl⟩
        refine Does.wp (cv := .tuple #[.bool true, A[j].key, A[j].val]) (w' := wput w1 L.blk (.mapIter (some M.blk) q.2.1 (seen.push A[j].born) s.2)) (.inl ?_)
          (hn _ _ m _ _ (hall e' he1) g3 (hg1.trans g1) (hb1.trans g2) (.tuple _ _ (.cons _ _ _ _ (.bool true) (.cons _ _ _ _ (he2.mono (hg1.trans g1)) (.cons _ _ _ _ (he3.mono (hg1.trans g1)) .nil)))) hf)
        simp only [execOp, hop, hv0, Sem.run_bind, hrun, hne, Bool.false_eq_true, if_false, Array.empty_append, Array.size_map, hch, Result.andThen_ok, Array.getElem?_map, Array.getElem?_eq_getElem hj, Option.map_some, setObj_of _ hwi rfl, Sem.run_pure]
    · simp at hl

theorem bytesOf_rep : ∀ {cs : List AV} {us : List Value} {b0 b : ByteArray}, bytesOf cs b0 = some b → RepL m w cs us → ∃ ns : List Int, us = ns.map (Value.int .u8) ∧ b = ns.foldl (fun r n => r.push (UInt8.ofNat n.toNat)) b0 := by
  intro cs
  induction cs with
  | nil => intro us b0 b h hr; cases hr; simp [bytesOf] at h; exact ⟨[], rfl, h.symm⟩
  | cons v cs ih =>
    intro us b0 b h hr
    simp only [bytesOf, Option.bind_eq_some_iff] at h
    obtain ⟨n, hn, h⟩ := h
    obtain rfl := AV.toInt_some hn
    cases hr with
    | cons _ u _ y h1 h2 =>
      obtain rfl := int_inv h1
      obtain ⟨ns, rfl, rfl⟩ := ih h h2
      exact ⟨n :: ns, rfl, rfl⟩

/-- Every operation of a region in the text's order. -/
theorem aopX_sound [Subsingleton R] {dem : Bool} {call : CallF R} (hC : SoundCall B P call) {o : Oper} {e : Env} {a : Act} {K : AV → St → Option R} {r : R} (h : aopX P dem call o e σ K = some r)
    (hs : Sim B σ m w) (hf : Fr m σ.next) (he : RepE m w e a) {next : Act → World → Prop} {Q : Exit → Act → World → Prop}
    (hn : ∀ v σ' m' w' cv, K v σ' = some r → Sim B σ' m' w' → Grows m w m' w' → Below B w w' → RepV m' w' v cv → Fr m' σ'.next → next (a.put o.dst cv) w') : o.wp P a w next Q := by
  have sound : aop P call o e σ K = some r → o.wp P a w next Q := fun h => aop_sound hC h hs hf he hn
  have hfn : m σ.next = none := hf σ.next (Nat.le_refl _)
  unfold aopX at h
  split at h
  · rename_i t x hop
    have hx := ev_rep (P := P) he x
    split at h
    · rename_i k1 k2 hu hev
      rw [hev] at hx
      rcases map_inv hx with ⟨_, hv⟩ | ⟨_, _, h0, _⟩
      · obtain ⟨g1, g2, g3⟩ := newObj_sim hs (x := .miter none 0 [] 0) (o := .mapIter none 0 #[] 0) rfl ⟨rfl, rfl, rfl⟩ hfn
        refine Does.wp (cv := .pointer (some ⟨w.heap.size, 0, none⟩)) (w' := w.alloc (.mapIter none 0 #[] 0)) (.inl ?_) (hn _ _ _ _ _ h (g3 _ fun i => by rw [St.get_new]) g1 g2 (.ptr σ.next 0 ⟨w.heap.size, 0, 0⟩ (by simp [upd])) (Fresh.fr (.inr ⟨rfl, _, rfl⟩) hf))
        simp [execOp, hop, hv, Instr.range, run_underlying hu, run_newObj']
      · cases h0
    · rename_i k1 k2 b hu hev
      rw [hev] at hx
      simp only [Option.bind_eq_some_iff] at h
      obtain ⟨s, hsm, h⟩ := h
      rcases map_inv hx with ⟨h0, _⟩ | ⟨id, L, hid, hL, hv⟩
      · simp at h0
      simp only [Option.some.injEq] at hid
      subst hid
      obtain ⟨_, ces, hwm, hrep⟩ := hs.mapAt hsm hL
      obtain ⟨g1, g2, g3⟩ := newObj_sim hs (x := .miter (some b) s.2 [] s.2) (o := .mapIter (some L.blk) s.2 #[] s.2) rfl ⟨rfl, rfl, rfl, L, hL, rfl⟩ hfn
      refine Does.wp (cv := .pointer (some ⟨w.heap.size, 0, none⟩)) (w' := w.alloc (.mapIter (some L.blk) s.2 #[] s.2)) (.inl ?_) (hn _ _ _ _ _ h (g3 _ fun i => by rw [St.get_new]) g1 g2 (.ptr σ.next 0 ⟨w.heap.size, 0, 0⟩ (by simp [upd])) (Fresh.fr (.inr ⟨rfl, _, rfl⟩) hf))
      simp only [execOp, hop, hv, Instr.range, Sem.run_bind, run_underlying hu, Result.andThen_ok, getObj_of hwm rfl]
      simp [run_newObj']
    · simp at h
  · rename_i it hop
    split at h
    · rename_i b hev
      exact next_op hop hev h hs hf he hn
    · simp at h
  · rename_i s d x hop
    split at h
    · rename_i el o1 n c z hs1 hd1 hev
      split at h
      · rename_i hc
        simp only [Option.bind_eq_some_iff] at h
        obtain ⟨cs, hcs, b, hb, h⟩ := h
        have hx := ev_rep (P := P) he x
        rw [hev, hc.2] at hx
        obtain ⟨ad, c', hxv⟩ := slice_inv' hx
        rw [hxv] at hx
        obtain ⟨us, hr, h1, hl, hcell, hnone⟩ := hs.elems hcs (by omega) hx
        have hu8 : P.underlying el = some (.int .u8) := by
          have := hc.1
          unfold isU8 at this
          split at this
          · assumption
          · simp at this
        obtain ⟨ns, hns, hfold⟩ := bytesOf_rep hb hr
        refine Does.wp (cv := .string b) (w' := w) (.inl ?_) (hn _ σ m w _ h hs (.refl _ _) (Below.refl _ _) (.str b) hf)
        subst hns
        cases ad with
        | none =>
          have := hnone rfl
          simp at this
          subst this
          simp [execOp, hop, hxv, run_convert_bytes_string w s d el _ _ _ hs1 hu8 hd1, Conv.bytesToString, hfold]
        | some ad =>
          have hld := run_loadCells_list (P := P) w ad _ (fun j u h => hcell ad rfl j u h)
          have hlen : (ns.map (Value.int .u8)).length = n := by simpa using hl
          rw [hlen] at hld
          simp [execOp, hop, hxv, run_convert_bytes_string w s d el _ _ _ hs1 hu8 hd1, run_bytesToString w ad n c' ns hld, hfold]
      · simp at h
    · exact sound h
  · rename_i x i hop
    refine sound ?_
    simp only [aop, hop]
    split at h
    · simp only [Option.bind_eq_some_iff] at h ⊢
      obtain ⟨v, hv, h⟩ := h
      split at h
      · exact ⟨v, hv, (castVal_nat h).1⟩
      · exact ⟨v, hv, h⟩
    · simp at h
  · rename_i it hop
    split at h
    · rename_i b hev
      have hx := ev_rep (P := P) he it
      rw [hev] at hx
      obtain ⟨L, hL, hv⟩ := ptr_inv hx
      simp only [entryOf, Option.bind_eq_some_iff] at h
      obtain ⟨x, ⟨q, hq, mb, hmb, s, hsm, n, hnl, hx'⟩, h⟩ := h
      split at hx'
      · rename_i hclk
        simp only [Option.bind_eq_some_iff, Option.some.injEq] at hx'
        obtain ⟨e', hfind, rfl⟩ := hx'
        obtain ⟨hB, mo, seen, hw, hse, hmo⟩ := hs.iterAt hq hL
        rcases hmo with ⟨h1, _⟩ | ⟨mb', M, h1, hM, rfl⟩
        · rw [hmb] at h1; cases h1
        rw [hmb] at h1
        obtain rfl := Option.some.inj h1
        obtain ⟨_, ces, hwm, hrep⟩ := hs.mapAt hsm hM
        have hv0 : a.eval it = .pointer (some ⟨L.blk, 0, none⟩) := by rw [hv, hB.2]
        have hback : seen.back? = some n := by
          rw [← hnl, hse]; simp
        have hfd : ∀ {es : List (AV × AV × Nat)} {cs : List MapEntry}, RepEs m w es cs → ∀ {e0}, (es.find? fun x => x.2.2 == n) = some e0 → ∃ c, (cs.find? fun x => x.born == n) = some c ∧ RepV m w e0.1 c.key ∧ RepV m w e0.2.1 c.val := by
          intro es cs hr
          induction hr with
          | nil => intro e0 h; simp at h
          | cons k v n' c es cs hk hv hb _ ih =>
            intro e0 h
            subst hb
            rw [List.find?_cons] at h
            by_cases hc : (c.born == n) = true
            · rw [show ((k, v, c.born).2.2 == n) = true from hc] at h
              cases h
              exact ⟨c, by rw [List.find?_cons, hc], hk, hv⟩
            · have hc' : (c.born == n) = false := by simpa using hc
              rw [show ((k, v, c.born).2.2 == n) = false from hc'] at h
              obtain ⟨c', h1, h2⟩ := ih h
              exact ⟨c', by rw [List.find?_cons, hc']; exact h1, h2⟩
        obtain ⟨c, hc1, hc2, hc3⟩ := hfd hrep hfind
        refine Does.wp (cv := .tuple #[c.key, c.val]) (w' := w) (.inl ?_) (hn _ σ m w _ h hs (.refl _ _) (Below.refl _ _) (.tuple _ _ (.cons _ _ _ _ hc2 (.cons _ _ _ _ hc3 .nil))) hf)
        have hcf : ces.find? (fun x => x.born == n) = some c := by rw [← Array.find?_toList]; exact hc1
        simp only [execOp, hop, hv0, Instr.entry, Sem.run_bind, getObj_of hw rfl, Result.andThen_ok, hback, getObj_of hwm rfl, hclk, bne_self_eq_false, Bool.false_eq_true, if_false, hcf, Sem.run_pure]
      · simp at hx'
    · simp at h
  · rename_i c hop
    have hargs := evArgs_rep (P := P) he c.argTypes.toList c.args.toList
    split at h
    · rename_i hc
      split at h
      · rename_i t u mo k hts hp
        split at h
        · rename_i kt et hu
          simp only [Option.bind_eq_some_iff] at h
          obtain ⟨q, hq, h⟩ := h
          rw [hp] at hargs
          obtain ⟨u1, u2, hus, hr1, hr2⟩ := two_inv hargs
          have htt : c.argTypes = #[t, u] := by rw [← Array.toList_inj, hts]
          obtain ⟨k1, k2, b', k3⟩ := keyArg_some hq
          have hck : ∀ emp, (Instr.checkKey emp 10000 kt u2).run P w = .ok () w := fun emp => run_checkKey' k1 k2 k3 hr2 emp w
          rcases map_inv hr1 with ⟨rfl, rfl⟩ | ⟨id, L, rfl, hL, rfl⟩
          · refine Does.wp (cv := .tuple #[]) (w' := w) (.inl ?_) (hn _ σ m w _ h hs (.refl _ _) (Below.refl _ _) (.tuple [] #[] .nil) hf)
            rw [abuiltin_exec hop hc hus, htt]
            simp [builtin, Builtin.delete_, run_underlying hu, hck]
          · simp only [Option.bind_eq_some_iff] at h
            obtain ⟨s, hsm, es, hes, h⟩ := h
            obtain ⟨hB, ces, hwm, hrep⟩ := hs.mapAt hsm hL
            unfold mapDel at hes
            simp only [Option.bind_eq_some_iff] at hes
            obtain ⟨fr, hfr, hes⟩ := hes
            obtain ⟨rr, hfk, hfr2⟩ := findKey_rep k1 k2 hr2 w hrep hfr
            cases fr with
            | some p =>
              cases rr with
              | none => exact hfr2.elim
              | some p' =>
                simp only [Option.some.injEq] at hes
                subst hes
                obtain ⟨hpp, _⟩ := hfr2
                obtain ⟨g1, g2, g3⟩ := putObj_sim hs (St.map_some hsm) rfl hL hB hwm rfl (o := .map (ces.eraseIdxIfInBounds p'.1) s.2) (x := .map (s.1.eraseIdx p.1) s.2) rfl rfl
                  ⟨rfl, by rw [Array.toList_eraseIdxIfInBounds, hpp]; exact hrep.erase _⟩
                refine Does.wp (cv := .tuple #[]) (.inl ?_) (hn _ _ m _ _ h g3 g1 g2 (.tuple [] #[] .nil) hf)
                rw [abuiltin_exec hop hc hus, htt]
                simp [builtin, Builtin.delete_, run_underlying hu, hck, getObj_of hwm rfl, hfk, setObj_of _ hwm rfl]
            | none =>
              cases rr with
              | some p' => exact hfr2.elim
              | none =>
                simp only [Option.some.injEq] at hes
                subst hes
                obtain ⟨g1, g2, g3⟩ := putObj_sim hs (St.map_some hsm) rfl hL hB hwm rfl (o := .map ces s.2) (x := .map s.1 s.2) rfl rfl ⟨rfl, hrep⟩
                refine Does.wp (cv := .tuple #[]) (.inl ?_) (hn _ _ m _ _ h g3 g1 g2 (.tuple [] #[] .nil) hf)
                rw [abuiltin_exec hop hc hus, htt]
                simp [builtin, Builtin.delete_, run_underlying hu, hck, getObj_of hwm rfl, hfk, setObj_of _ hwm rfl]
        · simp at h
      · simp at h
    · rename_i hc
      split at h
      · rename_i t mo hts hp
        split at h
        · rename_i k1 k2 hu
          simp only [Option.bind_eq_some_iff] at h
          obtain ⟨es, hes, h⟩ := h
          rw [hp] at hargs
          obtain ⟨u1, hus, hr1⟩ := one_inv hargs
          have htt : c.argTypes = #[t] := by rw [← Array.toList_inj, hts]
          refine Does.wp (cv := .int .i64 es.length) (w' := w) (.inl ?_) (hn _ σ m w _ h hs (.refl _ _) (Below.refl _ _) (.int _ _) hf)
          rw [abuiltin_exec hop hc hus, htt]
          rcases hs.entries hes hr1 with ⟨rfl, rfl⟩ | ⟨r2, ces, cc, rfl, h1, h2⟩
          · simp [builtin, Builtin.len_, run_underlying hu, Builtin.lenOf, goInt]
          · have := h2.length
            simp at this
            simp [builtin, Builtin.len_, run_underlying hu, Builtin.lenOf, goInt, getObj_of h1 rfl, this]
        · simp at h
      · exact sound h
    · exact sound h
  · exact sound h

/-- Setting what is there already. -/
theorem Env.set_same {e : Env} {g : Nat} {v : AV} (h : e.at g = v) (hv : v ≠ .undef) : e.set g v = e := by
  unfold Env.at at h
  cases he : e[g]? with
  | none => simp [he] at h; exact absurd h.symm hv
  | some u =>
    simp [he] at h; subst h
    apply List.ext_getElem?
    intro i
    rw [List.getElem?_set]
    split
    · rename_i hi; subst hi; rw [he]; split <;> simp_all
    · rfl

/-- A guard that says yes or no. -/
theorem guard_wanted {ops : Array Oper} {o : Oper} {g : Nat} {want : Bool} (hg : guardOf ops o = .on g want) {e : Env} {a : Act} (he : RepE m w e a) :
    (∀ t, e.at g = .bool t → Region.wanted o (yielded ops a.tmps) = (t == want)) ∧ (e.at g = .tuple [] → Region.wanted o (yielded ops a.tmps) = false) := by
  unfold guardOf at hg
  split at hg
  · simp at hg
  · rename_i j want' hgd
    split at hg
    · rename_i g' hj
      simp only [Guard.on.injEq] at hg
      obtain ⟨rfl, rfl⟩ := hg
      have hr := he.at g'
      have hy : yielded ops a.tmps j = match a.tmps[g']? with | some (.bool b) => some b | _ => none := by
        unfold yielded; rw [hj]; rfl
      refine ⟨fun t ht => ?_, fun ht => ?_⟩
      · rw [ht] at hr
        have : a.tmps[g']? = some (.bool t) := by
          cases hv : a.tmps[g']? with
          | none => simp [Array.getD_eq_getD_getElem?, hv, undef] at hr; cases hr
          | some u => simp [Array.getD_eq_getD_getElem?, hv] at hr; cases hr; rfl
        simp only [Region.wanted, hgd, hy, this]
        cases t <;> cases want' <;> rfl
      · rw [ht] at hr
        simp only [Region.wanted, hgd, hy]
        cases hv : a.tmps[g']? with
        | none => rfl
        | some u =>
          simp [Array.getD_eq_getD_getElem?, hv] at hr
          cases hr
          rfl
    · simp at hg

theorem guard_none {ops : Array Oper} {o : Oper} (hg : guardOf ops o = .none) (y : Nat → Option Bool) : Region.wanted o y = true := by
  unfold guardOf at hg
  split at hg
  · rename_i h; simp [Region.wanted, h]
  · split at hg <;> simp at hg

/-- Operations one behind the other. -/
theorem opsK_sound [Subsingleton R] {dem : Bool} {call : CallF R} (hC : SoundCall B P call) {ops : Array Oper} {Q : Exit → Act → World → Prop} {K : Env → St → Option R} {r : R} : ∀ (l : List Oper) {e : Env} {σ : St} {m : Mp} {w : World} {a : Act},
    opsK P dem call ops l K e σ = some r → Sim B σ m w → Fr m σ.next → RepE m w e a → a.defers = [] →
    (∀ e' σ' m' w' a', K e' σ' = some r → Sim B σ' m' w' → Grows m w m' w' → Below B w w' → RepE m' w' e' a' → Fr m' σ'.next → a'.defers = [] → Q .normal a' w') →
    wpList P ops Q l a w := by
  intro l
  induction l with
  | nil =>
    intro e σ m w a h hs hf he hd hQ
    exact wpList_nil (hQ e σ m w a h hs (.refl _ _) (Below.refl _ _) he hf hd)
  | cons o rest ih =>
    intro e σ m w a h hs hf he hd hQ
    simp only [opsK] at h
    -- what is left behind one operation
    have skip : opsK P dem call ops rest K (e.put o.dst (.tuple [])) σ = some r → wpList P ops Q rest (a.put o.dst undef) w := by
      intro h
      refine ih h hs hf (he.put o.dst (.tuple [] #[] .nil)) ?_ hQ
      cases o.dst <;> exact hd
    have run : (aopX P dem call o e σ fun v σ' => opsK P dem call ops rest K (e.put o.dst v) σ') = some r → ∀ K' : Act → World → Prop, (∀ a w, wpList P ops Q rest a w → K' a w) → o.wp P a w K' Q := by
      intro h K' hK'
      refine aopX_sound hC h hs hf he fun v σ' m' w' cv h1 q1 q2 q3 q4 q5 => hK' _ _ ?_
      refine ih h1 q1 q5 ((he.mono q2).put o.dst q4) (by cases o.dst <;> exact hd) fun e2 σ2 m2 w2 a2 p1 p2 p3 p4 p5 p6 p7 => ?_
      exact hQ e2 σ2 m2 w2 a2 p1 p2 (q2.trans p3) (q3.trans p4) p5 p6 p7
    refine wpList_step fun K' hK' => ?_
    split at h
    · rename_i hg
      rw [if_pos (guard_none hg _)]
      exact run h K' hK'
    · simp at h
    · rename_i g want hg
      obtain ⟨gb, gt⟩ := guard_wanted hg he
      split at h
      · rename_i hv
        rw [gt hv, if_neg (by simp)]
        exact hK' _ _ (skip h)
      · rename_i t hv
        rw [gb t hv]
        cases t with
        | true =>
          simp only [if_true] at h
          rw [Env.set_same hv (by simp)] at h
          cases want with
          | true => simp only [if_true] at h; rw [if_pos (by rfl)]; exact run h K' hK'
          | false => simp only [Bool.false_eq_true, if_false] at h; rw [if_neg (by simp)]; exact hK' _ _ (skip h)
        | false =>
          simp only [Bool.false_eq_true, if_false] at h
          rw [Env.set_same hv (by simp)] at h
          cases want with
          | true => simp only [if_true] at h; rw [if_neg (by simp)]; exact hK' _ _ (skip h)
          | false => simp only [Bool.false_eq_true, if_false] at h; rw [if_pos (by rfl)]; exact run h K' hK'
      · simp at h
end

end Go.AM
