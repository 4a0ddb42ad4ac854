/- The abstract machine against the model: slicing. -/
import Derived.Test.YtnjhcfcnpapaiaaGreatDoorA8
set_option linter.unusedVariables false
set_option linter.unusedSimpArgs false
namespace Go.AM

def BRep : Option Int → Option Value → Prop
  | none, none => True
  | some n, some (.int _ j) => n = j
  | _, _ => False

section
variable {m : Mp} {w : World} {P : Program}

theorem BRep.some' {n : Int} {v : Option Value} (h : BRep (some n) v) : ∃ k, v = some (.int k n) := by
  match v, h with
  | some (.int k j), h => exact ⟨k, by rw [show n = j from h]⟩

theorem BRep.none' {v : Option Value} (h : BRep none v) : v = none := by
  match v, h with
  | none, _ => rfl

theorem bound_rep {e : Env} {a : Act} (h : RepE m w e a) {x : Option Operand} {b : Option Int} (hb : bound P e x = some b) : BRep b (x.map a.eval) := by
  unfold bound at hb
  split at hb
  · simp at hb; subst hb; trivial
  · rename_i y
    split at hb
    · rename_i k n he
      simp at hb; subst hb
      have := ev_rep (P := P) h y
      rw [he] at this
      cases hv : a.eval y with
      | int k' n' => rw [hv] at this; cases this; simp [hv, BRep]
      | _ => rw [hv] at this; cases this
    · simp at hb

theorem sub_run {z : Nat} {bb : Bool} {o : Option (Nat × Nat)} {n : Nat} {c : Option Nat} {lo hi mx : Option Int} {r : Sl} (h : Sl.sub z ⟨o, n, c⟩ lo hi mx = some r)
    {a : Option Addr} {n' c' : Nat} (hv : RepV m w (.slice o n c z) (.slice a n' c')) {lo' hi' mx' : Option Value} (hl : BRep lo lo') (hh : BRep hi hi') (hm : BRep mx mx') :
    ∃ l h m2, (∀ w', (Instr.sliceBounds bb n' c' lo' hi' mx').run P w' = .ok (l, h, m2) w') ∧
      RepV m w (.slice r.o r.len r.cap z) (.slice (if m2 = l then a else a.map (·.add (l * z))) (h - l) (m2 - l)) := by
  unfold Sl.sub at h
  simp only [Option.bind_eq_some_iff] at h
  obtain ⟨m1, h1, h2, h3, l, h4, h5⟩ := h
  simp only [Option.some.injEq] at h5
  -- facts on the length and the capacity
  have hn : n' = n := by cases hv <;> rfl
  subst hn
  have hc : n' ≤ c' ∧ ∀ d, c = some d → c' = d := by
    cases hv with
    | snil => exact ⟨Nat.le_refl _, fun d hd => by cases hd; rfl⟩
    | slice id off len cap e L c' ad hm hl hc ha => exact ⟨hl, hc⟩
  -- the model's bounds
  have hcap : c.getD n' ≤ c' := by
    cases c with
    | none => exact hc.1
    | some d => have := hc.2 d rfl; simp; omega
  have run : ∃ m2, (∀ w', (Instr.sliceBounds bb n' c' lo' hi' mx').run P w' = .ok (l, h2, m2) w') ∧ m1 ≤ m2 ∧ (mx.isSome = true → m2 = m1) ∧ (mx = none → m2 = c') ∧ (m2 ≤ c') ∧ l ≤ h2 ∧ h2 ≤ m2 := by
    cases mx with
    | none =>
      obtain rfl := hm.none'
      simp only [Option.some.injEq] at h1
      have hm1 : m1 = c.getD n' := h1.symm
      cases hi with
      | none =>
        obtain rfl := hh.none'
        simp at h3
        subst h3
        cases lo with
        | none =>
          obtain rfl := hl.none'
          simp at h4; subst h4
          exact ⟨c', fun w' => by simp [Instr.sliceBounds], by omega, by simp, by simp, Nat.le_refl _, Nat.zero_le _, hc.1⟩
        | some v =>
          obtain ⟨k, rfl⟩ := hl.some'
          simp at h4
          obtain ⟨⟨q1, q2⟩, rfl⟩ := h4
          exact ⟨c', fun w' => by simp [Instr.sliceBounds, run_sliceBound, q1, q2], by omega, by simp, by simp, Nat.le_refl _, by omega, hc.1⟩
      | some v =>
        obtain ⟨k, rfl⟩ := hh.some'
        simp at h3
        obtain ⟨⟨q1, q2⟩, rfl⟩ := h3
        have q3 : v ≤ c' := by omega
        cases lo with
        | none =>
          obtain rfl := hl.none'
          simp at h4; subst h4
          exact ⟨c', fun w' => by simp [Instr.sliceBounds, run_sliceBound, q1, q3], by omega, by simp, by simp, Nat.le_refl _, Nat.zero_le _, by omega⟩
        | some u =>
          obtain ⟨k', rfl⟩ := hl.some'
          simp at h4
          obtain ⟨⟨q4, q5⟩, rfl⟩ := h4
          exact ⟨c', fun w' => by simp [Instr.sliceBounds, run_sliceBound, q1, q3, q4, show u ≤ max v 0 by omega], by omega, by simp, by simp, Nat.le_refl _, by omega, by omega⟩
    | some x =>
      obtain ⟨kx, rfl⟩ := hm.some'
      simp at h1
      obtain ⟨⟨p1, p2⟩, rfl⟩ := h1
      have p3 : x ≤ c' := by omega
      cases hi with
      | none => simp at h3
      | some v =>
        obtain ⟨k, rfl⟩ := hh.some'
        simp at h3
        obtain ⟨⟨q1, q2⟩, rfl⟩ := h3
        cases lo with
        | none =>
          obtain rfl := hl.none'
          simp at h4; subst h4
          exact ⟨x.toNat, fun w' => by simp [Instr.sliceBounds, run_sliceBound, q1, p1, p3, show v ≤ max x 0 by omega], Nat.le_refl _, by simp, by simp, by omega, Nat.zero_le _, by omega⟩
        | some u =>
          obtain ⟨k', rfl⟩ := hl.some'
          simp at h4
          obtain ⟨⟨q4, q5⟩, rfl⟩ := h4
          exact ⟨x.toNat, fun w' => by simp [Instr.sliceBounds, run_sliceBound, q1, p1, p3, q4, show v ≤ max x 0 by omega, show u ≤ max v 0 by omega], Nat.le_refl _, by simp, by simp, by omega, by omega, by omega⟩
  obtain ⟨m2, hrun, hle, hms, hmn, hm2, hlh, hhm⟩ := run
  refine ⟨l, h2, m2, hrun, ?_⟩
  subst h5
  simp only
  cases hv with
  | snil =>
    have hm20 : m2 = 0 := by omega
    obtain rfl : l = 0 := by omega
    obtain rfl : h2 = 0 := by omega
    subst hm20
    cases hmx : mx.isSome with
    | true => have := hms hmx; obtain rfl : m1 = 0 := by omega
              simp; exact .snil z
    | false => simp; exact .snil z
  | slice id off len cap e L _ ad hL hl2 hc2 ha =>
    simp only [Option.map_some]
    by_cases hcs : c.isSome = true ∨ mx.isSome = true
    · -- the capacity is known
      have hm12 : m1 = m2 := by
        cases hmx : mx.isSome with
        | true => exact (hms hmx).symm
        | false =>
          cases mx with
          | some x => simp at hmx
          | none =>
            cases c with
            | none => simp at hcs
            | some d => simp only [Option.some.injEq] at h1; have := hc2 d rfl; have := hmn rfl; simp at h1; omega
      subst hm12
      have hcap2 : (if mx.isSome = true then some (m1 - l) else c.map (· - l)) = some (m1 - l) := by
        cases hmx : mx.isSome with
        | true => simp
        | false =>
          cases mx with
          | some x => simp at hmx
          | none =>
            cases c with
            | none => simp at hcs
            | some d => simp only [Option.some.injEq] at h1; simp at h1; simp [h1]
      rw [hcap2]
      simp only [Option.isSome_some, true_and]
      by_cases hml : m1 = l
      · simp only [hml, if_true]
        exact .slice id off _ _ z L _ ad hL (by omega) (fun c0 hc => by simp at hc; omega) ⟨.inr ⟨by omega, by omega⟩, by simp⟩
      · simp only [hml, if_false]
        refine .slice id (off + l * z) _ _ z L _ _ hL (by omega) (fun c0 hc => by simp at hc; omega) ?_
        obtain ⟨ha, _⟩ := ha
        refine ⟨?_, by simp⟩
        rcases ha with ⟨rfl, hr1⟩ | ⟨hz1, hz2⟩
        · left
          refine ⟨?_, ?_⟩
          · simp [Addr.add_lit, Nat.add_assoc]
          · have : l * z + (m1 - l) * z = m1 * z := by rw [← Nat.add_mul]; congr 1; omega
            have : m1 * z ≤ c' * z := Nat.mul_le_mul_right _ hm2
            intro hcc; cases hcc
        · omega
    · have hcn : c = none := by cases c <;> simp_all
      have hmxn : mx = none := by cases mx <;> simp_all
      subst hcn; subst hmxn
      have := hmn rfl
      subst this
      simp only [Option.isSome_none, Bool.false_eq_true, if_false, Option.map_none, false_and]
      by_cases hml : m2 = l
      · simp only [hml, if_true]
        exact .slice id (off + l * z) _ _ z L _ ad hL (by omega) (fun c0 hc => by simp at hc) ⟨.inr ⟨by omega, by omega⟩, fun _ => by have := ha.2 rfl; rw [hml] at this; omega⟩
      · simp only [hml, if_false]
        refine .slice id (off + l * z) _ _ z L _ _ hL (by omega) (fun c0 hc => by simp at hc) ?_
        obtain ⟨ha, hr2⟩ := ha
        have e0 : l * z + (m2 - l) * z = m2 * z := by rw [← Nat.add_mul]; congr 1; omega
        refine ⟨?_, fun _ => by have := hr2 rfl; omega⟩
        rcases ha with ⟨rfl, hr1⟩ | ⟨hz1, hz2⟩
        · left
          have e1 : l * z + (m2 - l) * z = m2 * z := by rw [← Nat.add_mul]; congr 1; omega
          refine ⟨?_, ?_⟩
          · simp [Addr.add_lit, Nat.add_assoc]
          · intro _; have := hr1 rfl; omega
        · omega

theorem strSub_run {t : TypeId} (hu : P.underlying t = some .string) {s r : ByteArray} {lo hi : Option Int} (h : strSub s lo hi = some r) {lo' hi' : Option Value} (hl : BRep lo lo') (hh : BRep hi hi') (w' : World) :
    (Instr.sliceAt t (.string s) lo' hi' none).run P w' = .ok (.string r) w' := by
  unfold strSub at h
  simp only [Option.bind_eq_some_iff, Option.some.injEq] at h
  obtain ⟨h2, h3, l, h4, rfl⟩ := h
  simp only [Instr.sliceAt, Sem.run_bind, run_underlying hu, Result.andThen_ok, Instr.slice]
  have run : (Instr.sliceBounds false s.size s.size lo' hi' none).run P w' = .ok (l, h2, s.size) w' := by
    cases hi with
    | none =>
      obtain rfl := hh.none'
      simp at h3; subst h3
      cases lo with
      | none => obtain rfl := hl.none'; simp at h4; subst h4; simp [Instr.sliceBounds]
      | some v => obtain ⟨k, rfl⟩ := hl.some'; simp at h4; obtain ⟨⟨q1, q2⟩, rfl⟩ := h4; simp [Instr.sliceBounds, run_sliceBound, q1, q2]
    | some v =>
      obtain ⟨k, rfl⟩ := hh.some'
      simp at h3
      obtain ⟨⟨q1, q2⟩, rfl⟩ := h3
      cases lo with
      | none => obtain rfl := hl.none'; simp at h4; subst h4; simp [Instr.sliceBounds, run_sliceBound, q1, q2]
      | some u => obtain ⟨k', rfl⟩ := hl.some'; simp at h4; obtain ⟨⟨q4, q5⟩, rfl⟩ := h4; simp [Instr.sliceBounds, run_sliceBound, q1, q2, q4, show u ≤ max v 0 by omega]
  simp [run]

end

end Go.AM

set_option linter.unusedVariables false
set_option linter.unusedSimpArgs false
namespace Go.AM

section
variable {m : Mp} {w : World} {P : Program} {R : Type}

/-- What a quiet operation is. -/
def Quiet (m : Mp) (P : Program) (o : Oper) (e : Env) (a : Act) (w : World) (K : AV → St → Option R) (σ : St) (r : R) : Prop :=
  ∃ v cv, K v σ = some r ∧ RepV m w v cv ∧ (∀ w', (execOp a.eval o).run P w' = .ok (.value cv) w') ∧
    ∀ (R' : Type) (call' : CallF R') (σ' : St) (K' : AV → St → Option R'), aop P call' o e σ' K' = K' v σ'

theorem agg_inv {cs : List AV} {u : Value} (h : RepV m w (.agg cs) u) : ∃ ds, u = .agg ds ∧ RepL m w cs ds.toList := by cases h; exact ⟨_, rfl, by assumption⟩

theorem parts_rep {a : Act} (f : Operand → AV) (hf : ∀ x, RepV m w (f x) (a.eval x)) : ∀ (ps : List (Nat × Operand)),
    RepL m w ((ps.map fun (i, x) => (i, f x)).map (·.2)) ((ps.map fun (i, x) => (i, a.eval x)).map (·.2)) := by
  intro ps
  induction ps with
  | nil => exact .nil
  | cons p ps ih => exact .cons _ _ _ _ (hf p.2) ih

theorem evs_rep {e : Env} {a : Act} (he : RepE m w e a) : ∀ (xs : List Operand), RepL m w (xs.map (ev P e)) (xs.map a.eval) := by
  intro xs
  induction xs with
  | nil => exact .nil
  | cons x xs ih => exact .cons _ _ _ _ (ev_rep he x) ih

theorem evArgs_rep {e : Env} {a : Act} (he : RepE m w e a) : ∀ (ts : List TypeId) (xs : List Operand), RepL m w (evArgs P e ts xs) (xs.map a.eval) := by
  intro ts xs
  induction xs generalizing ts with
  | nil => cases ts <;> exact .nil
  | cons x xs ih =>
    cases ts with
    | nil => exact .cons _ _ _ _ (ev_rep he x) (ih [])
    | cons t ts => exact .cons _ _ _ _ (evT_rep he t x) (ih ts)

theorem quiet_build {call : CallF R} {o : Oper} {t : TypeId} {ps : Array (Nat × Operand)} (hop : o.op = .build t ps) {e : Env} {a : Act} {σ : St} {K : AV → St → Option R} {r : R} (h : aop P call o e σ K = some r) (he : RepE m w e a) :
    Quiet m P o e a w K σ r := by
  unfold Quiet
  simp only [aop, hop] at h ⊢
  split at h
  · simp at h
  · rename_i hok
    have hok' : infoOK P t = true ∧ (ps.toList.all fun p => (ev P e p.2).cells.all AV.one) = true := by simpa using hok
    simp only [Option.bind_eq_some_iff] at h
    obtain ⟨z, hz, cs, hcs, h⟩ := h
    split at h
    · rename_i hagg
      obtain ⟨i, zv, hi, hzv, hzr, _⟩ := zeroCellsT_rep (m := m) (w := w) hz
      have hfill : ∃ ds, Instr.fill (placeOf P t) zv.cells (ps.toList.map fun (i, x) => (i, a.eval x)) = some ds ∧ RepL m w cs ds.toList := by
        refine aFill_rep hcs hzr (by simp [Function.comp_def]) (parts_rep _ (ev_rep he) ps.toList) ?_
        intro p hp
        obtain ⟨q, hq, rfl⟩ := List.mem_map.1 hp
        exact .inl (List.all_eq_true.1 hok'.2 q hq)
      obtain ⟨ds, hds, hr⟩ := hfill
      refine ⟨_, .agg ds, h, .agg _ _ hr, fun w' => ?_, fun R' call' σ' K' => ?_⟩
      · have hb : P.built t (ps.map fun (i, x) => (i, a.eval x)).toList = some ds := by
          unfold Program.built
          have hio := hok'.1
          unfold infoOK at hio
          unfold placeOf at hds
          cases hu : P.underlying t with
          | none => simp [hu] at hio
          | some d =>
            cases d <;> simp only [hu, reduceCtorEq, Bool.false_eq_true] at hio
            case array n el =>
              obtain ⟨ie, hie⟩ := Option.isSome_iff_exists.1 hio
              simp only [hu] at hds
              simp only [hi, hzv, hie, Array.toList_map]
              simpa [Program.cellsOf, hie] using hds
            case struct fs =>
              simp only [hu] at hds
              have hpl : ∃ places, fs.toList.mapM (fun f : Field => (P.info? f.type).map fun i => (f.offset, i.size)) = some places ∧ ∀ j : Nat, places[j]? = (fs[j]?).map fun f : Field => (f.offset, P.cellsOf f.type) := by
                have : ∀ (l : List Field), (l.all fun f : Field => (P.info? f.type).isSome) = true → ∃ places, l.mapM (fun f : Field => (P.info? f.type).map fun i => (f.offset, i.size)) = some places ∧ places = l.map fun f : Field => (f.offset, P.cellsOf f.type) := by
                  intro l
                  induction l with
                  | nil => intro _; exact ⟨[], rfl, rfl⟩
                  | cons f l ih =>
                    intro hl
                    simp only [List.all_cons, Bool.and_eq_true] at hl
                    obtain ⟨ie, hie⟩ := Option.isSome_iff_exists.1 hl.1
                    obtain ⟨pl, hp, hq⟩ := ih hl.2
                    refine ⟨(f.offset, ie.size) :: pl, ?_, by simp [hq, Program.cellsOf, hie]⟩
                    simp [List.mapM_cons, hie, hp]
                obtain ⟨pl, hp, hq⟩ := this fs.toList hio
                exact ⟨pl, hp, fun j => by rw [hq]; simp⟩
              obtain ⟨places, hp1, hp2⟩ := hpl
              simp only [hi, hzv, hp1, Array.toList_map]
              have : (fun j => (places.toArray[j]? : Option (Nat × Nat))) = fun j : Nat => (fs[j]?).map fun f : Field => (f.offset, P.cellsOf f.type) := by
                funext j; rw [← hp2 j]; simp
              rw [this]; exact hds
        simp [execOp, hop, run_build w' t _ ds hb]
      · rw [if_neg hok]; simp [hz, hcs, hagg]
    · simp at h

theorem quiet_slice {call : CallF R} {o : Oper} {t : TypeId} {x : Operand} {lo hi mx : Option Operand} (hop : o.op = .slice t x lo hi mx) {e : Env} {a : Act} {σ : St} {K : AV → St → Option R} {r : R} (h : aop P call o e σ K = some r) (he : RepE m w e a) :
    Quiet m P o e a w K σ r := by
  unfold Quiet
  simp only [aop, hop] at h ⊢
  simp only [Option.bind_eq_some_iff] at h
  obtain ⟨lo', hlo, hi', hhi, mx', hmx, h⟩ := h
  have b1 := bound_rep he hlo
  have b2 := bound_rep he hhi
  have b3 := bound_rep he hmx
  split at h
  · rename_i s hu hs
    split at h
    · simp at h
    · rename_i hm
      simp only [Option.bind_eq_some_iff] at h
      obtain ⟨r', hr', h⟩ := h
      have hx := evT_rep (P := P) he t x
      rw [hs] at hx
      refine ⟨_, .string r', h, .str _, fun w' => ?_, fun R' call' σ' K' => ?_⟩
      · obtain rfl : mx' = none := by cases mx' <;> simp_all
        have := b3.none'
        cases hv : a.eval x <;> rw [hv] at hx <;> cases hx
        simp [execOp, hop, hv, this, strSub_run hu hr' b1 b2 w']
      · simp [hlo, hhi, hmx, hu, hs, hm, hr']
  · rename_i el o' n c z hu hs
    split at h
    · rename_i hz
      simp only [Option.bind_eq_some_iff] at h
      obtain ⟨r', hr', h⟩ := h
      have hx := evT_rep (P := P) he t x
      rw [hs] at hx
      obtain ⟨ie, hie, _⟩ := info_of_cells (P := P) (t := el) (by omega)
      have hsl : ∃ ad n' c', a.eval x = .slice ad n' c' := by
        cases hv : a.eval x <;> rw [hv] at hx <;> cases hx <;> exact ⟨_, _, _, rfl⟩
      obtain ⟨ad, n', c', hv⟩ := hsl
      rw [hv] at hx
      obtain ⟨l, h2, m2, hrun, hrep⟩ := sub_run (P := P) (bb := true) hr' hx b1 b2 b3
      refine ⟨_, _, h, hrep, fun w' => ?_, fun R' call' σ' K' => ?_⟩
      · simp [execOp, hop, hv, Instr.sliceAt, Instr.slice, run_underlying hu, hrun w', run_size hie, hz.1]
      · simp only [hlo, hhi, hmx, hu, hs, Option.bind_some, hr', if_pos hz]
    · simp at h
  · rename_i n el p hu hs
    split at h
    · rename_i hz
      simp only [Option.bind_eq_some_iff] at h
      obtain ⟨r', hr', h⟩ := h
      have hx := evT_rep (P := P) he t x
      rw [hs] at hx
      obtain ⟨ie, hie, _⟩ := info_of_cells (P := P) (t := el) (by omega)
      obtain ⟨id, off⟩ := p
      have hsl : ∃ L : Loc, m id = some L ∧ a.eval x = .pointer (some ⟨L.blk, L.base + off, none⟩) := by
        generalize a.eval x = y at hx
        cases hx with
        | ptr _ _ L h => exact ⟨L, h, rfl⟩
      obtain ⟨L, hL, hv⟩ := hsl
      have hxs : RepV m w (.slice (some (id, off)) n (some n) (P.cellsOf el)) (.slice (some ⟨L.blk, L.base + off, none⟩) n n) :=
        .slice id off n (some n) _ L n _ hL (Nat.le_refl _) (fun c hc => by simpa using hc) ⟨.inl ⟨rfl, fun h => by cases h⟩, fun h => by cases h⟩
      obtain ⟨l, h2, m2, hrun, hrep⟩ := sub_run (P := P) (bb := false) hr' hxs b1 b2 b3
      refine ⟨_, _, h, hrep, fun w' => ?_, fun R' call' σ' K' => ?_⟩
      · simp only [execOp, hop, hv, Instr.sliceAt, Sem.run_bind, run_underlying hu, Result.andThen_ok, Instr.sureAddr, Sem.run_pure]
        simp [hrun w', run_size hie]
        split <;> rfl
      · simp only [hlo, hhi, hmx, hu, hs, Option.bind_some, hr', if_pos hz]
    · simp at h
  · simp at h

end

end Go.AM
