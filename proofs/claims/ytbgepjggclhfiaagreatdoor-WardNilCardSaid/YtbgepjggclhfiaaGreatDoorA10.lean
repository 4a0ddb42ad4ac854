/- The abstract machine against the model: every quiet operation. -/
import Derived.Test.YtbgepjggclhfiaaGreatDoorA9
set_option linter.unusedVariables false
set_option linter.unusedSimpArgs false
namespace Go.AM

section
variable {m : Mp} {w : World} {P : Program} {R : Type}

/-- What a quiet operation is. -/
def Quiet (m : Mp) (P : Program) (o : Oper) (e : Env) (a : Act) (w : World) (K : AV → St → Option R) (σ : St) (r : R) : Prop :=
  ∃ v cv, K v σ = some r ∧ RepV m w v cv ∧ (∀ w', (execOp a.eval o).run P w' = .ok (.value cv) w') ∧
    ∀ (R' : Type) (call' : CallF R') (σ' : St) (K' : AV → St → Option R'), aop P call' o e σ' K' = K' v σ'

theorem agg_inv {cs : List AV} {u : Value} (h : RepV m w (.agg cs) u) : ∃ ds, u = .agg ds ∧ RepL m w cs ds.toList := by cases h; exact ⟨_, rfl, by assumption⟩

theorem parts_rep {a : Act} (f : Operand → AV) (hf : ∀ x, RepV m w (f x) (a.eval x)) : ∀ (ps : List (Nat × Operand)),
    RepL m w ((ps.map fun (i, x) => (i, f x)).map (·.2)) ((ps.map fun (i, x) => (i, a.eval x)).map (·.2)) := by
  intro ps
  induction ps with
  | nil => exact .nil
  | cons p ps ih => exact .cons _ _ _ _ (hf p.2) ih

theorem evs_rep {e : Env} {a : Act} (he : RepE m w e a) : ∀ (xs : List Operand), RepL m w (xs.map (ev P e)) (xs.map a.eval) := by
  intro xs
  induction xs with
  | nil => exact .nil
  | cons x xs ih => exact .cons _ _ _ _ (ev_rep he x) ih

theorem evArgs_rep {e : Env} {a : Act} (he : RepE m w e a) : ∀ (ts : List TypeId) (xs : List Operand), RepL m w (evArgs P e ts xs) (xs.map a.eval) := by
  intro ts xs
  induction xs generalizing ts with
  | nil => cases ts <;> exact .nil
  | cons x xs ih =>
    cases ts with
    | nil => exact .cons _ _ _ _ (ev_rep he x) (ih [])
    | cons t ts => exact .cons _ _ _ _ (evT_rep he t x) (ih ts)

theorem quiet_build {call : CallF R} {o : Oper} {t : TypeId} {ps : Array (Nat × Operand)} (hop : o.op = .build t ps) {e : Env} {a : Act} {σ : St} {K : AV → St → Option R} {r : R} (h : aop P call o e σ K = some r) (he : RepE m w e a) :
    Quiet m P o e a w K σ r := by
  unfold Quiet
  simp only [aop, hop] at h ⊢
  split at h
  · simp at h
  · rename_i hok
    have hok' : infoOK P t = true ∧ (ps.toList.all fun p => (ev P e p.2).cells.all AV.one) = true := by simpa using hok
    simp only [Option.bind_eq_some_iff] at h
    obtain ⟨z, hz, cs, hcs, h⟩ := h
    split at h
    · rename_i hagg
      obtain ⟨i, zv, hi, hzv, hzr, _⟩ := zeroCellsT_rep (m := m) (w := w) hz
      have hfill : ∃ ds, Instr.fill (placeOf P t) zv.cells (ps.toList.map fun (i, x) => (i, a.eval x)) = some ds ∧ RepL m w cs ds.toList := by
        refine aFill_rep hcs hzr (by simp [Function.comp_def]) (parts_rep _ (ev_rep he) ps.toList) ?_
        intro p hp
        obtain ⟨q, hq, rfl⟩ := List.mem_map.1 hp
        exact .inl (List.all_eq_true.1 hok'.2 q hq)
      obtain ⟨ds, hds, hr⟩ := hfill
      refine ⟨_, .agg ds, h, .agg _ _ hr, fun w' => ?_, fun R' call' σ' K' => ?_⟩
      · have hb : P.built t (ps.map fun (i, x) => (i, a.eval x)).toList = some ds := by
          unfold Program.built
          have hio := hok'.1
          unfold infoOK at hio
          unfold placeOf at hds
          cases hu : P.underlying t with
          | none => simp [hu] at hio
          | some d =>
            cases d <;> simp only [hu, reduceCtorEq, Bool.false_eq_true] at hio
            case array n el =>
              obtain ⟨ie, hie⟩ := Option.isSome_iff_exists.1 hio
              simp only [hu] at hds
              simp only [hi, hzv, hie, Array.toList_map]
              simpa [Program.cellsOf, hie] using hds
            case struct fs =>
              simp only [hu] at hds
              have hpl : ∃ places, fs.toList.mapM (fun f : Field => (P.info? f.type).map fun i => (f.offset, i.size)) = some places ∧ ∀ j : Nat, places[j]? = (fs[j]?).map fun f : Field => (f.offset, P.cellsOf f.type) := by
                have : ∀ (l : List Field), (l.all fun f : Field => (P.info? f.type).isSome) = true → ∃ places, l.mapM (fun f : Field => (P.info? f.type).map fun i => (f.offset, i.size)) = some places ∧ places = l.map fun f : Field => (f.offset, P.cellsOf f.type) := by
                  intro l
                  induction l with
                  | nil => intro _; exact ⟨[], rfl, rfl⟩
                  | cons f l ih =>
                    intro hl
                    simp only [List.all_cons, Bool.and_eq_true] at hl
                    obtain ⟨ie, hie⟩ := Option.isSome_iff_exists.1 hl.1
                    obtain ⟨pl, hp, hq⟩ := ih hl.2
                    refine ⟨(f.offset, ie.size) :: pl, ?_, by simp [hq, Program.cellsOf, hie]⟩
                    simp [List.mapM_cons, hie, hp]
                obtain ⟨pl, hp, hq⟩ := this fs.toList hio
                exact ⟨pl, hp, fun j => by rw [hq]; simp⟩
              obtain ⟨places, hp1, hp2⟩ := hpl
              simp only [hi, hzv, hp1, Array.toList_map]
              have : (fun j => (places.toArray[j]? : Option (Nat × Nat))) = fun j : Nat => (fs[j]?).map fun f : Field => (f.offset, P.cellsOf f.type) := by
                funext j; rw [← hp2 j]; simp
              rw [this]; exact hds
        simp [execOp, hop, run_build w' t _ ds hb]
      · rw [if_neg hok]; simp [hz, hcs, hagg]
    · simp at h

theorem quiet_slice {call : CallF R} {o : Oper} {t : TypeId} {x : Operand} {lo hi mx : Option Operand} (hop : o.op = .slice t x lo hi mx) {e : Env} {a : Act} {σ : St} {K : AV → St → Option R} {r : R} (h : aop P call o e σ K = some r) (he : RepE m w e a) :
    Quiet m P o e a w K σ r := by
  unfold Quiet
  simp only [aop, hop] at h ⊢
  simp only [Option.bind_eq_some_iff] at h
  obtain ⟨lo', hlo, hi', hhi, mx', hmx, h⟩ := h
  have b1 := bound_rep he hlo
  have b2 := bound_rep he hhi
  have b3 := bound_rep he hmx
  split at h
  · rename_i s hu hs
    split at h
    · simp at h
    · rename_i hm
      simp only [Option.bind_eq_some_iff] at h
      obtain ⟨r', hr', h⟩ := h
      have hx := evT_rep (P := P) he t x
      rw [hs] at hx
      refine ⟨_, .string r', h, .str _, fun w' => ?_, fun R' call' σ' K' => ?_⟩
      · obtain rfl : mx' = none := by cases mx' <;> simp_all
        have := b3.none'
        cases hv : a.eval x <;> rw [hv] at hx <;> cases hx
        simp [execOp, hop, hv, this, strSub_run hu hr' b1 b2 w']
      · simp [hlo, hhi, hmx, hu, hs, hm, hr']
  · rename_i el o' n c z hu hs
    split at h
    · rename_i hz
      simp only [Option.bind_eq_some_iff] at h
      obtain ⟨r', hr', h⟩ := h
      have hx := evT_rep (P := P) he t x
      rw [hs] at hx
      obtain ⟨ie, hie, _⟩ := info_of_cells (P := P) (t := el) (by omega)
      have hsl : ∃ ad n' c', a.eval x = .slice ad n' c' := by
        cases hv : a.eval x <;> rw [hv] at hx <;> cases hx <;> exact ⟨_, _, _, rfl⟩
      obtain ⟨ad, n', c', hv⟩ := hsl
      rw [hv] at hx
      obtain ⟨l, h2, m2, hrun, hrep⟩ := sub_run (P := P) (bb := true) hr' hx b1 b2 b3
      refine ⟨_, _, h, hrep, fun w' => ?_, fun R' call' σ' K' => ?_⟩
      · simp [execOp, hop, hv, Instr.sliceAt, Instr.slice, run_underlying hu, hrun w', run_size hie, hz.1]
      · simp only [hlo, hhi, hmx, hu, hs, Option.bind_some, hr', if_pos hz]
    · simp at h
  · rename_i n el p hu hs
    split at h
    · rename_i hz
      simp only [Option.bind_eq_some_iff] at h
      obtain ⟨r', hr', h⟩ := h
      have hx := evT_rep (P := P) he t x
      rw [hs] at hx
      obtain ⟨ie, hie, _⟩ := info_of_cells (P := P) (t := el) (by omega)
      obtain ⟨id, off⟩ := p
      have hsl : ∃ L : Loc, m id = some L ∧ a.eval x = .pointer (some ⟨L.blk, L.base + off, none⟩) := by
        generalize a.eval x = y at hx
        cases hx with
        | ptr _ _ L h => exact ⟨L, h, rfl⟩
      obtain ⟨L, hL, hv⟩ := hsl
      have hxs : RepV m w (.slice (some (id, off)) n (some n) (P.cellsOf el)) (.slice (some ⟨L.blk, L.base + off, none⟩) n n) :=
        .slice id off n (some n) _ L n _ hL (Nat.le_refl _) (fun c hc => by simpa using hc) ⟨.inl ⟨rfl, fun h => by cases h⟩, fun h => by cases h⟩
      obtain ⟨l, h2, m2, hrun, hrep⟩ := sub_run (P := P) (bb := false) hr' hxs b1 b2 b3
      refine ⟨_, _, h, hrep, fun w' => ?_, fun R' call' σ' K' => ?_⟩
      · simp only [execOp, hop, hv, Instr.sliceAt, Sem.run_bind, run_underlying hu, Result.andThen_ok, Instr.sureAddr, Sem.run_pure]
        simp [hrun w', run_size hie]
        split <;> rfl
      · simp only [hlo, hhi, hmx, hu, hs, Option.bind_some, hr', if_pos hz]
    · simp at h
  · simp at h

end

end Go.AM
