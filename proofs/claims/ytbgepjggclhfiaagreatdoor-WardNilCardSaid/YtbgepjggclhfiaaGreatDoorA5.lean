/- The abstract machine against the model: the operations that write no memory. -/
import Derived.Test.YtbgepjggclhfiaaGreatDoorA4
import Derived.Laws.Tables
set_option linter.unusedVariables false
set_option linter.unusedSimpArgs false
namespace Go.AM

theorem info_of_underlying {P : Program} {t : TypeId} {d : TypeDesc} (h : P.underlying t = some d) : ∃ i, P.info? t = some i := by
  unfold Program.underlying at h
  cases hi : P.info? t with
  | none => simp [hi] at h
  | some i => exact ⟨i, rfl⟩

theorem info_of_cells {P : Program} {t : TypeId} (h : P.cellsOf t ≠ 0) : ∃ i, P.info? t = some i ∧ i.size = P.cellsOf t := by
  unfold Program.cellsOf at h ⊢
  cases hi : P.info? t with
  | none => simp [hi] at h
  | some i => exact ⟨i, rfl, rfl⟩

theorem run_size {P : Program} {t : TypeId} {i : TypeInfo} (h : P.info? t = some i) (w : World) : (sizeOf t).run P w = .ok (P.cellsOf t) w := by
  simp [sizeOf, typeInfo, h, Program.cellsOf]

theorem run_isAggT {P : Program} {t : TypeId} {d : TypeDesc} (h : P.underlying t = some d) (w : World) : (isAgg t).run P w = .ok (isAggT P t) w := by
  unfold isAgg isAggT
  simp only [Sem.run_bind, run_underlying h, Result.andThen_ok, h]
  cases d <;> rfl

theorem shOf_underlying {P : Program} {n : Nat} {t : TypeId} {s : List Sh} (h : shOf P n t = some s) : ∃ d, P.underlying t = some d := by
  cases n with
  | zero => simp [shOf] at h
  | succ n =>
    unfold shOf at h
    cases hu : P.underlying t with
    | none => simp [hu] at h
    | some d => exact ⟨d, rfl⟩

section
variable {m : Mp} {w : World} {P : Program}

theorem partOf_run {t : TypeId} {cs : List AV} {ds : Array Value} {off : Nat} {v : AV} (hr : RepL m w cs ds.toList) (h : partOf P t cs off = some v) :
    ∃ u, (∀ w', (part t ds off).run P w' = .ok u w') ∧ RepV m w v u := by
  unfold partOf at h
  cases hu : P.underlying t with
  | none => simp [hu] at h
  | some d =>
    obtain ⟨i, hi⟩ := info_of_underlying hu
    simp only [hu, Option.isNone_some, if_false, Bool.false_eq_true] at h
    unfold part
    simp only [Sem.run_bind, run_isAggT hu, Result.andThen_ok]
    by_cases ha : isAggT P t = true
    · simp only [ha, if_true] at h ⊢
      split at h
      · rename_i hl
        simp only [Option.some.injEq] at h
        subst h
        simp only [Sem.run_bind, run_size hi, Result.andThen_ok, Sem.run_pure]
        refine ⟨_, fun _ => rfl, .agg _ _ ?_⟩
        simpa using (hr.drop off).take (P.cellsOf t)
      · simp at h
    · simp only [ha, if_false, Bool.false_eq_true] at h ⊢
      obtain ⟨u, hu', hru⟩ := hr.get h
      rw [Array.getElem?_toList] at hu'
      exact ⟨u, fun _ => by simp [hu'], hru⟩

theorem partOf_underlying {t : TypeId} {cs : List AV} {off : Nat} {v : AV} (h : partOf P t cs off = some v) : ∃ i, P.info? t = some i := by
  unfold partOf at h
  cases hu : P.underlying t with
  | none => simp [hu] at h
  | some d => exact info_of_underlying hu

/-- Zero cells. -/
theorem ofZero_rep {s : Sh} {v : Value} {a : AV} (h : ofZero s v = some a) : RepV m w a v ∧ a.one = true := by
  unfold ofZero at h
  split at h <;> first
    | (simp only [Option.some.injEq] at h; subst h; exact ⟨by constructor, rfl⟩)
    | (simp at h; obtain ⟨rfl, rfl⟩ := h; exact ⟨by constructor, rfl⟩)
    | simp at h

theorem zipZero_rep : ∀ {ss : List Sh} {vs : List Value} {as : List AV}, zipZero ss vs = some as → RepL m w as vs ∧ as.all AV.one = true ∧ as.length = ss.length := by
  intro ss
  induction ss with
  | nil => intro vs as h; cases vs <;> simp [zipZero] at h; subst h; exact ⟨.nil, rfl, rfl⟩
  | cons s ss ih =>
    intro vs as h
    cases vs with
    | nil => simp [zipZero] at h
    | cons v vs =>
      simp only [zipZero] at h
      cases hz : ofZero s v with
      | none => simp [hz] at h
      | some a =>
        cases hzz : zipZero ss vs with
        | none => simp [hz, hzz] at h
        | some r =>
          simp [hz, hzz] at h
          subst h
          obtain ⟨h1, h2, h3⟩ := ih hzz
          obtain ⟨h4, h5⟩ := ofZero_rep (m := m) (w := w) hz
          exact ⟨.cons _ _ _ _ h4 h1, by simpa [h5] using h2, by simp [h3]⟩

theorem zeroCellsT_rep {t : TypeId} {zs : List AV} (h : zeroCellsT P t = some zs) :
    ∃ i z, P.info? t = some i ∧ i.zero = some z ∧ RepL m w zs z.cells.toList ∧ zs.all AV.one = true := by
  unfold zeroCellsT at h
  cases hi : P.info? t with
  | none => simp [hi] at h
  | some i =>
    cases hz : i.zero with
    | none => simp [hi, hz] at h
    | some z =>
      simp only [hi, hz, Option.bind_some] at h
      cases hs : shOf P depthT t with
      | none => simp [hs] at h
      | some ss =>
        simp only [hs, Option.bind_some] at h
        obtain ⟨h1, h2, _⟩ := zipZero_rep h
        exact ⟨i, z, rfl, hz, h1, h2⟩

theorem zeroAV_rep {t : TypeId} {a : AV} (h : zeroAV P t = some a) : ∃ z, (zeroValue t).run P w = .ok z w ∧ RepV m w a z := by
  unfold zeroAV at h
  simp only [Option.bind_eq_some_iff] at h
  obtain ⟨i, hi, z, hz, shs, hsh, l, hl, h⟩ := h
  have hr := (zipZero_rep (m := m) (w := w) hl).1
  refine ⟨z, by simp [zeroValue, typeInfo, hi, hz], ?_⟩
  split at h
  · cases h; exact .agg _ _ hr
  · rename_i a' hna
    cases h
    have hc : z.cells = #[z] := by
      cases z <;> first | rfl | exact absurd rfl (hna _)
    rw [hc] at hr
    cases hr with | cons _ _ _ _ h t => exact h
  · simp at h

theorem fold_splice (off : Nat) : ∀ (vs : List Value) (k : Nat) (cells : Array Value), off + k + vs.length ≤ cells.size →
    ((vs.zipIdx k).foldl (fun cs (c, j) => cs.setIfInBounds (off + j) c) cells).toList = cells.toList.take (off + k) ++ vs ++ cells.toList.drop (off + k + vs.length) := by
  intro vs
  induction vs with
  | nil => intro k cells _; simp
  | cons v vs ih =>
    intro k cells hl
    simp only [List.length_cons] at hl
    simp only [List.zipIdx_cons, List.foldl_cons]
    rw [ih (k + 1) _ (by simp; omega)]
    simp only [Array.toList_setIfInBounds, List.length_cons]
    have hlt : off + k < cells.toList.length := by simp; omega
    rw [show off + (k + 1) = off + k + 1 by omega, List.take_succ_eq_append_getElem (by simpa using hlt), List.take_set_of_le (Nat.le_refl _), List.drop_set_of_lt (by omega)]
    simp [show off + k + 1 + vs.length = off + k + (vs.length + 1) by omega]

theorem aFill_rep {pl : Nat → Option (Nat × Nat)} : ∀ {ps : List (Nat × AV)} {qs : List (Nat × Value)} {cs : List AV} {ds : Array Value} {r : List AV},
    aFill pl cs ps = some r → RepL m w cs ds.toList → ps.map (·.1) = qs.map (·.1) → RepL m w (ps.map (·.2)) (qs.map (·.2)) →
    (∀ p ∈ ps, p.2.cells.all AV.one = true ∨ ∃ l, p.2 = .agg l) → ∃ ds', Instr.fill pl ds qs = some ds' ∧ RepL m w r ds'.toList := by
  intro ps
  induction ps with
  | nil =>
    intro qs cs ds r h hr hi _ _
    cases qs with
    | nil => simp [aFill] at h; subst h; exact ⟨ds, rfl, hr⟩
    | cons q qs => simp at hi
  | cons p ps ih =>
    intro qs cs ds r h hr hi hv h1
    obtain ⟨i, v⟩ := p
    cases qs with
    | nil => simp at hi
    | cons q qs =>
      obtain ⟨j, u⟩ := q
      simp only [List.map_cons, List.cons.injEq] at hi
      obtain ⟨rfl, hi⟩ := hi
      cases hv with
      | cons _ _ _ _ hv ht =>
        simp only [aFill] at h
        simp only [Instr.fill]
        cases hp : pl i with
        | none => simp [hp] at h
        | some os =>
          obtain ⟨off, size⟩ := os
          simp only [hp] at h ⊢
          have hcr : RepL m w v.cells u.cells.toList := by
            rcases h1 (i, v) (by simp) with h1 | ⟨l, h1⟩
            · exact hv.cells h1
            · simp only at h1; subst h1; cases hv with | agg _ _ h => exact h
          have hlen : v.cells.length = u.cells.size := by simpa using hcr.length
          have hlen2 : cs.length = ds.size := by simpa using hr.length
          split at h
          · simp at h
          · rename_i hc
            simp only [ne_eq, Bool.or_eq_true, decide_eq_true_eq, not_or, Decidable.not_not] at hc
            obtain ⟨hc1, hc2⟩ := hc
            rw [if_neg (by simp; omega)]
            refine ih h ?_ hi ht (fun p hp => h1 p (List.mem_cons_of_mem _ hp))
            have := fold_splice off u.cells.toList 0 ds (by simp; omega)
            simp only [Nat.add_zero, Array.length_toList] at this
            rw [← Array.foldl_toList, Array.toList_zipIdx, this]
            unfold St.splice
            rw [hlen]
            exact ((hr.take off).append hcr).append (hr.drop _)
end

end Go.AM
