/- The abstract machine against the model: the operations that write no memory. -/
import Derived.Test.YtnjhcfcnpapaiaaGreatDoorA4
import Derived.Laws.Tables
import Derived.Laws.Slices
import Derived.Laws.Strings
import Derived.Laws.StructEq
import Derived.ChangeKeysEq
set_option linter.unusedVariables false
set_option linter.unusedSimpArgs false
namespace Go.AM

theorem info_of_underlying {P : Program} {t : TypeId} {d : TypeDesc} (h : P.underlying t = some d) : ∃ i, P.info? t = some i := by
  unfold Program.underlying at h
  cases hi : P.info? t with
  | none => simp [hi] at h
  | some i => exact ⟨i, rfl⟩

theorem info_of_cells {P : Program} {t : TypeId} (h : P.cellsOf t ≠ 0) : ∃ i, P.info? t = some i ∧ i.size = P.cellsOf t := by
  unfold Program.cellsOf at h ⊢
  cases hi : P.info? t with
  | none => simp [hi] at h
  | some i => exact ⟨i, rfl, rfl⟩

theorem run_size {P : Program} {t : TypeId} {i : TypeInfo} (h : P.info? t = some i) (w : World) : (sizeOf t).run P w = .ok (P.cellsOf t) w := by
  simp [sizeOf, typeInfo, h, Program.cellsOf]

theorem run_isAggT {P : Program} {t : TypeId} {d : TypeDesc} (h : P.underlying t = some d) (w : World) : (isAgg t).run P w = .ok (isAggT P t) w := by
  unfold isAgg isAggT
  simp only [Sem.run_bind, run_underlying h, Result.andThen_ok, h]
  cases d <;> rfl

theorem shOf_underlying {P : Program} {n : Nat} {t : TypeId} {s : List Sh} (h : shOf P n t = some s) : ∃ d, P.underlying t = some d := by
  cases n with
  | zero => simp [shOf] at h
  | succ n =>
    unfold shOf at h
    cases hu : P.underlying t with
    | none => simp [hu] at h
    | some d => exact ⟨d, rfl⟩

section
variable {m : Mp} {w : World} {P : Program}

theorem partOf_run {t : TypeId} {cs : List AV} {ds : Array Value} {off : Nat} {v : AV} (hr : RepL m w cs ds.toList) (h : partOf P t cs off = some v) :
    ∃ u, (∀ w', (part t ds off).run P w' = .ok u w') ∧ RepV m w v u := by
  unfold partOf at h
  cases hu : P.underlying t with
  | none => simp [hu] at h
  | some d =>
    obtain ⟨i, hi⟩ := info_of_underlying hu
    simp only [hu, Option.isNone_some, if_false, Bool.false_eq_true] at h
    unfold part
    simp only [Sem.run_bind, run_isAggT hu, Result.andThen_ok]
    by_cases ha : isAggT P t = true
    · simp only [ha, if_true] at h ⊢
      split at h
      · rename_i hl
        simp only [Option.some.injEq] at h
        subst h
        simp only [Sem.run_bind, run_size hi, Result.andThen_ok, Sem.run_pure]
        refine ⟨_, fun _ => rfl, .agg _ _ ?_⟩
        simpa using (hr.drop off).take (P.cellsOf t)
      · simp at h
    · simp only [ha, if_false, Bool.false_eq_true] at h ⊢
      obtain ⟨u, hu', hru⟩ := hr.get h
      rw [Array.getElem?_toList] at hu'
      exact ⟨u, fun _ => by simp [hu'], hru⟩

theorem partOf_underlying {t : TypeId} {cs : List AV} {off : Nat} {v : AV} (h : partOf P t cs off = some v) : ∃ i, P.info? t = some i := by
  unfold partOf at h
  cases hu : P.underlying t with
  | none => simp [hu] at h
  | some d => exact info_of_underlying hu

/-- Zero cells. -/
theorem ofZero_rep {s : Sh} {v : Value} {a : AV} (h : ofZero s v = some a) : RepV m w a v ∧ a.one = true := by
  unfold ofZero at h
  split at h <;> first
    | (simp only [Option.some.injEq] at h; subst h; exact ⟨by constructor, rfl⟩)
    | (simp at h; obtain ⟨rfl, rfl⟩ := h; exact ⟨by constructor, rfl⟩)
    | simp at h

theorem zipZero_rep : ∀ {ss : List Sh} {vs : List Value} {as : List AV}, zipZero ss vs = some as → RepL m w as vs ∧ as.all AV.one = true ∧ as.length = ss.length := by
  intro ss
  induction ss with
  | nil => intro vs as h; cases vs <;> simp [zipZero] at h; subst h; exact ⟨.nil, rfl, rfl⟩
  | cons s ss ih =>
    intro vs as h
    cases vs with
    | nil => simp [zipZero] at h
    | cons v vs =>
      simp only [zipZero] at h
      cases hz : ofZero s v with
      | none => simp [hz] at h
      | some a =>
        cases hzz : zipZero ss vs with
        | none => simp [hz, hzz] at h
        | some r =>
          simp [hz, hzz] at h
          subst h
          obtain ⟨h1, h2, h3⟩ := ih hzz
          obtain ⟨h4, h5⟩ := ofZero_rep (m := m) (w := w) hz
          exact ⟨.cons _ _ _ _ h4 h1, by simpa [h5] using h2, by simp [h3]⟩

theorem zeroCellsT_rep {t : TypeId} {zs : List AV} (h : zeroCellsT P t = some zs) :
    ∃ i z, P.info? t = some i ∧ i.zero = some z ∧ RepL m w zs z.cells.toList ∧ zs.all AV.one = true := by
  unfold zeroCellsT at h
  cases hi : P.info? t with
  | none => simp [hi] at h
  | some i =>
    cases hz : i.zero with
    | none => simp [hi, hz] at h
    | some z =>
      simp only [hi, hz, Option.bind_some] at h
      cases hs : shOf P depthT t with
      | none => simp [hs] at h
      | some ss =>
        simp only [hs, Option.bind_some] at h
        obtain ⟨h1, h2, _⟩ := zipZero_rep h
        exact ⟨i, z, rfl, hz, h1, h2⟩

theorem zeroAV_rep {t : TypeId} {a : AV} (h : zeroAV P t = some a) : ∃ z, (zeroValue t).run P w = .ok z w ∧ RepV m w a z := by
  unfold zeroAV at h
  simp only [Option.bind_eq_some_iff] at h
  obtain ⟨i, hi, z, hz, shs, hsh, l, hl, h⟩ := h
  have hr := (zipZero_rep (m := m) (w := w) hl).1
  refine ⟨z, by simp [zeroValue, typeInfo, hi, hz], ?_⟩
  split at h
  · cases h; exact .agg _ _ hr
  · rename_i a' hna
    cases h
    have hc : z.cells = #[z] := by
      cases z <;> first | rfl | exact absurd rfl (hna _)
    rw [hc] at hr
    cases hr with | cons _ _ _ _ h t => exact h
  · simp at h

theorem fold_splice (off : Nat) : ∀ (vs : List Value) (k : Nat) (cells : Array Value), off + k + vs.length ≤ cells.size →
    ((vs.zipIdx k).foldl (fun cs (c, j) => cs.setIfInBounds (off + j) c) cells).toList = cells.toList.take (off + k) ++ vs ++ cells.toList.drop (off + k + vs.length) := by
  intro vs
  induction vs with
  | nil => intro k cells _; simp
  | cons v vs ih =>
    intro k cells hl
    simp only [List.length_cons] at hl
    simp only [List.zipIdx_cons, List.foldl_cons]
    rw [ih (k + 1) _ (by simp; omega)]
    simp only [Array.toList_setIfInBounds, List.length_cons]
    have hlt : off + k < cells.toList.length := by simp; omega
    rw [show off + (k + 1) = off + k + 1 by omega, List.take_succ_eq_append_getElem (by simpa using hlt), List.take_set_of_le (Nat.le_refl _), List.drop_set_of_lt (by omega)]
    simp [show off + k + 1 + vs.length = off + k + (vs.length + 1) by omega]

theorem aFill_rep {pl : Nat → Option (Nat × Nat)} : ∀ {ps : List (Nat × AV)} {qs : List (Nat × Value)} {cs : List AV} {ds : Array Value} {r : List AV},
    aFill pl cs ps = some r → RepL m w cs ds.toList → ps.map (·.1) = qs.map (·.1) → RepL m w (ps.map (·.2)) (qs.map (·.2)) →
    (∀ p ∈ ps, p.2.cells.all AV.one = true ∨ ∃ l, p.2 = .agg l) → ∃ ds', Instr.fill pl ds qs = some ds' ∧ RepL m w r ds'.toList := by
  intro ps
  induction ps with
  | nil =>
    intro qs cs ds r h hr hi _ _
    cases qs with
    | nil => simp [aFill] at h; subst h; exact ⟨ds, rfl, hr⟩
    | cons q qs => simp at hi
  | cons p ps ih =>
    intro qs cs ds r h hr hi hv h1
    obtain ⟨i, v⟩ := p
    cases qs with
    | nil => simp at hi
    | cons q qs =>
      obtain ⟨j, u⟩ := q
      simp only [List.map_cons, List.cons.injEq] at hi
      obtain ⟨rfl, hi⟩ := hi
      cases hv with
      | cons _ _ _ _ hv ht =>
        simp only [aFill] at h
        simp only [Instr.fill]
        cases hp : pl i with
        | none => simp [hp] at h
        | some os =>
          obtain ⟨off, size⟩ := os
          simp only [hp] at h ⊢
          have hcr : RepL m w v.cells u.cells.toList := by
            rcases h1 (i, v) (by simp) with h1 | ⟨l, h1⟩
            · exact hv.cells h1
            · simp only at h1; subst h1; cases hv with | agg _ _ h => exact h
          have hlen : v.cells.length = u.cells.size := by simpa using hcr.length
          have hlen2 : cs.length = ds.size := by simpa using hr.length
          split at h
          · simp at h
          · rename_i hc
            simp only [ne_eq, Bool.or_eq_true, decide_eq_true_eq, not_or, Decidable.not_not] at hc
            obtain ⟨hc1, hc2⟩ := hc
            rw [if_neg (by simp; omega)]
            refine ih h ?_ hi ht (fun p hp => h1 p (List.mem_cons_of_mem _ hp))
            have := fold_splice off u.cells.toList 0 ds (by simp; omega)
            simp only [Nat.add_zero, Array.length_toList] at this
            rw [← Array.foldl_toList, Array.toList_zipIdx, this]
            unfold St.splice
            rw [hlen]
            exact ((hr.take off).append hcr).append (hr.drop _)
end

end Go.AM

set_option linter.unusedVariables false
set_option linter.unusedSimpArgs false
namespace Go.AM

section
variable {m : Mp} {w : World} {P : Program}

theorem beq_bytes (a b : ByteArray) : (a == b) = decide (a = b) := by
  change (a.data == b.data) = _
  by_cases h : a = b
  · subst h; simp
  · have : ¬ a.data = b.data := fun e => h (ByteArray.ext e)
    simp [h, this]

theorem bytes_eq (a b : ByteArray) : (a.toList == b.toList) = decide (a = b) := by
  rw [ByteArray.toList_eq, ByteArray.toList_eq, ← beq_bytes]
  change _ = (a.data == b.data)
  by_cases h : a.data = b.data
  · simp [h]
  · have : ¬ a.data.toList = b.data.toList := fun e => h (Array.ext' e)
    simp [h]

/-- Plain comparisons. -/
theorem eqCell_run {t : TypeId} {d : TypeDesc} (hu : P.underlying t = some d) {s : Sh} (hd : (d = .bool ∧ s = .bool) ∨ (∃ k, d = .int k ∧ s = .int k) ∨ (d = .string ∧ s = .str))
    {x y : AV} {u v : Value} {b : Bool} (h : eqCell s x y = some b) (hx : RepV m w x u) (hy : RepV m w y v) (n : Nat) (w' : World) :
    (Op.equalIn (n + 1) t u v).run P w' = .ok b w' := by
  unfold Op.equalIn
  simp only [Sem.run_bind, run_underlying hu, Result.andThen_ok]
  unfold eqCell at h
  rcases hd with ⟨rfl, rfl⟩ | ⟨k, rfl, rfl⟩ | ⟨rfl, rfl⟩
  · cases x <;> cases y <;> simp at h
    cases hx; cases hy; subst h; simp
  · cases x <;> cases y <;> simp at h
    obtain ⟨⟨rfl, rfl⟩, rfl⟩ := h
    cases hx; cases hy; simp
  · cases x <;> cases y <;> simp at h
    cases hx; cases hy; subst h; simp [beq_bytes]

theorem fieldsOf_eq {t : TypeId} {fs : Array Field} (h : P.underlying t = some (.struct fs)) : P.underlying t = some (.struct (P.fieldsOf t)) ∧ P.fieldsOf t = fs := by
  unfold Program.fieldsOf; simp [h]

theorem eqFs_run {eq : TypeId → AV → AV → Option Bool} {d : Nat} {xs ys : List AV} {us vs : Array Value} (hx : RepL m w xs us.toList) (hy : RepL m w ys vs.toList)
    (heq : ∀ t x y u v b, eq t x y = some b → RepV m w x u → RepV m w y v → ∀ w', (Op.equalIn d t u v).run P w' = .ok b w') (w' : World) :
    ∀ (fs : List Field) (b : Bool), eqFs P eq xs ys fs = some b → (Op.eqFields d us vs fs).run P w' = .ok b w' := by
  intro fs
  induction fs with
  | nil => intro b h; simp [eqFs] at h; subst h; simp [Op.eqFields]
  | cons f fs ih =>
    intro b h
    simp only [eqFs] at h
    split at h
    · simp at h
    · rename_i hn
      simp only [Option.bind_eq_some_iff] at h
      obtain ⟨a, ha, c, hc, r, hr, u, hu, hb⟩ := h
      obtain ⟨va, ra, qa⟩ := partOf_run hx ha
      obtain ⟨vc, rc, qc⟩ := partOf_run hy hc
      have he := heq _ _ _ _ _ _ hr qa qc w'
      simp only [Op.eqFields, hn, ne_eq, not_false_eq_true, if_true, Sem.run_bind, ra, rc, he, Result.andThen_ok]
      simp only [Option.some.injEq] at hb
      subst hb
      cases r
      · simp
      · simp [ih u hu]

theorem eqIs_run {e : TypeId} {eq : AV → AV → Option Bool} {d : Nat} {xs ys : List AV} {us vs : Array Value} (hx : RepL m w xs us.toList) (hy : RepL m w ys vs.toList)
    (heq : ∀ x y u v b, eq x y = some b → RepV m w x u → RepV m w y v → ∀ w', (Op.equalIn d e u v).run P w' = .ok b w') (w' : World) :
    ∀ (is : List Nat) (b : Bool), eqIs P e eq xs ys is = some b → (Op.eqItems d e (P.cellsOf e) us vs is).run P w' = .ok b w' := by
  intro is
  induction is with
  | nil => intro b h; simp [eqIs] at h; subst h; simp [Op.eqItems]
  | cons i is ih =>
    intro b h
    simp only [eqIs, Option.bind_eq_some_iff] at h
    obtain ⟨a, ha, c, hc, r, hr, u, hu, hb⟩ := h
    obtain ⟨va, ra, qa⟩ := partOf_run hx ha
    obtain ⟨vc, rc, qc⟩ := partOf_run hy hc
    have he := heq _ _ _ _ _ hr qa qc w'
    simp only [Op.eqItems, Sem.run_bind, ra, rc, he, Result.andThen_ok]
    simp only [Option.some.injEq] at hb
    subst hb
    cases r
    · simp
    · simp [ih u hu]

theorem aeqT_underlying {n : Nat} {t : TypeId} {x y : AV} {b : Bool} (h : aeqT P n t x y = some b) : ∃ d, P.underlying t = some d := by
  cases n with
  | zero => simp [aeqT] at h
  | succ n =>
    unfold aeqT at h
    cases hu : P.underlying t with
    | none => simp [hu] at h
    | some d => exact ⟨d, rfl⟩

theorem aeqT_run : ∀ (n d : Nat) (t : TypeId) (x y : AV) (u v : Value) (b : Bool), n ≤ d → aeqT P n t x y = some b → RepV m w x u → RepV m w y v → ∀ w', (Op.equalIn d t u v).run P w' = .ok b w' := by
  intro n
  induction n with
  | zero => intro d t x y u v b _ h; simp [aeqT] at h
  | succ n ih =>
    intro d t x y u v b hd h hx hy w'
    obtain ⟨d, rfl⟩ : ∃ k, d = k + 1 := ⟨d - 1, by omega⟩
    unfold aeqT at h
    split at h
    · rename_i hu; exact eqCell_run hu (.inl ⟨rfl, rfl⟩) h hx hy d w'
    · rename_i hu; exact eqCell_run hu (.inr (.inl ⟨_, rfl, rfl⟩)) h hx hy d w'
    · rename_i hu; exact eqCell_run hu (.inr (.inr ⟨rfl, rfl⟩)) h hx hy d w'
    · rename_i fs hu
      split at h
      · simp at h
      · rename_i hst
        split at h
        · cases hx with
          | agg _ us hx =>
            cases hy with
            | agg _ vs hy =>
              rw [run_equalIn_struct w' d t us vs (fieldsOf_eq hu).1 (by simpa using hst), (fieldsOf_eq hu).2]
              exact eqFs_run hx hy (fun t x y u v b h hx hy w' => ih d t x y u v b (by omega) h hx hy w') w' _ _ h
        · simp at h
    · rename_i len e hu
      split at h
      · simp at h
      · rename_i hl
        split at h
        · cases hx with
          | agg _ us hx =>
            cases hy with
            | agg _ vs hy =>
              have hie : ∃ i, P.info? e = some i := by
                obtain ⟨k, rfl⟩ : ∃ k, len = k + 1 := ⟨len - 1, by omega⟩
                rw [List.range_succ_eq_map] at h
                simp only [eqIs, Option.bind_eq_some_iff] at h
                obtain ⟨a, ha, _⟩ := h
                exact partOf_underlying ha
              obtain ⟨ie, hie⟩ := hie
              rw [run_equalIn_array w' d us vs hu hie]
              exact eqIs_run hx hy (fun x y u v b h hx hy w' => ih d e x y u v b (by omega) h hx hy w') w' _ _ h
        · simp at h
    · simp at h

end

end Go.AM
