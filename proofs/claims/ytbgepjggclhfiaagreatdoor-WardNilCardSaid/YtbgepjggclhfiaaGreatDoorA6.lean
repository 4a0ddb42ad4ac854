/- The abstract machine against the model: each quiet operation. -/
import Derived.Test.YtbgepjggclhfiaaGreatDoorA5
import Derived.Laws.Slices
import Derived.Laws.Strings
import Derived.Laws.StructEq
import Derived.ChangeKeysEq
set_option linter.unusedVariables false
set_option linter.unusedSimpArgs false
namespace Go.AM

section
variable {m : Mp} {w : World} {P : Program}

theorem beq_bytes (a b : ByteArray) : (a == b) = decide (a = b) := by
  change (a.data == b.data) = _
  by_cases h : a = b
  · subst h; simp
  · have : ¬ a.data = b.data := fun e => h (ByteArray.ext e)
    simp [h, this]

theorem bytes_eq (a b : ByteArray) : (a.toList == b.toList) = decide (a = b) := by
  rw [ByteArray.toList_eq, ByteArray.toList_eq, ← beq_bytes]
  change _ = (a.data == b.data)
  by_cases h : a.data = b.data
  · simp [h]
  · have : ¬ a.data.toList = b.data.toList := fun e => h (Array.ext' e)
    simp [h]

/-- Plain comparisons. -/
theorem eqCell_run {t : TypeId} {d : TypeDesc} (hu : P.underlying t = some d) {s : Sh} (hd : (d = .bool ∧ s = .bool) ∨ (∃ k, d = .int k ∧ s = .int k) ∨ (d = .string ∧ s = .str))
    {x y : AV} {u v : Value} {b : Bool} (h : eqCell s x y = some b) (hx : RepV m w x u) (hy : RepV m w y v) (n : Nat) (w' : World) :
    (Op.equalIn (n + 1) t u v).run P w' = .ok b w' := by
  unfold Op.equalIn
  simp only [Sem.run_bind, run_underlying hu, Result.andThen_ok]
  unfold eqCell at h
  rcases hd with ⟨rfl, rfl⟩ | ⟨k, rfl, rfl⟩ | ⟨rfl, rfl⟩
  · cases x <;> cases y <;> simp at h
    cases hx; cases hy; subst h; simp
  · cases x <;> cases y <;> simp at h
    obtain ⟨⟨rfl, rfl⟩, rfl⟩ := h
    cases hx; cases hy; simp
  · cases x <;> cases y <;> simp at h
    cases hx; cases hy; subst h; simp [beq_bytes]

theorem fieldsOf_eq {t : TypeId} {fs : Array Field} (h : P.underlying t = some (.struct fs)) : P.underlying t = some (.struct (P.fieldsOf t)) ∧ P.fieldsOf t = fs := by
  unfold Program.fieldsOf; simp [h]

theorem eqFs_run {eq : TypeId → AV → AV → Option Bool} {d : Nat} {xs ys : List AV} {us vs : Array Value} (hx : RepL m w xs us.toList) (hy : RepL m w ys vs.toList)
    (heq : ∀ t x y u v b, eq t x y = some b → RepV m w x u → RepV m w y v → ∀ w', (Op.equalIn d t u v).run P w' = .ok b w') (w' : World) :
    ∀ (fs : List Field) (b : Bool), eqFs P eq xs ys fs = some b → (Op.eqFields d us vs fs).run P w' = .ok b w' := by
  intro fs
  induction fs with
  | nil => intro b h; simp [eqFs] at h; subst h; simp [Op.eqFields]
  | cons f fs ih =>
    intro b h
    simp only [eqFs] at h
    split at h
    · simp at h
    · rename_i hn
      simp only [Option.bind_eq_some_iff] at h
      obtain ⟨a, ha, c, hc, r, hr, u, hu, hb⟩ := h
      obtain ⟨va, ra, qa⟩ := partOf_run hx ha
      obtain ⟨vc, rc, qc⟩ := partOf_run hy hc
      have he := heq _ _ _ _ _ _ hr qa qc w'
      simp only [Op.eqFields, hn, ne_eq, not_false_eq_true, if_true, Sem.run_bind, ra, rc, he, Result.andThen_ok]
      simp only [Option.some.injEq] at hb
      subst hb
      cases r
      · simp
      · simp [ih u hu]

theorem eqIs_run {e : TypeId} {eq : AV → AV → Option Bool} {d : Nat} {xs ys : List AV} {us vs : Array Value} (hx : RepL m w xs us.toList) (hy : RepL m w ys vs.toList)
    (heq : ∀ x y u v b, eq x y = some b → RepV m w x u → RepV m w y v → ∀ w', (Op.equalIn d e u v).run P w' = .ok b w') (w' : World) :
    ∀ (is : List Nat) (b : Bool), eqIs P e eq xs ys is = some b → (Op.eqItems d e (P.cellsOf e) us vs is).run P w' = .ok b w' := by
  intro is
  induction is with
  | nil => intro b h; simp [eqIs] at h; subst h; simp [Op.eqItems]
  | cons i is ih =>
    intro b h
    simp only [eqIs, Option.bind_eq_some_iff] at h
    obtain ⟨a, ha, c, hc, r, hr, u, hu, hb⟩ := h
    obtain ⟨va, ra, qa⟩ := partOf_run hx ha
    obtain ⟨vc, rc, qc⟩ := partOf_run hy hc
    have he := heq _ _ _ _ _ hr qa qc w'
    simp only [Op.eqItems, Sem.run_bind, ra, rc, he, Result.andThen_ok]
    simp only [Option.some.injEq] at hb
    subst hb
    cases r
    · simp
    · simp [ih u hu]

theorem aeqT_underlying {n : Nat} {t : TypeId} {x y : AV} {b : Bool} (h : aeqT P n t x y = some b) : ∃ d, P.underlying t = some d := by
  cases n with
  | zero => simp [aeqT] at h
  | succ n =>
    unfold aeqT at h
    cases hu : P.underlying t with
    | none => simp [hu] at h
    | some d => exact ⟨d, rfl⟩

theorem aeqT_run : ∀ (n d : Nat) (t : TypeId) (x y : AV) (u v : Value) (b : Bool), n ≤ d → aeqT P n t x y = some b → RepV m w x u → RepV m w y v → ∀ w', (Op.equalIn d t u v).run P w' = .ok b w' := by
  intro n
  induction n with
  | zero => intro d t x y u v b _ h; simp [aeqT] at h
  | succ n ih =>
    intro d t x y u v b hd h hx hy w'
    obtain ⟨d, rfl⟩ : ∃ k, d = k + 1 := ⟨d - 1, by omega⟩
    unfold aeqT at h
    split at h
    · rename_i hu; exact eqCell_run hu (.inl ⟨rfl, rfl⟩) h hx hy d w'
    · rename_i hu; exact eqCell_run hu (.inr (.inl ⟨_, rfl, rfl⟩)) h hx hy d w'
    · rename_i hu; exact eqCell_run hu (.inr (.inr ⟨rfl, rfl⟩)) h hx hy d w'
    · rename_i fs hu
      split at h
      · simp at h
      · rename_i hst
        split at h
        · cases hx with
          | agg _ us hx =>
            cases hy with
            | agg _ vs hy =>
              rw [run_equalIn_struct w' d t us vs (fieldsOf_eq hu).1 (by simpa using hst), (fieldsOf_eq hu).2]
              exact eqFs_run hx hy (fun t x y u v b h hx hy w' => ih d t x y u v b (by omega) h hx hy w') w' _ _ h
        · simp at h
    · rename_i len e hu
      split at h
      · simp at h
      · rename_i hl
        split at h
        · cases hx with
          | agg _ us hx =>
            cases hy with
            | agg _ vs hy =>
              have hie : ∃ i, P.info? e = some i := by
                obtain ⟨k, rfl⟩ : ∃ k, len = k + 1 := ⟨len - 1, by omega⟩
                rw [List.range_succ_eq_map] at h
                simp only [eqIs, Option.bind_eq_some_iff] at h
                obtain ⟨a, ha, _⟩ := h
                exact partOf_underlying ha
              obtain ⟨ie, hie⟩ := hie
              rw [run_equalIn_array w' d us vs hu hie]
              exact eqIs_run hx hy (fun x y u v b h hx hy w' => ih d e x y u v b (by omega) h hx hy w') w' _ _ h
        · simp at h
    · simp at h

end

end Go.AM
