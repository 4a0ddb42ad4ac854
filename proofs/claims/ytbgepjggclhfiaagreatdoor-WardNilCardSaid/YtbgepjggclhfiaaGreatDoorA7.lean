/- The abstract machine against the model: comparisons, arithmetic, slicing. -/
import Derived.Test.YtbgepjggclhfiaaGreatDoorA6
set_option linter.unusedVariables false
set_option linter.unusedSimpArgs false
namespace Go.AM

section
variable {m : Mp} {w : World} {P : Program}

theorem run_sameAddr_block (b o p : Nat) (w' : World) : (sameAddr ⟨b, o, none⟩ ⟨b, p, none⟩).run P w' = .ok (o == p) w' := by
  unfold sameAddr
  simp only [BEq.rfl, if_true]
  have : ((⟨b, o, none⟩ : Addr) == ⟨b, p, none⟩) = (o == p) := by
    by_cases h : o = p
    · subst h; simp
    · have e1 : (o == p) = false := by simpa using h
      rw [e1]
      exact beq_false_of_ne (by simp [h])
  rw [this]; rfl

theorem aeq_run {t : TypeId} {x y : AV} {u v : Value} {b : Bool} (h : aeq P t x y = some b) (hx : RepV m w x u) (hy : RepV m w y v) (w' : World) :
    (Op.equal t u v).run P w' = .ok b w' ∧ ∀ (op : BinOp) (ox oy : Operand), (eqGuard op t ox oy u v).run P w' = .ok () w' := by
  unfold aeq at h
  unfold Op.equal Op.maxDepth
  split at h
  · rename_i hu
    refine ⟨eqCell_run hu (.inl ⟨rfl, rfl⟩) h hx hy 9999 w', fun op ox oy => ?_⟩
    unfold eqCell at h
    cases x <;> cases y <;> simp at h
    cases hx; cases hy
    cases op <;> rfl
  · rename_i e hu
    split at h
    · simp at h
    · rename_i hc
      obtain ⟨i, hi, _⟩ := info_of_cells hc
      split at h
      · rename_i a c
        refine ⟨?_, fun op ox oy => by cases hx <;> cases hy <;> cases op <;> rfl⟩
        unfold Op.equalIn
        simp only [Sem.run_bind, run_underlying hu, Result.andThen_ok]
        unfold ptrEq at h
        cases c with
        | none =>
          simp at h; subst h
          cases hy; cases hx <;> first | rfl | simp
        | some y =>
          cases a with
          | none => simp at h; subst h; cases hx; cases hy; simp
          | some x =>
            simp only at h
            split at h
            · rename_i hb
              simp at h; subst h
              cases hx with
              | ptr id off L hL =>
                cases hy with
                | ptr id' off' L' hL' =>
                  simp at hb; subst hb
                  rw [hL] at hL'; obtain rfl := Option.some.inj hL'
                  simp only [Sem.run_bind, run_size hi, Result.andThen_ok]
                  rw [if_pos hc, run_sameAddr_block]
                  have e : (L.base + off == L.base + off') = (off == off') := by
                    by_cases ho : off = off'
                    · subst ho; simp
                    · rw [beq_false_of_ne ho, beq_false_of_ne (by omega)]
                  rw [e]
            · simp at h
      · simp at h
  · rename_i e hu
    split at h
    · rename_i a _ _ _ _ _ _
      simp at h; subst h
      refine ⟨?_, fun op ox oy => by cases hx <;> cases hy <;> cases op <;> rfl⟩
      unfold Op.equalIn
      simp only [Sem.run_bind, run_underlying hu, Result.andThen_ok]
      cases hy; cases hx <;> first | rfl | simp
    · simp at h
  · rename_i hu
    split at h
    · simp at h; subst h
      refine ⟨?_, fun op ox oy => by cases hx <;> cases hy <;> cases op <;> rfl⟩
      unfold Op.equalIn
      simp only [Sem.run_bind, run_underlying hu, Result.andThen_ok]
      cases hy; cases hx <;> first | rfl | simp
    · simp at h
  · rename_i hu
    split at h
    · simp at h; subst h
      refine ⟨?_, fun op ox oy => by cases hx <;> cases hy <;> cases op <;> rfl⟩
      unfold Op.equalIn
      simp only [Sem.run_bind, run_underlying hu, Result.andThen_ok]
      cases hy; cases hx; first | rfl | simp
    · simp at h; subst h
      refine ⟨?_, fun op ox oy => by cases hx <;> cases hy <;> cases op <;> rfl⟩
      unfold Op.equalIn
      simp only [Sem.run_bind, run_underlying hu, Result.andThen_ok]
      cases hy; cases hx; first | rfl | simp
    · simp at h
  · rename_i hu
    split at h
    · simp at h; subst h
      refine ⟨?_, fun op ox oy => by cases hx <;> cases hy <;> cases op <;> rfl⟩
      unfold Op.equalIn
      simp only [Sem.run_bind, run_underlying hu, Result.andThen_ok]
      cases hy; cases hx; first | rfl | simp
    · simp at h
  · split at h
    · simp at h
    · rename_i hg
      refine ⟨aeqT_run _ _ _ _ _ _ _ _ (by unfold depthT; omega) h hx hy w', fun op ox oy => ?_⟩
      unfold aeqT depthT at h
      simp only [*] at h
      split at h
      · simp at h
      · split at h
        · cases hx; cases hy; exact run_eqGuard_agg w' op t ox oy _ _ (by simpa using hg)
        · simp at h
  · split at h
    · simp at h
    · rename_i hg
      refine ⟨aeqT_run _ _ _ _ _ _ _ _ (by unfold depthT; omega) h hx hy w', fun op ox oy => ?_⟩
      unfold aeqT depthT at h
      simp only [*] at h
      split at h
      · simp at h
      · split at h
        · cases hx; cases hy; exact run_eqGuard_agg w' op t ox oy _ _ (by simpa using hg)
        · simp at h
  · simp at h

theorem intBits_run {op : BinOp} {k : IntKind} {x y n : Int} (h : intBits op k x y = some n) (w' : World) : (Op.intBits op k x y).run P w' = .ok (.int k n) w' := by
  unfold intBits at h
  split at h <;> first
    | (simp at h; subst h; simp [Op.intBits])
    | simp at h

end

end Go.AM
