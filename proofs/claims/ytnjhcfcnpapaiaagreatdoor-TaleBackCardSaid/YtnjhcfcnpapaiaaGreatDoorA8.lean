/- The abstract machine against the model: comparisons, arithmetic, slicing. -/
import Derived.Test.YtnjhcfcnpapaiaaGreatDoorA6
set_option linter.unusedVariables false
set_option linter.unusedSimpArgs false
namespace Go.AM

section
variable {m : Mp} {w : World} {P : Program}

theorem run_sameAddr_block (b o p : Nat) (w' : World) : (sameAddr ⟨b, o, none⟩ ⟨b, p, none⟩).run P w' = .ok (o == p) w' := by
  unfold sameAddr
  simp only [BEq.rfl, if_true]
  have : ((⟨b, o, none⟩ : Addr) == ⟨b, p, none⟩) = (o == p) := by
    by_cases h : o = p
    · subst h; simp
    · have e1 : (o == p) = false := by simpa using h
      rw [e1]
      exact beq_false_of_ne (by simp [h])
  rw [this]; rfl

theorem aeq_run {t : TypeId} {x y : AV} {u v : Value} {b : Bool} (h : aeq P t x y = some b) (hx : RepV m w x u) (hy : RepV m w y v) (w' : World) :
    (Op.equal t u v).run P w' = .ok b w' ∧ ∀ (op : BinOp) (ox oy : Operand), (eqGuard op t ox oy u v).run P w' = .ok () w' := by
  unfold aeq at h
  unfold Op.equal Op.maxDepth
  split at h
  · rename_i hu
    refine ⟨eqCell_run hu (.inl ⟨rfl, rfl⟩) h hx hy 9999 w', fun op ox oy => ?_⟩
    unfold eqCell at h
    cases x <;> cases y <;> simp at h
    cases hx; cases hy
    cases op <;> rfl
  · rename_i e hu
    split at h
    · simp at h
    · rename_i hc
      obtain ⟨i, hi, _⟩ := info_of_cells hc
      split at h
      · rename_i a c
        refine ⟨?_, fun op ox oy => by cases hx <;> cases hy <;> cases op <;> rfl⟩
        unfold Op.equalIn
        simp only [Sem.run_bind, run_underlying hu, Result.andThen_ok]
        unfold ptrEq at h
        cases c with
        | none =>
          simp at h; subst h
          cases hy; cases hx <;> first | rfl | simp
        | some y =>
          cases a with
          | none => simp at h; subst h; cases hx; cases hy; simp
          | some x =>
            simp only at h
            split at h
            · rename_i hb
              simp at h; subst h
              cases hx with
              | ptr id off L hL =>
                cases hy with
                | ptr id' off' L' hL' =>
                  simp at hb; subst hb
                  rw [hL] at hL'; obtain rfl := Option.some.inj hL'
                  simp only [Sem.run_bind, run_size hi, Result.andThen_ok]
                  rw [if_pos hc, run_sameAddr_block]
                  have e : (L.base + off == L.base + off') = (off == off') := by
                    by_cases ho : off = off'
                    · subst ho; simp
                    · rw [beq_false_of_ne ho, beq_false_of_ne (by omega)]
                  rw [e]
            · simp at h
      · simp at h
  · rename_i e hu
    split at h
    · rename_i a _ _ _ _ _ _
      simp at h; subst h
      refine ⟨?_, fun op ox oy => by cases hx <;> cases hy <;> cases op <;> rfl⟩
      unfold Op.equalIn
      simp only [Sem.run_bind, run_underlying hu, Result.andThen_ok]
      cases hy; cases hx <;> first | rfl | simp
    · simp at h
  · rename_i hu
    split at h
    · simp at h; subst h
      refine ⟨?_, fun op ox oy => by cases hx <;> cases hy <;> cases op <;> rfl⟩
      unfold Op.equalIn
      simp only [Sem.run_bind, run_underlying hu, Result.andThen_ok]
      cases hy; cases hx <;> first | rfl | simp
    · simp at h
  · rename_i hu
    split at h
    · simp at h; subst h
      refine ⟨?_, fun op ox oy => by cases hx <;> cases hy <;> cases op <;> rfl⟩
      unfold Op.equalIn
      simp only [Sem.run_bind, run_underlying hu, Result.andThen_ok]
      cases hy; cases hx; first | rfl | simp
    · simp at h; subst h
      refine ⟨?_, fun op ox oy => by cases hx <;> cases hy <;> cases op <;> rfl⟩
      unfold Op.equalIn
      simp only [Sem.run_bind, run_underlying hu, Result.andThen_ok]
      cases hy; cases hx; first | rfl | simp
    · simp at h
  · rename_i hu
    split at h
    · simp at h; subst h
      refine ⟨?_, fun op ox oy => by cases hx <;> cases hy <;> cases op <;> rfl⟩
      unfold Op.equalIn
      simp only [Sem.run_bind, run_underlying hu, Result.andThen_ok]
      cases hy; cases hx; first | rfl | simp
    · simp at h
  · split at h
    · simp at h
    · rename_i hg
      refine ⟨aeqT_run _ _ _ _ _ _ _ _ (by unfold depthT; omega) h hx hy w', fun op ox oy => ?_⟩
      unfold aeqT depthT at h
      simp only [*] at h
      split at h
      · simp at h
      · split at h
        · cases hx; cases hy; exact run_eqGuard_agg w' op t ox oy _ _ (by simpa using hg)
        · simp at h
  · split at h
    · simp at h
    · rename_i hg
      refine ⟨aeqT_run _ _ _ _ _ _ _ _ (by unfold depthT; omega) h hx hy w', fun op ox oy => ?_⟩
      unfold aeqT depthT at h
      simp only [*] at h
      split at h
      · simp at h
      · split at h
        · cases hx; cases hy; exact run_eqGuard_agg w' op t ox oy _ _ (by simpa using hg)
        · simp at h
  · simp at h

theorem intBits_run {op : BinOp} {k : IntKind} {x y n : Int} (h : intBits op k x y = some n) (w' : World) : (Op.intBits op k x y).run P w' = .ok (.int k n) w' := by
  unfold intBits at h
  split at h <;> first
    | (simp at h; subst h; simp [Op.intBits])
    | simp at h

end

end Go.AM

set_option linter.unusedVariables false
set_option linter.unusedSimpArgs false
namespace Go.AM

section
variable {m : Mp} {w : World} {P : Program} {R : Type}

theorem eqCell_undef {s : Sh} {x y : AV} {b : Bool} (h : eqCell s x y = some b) : x ≠ .undef ∧ y ≠ .undef := by
  unfold eqCell at h
  split at h <;> simp_all

theorem aeqT_undef {n : Nat} {t : TypeId} {x y : AV} {b : Bool} (h : aeqT P n t x y = some b) : x ≠ .undef ∧ y ≠ .undef := by
  cases n with
  | zero => simp [aeqT] at h
  | succ n =>
    unfold aeqT at h
    split at h
    · exact eqCell_undef h
    · exact eqCell_undef h
    · exact eqCell_undef h
    · split at h
      · simp at h
      · split at h <;> simp_all
    · split at h
      · simp at h
      · split at h <;> simp_all
    · simp at h

theorem aeq_undef {t : TypeId} {x y : AV} {b : Bool} (h : aeq P t x y = some b) : x ≠ .undef ∧ y ≠ .undef := by
  unfold aeq at h
  split at h
  · exact eqCell_undef h
  · split at h
    · simp at h
    · split at h <;> simp_all
  · split at h <;> simp_all
  · split at h <;> simp_all
  · split at h <;> simp_all
  · split at h <;> simp_all
  · split at h
    · simp at h
    · exact aeqT_undef h
  · split at h
    · simp at h
    · exact aeqT_undef h
  · simp at h

theorem abin_run {op : BinOp} {t : TypeId} {x y : AV} {K : AV → Option R} {r : R} (h : abin P op t x y K = some r) {u1 u2 : Value} (hx : RepV m w x u1) (hy : RepV m w y u2) (ox oy : Operand) :
    ∃ v cv, K v = some r ∧ RepV m w v cv ∧ (∀ w', (do eqGuard op t ox oy u1 u2; binOp op t u1 u2 : Sem Value).run P w' = .ok cv w') ∧ ∀ (R' : Type) (K' : AV → Option R'), abin P op t x y K' = K' v := by
  unfold abin at h ⊢
  split at h
  · rename_i k a j b
    cases hx; cases hy
    cases op
    case shl =>
      simp only at h ⊢
      split at h
      · simp at h
      · rename_i hb; exact ⟨_, _, h, .int _ _, fun w' => by simp [eqGuard, binOp, Op.shift, hb], fun _ _ => by simp [hb]⟩
    case shr =>
      simp only at h ⊢
      split at h
      · simp at h
      · rename_i hb; exact ⟨_, _, h, .int _ _, fun w' => by simp [eqGuard, binOp, Op.shift, hb], fun _ _ => by simp [hb]⟩
    case add =>
      simp only at h ⊢
      split at h
      · rename_i hk; subst hk; exact ⟨_, _, h, .int _ _, fun w' => by simp [eqGuard, binOp, Op.intArith], fun _ _ => by simp⟩
      · simp at h
    case sub =>
      simp only at h ⊢
      split at h
      · rename_i hk; subst hk; exact ⟨_, _, h, .int _ _, fun w' => by simp [eqGuard, binOp, Op.intArith], fun _ _ => by simp⟩
      · simp at h
    case mul =>
      simp only at h ⊢
      split at h
      · rename_i hk; subst hk; exact ⟨_, _, h, .int _ _, fun w' => by simp [eqGuard, binOp, Op.intArith], fun _ _ => by simp⟩
      · simp at h
    case eql =>
      simp only at h ⊢
      split at h
      · rename_i hk; subst hk; exact ⟨_, _, h, .bool _, fun w' => by simp [eqGuard, binOp, Op.intCmp], fun _ _ => by simp⟩
      · simp at h
    case neq =>
      simp only at h ⊢
      split at h
      · rename_i hk; subst hk; exact ⟨_, _, h, .bool _, fun w' => by simp [eqGuard, binOp, Op.intCmp], fun _ _ => by simp⟩
      · simp at h
    case lss =>
      simp only at h ⊢
      split at h
      · rename_i hk; subst hk; exact ⟨_, _, h, .bool _, fun w' => by simp [eqGuard, binOp, Op.intCmp], fun _ _ => by simp⟩
      · simp at h
    case leq =>
      simp only at h ⊢
      split at h
      · rename_i hk; subst hk; exact ⟨_, _, h, .bool _, fun w' => by simp [eqGuard, binOp, Op.intCmp], fun _ _ => by simp⟩
      · simp at h
    case gtr =>
      simp only at h ⊢
      split at h
      · rename_i hk; subst hk; exact ⟨_, _, h, .bool _, fun w' => by simp [eqGuard, binOp, Op.intCmp], fun _ _ => by simp⟩
      · simp at h
    case geq =>
      simp only at h ⊢
      split at h
      · rename_i hk; subst hk; exact ⟨_, _, h, .bool _, fun w' => by simp [eqGuard, binOp, Op.intCmp], fun _ _ => by simp⟩
      · simp at h
    case quo =>
      simp only at h ⊢
      split at h
      · rename_i hk; subst hk
        split at h
        · simp at h
        · rename_i hb; exact ⟨_, _, h, .int _ _, fun w' => by simp [eqGuard, binOp, Op.intDiv, hb], fun _ _ => by simp [hb]⟩
      · simp at h
    case rem =>
      simp only at h ⊢
      split at h
      · rename_i hk; subst hk
        split at h
        · simp at h
        · rename_i hb; exact ⟨_, _, h, .int _ _, fun w' => by simp [eqGuard, binOp, Op.intDiv, hb], fun _ _ => by simp [hb]⟩
      · simp at h
    case and =>
      simp only at h ⊢
      split at h
      · rename_i hk; subst hk
        simp only [Option.bind_eq_some_iff] at h
        obtain ⟨n, hn, hk⟩ := h
        exact ⟨_, _, hk, .int _ _, fun w' => by simp [eqGuard, binOp, intBits_run hn], fun _ _ => by simp [hn]⟩
      · simp at h
    case or =>
      simp only at h ⊢
      split at h
      · rename_i hk; subst hk
        simp only [Option.bind_eq_some_iff] at h
        obtain ⟨n, hn, hk⟩ := h
        exact ⟨_, _, hk, .int _ _, fun w' => by simp [eqGuard, binOp, intBits_run hn], fun _ _ => by simp [hn]⟩
      · simp at h
    case xor =>
      simp only at h ⊢
      split at h
      · rename_i hk; subst hk
        simp only [Option.bind_eq_some_iff] at h
        obtain ⟨n, hn, hk⟩ := h
        exact ⟨_, _, hk, .int _ _, fun w' => by simp [eqGuard, binOp, intBits_run hn], fun _ _ => by simp [hn]⟩
      · simp at h
    case andNot =>
      simp only at h ⊢
      split at h
      · rename_i hk; subst hk
        simp only [Option.bind_eq_some_iff] at h
        obtain ⟨n, hn, hk⟩ := h
        exact ⟨_, _, hk, .int _ _, fun w' => by simp [eqGuard, binOp, intBits_run hn], fun _ _ => by simp [hn]⟩
      · simp at h
  · rename_i a b
    cases hx; cases hy
    cases op
    case add =>
      simp only at h ⊢
      split at h
      · simp at h
      · rename_i hb; exact ⟨_, _, h, .str _, fun w' => by simp only [eqGuard, binOp, Op.stringOp]; simp only [if_neg hb]; rfl, fun _ _ => by rw [if_neg hb]⟩
    case eql => exact ⟨_, _, h, .bool _, fun w' => by simp [eqGuard, binOp, Op.stringOp, bytes_eq], fun _ _ => rfl⟩
    case neq => exact ⟨_, _, h, .bool _, fun w' => by simp [eqGuard, binOp, Op.stringOp, bytes_eq], fun _ _ => rfl⟩
    case lss => exact ⟨_, _, h, .bool _, fun w' => by simp [eqGuard, binOp, Op.stringOp], fun _ _ => rfl⟩
    case leq => exact ⟨_, _, h, .bool _, fun w' => by simp [eqGuard, binOp, Op.stringOp, bytes_eq], fun _ _ => rfl⟩
    case gtr => exact ⟨_, _, h, .bool _, fun w' => by simp [eqGuard, binOp, Op.stringOp, bytes_eq], fun _ _ => rfl⟩
    case geq => exact ⟨_, _, h, .bool _, fun w' => by simp [eqGuard, binOp, Op.stringOp], fun _ _ => rfl⟩
    all_goals simp at h
  · rename_i hni hns
    cases op
    case eql =>
      simp only [Option.bind_eq_some_iff] at h
      obtain ⟨b, hb, hk⟩ := h
      refine ⟨_, _, hk, .bool (b), fun w' => ?_, fun _ _ => by simp [hb]⟩
      obtain ⟨h1, h2⟩ := aeq_run hb hx hy w'
      simp only [Sem.run_bind, h2, Result.andThen_ok]
      have : binOp .eql t u1 u2 = (do pure (.bool ((← Op.equal t u1 u2))) : Sem Value) := by
        cases hx with
        | undef v => exact absurd rfl (aeq_undef hb).1
        | int k n => cases hy with
          | undef v => exact absurd rfl (aeq_undef hb).2
          | int k n => exact absurd rfl (hni _ _ _ _ rfl)
          | _ => rfl
        | str s => cases hy with
          | undef v => exact absurd rfl (aeq_undef hb).2
          | str s => exact absurd rfl (hns _ _ rfl)
          | _ => rfl
        | _ => rfl
      rw [this]; simp [h1]
    case neq =>
      simp only [Option.bind_eq_some_iff] at h
      obtain ⟨b, hb, hk⟩ := h
      refine ⟨_, _, hk, .bool (!b), fun w' => ?_, fun _ _ => by simp [hb]⟩
      obtain ⟨h1, h2⟩ := aeq_run hb hx hy w'
      simp only [Sem.run_bind, h2, Result.andThen_ok]
      have : binOp .neq t u1 u2 = (do pure (.bool (!(← Op.equal t u1 u2))) : Sem Value) := by
        cases hx with
        | undef v => exact absurd rfl (aeq_undef hb).1
        | int k n => cases hy with
          | undef v => exact absurd rfl (aeq_undef hb).2
          | int k n => exact absurd rfl (hni _ _ _ _ rfl)
          | _ => rfl
        | str s => cases hy with
          | undef v => exact absurd rfl (aeq_undef hb).2
          | str s => exact absurd rfl (hns _ _ rfl)
          | _ => rfl
        | _ => rfl
      rw [this]; simp [h1]
    all_goals simp at h

theorem aun_run {op : UnOp} {x : AV} {K : AV → Option R} {r : R} (h : aun op x K = some r) {u : Value} (hx : RepV m w x u) :
    ∃ v cv, K v = some r ∧ RepV m w v cv ∧ (∀ w', (Op.unary op u).run P w' = .ok cv w') ∧ ∀ (R' : Type) (K' : AV → Option R'), aun op x K' = K' v := by
  unfold aun at h ⊢
  split at h
  · cases hx; exact ⟨_, _, h, .bool _, fun w' => rfl, fun _ _ => rfl⟩
  · cases hx; exact ⟨_, _, h, .int _ _, fun w' => rfl, fun _ _ => rfl⟩
  · cases hx
    simp only [Option.bind_eq_some_iff] at h
    obtain ⟨n, hn, hk⟩ := h
    exact ⟨_, _, hk, .int _ _, fun w' => by simp only [Op.unary]; exact intBits_run hn w', fun _ _ => by simp [hn]⟩
  · simp at h

end

end Go.AM
