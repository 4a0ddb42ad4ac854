/- The abstract machine: an operation looks at its own temporaries alone. -/
import Derived.Test.YtnjhcfcnpapaiaaGreatDoorA22
set_option linter.unusedVariables false
set_option linter.unusedSimpArgs false
namespace Go.AM

section
variable {P : Program} {R : Type}

theorem ev_congr {e e' : Env} {x : Operand} (h : ∀ t, x = .tmp t → e.at t = e'.at t) : ev P e x = ev P e' x := by
  cases x with
  | tmp t => exact h t rfl
  | _ => rfl

theorem evT_congr {e e' : Env} {x : Operand} (h : ∀ t, x = .tmp t → e.at t = e'.at t) (ty : TypeId) : evT P e ty x = evT P e' ty x := by
  cases x with
  | tmp t => exact h t rfl
  | _ => rfl

theorem evArgs_congr {e e' : Env} : ∀ {ts : List TypeId} {xs : List Operand}, (∀ x ∈ xs, ∀ t, x = .tmp t → e.at t = e'.at t) → evArgs P e ts xs = evArgs P e' ts xs := by
  intro ts xs
  induction xs generalizing ts with
  | nil => intro _; cases ts <;> rfl
  | cons x xs ih =>
    intro h
    cases ts with
    | nil => simp only [evArgs]; rw [ev_congr (h x (by simp)), ih (fun y hy => h y (by simp [hy]))]
    | cons t ts => simp only [evArgs]; rw [evT_congr (h x (by simp)), ih (fun y hy => h y (by simp [hy]))]

theorem bound_congr {e e' : Env} {x : Option Operand} (h : ∀ y, x = some y → ∀ t, y = .tmp t → e.at t = e'.at t) : bound P e x = bound P e' x := by
  cases x with
  | none => rfl
  | some y => simp only [bound]; rw [ev_congr (h y rfl)]

theorem aop_congr {call : CallF R} {o : Oper} {e e' : Env} (h : ∀ x ∈ o.op.operands.toList, ∀ t, x = .tmp t → e.at t = e'.at t) (σ : St) (K : AV → St → Option R) : aop P call o e σ K = aop P call o e' σ K := by
  cases hop : o.op with
  | move x => simp only [aop, hop]; rw [evT_congr (h x (by simp [hop, Op.operands]))]
  | assign x => simp only [aop, hop]; rw [evT_congr (h x (by simp [hop, Op.operands]))]
  | pick c x y =>
    simp only [aop, hop]
    rw [ev_congr (h c (by simp [hop, Op.operands])), evT_congr (h x (by simp [hop, Op.operands])), evT_congr (h y (by simp [hop, Op.operands]))]
  | alloc t => simp only [aop, hop]
  | makeMap t rsv => cases rsv <;> simp only [aop, hop]
  | box t x => simp only [aop, hop]; rw [evT_congr (h x (by simp [hop, Op.operands]))]
  | build t ps =>
    have hp : ∀ p ∈ ps.toList, ev P e p.2 = ev P e' p.2 := fun p hp => ev_congr (h p.2 (by simp only [hop, Op.operands]; simp; exact ⟨p.1, by simpa using hp⟩))
    have e1 : (ps.toList.map fun (i, x) => (i, ev P e x)) = (ps.toList.map fun (i, x) => (i, ev P e' x)) := List.map_congr_left fun p hp' => by obtain ⟨i, x⟩ := p; exact congrArg (Prod.mk i) (hp (i, x) hp')
    have e2 : (ps.toList.all fun p => (ev P e p.2).cells.all AV.one) = (ps.toList.all fun p => (ev P e' p.2).cells.all AV.one) := by
      rw [Bool.eq_iff_iff, List.all_eq_true, List.all_eq_true]
      exact ⟨fun h x hx => by rw [← hp x hx]; exact h x hx, fun h x hx => by rw [hp x hx]; exact h x hx⟩
    simp only [aop, hop]
    rw [e1, e2]
  | buildSlice t n ps =>
    have hp : ∀ (el : TypeId), ∀ p ∈ ps.toList, evT P e el p.2 = evT P e' el p.2 := fun el p hp => evT_congr (h p.2 (by simp only [hop, Op.operands]; simp; exact ⟨p.1, by simpa using hp⟩)) el
    have e1 : ∀ el, (ps.toList.map fun (i, x) => (i, evT P e el x)) = (ps.toList.map fun (i, x) => (i, evT P e' el x)) := fun el => List.map_congr_left fun p hp' => by obtain ⟨i, x⟩ := p; exact congrArg (Prod.mk i) (hp el (i, x) hp')
    have e2 : ∀ el, (ps.toList.all fun p => (evT P e el p.2).cells.all AV.one) = (ps.toList.all fun p => (evT P e' el p.2).cells.all AV.one) := by
      intro el
      rw [Bool.eq_iff_iff, List.all_eq_true, List.all_eq_true]
      exact ⟨fun h x hx => by rw [← hp el x hx]; exact h x hx, fun h x hx => by rw [hp el x hx]; exact h x hx⟩
    simp only [aop, hop, e1, e2]
  | makeSlice t l c => simp only [aop, hop]; rw [ev_congr (h l (by simp [hop, Op.operands])), ev_congr (h c (by simp [hop, Op.operands]))]
  | load t x => simp only [aop, hop]; rw [ev_congr (h x (by simp [hop, Op.operands]))]
  | typeAssert x xt t ok => simp only [aop, hop]; rw [ev_congr (h x (by simp [hop, Op.operands]))]
  | lookup t x ix ok =>
    simp only [aop, hop]
    have e1 : ∀ kt, evT P e kt ix = evT P e' kt ix := evT_congr (h ix (by simp [hop, Op.operands]))
    rw [ev_congr (h x (by simp [hop, Op.operands]))]; simp only [e1]
  | mapUpdate t x k v =>
    have e1 : ∀ kt, evT P e kt k = evT P e' kt k := evT_congr (h k (by simp [hop, Op.operands]))
    have e2 : ∀ kt, evT P e kt v = evT P e' kt v := evT_congr (h v (by simp [hop, Op.operands]))
    simp only [aop, hop]; rw [ev_congr (h x (by simp [hop, Op.operands]))]; simp only [e1, e2]
  | store t x y => simp only [aop, hop]; rw [ev_congr (h x (by simp [hop, Op.operands])), evT_congr (h y (by simp [hop, Op.operands]))]
  | nilCheck x => simp only [aop, hop]; rw [ev_congr (h x (by simp [hop, Op.operands]))]
  | binOp op t x y u => simp only [aop, hop]; rw [evT_congr (h x (by simp [hop, Op.operands])), evT_congr (h y (by simp [hop, Op.operands]))]
  | unOp op t x => simp only [aop, hop]; rw [ev_congr (h x (by simp [hop, Op.operands]))]
  | convert s d x => simp only [aop, hop]; rw [ev_congr (h x (by simp [hop, Op.operands]))]
  | makeInterface t x => simp only [aop, hop]; rw [evT_congr (h x (by simp [hop, Op.operands]))]
  | makeFunc fn f c =>
    have e1 : f.toList.map (ev P e) = f.toList.map (ev P e') := List.map_congr_left fun x hx => ev_congr (h x (by simp only [hop, Op.operands]; simp; exact .inl (by simpa using hx)))
    have e2 : c.toList.map (ev P e) = c.toList.map (ev P e') := List.map_congr_left fun x hx => ev_congr (h x (by simp only [hop, Op.operands]; simp; exact .inr (by simpa using hx)))
    simp only [aop, hop]
    rw [e1, e2]
  | slice t x lo hi mx =>
    simp only [aop, hop]
    rw [evT_congr (h x (by simp [hop, Op.operands])), bound_congr (fun y hy => h y (by simp [hop, Op.operands, hy])), bound_congr (x := hi) (fun y hy => h y (by simp [hop, Op.operands, hy])), bound_congr (x := mx) (fun y hy => h y (by simp [hop, Op.operands, hy]))]
  | fieldAddr t x f => simp only [aop, hop]; rw [ev_congr (h x (by simp [hop, Op.operands]))]
  | field t x f => simp only [aop, hop]; rw [ev_congr (h x (by simp [hop, Op.operands]))]
  | indexAddr t x i => simp only [aop, hop]; rw [evT_congr (h x (by simp [hop, Op.operands])), ev_congr (h i (by simp [hop, Op.operands]))]
  | index t x i => simp only [aop, hop]; rw [ev_congr (h x (by simp [hop, Op.operands])), ev_congr (h i (by simp [hop, Op.operands]))]
  | extract x i => simp only [aop, hop]; rw [ev_congr (h x (by simp [hop, Op.operands]))]
  | call c =>
    simp only [aop, hop]
    have ha : evArgs P e c.argTypes.toList c.args.toList = evArgs P e' c.argTypes.toList c.args.toList := evArgs_congr fun x hx => h x (by
      simp only [hop, Op.operands, Call.operands]
      cases c.callee <;> simp <;> first | exact .inr (by simpa using hx) | (simpa using hx))
    cases hc : c.callee with
    | builtin b => simp only [ha]
    | invoke r n => simp only [ha]; rw [ev_congr (h r (by simp [hop, Op.operands, Call.operands, hc]))]
    | value f => simp only [ha]; rw [ev_congr (h f (by simp [hop, Op.operands, Call.operands, hc]))]
  | _ => simp only [aop, hop]

theorem castSh_one {s : Sh} {v : AV} {K : AV → Option R} {r : R} (h : castSh s v K = some r) : v.one = true := by
  cases s <;> cases v <;> first | rfl | (simp [castSh, AV.toBool, AV.toInt, AV.toStr, AV.toPtr, AV.toSl, AV.toMap, AV.one] at h)

theorem ldT_ones {σ : St} {b : Nat} : ∀ {shs : List Sh} {off : Nat} {K : List AV → Option R} {r : R}, ldT σ b off shs K = some r → ∀ i, i < shs.length → ∃ v, σ.ld b (off + i) = some v ∧ v.one = true := by
  intro shs
  induction shs with
  | nil => intro off K r h i hi; simp at hi
  | cons s ss ih =>
    intro off K r h i hi
    simp only [ldT] at h
    cases hv : σ.ld b off with
    | none => simp [hv] at h
    | some v =>
      simp only [hv, Option.bind_some] at h
      cases i with
      | zero => exact ⟨v, hv, castSh_one h⟩
      | succ i =>
        obtain ⟨u, h1, h2⟩ := ih (castSh_nat h).1 i (by simpa using hi)
        exact ⟨u, by rw [show off + (i + 1) = off + 1 + i by omega]; exact h1, h2⟩

/-- A load, without the model. -/
theorem load_form {call : CallF R} {o : Oper} {t : TypeId} {x : Operand} (hop : o.op = .load t x) {e : Env} {σ : St} {K : AV → St → Option R} {r : R} (h : aop P call o e σ K = some r) :
    ∃ v p, ev P e x = .ptr (some p) ∧ K v σ = some r ∧ (∀ i u, v.cells[i]? = some u → σ.ld p.1 (p.2 + i) = some u) ∧
      ∀ (σ' : St), (∀ i u, v.cells[i]? = some u → σ'.ld p.1 (p.2 + i) = some u) → ∀ (K' : AV → St → Option R), aop P call o e σ' K' = K' v σ' := by
  simp only [aop, hop] at h ⊢
  split at h
  · rename_i p shs hp hsh
    split at h
    · rename_i hl
      have hone := ldT_ones h
      obtain ⟨cs, h1, h2, h3, h4⟩ := ldT_some h
      by_cases ha : isAggT P t = true
      · simp only [ha, if_true] at h1
        refine ⟨.agg cs, p, hp, h1, h3, fun σ' hσ K' => ?_⟩
        simp only [hp, hsh, if_pos hl]
        rw [h4 σ' hσ]
        simp [ha]
      · simp only [ha, if_false, Bool.false_eq_true] at h1
        split at h1
        · rename_i v
          have hv1 : v.one = true := by
            obtain ⟨u, q1, q2⟩ := hone 0 (by rw [← h2]; simp)
            have := h3 0 v rfl
            rw [q1] at this; cases this; exact q2
          have hvc := AV.cells_one hv1
          refine ⟨v, p, hp, h1, by rw [hvc]; exact h3, fun σ' hσ K' => ?_⟩
          simp only [hp, hsh, if_pos hl]
          rw [h4 σ' (by rw [hvc] at hσ; exact hσ)]
          simp [ha]
        · simp at h1
    · simp at h
  · simp at h

end

end Go.AM
