/- The abstract machine against the model: casts, loads, operands. -/
import Derived.Test.YtbgepjggclhfiaaGreatDoorA3
set_option linter.unusedVariables false
set_option linter.unusedSimpArgs false
namespace Go.AM

theorem AV.toSl_some {e : Nat} {v : AV} {s : Sl} (h : v.toSl e = some s) : v = .slice s.o s.len s.cap e := by
  cases v <;> simp [AV.toSl] at h
  obtain ⟨rfl, rfl⟩ := h; rfl
theorem AV.toInt_some {k : IntKind} {v : AV} {n : Int} (h : v.toInt k = some n) : v = .int k n := by
  cases v <;> simp [AV.toInt] at h
  obtain ⟨rfl, rfl⟩ := h; rfl
theorem AV.toBool_some {v : AV} {b : Bool} (h : v.toBool = some b) : v = .bool b := by
  cases v <;> simp [AV.toBool] at h
  subst h; rfl
theorem AV.toAgg_some {v : AV} {b : List AV} (h : v.toAgg = some b) : v = .agg b := by
  cases v <;> simp [AV.toAgg] at h
  subst h; rfl
theorem AV.toTuple_some {v : AV} {b : List AV} (h : v.toTuple = some b) : v = .tuple b := by
  cases v <;> simp [AV.toTuple] at h
  subst h; rfl

section
variable {R : Type}

theorem castSh_nat {s : Sh} {v : AV} {K : AV → Option R} {r : R} (h : castSh s v K = some r) : K v = some r ∧ ∀ (R' : Type) (K' : AV → Option R'), castSh s v K' = K' v := by
  cases s with
  | bool => cases v <;> simp_all [castSh, AV.toBool]
  | int k =>
    cases v <;> simp only [castSh, AV.toInt, Option.bind_none, reduceCtorEq] at h ⊢
    rename_i j n
    by_cases hj : j = k
    · subst hj; simp only [if_true, Option.bind_some] at h ⊢; exact ⟨h, fun _ _ => trivial⟩
    · simp [hj] at h
  | str => cases v <;> simp_all [castSh, AV.toStr]
  | ptr => cases v <;> simp_all [castSh, AV.toPtr]
  | slice e =>
    cases v <;> simp only [castSh, AV.toSl, Option.bind_none, reduceCtorEq] at h ⊢
    rename_i o n c j
    by_cases hj : j = e
    · subst hj; simp only [if_true, Option.bind_some] at h ⊢; exact ⟨h, fun _ _ => trivial⟩
    · simp [hj] at h
  | map => cases v <;> simp_all [castSh, AV.toMap]
  | any =>
    simp only [castSh] at h ⊢
    by_cases h1 : v.one = true
    · rw [if_pos h1] at h; exact ⟨h, fun _ _ => by rw [if_pos h1]⟩
    · rw [if_neg h1] at h; simp at h

theorem castL_nat : ∀ {ss : List Sh} {vs : List AV} {K : List AV → Option R} {r : R}, castL ss vs K = some r →
    ss.length ≤ vs.length ∧ K (vs.take ss.length) = some r ∧ ∀ (R' : Type) (K' : List AV → Option R'), castL ss vs K' = K' (vs.take ss.length) := by
  intro ss
  induction ss with
  | nil => intro vs K r h; exact ⟨Nat.zero_le _, h, fun _ _ => rfl⟩
  | cons s ss ih =>
    intro vs K r h
    cases vs with
    | nil => simp [castL] at h
    | cons v vs =>
      simp only [castL, List.head?_cons, Option.bind_some, List.tail_cons] at h ⊢
      obtain ⟨h1, h2⟩ := castSh_nat h
      obtain ⟨h3, h4, h5⟩ := ih h1
      refine ⟨by simpa using h3, by simpa using h4, fun R' K' => ?_⟩
      rw [h2, h5]; simp

theorem castVal_nat {P : Program} {t : TypeId} {v : AV} {K : AV → Option R} {r : R} (h : castVal P t v K = some r) :
    K v = some r ∧ ∀ (R' : Type) (K' : AV → Option R'), castVal P t v K' = K' v := by
  unfold castVal at h ⊢
  cases hs : shOf P depthT t with
  | none => simp [hs] at h
  | some shs =>
    simp only [hs] at h ⊢
    by_cases ha : isAggT P t = true
    · simp only [ha, if_true] at h ⊢
      cases hv : v.toAgg with
      | none => simp [hv] at h
      | some cs =>
        obtain rfl := AV.toAgg_some hv
        simp only [hv, Option.bind_some] at h ⊢
        by_cases hl : cs.length = shs.length
        · simp only [hl, if_true] at h ⊢
          obtain ⟨_, h2, h3⟩ := castL_nat h
          rw [← hl, List.take_length] at h2 h3
          exact ⟨h2, fun R' K' => h3 R' _⟩
        · simp [hl] at h
    · simp only [ha, if_false, Bool.false_eq_true] at h ⊢
      match shs, h with
      | [s], h => exact castSh_nat h

theorem castVals_nat {P : Program} : ∀ {ts : List TypeId} {vs : List AV} {K : List AV → Option R} {r : R}, castVals P ts vs K = some r →
    ts.length ≤ vs.length ∧ K (vs.take ts.length) = some r := by
  intro ts
  induction ts with
  | nil => intro vs K r h; exact ⟨Nat.zero_le _, h⟩
  | cons t ts ih =>
    intro vs K r h
    cases vs with
    | nil => simp [castVals] at h
    | cons v vs =>
      simp only [castVals, List.head?_cons, Option.bind_some, List.tail_cons] at h
      obtain ⟨h1, h2⟩ := ih (castVal_nat h).1
      exact ⟨by simpa using h1, by simpa using h2⟩

theorem castRes_some {P : Program} {t : TypeId} {v : AV} {K : AV → Option R} {r : R} (h : castRes P t v K = some r) : K v = some r := by
  unfold castRes at h
  split at h
  · cases hv : v.toTuple with
    | none => simp [hv] at h
    | some vs =>
      obtain rfl := AV.toTuple_some hv
      simp only [hv, Option.bind_some] at h
      split at h
      · rename_i hl
        obtain ⟨_, h2⟩ := castVals_nat h
        rwa [← hl, List.take_length] at h2
      · simp at h
  · exact (castVal_nat h).1

theorem ldT_some {σ : St} {b : Nat} : ∀ {shs : List Sh} {off : Nat} {K : List AV → Option R} {r : R}, ldT σ b off shs K = some r →
    ∃ cs, K cs = some r ∧ cs.length = shs.length ∧ (∀ i v, cs[i]? = some v → σ.ld b (off + i) = some v) ∧
      ∀ (σ' : St), (∀ i v, cs[i]? = some v → σ'.ld b (off + i) = some v) → ∀ (R' : Type) (K' : List AV → Option R'), ldT σ' b off shs K' = K' cs := by
  intro shs
  induction shs with
  | nil => intro off K r h; exact ⟨[], h, rfl, by simp, fun _ _ _ _ => rfl⟩
  | cons s ss ih =>
    intro off K r h
    simp only [ldT] at h
    cases hv : σ.ld b off with
    | none => simp [hv] at h
    | some v =>
      simp only [hv, Option.bind_some] at h
      obtain ⟨h1, h2⟩ := castSh_nat h
      obtain ⟨cs, h3, h4, h5, h6⟩ := ih h1
      refine ⟨v :: cs, h3, by simp [h4], ?_, ?_⟩
      · intro i u hu
        cases i with
        | zero => simp at hu; subst hu; exact hv
        | succ i => rw [show off + (i + 1) = off + 1 + i by omega]; exact h5 i u (by simpa using hu)
      · intro σ' hσ R' K'
        simp only [ldT]
        rw [show σ'.ld b off = some v from hσ 0 v rfl]
        simp only [Option.bind_some]
        rw [h2, h6 σ' (fun i u hu => by rw [show off + 1 + i = off + (i + 1) by omega]; exact hσ (i + 1) u (by simpa using hu))]

end

/-- A loaded cell lies in a live row. -/
theorem St.ld_some {σ : St} {b off : Nat} {v : AV} (h : σ.ld b off = some v) : ∃ cs own, σ.get b = some (.cells cs own) ∧ cs[off]? = some v := by
  unfold St.ld St.row at h
  cases hg : σ.get b with
  | none => simp [hg] at h
  | some x => cases x <;> simp [hg] at h; exact ⟨_, _, rfl, h⟩

section
variable {B : Nat} {σ : St} {m : Mp} {w : World}

/-- A cell that the machine reads lies in the model's memory. -/
theorem Sim.cell (hs : Sim B σ m w) {b off : Nat} {v : AV} {L : Loc} (h : σ.ld b off = some v) (hm : m b = some L) :
    ∃ u, w.cell? ⟨L.blk, L.base + off, none⟩ = some u ∧ RepV m w v u ∧ u.oneCell' = true ∧ v.one = true := by
  obtain ⟨cs, own, hg, hv⟩ := St.ld_some h
  obtain ⟨L', ccs, el, fr, h1, h2, h3, h4, h5, h6, _⟩ := hs.row b cs own hg
  rw [hm] at h1; obtain rfl := Option.some.inj h1
  obtain ⟨u, hu, hr⟩ := h5.get hv
  have hlt : off < cs.length := (List.getElem?_eq_some_iff.1 hv).1
  rw [List.getElem?_take, if_pos hlt, List.getElem?_drop] at hu
  have h1v : v.one = true := List.all_eq_true.1 h6 v (List.mem_of_getElem? hv)
  refine ⟨u, ?_, hr, hr.one h1v, h1v⟩
  simp [World.cell?, h3]
  simpa using hu

/-- What is known of a live row's place. -/
theorem Sim.at (hs : Sim B σ m w) {b off : Nat} {v : AV} (h : σ.ld b off = some v) : ∃ L, m b = some L := by
  obtain ⟨cs, own, hg, hv⟩ := St.ld_some h
  obtain ⟨L', ccs, el, fr, h1, _⟩ := hs.row b cs own hg
  exact ⟨L', h1⟩
end

/-- The temporaries. -/
def RepE (m : Mp) (w : World) (e : Env) (a : Act) : Prop := RepL m w e a.tmps.toList

section
variable {m : Mp} {w : World} {P : Program}

theorem ofV_rep (v : Value) : RepV m w (ofV v) v := by
  unfold ofV
  split <;> first | exact .undef _ | constructor

theorem ofVT_rep (t : TypeId) (v : Value) : RepV m w (ofVT P t v) v := by
  unfold ofVT
  split
  · exact .snil _
  · next _ _ vs =>
    split
    · next hz =>
      refine .tuple [] vs ?_
      have : vs = #[] := by simpa using hz
      subst this; exact .nil
    · exact .undef _
  · exact ofV_rep _

theorem RepE.at {e : Env} {a : Act} (h : RepE m w e a) (t : Nat) : RepV m w (e.at t) (a.tmps.getD t undef) := by
  unfold Env.at
  cases he : e[t]? with
  | none => exact .undef _
  | some v =>
    obtain ⟨u, hu, hr⟩ := RepL.get h he
    have : a.tmps.getD t undef = u := by
      simp only [Array.getElem?_toList] at hu
      simp [Array.getD_eq_getD_getElem?, hu]
    rw [this]; exact hr

theorem ev_rep {e : Env} {a : Act} (h : RepE m w e a) (x : Operand) : RepV m w (ev P e x) (a.eval x) := by
  cases x with
  | tmp t => exact h.at t
  | const v => exact ofV_rep v
  | global g => exact .undef _
  | func f => exact .func _ [] [] #[] #[] .nil .nil

theorem evT_rep {e : Env} {a : Act} (h : RepE m w e a) (t : TypeId) (x : Operand) : RepV m w (evT P e t x) (a.eval x) := by
  cases x with
  | const v => exact ofVT_rep t v
  | tmp i => exact ev_rep (P := P) h (.tmp i)
  | global g => exact ev_rep (P := P) h (.global g)
  | func f => exact ev_rep (P := P) h (.func f)

theorem RepE.put {e : Env} {a : Act} (h : RepE m w e a) (d : Option Tmp) {v : AV} {u : Value} (hv : RepV m w v u) : RepE m w (Env.put e d v) (a.put d u) := by
  cases d with
  | none => exact h
  | some d => unfold RepE Act.put Env.put; simp only [Array.toList_setIfInBounds]; exact RepL.set h d hv

theorem RepE.mono {m' : Mp} {w' : World} {e : Env} {a : Act} (g : Grows m w m' w') (h : RepE m w e a) : RepE m' w' e a := RepL.mono g h

/-- A temporary that is known better. -/
theorem RepE.refine {e : Env} {a : Act} (h : RepE m w e a) {g : Nat} {b : Bool} (hg : e.at g = .bool b) : RepE m w (e.set g (.bool b)) a := by
  unfold Env.at at hg
  cases he : e[g]? with
  | none => simp [he] at hg
  | some v =>
    simp [he] at hg; subst hg
    have : e.set g (.bool b) = e := by
      apply List.ext_getElem?
      intro i
      rw [List.getElem?_set]
      split
      · rename_i hi; subst hi; rw [he]; split <;> simp_all
      · rfl
    rw [this]; exact h
end

/-- What an operation does: it hands a value back, or none. -/
def Does (P : Program) (o : Oper) (a : Act) (w : World) (cv : Value) (w' : World) : Prop :=
  (execOp a.eval o).run P w = .ok (.value cv) w' ∨ (cv = undef ∧ (execOp a.eval o).run P w = .ok .skip w')

theorem Does.wp {P : Program} {o : Oper} {a : Act} {w w' : World} {cv : Value} {next : Act → World → Prop} {Q : Exit → Act → World → Prop}
    (h : Does P o a w cv w') (hn : next (a.put o.dst cv) w') : o.wp P a w next Q := by
  unfold Oper.wp
  rcases h with h | ⟨rfl, h⟩ <;> rw [h] <;> exact hn

end Go.AM
