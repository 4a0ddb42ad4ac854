/- The abstract machine: what it does does not hang on what is done with it: regions, code, calls. -/
import Derived.Test.YtnjhcfcnpapaiaaGreatDoorA19
set_option linter.unusedVariables false
set_option linter.unusedSimpArgs false
namespace Go.AM

section
variable {P : Program} {R : Type}

theorem chkC_some {b : Array Nat} {i : Nat} {a : Nat × Nat} {cs : List AV} : ∀ {l : List (Nat × St)} {k : Option R} {r : R}, chkC b i a cs l k = some r →
    k = some r ∧ (∀ x ∈ l, ord b x.1 i = true ∨ x.2.same a.1 a.2 cs = true) ∧ ∀ k' : Option R, chkC b i a cs l k' = k' := by
  intro l
  induction l with
  | nil => intro k r h; exact ⟨h, by simp, fun _ => rfl⟩
  | cons x l ih =>
    intro k r h
    obtain ⟨j, s⟩ := x
    simp only [chkC] at h ⊢
    split at h
    · rename_i ho
      obtain ⟨h1, h2, h3⟩ := ih h
      exact ⟨h1, List.forall_mem_cons.2 ⟨.inl ho, h2⟩, fun k' => by rw [if_pos ho]; exact h3 k'⟩
    · rename_i ho
      split at h
      · rename_i hs
        obtain ⟨h1, h2, h3⟩ := ih h
        exact ⟨h1, List.forall_mem_cons.2 ⟨.inr hs, h2⟩, fun k' => by rw [if_neg ho, if_pos hs]; exact h3 k'⟩
      · simp at h

theorem chkL_some {b : Array Nat} {i : Nat} {s : St} : ∀ {l : List (Nat × (Nat × Nat) × List AV)} {k : Option R} {r : R}, chkL b i s l k = some r →
    k = some r ∧ (∀ x ∈ l, ord b x.1 i = true ∨ s.same x.2.1.1 x.2.1.2 x.2.2 = true) ∧ ∀ k' : Option R, chkL b i s l k' = k' := by
  intro l
  induction l with
  | nil => intro k r h; exact ⟨h, by simp, fun _ => rfl⟩
  | cons x l ih =>
    intro k r h
    obtain ⟨j, a, cs⟩ := x
    simp only [chkL] at h ⊢
    split at h
    · rename_i ho
      obtain ⟨h1, h2, h3⟩ := ih h
      exact ⟨h1, List.forall_mem_cons.2 ⟨.inl ho, h2⟩, fun k' => by rw [if_pos ho]; exact h3 k'⟩
    · rename_i ho
      split at h
      · rename_i hs
        obtain ⟨h1, h2, h3⟩ := ih h
        exact ⟨h1, List.forall_mem_cons.2 ⟨.inr hs, h2⟩, fun k' => by rw [if_neg ho, if_pos hs]; exact h3 k'⟩
      · simp at h

/-- One operation of a region that draws: what it did, and what was looked at. -/
theorem drawOp_nat {call : CallF R} (hN : NatCall call) {b : Array Nat} {i : Nat} {o : Oper} {chg : List (Nat × St)} {lds : List (Nat × (Nat × Nat) × List AV)} {e : Env} {σ : St}
    {K : List (Nat × St) → List (Nat × (Nat × Nat) × List AV) → AV → St → Option R} {r : R} (h : drawOp P call b i o chg lds e σ K = some r) :
    ∃ chg' lds' v σ', K chg' lds' v σ' = some r ∧ (∀ K', drawOp P call b i o chg lds e σ K' = K' chg' lds' v σ') ∧ (∀ K' : AV → St → Option R, aop P call o e σ K' = K' v σ') ∧
      ((kindOf o = .quiet ∧ chg' = chg ∧ lds' = lds) ∨
       (kindOf o = .load ∧ chg' = chg ∧ ∃ t x p, o.op = .load t x ∧ ev P e x = .ptr (some p) ∧ lds' = (i, p, v.cells) :: lds ∧ ∀ y ∈ chg, ord b y.1 i = true ∨ y.2.same p.1 p.2 v.cells = true) ∨
       ((kindOf o = .alloc ∨ kindOf o = .effect) ∧ chg' = (i, σ) :: chg ∧ lds' = lds ∧ ∀ y ∈ lds, ord b y.1 i = true ∨ σ'.same y.2.1.1 y.2.1.2 y.2.2 = true)) := by
  unfold drawOp at h ⊢
  split at h
  · rename_i hk
    obtain ⟨v, σ', h1, h2⟩ := aop_nat hN h
    split at h1
    · rename_i t x hop
      split at h1
      · rename_i p hp
        obtain ⟨h3, h4, h5⟩ := chkC_some h1
        refine ⟨_, _, v, σ', h3, fun K' => ?_, h2, .inr (.inl ⟨hk, rfl, t, x, p, hop, hp, rfl, h4⟩)⟩
        rw [h2]
        exact h5 _
      · simp at h1
    · simp at h1
  · rename_i hk
    obtain ⟨v, σ', h1, h2⟩ := aop_nat hN h
    obtain ⟨h3, h4, h5⟩ := chkL_some h1
    exact ⟨_, _, v, σ', h3, fun K' => by rw [h2]; exact h5 _, h2, .inr (.inr ⟨.inl hk, rfl, rfl, h4⟩)⟩
  · rename_i hk
    obtain ⟨v, σ', h1, h2⟩ := aop_nat hN h
    obtain ⟨h3, h4, h5⟩ := chkL_some h1
    exact ⟨_, _, v, σ', h3, fun K' => by rw [h2]; exact h5 _, h2, .inr (.inr ⟨.inr hk, rfl, rfl, h4⟩)⟩
  · rename_i hk
    obtain ⟨v, σ', h1, h2⟩ := aop_nat hN h
    exact ⟨_, _, v, σ', h1, fun K' => by rw [h2], h2, .inl ⟨hk, rfl, rfl⟩⟩
  · simp at h

/-- Every operation of a region in the text's order, where rounds over maps have one way at most. -/
theorem aopX_nat {call : CallF R} (hN : NatCall call) {o : Oper} {e : Env} {σ : St} {K : AV → St → Option R} {r : R} (h : aopX P false call o e σ K = some r) :
    ∃ v σ', K v σ' = some r ∧ ∀ K', aopX P false call o e σ K' = K' v σ' := by
  have old : (∀ K' : AV → St → Option R, aopX P false call o e σ K' = aop P call o e σ K') → ∃ v σ', K v σ' = some r ∧ ∀ K', aopX P false call o e σ K' = K' v σ' := by
    intro he
    rw [he] at h
    obtain ⟨v, σ', h1, h2⟩ := aop_nat hN h
    exact ⟨v, σ', h1, fun K' => by rw [he, h2]⟩
  cases hop : o.op with
  | range t x =>
    simp only [aopX, hop] at h ⊢
    split at h
    · exact ⟨_, _, h, fun _ => rfl⟩
    · simp only [Option.bind_eq_some_iff] at h
      obtain ⟨s, hs, h⟩ := h
      exact ⟨_, _, h, fun _ => by simp only [hs, Option.bind_some]⟩
    · simp at h
  | next it st =>
    cases st with
    | true => exact old fun K' => by simp only [aopX, hop]
    | false =>
      simp only [aopX, hop] at h ⊢
      split at h
      · unfold nextK at h ⊢
        simp only [Option.bind_eq_some_iff] at h
        obtain ⟨q, hq, h⟩ := h
        obtain ⟨mo, q2⟩ := q
        cases mo with
        | none => exact ⟨_, _, h, fun _ => by simp only [hq, Option.bind_some]⟩
        | some mb =>
          simp only [Option.bind_eq_some_iff] at h
          obtain ⟨s, hs, l, hl, h⟩ := h
          by_cases hle : l.isEmpty = true
          · rw [if_pos hle] at h
            exact ⟨_, _, h, fun _ => by simp only [hq, hs, hl, Option.bind_some, if_pos hle]⟩
          · rw [if_neg hle] at h
            simp only [Bool.false_eq_true, if_false] at h
            split at h
            · exact ⟨_, _, h, fun _ => by simp only [hq, hs, hl, Option.bind_some, if_neg hle, Bool.false_eq_true, if_false]⟩
            · simp at h
      · simp at h
  | convert s d x =>
    by_cases hm : ∃ el o n c z, P.underlying s = some (.slice el) ∧ P.underlying d = some .string ∧ ev P e x = .slice o n c z
    · obtain ⟨el, o1, n, c, z, h1, h2, h3⟩ := hm
      simp only [aopX, hop, h1, h2, h3] at h ⊢
      split at h
      · rename_i hc
        simp only [Option.bind_eq_some_iff] at h
        obtain ⟨cs, hcs, b, hb, h⟩ := h
        exact ⟨_, _, h, fun _ => by simp only [if_pos hc, hcs, hb, Option.bind_some]⟩
      · simp at h
    · refine old fun K' => ?_
      simp only [aopX, hop]
      split
      · rename_i el o1 n c z h1 h2 h3; exact absurd ⟨el, o1, n, c, z, h1, h2, h3⟩ hm
      · rfl
  | extract x i =>
    simp only [aopX, hop] at h ⊢
    split at h
    · simp only [Option.bind_eq_some_iff] at h
      obtain ⟨v, hv, h⟩ := h
      split at h
      · rename_i hs
        obtain ⟨h1, h2⟩ := castVal_nat h
        exact ⟨_, _, h1, fun _ => by simp only [hv, Option.bind_some, if_pos hs]; exact h2 _ _⟩
      · rename_i hs
        exact ⟨_, _, h, fun _ => by simp only [hv, Option.bind_some, if_neg hs, Bool.false_eq_true, if_false]⟩
    · simp at h
  | entry it =>
    simp only [aopX, hop] at h ⊢
    split at h
    · simp only [Option.bind_eq_some_iff] at h
      obtain ⟨x, hx, h⟩ := h
      exact ⟨_, _, h, fun _ => by simp only [hx, Option.bind_some]⟩
    · simp at h
  | call c =>
    cases hc : c.callee with
    | builtin b =>
      cases b with
      | delete =>
        simp only [aopX, hop, hc] at h ⊢
        split at h
        · split at h
          · simp only [Option.bind_eq_some_iff] at h
            obtain ⟨q, hq, h⟩ := h
            split at h
            · exact ⟨_, _, h, fun _ => by simp only [hq, Option.bind_some]⟩
            · simp only [Option.bind_eq_some_iff] at h
              obtain ⟨s, hs, es, hes, h⟩ := h
              exact ⟨_, _, h, fun _ => by simp only [hq, hs, hes, Option.bind_some]⟩
          · simp at h
        · simp at h
      | len =>
        by_cases hm : ∃ t mo, c.argTypes.toList = [t] ∧ evArgs P e c.argTypes.toList c.args.toList = [.map mo]
        · obtain ⟨t, mo, h1, h2⟩ := hm
          simp only [h1] at h2
          simp only [aopX, hop, hc, h1, h2] at h ⊢
          split at h
          · simp only [Option.bind_eq_some_iff] at h
            obtain ⟨es, hes, h⟩ := h
            exact ⟨_, _, h, fun _ => by simp only [hes, Option.bind_some]⟩
          · simp at h
        · refine old fun K' => ?_
          simp only [aopX, hop, hc]
          split
          · rename_i t mo h1 h2; exact absurd ⟨t, mo, h1, h2⟩ hm
          · rfl
      | _ => exact old fun K' => by simp only [aopX, hop, hc]
    | _ => exact old fun K' => by simp only [aopX, hop, hc]
  | _ => exact old fun K' => by simp only [aopX, hop]

theorem opsK_nat {call : CallF R} (hN : NatCall call) {ops : Array Oper} : ∀ {l : List Oper} {K : Env → St → Option R} {e : Env} {σ : St} {r : R}, opsK P false call ops l K e σ = some r →
    ∃ e' σ', K e' σ' = some r ∧ ∀ K', opsK P false call ops l K' e σ = K' e' σ' := by
  intro l
  induction l with
  | nil => intro K e σ r h; exact ⟨e, σ, h, fun _ => rfl⟩
  | cons o rest ih =>
    intro K e σ r h
    simp only [opsK] at h ⊢
    split at h
    · obtain ⟨v, σ1, h1, h2⟩ := aopX_nat hN h
      obtain ⟨e', σ', h3, h4⟩ := ih h1
      exact ⟨e', σ', h3, fun K' => by rw [h2, h4]⟩
    · simp at h
    · rename_i g want hg
      split at h
      · obtain ⟨e', σ', h3, h4⟩ := ih h
        exact ⟨e', σ', h3, fun K' => by rw [h4]⟩
      · rename_i t hv
        cases t with
        | true =>
          simp only [if_true] at h ⊢
          cases want with
          | true =>
            simp only [if_true] at h ⊢
            obtain ⟨v, σ1, h1, h2⟩ := aopX_nat hN h
            obtain ⟨e', σ', h3, h4⟩ := ih h1
            exact ⟨e', σ', h3, fun K' => by rw [h2, h4]⟩
          | false =>
            simp only [Bool.false_eq_true, if_false] at h ⊢
            obtain ⟨e', σ', h3, h4⟩ := ih h
            exact ⟨e', σ', h3, fun K' => by rw [h4]⟩
        | false =>
          simp only [Bool.false_eq_true, if_false] at h ⊢
          cases want with
          | true =>
            simp only [if_true] at h ⊢
            obtain ⟨e', σ', h3, h4⟩ := ih h
            exact ⟨e', σ', h3, fun K' => by rw [h4]⟩
          | false =>
            simp only [Bool.false_eq_true, if_false] at h ⊢
            obtain ⟨v, σ1, h1, h2⟩ := aopX_nat hN h
            obtain ⟨e', σ', h3, h4⟩ := ih h1
            exact ⟨e', σ', h3, fun K' => by rw [h2, h4]⟩
      · simp at h

theorem drawK_nat {call : CallF R} (hN : NatCall call) {ops : Array Oper} {b : Array Nat} : ∀ {l : List Oper} {i : Nat} {chg : List (Nat × St)} {lds : List (Nat × (Nat × Nat) × List AV)} {K : Env → St → Option R} {e : Env} {σ : St} {r : R},
    drawK P call ops b l i chg lds K e σ = some r → ∃ e' σ', K e' σ' = some r ∧ ∀ K', drawK P call ops b l i chg lds K' e σ = K' e' σ' := by
  intro l
  induction l with
  | nil => intro i chg lds K e σ r h; exact ⟨e, σ, h, fun _ => rfl⟩
  | cons o rest ih =>
    intro i chg lds K e σ r h
    simp only [drawK] at h ⊢
    split at h
    · obtain ⟨c', l', v, σ1, h1, h2, _⟩ := drawOp_nat hN h
      obtain ⟨e', σ', h3, h4⟩ := ih h1
      exact ⟨e', σ', h3, fun K' => by rw [h2, h4]⟩
    · simp at h
    · rename_i g want hg
      split at h
      · obtain ⟨e', σ', h3, h4⟩ := ih h
        exact ⟨e', σ', h3, fun K' => by rw [h4]⟩
      · rename_i t hv
        cases t with
        | true =>
          simp only [if_true] at h ⊢
          cases want with
          | true =>
            simp only [if_true] at h ⊢
            obtain ⟨c', l', v, σ1, h1, h2, _⟩ := drawOp_nat hN h
            obtain ⟨e', σ', h3, h4⟩ := ih h1
            exact ⟨e', σ', h3, fun K' => by rw [h2, h4]⟩
          | false =>
            simp only [Bool.false_eq_true, if_false] at h ⊢
            obtain ⟨e', σ', h3, h4⟩ := ih h
            exact ⟨e', σ', h3, fun K' => by rw [h4]⟩
        | false =>
          simp only [Bool.false_eq_true, if_false] at h ⊢
          cases want with
          | true =>
            simp only [if_true] at h ⊢
            obtain ⟨e', σ', h3, h4⟩ := ih h
            exact ⟨e', σ', h3, fun K' => by rw [h4]⟩
          | false =>
            simp only [Bool.false_eq_true, if_false] at h ⊢
            obtain ⟨c', l', v, σ1, h1, h2, _⟩ := drawOp_nat hN h
            obtain ⟨e', σ', h3, h4⟩ := ih h1
            exact ⟨e', σ', h3, fun K' => by rw [h2, h4]⟩
      · simp at h

/-- A run in continuation form that is natural. -/
def NatRun (f : KF R → Env → St → Option R) : Prop := ∀ K e σ r, f K e σ = some r → ∃ x e' σ', K x e' σ' = some r ∧ ∀ K', f K' e σ = K' x e' σ'

theorem loopK_nat {body : KF R → Env → St → Option R} (hb : NatRun body) {A : Ann} : ∀ n, NatRun (loopK body A n) := by
  intro n
  induction n with
  | zero => intro K e σ r h; simp [loopK] at h
  | succ n ih =>
    intro K e σ r h
    simp only [loopK, seqC] at h ⊢
    obtain ⟨x, e', σ', h1, h2⟩ := hb _ _ _ _ h
    cases x with
    | normal =>
      obtain ⟨x2, e2, σ2, h3, h4⟩ := ih _ _ _ _ h1
      exact ⟨x2, e2, σ2, h3, fun K' => by rw [h2]; exact h4 K'⟩
    | exit i => exact ⟨.exit i, e', σ', h1, fun K' => by rw [h2]; rfl⟩
    | ret => exact ⟨.ret, e', σ', h1, fun K' => by rw [h2]; rfl⟩

theorem runK_nat {call : Bool → CallF R} (hN : NatCall (call false)) {N : Nat} : ∀ (c : Code) (A : Ann), NatRun (runK P call false N c A) := by
  intro c
  induction c with
  | skip => intro A K e σ r h; simp only [runK, seqC, condC, blockC] at h ⊢; exact ⟨.normal, e, σ, h, fun _ => rfl⟩
  | region id ops draw =>
    intro A K e σ r h
    cases draw with
    | false =>
      simp only [runK, seqC, condC, blockC] at h ⊢
      obtain ⟨e', σ', h1, h2⟩ := opsK_nat hN h
      exact ⟨.normal, e', σ', h1, fun K' => h2 _⟩
    | true =>
      simp only [runK, seqC, condC, blockC] at h ⊢
      split at h
      · rename_i hok
        obtain ⟨e', σ', h1, h2⟩ := drawK_nat hN h
        exact ⟨.normal, e', σ', h1, fun K' => by rw [if_pos hok]; exact h2 _⟩
      · simp at h
  | seq x y ihx ihy =>
    intro A K e σ r h
    simp only [runK, seqC, condC, blockC] at h ⊢
    obtain ⟨z, e', σ', h1, h2⟩ := ihx _ _ _ _ _ h
    cases z with
    | normal =>
      obtain ⟨z2, e2, σ2, h3, h4⟩ := ihy _ _ _ _ _ h1
      exact ⟨z2, e2, σ2, h3, fun K' => by rw [h2]; exact h4 K'⟩
    | exit i => exact ⟨.exit i, e', σ', h1, fun K' => by rw [h2]; rfl⟩
    | ret => exact ⟨.ret, e', σ', h1, fun K' => by rw [h2]; rfl⟩
  | cond c x y ihx ihy =>
    intro A K e σ r h
    simp only [runK, condC, Option.bind_eq_some_iff] at h ⊢
    obtain ⟨t, ht, h⟩ := h
    cases t with
    | true =>
      simp only [if_true] at h
      obtain ⟨z, e', σ', h1, h2⟩ := ihx _ _ _ _ _ h
      cases z with
      | normal => exact ⟨.normal, A.clr e', σ', h1, fun K' => by simp only [ht, Option.bind_some, if_true]; rw [h2]; rfl⟩
      | exit i => exact ⟨.exit i, e', σ', h1, fun K' => by simp only [ht, Option.bind_some, if_true]; rw [h2]; rfl⟩
      | ret => exact ⟨.ret, e', σ', h1, fun K' => by simp only [ht, Option.bind_some, if_true]; rw [h2]; rfl⟩
    | false =>
      simp only [Bool.false_eq_true, if_false] at h
      obtain ⟨z, e', σ', h1, h2⟩ := ihy _ _ _ _ _ h
      cases z with
      | normal => exact ⟨.normal, A.clr e', σ', h1, fun K' => by simp only [ht, Option.bind_some, Bool.false_eq_true, if_false]; rw [h2]; rfl⟩
      | exit i => exact ⟨.exit i, e', σ', h1, fun K' => by simp only [ht, Option.bind_some, Bool.false_eq_true, if_false]; rw [h2]; rfl⟩
      | ret => exact ⟨.ret, e', σ', h1, fun K' => by simp only [ht, Option.bind_some, Bool.false_eq_true, if_false]; rw [h2]; rfl⟩
  | block id c ih =>
    intro A K e σ r h
    simp only [runK, seqC, condC, blockC] at h ⊢
    obtain ⟨z, e', σ', h1, h2⟩ := ih _ _ _ _ _ h
    cases z with
    | normal => exact ⟨.normal, A.clr e', σ', h1, fun K' => by rw [h2]; rfl⟩
    | exit i =>
      simp only [blockC] at h1
      split at h1
      · rename_i hi; exact ⟨.normal, A.clr e', σ', h1, fun K' => by rw [h2]; simp only [blockC, if_pos hi]⟩
      · rename_i hi; exact ⟨.exit i, e', σ', h1, fun K' => by rw [h2]; simp only [blockC, if_neg hi]⟩
    | ret => exact ⟨.ret, e', σ', h1, fun K' => by rw [h2]; rfl⟩
  | loop c ih =>
    intro A K e σ r h
    simp only [runK, seqC, condC, blockC] at h ⊢
    exact loopK_nat (body := fun K e σ => runK P call false N c A.l K e σ) (ih A.l) N _ _ _ _ h
  | exit id => intro A K e σ r h; simp only [runK, seqC, condC, blockC] at h ⊢; exact ⟨.exit id, A.clr e, σ, h, fun _ => rfl⟩
  | ret => intro A K e σ r h; simp only [runK, seqC, condC, blockC] at h ⊢; exact ⟨.ret, A.clr e, σ, h, fun _ => rfl⟩
  | _ => intro A K e σ r h; simp [runK] at h

theorem resK_nat {e : Env} {σ : St} : ∀ {rs : List ResultVar} {K : List AV → Option R} {r : R}, resK P e σ rs K = some r → ∃ vs, K vs = some r ∧ ∀ K' : List AV → Option R, resK P e σ rs K' = K' vs := by
  intro rs
  induction rs with
  | nil => intro K r h; exact ⟨[], h, fun _ => rfl⟩
  | cons rv rs ih =>
    intro K r h
    cases rv with
    | tmp t =>
      simp only [resK] at h ⊢
      obtain ⟨vs, h1, h2⟩ := ih h
      exact ⟨_, h1, fun K' => h2 _⟩
    | cell x t =>
      simp only [resK] at h ⊢
      split at h
      · rename_i p shs hp hsh
        split at h
        · rename_i hl
          obtain ⟨cs, h1, h2, h3, h4⟩ := ldT_some h
          by_cases ha : isAggT P t = true
          · simp only [ha, if_true] at h1
            obtain ⟨vs, h5, h6⟩ := ih h1
            exact ⟨_, h5, fun K' => by rw [if_pos hl, h4 σ h3]; simp only [ha, if_true]; exact h6 _⟩
          · simp only [ha, if_false, Bool.false_eq_true] at h1
            split at h1
            · obtain ⟨vs, h5, h6⟩ := ih h1
              exact ⟨_, h5, fun K' => by rw [if_pos hl, h4 σ h3]; simp only [ha, if_false, Bool.false_eq_true]; exact h6 _⟩
            · simp at h1
        · simp at h
      · simp at h

theorem callK_nat [S : Spec] {N : Nat} {ann : FuncId → Ann} : ∀ d, NatCall (R := R) (callK P N ann d false) := by
  intro d
  induction d with
  | zero => intro f args σ K r h; simp [callK] at h
  | succ d ih =>
    intro f args σ K r h
    simp only [callK] at h ⊢
    split at h
    · exact ⟨_, _, h, fun _ => rfl⟩
    unfold bodyK at h ⊢
    split at h
    · simp at h
    · rename_i fn hfn
      split at h
      · simp at h
      · rename_i hname
        split at h
        · simp at h
        · rename_i c hbody
          obtain ⟨x, e', σ', h1, h2⟩ := runK_nat ih _ _ _ _ _ _ h
          have fin : (resK P e' σ' fn.results.toList fun vs => K (packRes vs) σ') = some r → ∃ v σ', K v σ' = some r ∧ ∀ K' : AV → St → Option R,
              runK P (callK P N ann d) false N c (ann f) (bodyC P fn.results.toList K') (args ++ List.replicate (fn.ntmps - args.length) .undef) σ = K' v σ' := by
            intro hk
            obtain ⟨vs, h3, h4⟩ := resK_nat hk
            refine ⟨_, _, h3, fun K' => ?_⟩
            rw [h2]
            cases x with
            | normal => exact h4 _
            | ret => exact h4 _
            | exit i => simp [bodyC] at h1
          cases x with
          | normal => obtain ⟨v, σ2, h3, h4⟩ := fin h1; exact ⟨v, σ2, h3, fun K' => by simp only [if_neg hname, hbody]; exact h4 K'⟩
          | ret => obtain ⟨v, σ2, h3, h4⟩ := fin h1; exact ⟨v, σ2, h3, fun K' => by simp only [if_neg hname, hbody]; exact h4 K'⟩
          | exit i => simp [bodyC] at h1

end

end Go.AM
