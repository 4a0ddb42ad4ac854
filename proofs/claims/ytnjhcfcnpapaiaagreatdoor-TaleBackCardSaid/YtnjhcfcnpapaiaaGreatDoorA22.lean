/- The abstract machine against the model: a region that draws its order: the run in the text's order, written out. -/
import Derived.Test.YtnjhcfcnpapaiaaGreatDoorA21
set_option linter.unusedVariables false
set_option linter.unusedSimpArgs false
namespace Go.AM

def Chg (o : Oper) : Prop := kindOf o = .alloc ∨ kindOf o = .effect

section
variable {P : Program} {R : Type}

/-- One step of the run in the text's order. -/
def StepOK (P : Program) (call : CallF R) (ops : Array Oper) (E : Nat → Env) (S : Nat → St) (V : Nat → AV) (ran : Nat → Bool) (pt : Nat → Nat × Nat) (j : Nat) : Prop :=
  E (j + 1) = Env.put (E j) (opAt ops j).dst (V j) ∧
  ((ran j = false ∧ V j = .tuple [] ∧ S (j + 1) = S j ∧ ∃ g want, guardOf ops (opAt ops j) = .on g want ∧ ((E j).at g = .tuple [] ∨ (E j).at g = .bool (!want))) ∨
   (ran j = true ∧ (guardOf ops (opAt ops j) = .none ∨ ∃ g want, guardOf ops (opAt ops j) = .on g want ∧ (E j).at g = .bool want) ∧
    (∀ K' : AV → St → Option R, aop P call (opAt ops j) (E j) (S j) K' = K' (V j) (S (j + 1))) ∧
    (kindOf (opAt ops j) = .load → ∃ t x, (opAt ops j).op = .load t x ∧ ev P (E j) x = .ptr (some (pt j)))))

/-- The run in the text's order, from operation i on. -/
structure Text (P : Program) (call : CallF R) (ops : Array Oper) (b : Array Nat) (i n : Nat) (E : Nat → Env) (S : Nat → St) (V : Nat → AV) (ran : Nat → Bool) (pt : Nat → Nat × Nat) : Prop where
  step : ∀ j, i ≤ j → j < n → StepOK P call ops E S V ran pt j
  load : ∀ k j, i ≤ k → k < j → j < n → ran k = true → ran j = true → Chg (opAt ops k) → kindOf (opAt ops j) = .load → ord b k j = true ∨ (S k).same (pt j).1 (pt j).2 (V j).cells = true
  change : ∀ k j, i ≤ k → k < j → j < n → ran k = true → ran j = true → kindOf (opAt ops k) = .load → Chg (opAt ops j) → ord b k j = true ∨ (S (j + 1)).same (pt k).1 (pt k).2 (V k).cells = true

abbrev TextEnd (P : Program) (call : CallF R) (ops : Array Oper) (b : Array Nat) (i n : Nat) (chg : List (Nat × St)) (lds : List (Nat × (Nat × Nat) × List AV)) (e : Env) (σ : St) (K : Env → St → Option R) (r : R) : Prop :=
  ∃ E S V ran pt, E i = e ∧ S i = σ ∧ Text P call ops b i n E S V ran pt ∧ K (E n) (S n) = some r ∧
    (∀ j, i ≤ j → j < n → ran j = true → kindOf (opAt ops j) = .load → ∀ y ∈ chg, ord b y.1 j = true ∨ y.2.same (pt j).1 (pt j).2 (V j).cells = true) ∧
    (∀ j, i ≤ j → j < n → ran j = true → Chg (opAt ops j) → ∀ y ∈ lds, ord b y.1 j = true ∨ (S (j + 1)).same y.2.1.1 y.2.1.2 y.2.2 = true)

theorem drawK_text {call : CallF R} (hN : NatCall call) {ops : Array Oper} {b : Array Nat} {K : Env → St → Option R} {r : R} : ∀ (l : List Oper) (i : Nat) (chg : List (Nat × St)) (lds : List (Nat × (Nat × Nat) × List AV)) (e : Env) (σ : St),
    drawK P call ops b l i chg lds K e σ = some r → (∀ j, l[j]? = ops[i + j]?) →
    TextEnd P call ops b i (i + l.length) chg lds e σ K r := by
  intro l
  induction l with
  | nil =>
    intro i chg lds e σ h _
    refine ⟨fun _ => e, fun _ => σ, fun _ => .undef, fun _ => false, fun _ => (0, 0), rfl, rfl, ⟨fun j h1 h2 => absurd h2 (by simp; omega), fun k j h1 h2 h3 => absurd h3 (by simp; omega), fun k j h1 h2 h3 => absurd h3 (by simp; omega)⟩, h, fun j h1 h2 => absurd h2 (by simp; omega), fun j h1 h2 => absurd h2 (by simp; omega)⟩
  | cons o rest ih =>
    intro i chg lds e σ h hl
    have ho : opAt ops i = o := by
      have := hl 0
      simp at this
      simp [opAt, Array.getD_eq_getD_getElem?, ← this]
    have hrest : ∀ j, rest[j]? = ops[i + 1 + j]? := by
      intro j
      have := hl (j + 1)
      rw [show i + 1 + j = i + (j + 1) by omega, ← this]; simp
    have hlen : i + (o :: rest).length = i + 1 + rest.length := by simp; omega
    rw [hlen]
    -- a step, and what follows it
    have join : ∀ (v : AV) (σ1 : St) (rn : Bool) (p : Nat × Nat) (chg' : List (Nat × St)) (lds' : List (Nat × (Nat × Nat) × List AV)),
        drawK P call ops b rest (i + 1) chg' lds' K (Env.put e o.dst v) σ1 = some r →
        ((rn = false ∧ v = .tuple [] ∧ σ1 = σ ∧ ∃ g want, guardOf ops o = .on g want ∧ (e.at g = .tuple [] ∨ e.at g = .bool (!want))) ∨
          (rn = true ∧ (guardOf ops o = .none ∨ ∃ g want, guardOf ops o = .on g want ∧ e.at g = .bool want) ∧ (∀ K' : AV → St → Option R, aop P call o e σ K' = K' v σ1) ∧
            (kindOf o = .load → ∃ t x, o.op = .load t x ∧ ev P e x = .ptr (some p)))) →
        (∀ y ∈ chg, y ∈ chg') → (∀ y ∈ lds, y ∈ lds') → (rn = true → Chg o → (i, σ) ∈ chg') → (rn = true → kindOf o = .load → (i, p, v.cells) ∈ lds') →
        (rn = true → kindOf o = .load → ∀ y ∈ chg, ord b y.1 i = true ∨ y.2.same p.1 p.2 v.cells = true) → (rn = true → Chg o → ∀ y ∈ lds, ord b y.1 i = true ∨ σ1.same y.2.1.1 y.2.1.2 y.2.2 = true) →
        TextEnd P call ops b i (i + 1 + rest.length) chg lds e σ K r := by
      intro v σ1 rn p chg' lds' hk hstep hc hd hci hdi hcl hdl
      obtain ⟨E, S, V, ran, pt, q1, q2, q3, q4, q5, q6⟩ := ih (i + 1) chg' lds' _ _ hk hrest
      have eE : ∀ j, i < j → (if j = i then e else E j) = E j := fun j hj => if_neg (by omega)
      have eS : ∀ j, i < j → (if j = i then σ else S j) = S j := fun j hj => if_neg (by omega)
      have eV : ∀ j, i < j → (if j = i then v else V j) = V j := fun j hj => if_neg (by omega)
      have er : ∀ j, i < j → (if j = i then rn else ran j) = ran j := fun j hj => if_neg (by omega)
      have ep : ∀ j, i < j → (if j = i then p else pt j) = pt j := fun j hj => if_neg (by omega)
      refine ⟨fun j => if j = i then e else E j, fun j => if j = i then σ else S j, fun j => if j = i then v else V j, fun j => if j = i then rn else ran j, fun j => if j = i then p else pt j, by simp, by simp, ⟨?_, ?_, ?_⟩, ?_, ?_, ?_⟩
      · intro j hj1 hj2
        by_cases hji : j = i
        · subst hji
          unfold StepOK
          simp only [↓reduceIte, ho]
          rw [eE (j + 1) (by omega), eS (j + 1) (by omega), q1, q2]
          exact ⟨rfl, hstep⟩
        · have := q3.step j (by omega) (by omega)
          unfold StepOK at this ⊢
          simp only [eE j (by omega), eE (j + 1) (by omega), eS j (by omega), eS (j + 1) (by omega), eV j (by omega), er j (by omega), ep j (by omega)]
          exact this
      · intro k j hk1 hk2 hj hrk hrj hck hlj
        replace hrj : ran j = true := by rw [← er j (by omega)]; exact hrj
        simp only [eV j (by omega), ep j (by omega)]
        by_cases hki : k = i
        · subst hki
          simp only [↓reduceIte] at hrk ⊢
          rw [ho] at hck
          exact q5 j (by omega) hj hrj hlj _ (hci hrk hck)
        · replace hrk : ran k = true := by rw [← er k (by omega)]; exact hrk
          simp only [eS k (by omega)]
          exact q3.load k j (by omega) hk2 hj hrk hrj hck hlj
      · intro k j hk1 hk2 hj hrk hrj hlk hcj
        replace hrj : ran j = true := by rw [← er j (by omega)]; exact hrj
        simp only [eS (j + 1) (by omega)]
        by_cases hki : k = i
        · subst hki
          simp only [↓reduceIte] at hrk ⊢
          rw [ho] at hlk
          exact q6 j (by omega) hj hrj hcj _ (hdi hrk hlk)
        · replace hrk : ran k = true := by rw [← er k (by omega)]; exact hrk
          simp only [eV k (by omega), ep k (by omega)]
          exact q3.change k j (by omega) hk2 hj hrk hrj hlk hcj
      · simp only [eE (i + 1 + rest.length) (by omega), eS (i + 1 + rest.length) (by omega)]
        exact q4
      · intro j hj1 hj2 hrj hlj y hy
        by_cases hji : j = i
        · subst hji
          simp only [↓reduceIte] at hrj ⊢
          rw [ho] at hlj
          exact hcl hrj hlj y hy
        · replace hrj : ran j = true := by rw [← er j (by omega)]; exact hrj
          simp only [eV j (by omega), ep j (by omega)]
          exact q5 j (by omega) hj2 hrj hlj y (hc y hy)
      · intro j hj1 hj2 hrj hcj y hy
        by_cases hji : j = i
        · subst hji
          simp only [↓reduceIte] at hrj
          rw [ho] at hcj
          simp only [eS (j + 1) (by omega)]
          rw [q2]
          exact hdl hrj hcj y hy
        · replace hrj : ran j = true := by rw [← er j (by omega)]; exact hrj
          simp only [eS (j + 1) (by omega)]
          exact q6 j (by omega) hj2 hrj hcj y (hd y hy)
    -- an operation that runs
    have run : (guardOf ops o = .none ∨ ∃ g want, guardOf ops o = .on g want ∧ e.at g = .bool want) →
        (drawOp P call b i o chg lds e σ fun chg lds v σ' => drawK P call ops b rest (i + 1) chg lds K (Env.put e o.dst v) σ') = some r → TextEnd P call ops b i (i + 1 + rest.length) chg lds e σ K r := fun hg h => by
      obtain ⟨c', l', v, σ1, h1, _, h3, h4⟩ := drawOp_nat hN h
      rcases h4 with ⟨hk, rfl, rfl⟩ | ⟨hk, rfl, t, x, p, hop, hp, rfl, hchk⟩ | ⟨hk, rfl, rfl, hchk⟩
      · exact join v σ1 true (0, 0) _ _ h1 (.inr ⟨rfl, hg, h3, fun hl => by rw [hk] at hl; cases hl⟩) (fun _ h => h) (fun _ h => h) (fun _ hc => by rcases hc with hc | hc <;> rw [hk] at hc <;> cases hc)
          (fun _ hl => by rw [hk] at hl; cases hl) (fun _ hl => by rw [hk] at hl; cases hl) (fun _ hc => by rcases hc with hc | hc <;> rw [hk] at hc <;> cases hc)
      · exact join v σ1 true p _ _ h1 (.inr ⟨rfl, hg, h3, fun _ => ⟨t, x, hop, hp⟩⟩) (fun _ h => h) (fun _ h => List.mem_cons_of_mem _ h) (fun _ hc => by rcases hc with hc | hc <;> rw [hk] at hc <;> cases hc)
          (fun _ _ => List.mem_cons_self) (fun _ _ => hchk) (fun _ hc => by rcases hc with hc | hc <;> rw [hk] at hc <;> cases hc)
      · exact join v σ1 true (0, 0) _ _ h1 (.inr ⟨rfl, hg, h3, fun hl => by rcases hk with hk | hk <;> rw [hk] at hl <;> cases hl⟩) (fun _ h => List.mem_cons_of_mem _ h) (fun _ h => h) (fun _ _ => List.mem_cons_self)
          (fun _ hl => by rcases hk with hk | hk <;> rw [hk] at hl <;> cases hl) (fun _ hl => by rcases hk with hk | hk <;> rw [hk] at hl <;> cases hl) (fun _ _ => hchk)
    -- one that is left out
    have skip : (∃ g want, guardOf ops o = .on g want ∧ (e.at g = .tuple [] ∨ e.at g = .bool (!want))) → drawK P call ops b rest (i + 1) chg lds K (Env.put e o.dst (.tuple [])) σ = some r → TextEnd P call ops b i (i + 1 + rest.length) chg lds e σ K r := fun hg h =>
      join (.tuple []) σ false (0, 0) chg lds h (.inl ⟨rfl, rfl, rfl, hg⟩) (fun _ h => h) (fun _ h => h) (fun hf => by cases hf) (fun hf => by cases hf) (fun hf => by cases hf) (fun hf => by cases hf)
    simp only [drawK] at h
    split at h
    · rename_i hg; exact run (.inl hg) h
    · simp at h
    · rename_i g want hg
      split at h
      · rename_i hv; exact skip ⟨g, want, hg, .inl hv⟩ h
      · rename_i t hv
        cases t with
        | true =>
          simp only [if_true] at h
          rw [Env.set_same hv (by simp)] at h
          cases want with
          | true => simp only [if_true] at h; exact run (.inr ⟨g, true, hg, hv⟩) h
          | false => simp only [Bool.false_eq_true, if_false] at h; exact skip ⟨g, false, hg, .inr (by simpa using hv)⟩ h
        | false =>
          simp only [Bool.false_eq_true, if_false] at h
          rw [Env.set_same hv (by simp)] at h
          cases want with
          | true => simp only [if_true] at h; exact skip ⟨g, true, hg, .inr (by simpa using hv)⟩ h
          | false => simp only [Bool.false_eq_true, if_false] at h; exact run (.inr ⟨g, false, hg, hv⟩) h
      · simp at h

end

end Go.AM
