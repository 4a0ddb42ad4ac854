/- The abstract machine against the model: regions that draw their order. -/
import Derived.Test.YtnjhcfcnpapaiaaGreatDoorA23
set_option linter.unusedVariables false
set_option linter.unusedSimpArgs false
namespace Go.AM
open Go.RowKit (Below)

/-- Nothing lives there. -/
def Dd (x : Option Blk) : Prop := x = none ∨ x = some .dead

theorem Sim.congr {B : Nat} {σ σ' : St} {m : Mp} {w : World} (hs : Sim B σ m w) (h : ∀ i, σ'.get i = σ.get i ∨ Dd (σ'.get i)) : Sim B σ' m w := by
  have conv : ∀ i x, σ'.get i = some x → (x.own = true ∨ x.isObj = true ∨ (∃ c o, x = .cells c o) ∨ ∃ g c, x = .glob g c) → σ.get i = some x := by
    intro i x hi hx
    rcases h i with h | h | h
    · rw [← h]; exact hi
    · rw [h] at hi; cases hi
    · rw [h] at hi; cases hi; simp [Blk.own, Blk.isObj] at hx
  refine ⟨fun id cs own h => hs.row id cs own (conv _ _ h (.inr (.inr (.inl ⟨_, _, rfl⟩)))), fun id x h hx => hs.obj id x (conv _ _ h (.inr (.inl hx))) hx, ?_, hs.le, hs.globs (.refl _ _) (Below.refl B w) fun id n cs hid => conv _ _ hid (.inr (.inr (.inr ⟨_, _, rfl⟩)))⟩
  intro i j x y L M hi hj hx hy
  exact hs.sep i j x y L M (conv _ _ hi (.inl hx)) (conv _ _ hj (.inl hy)) hx hy

theorem Sim.dead {B : Nat} {σ : St} {m : Mp} {w : World} (hs : Sim B σ m w) {i : Nat} (h : m i = none) : Dd (σ.get i) := by
  cases hx : σ.get i with
  | none => exact .inl rfl
  | some x =>
    cases ho : x.isObj with
    | true => obtain ⟨L, o, h1, _⟩ := hs.obj i x hx ho; rw [h] at h1; cases h1
    | false =>
      cases x with
      | cells c o => obtain ⟨L, ccs, el, fr, h1, _⟩ := hs.row i c o hx; rw [h] at h1; cases h1
      | dead => exact .inr rfl
      | glob g cs => obtain ⟨⟨_, L, hL⟩, _⟩ := hs.glob i g cs hx; rw [h] at hL; cases hL
      | _ => simp [Blk.isObj] at ho

theorem St.ld_live {σ : St} {b off : Nat} {v : AV} (h : σ.ld b off = some v) : ¬ Dd (σ.get b) := by
  obtain ⟨cs, own, h1, _⟩ := St.ld_some h
  rw [h1]; rintro (h | h) <;> cases h

theorem St.ld_get {σ σ' : St} {b off : Nat} (h : σ'.get b = σ.get b) : σ'.ld b off = σ.ld b off := by
  simp [St.ld, St.row, h]

theorem St.same_live {σ : St} {b off : Nat} {vs : List AV} (h : σ.same b off vs = true) : ¬ Dd (σ.get b) := by
  have h := St.same_lds h
  unfold St.lds St.row at h
  rintro (hd | hd) <;> rw [hd] at h <;> simp at h

theorem Env.at_put (e : Env) (d : Option Tmp) (v : AV) (t : Nat) : (Env.put e d v).at t = if d = some t ∧ t < e.length then v else e.at t := by
  cases d with
  | none => simp [Env.put]
  | some d =>
    simp only [Env.put, Env.at, List.getElem?_set, Option.some.injEq]
    by_cases hd : d = t
    · subst hd
      by_cases hl : d < e.length
      · simp [hl]
      · simp [hl]
    · simp [hd]

theorem Env.put_length (e : Env) (d : Option Tmp) (v : AV) : (Env.put e d v).length = e.length := by
  cases d <;> simp [Env.put]

theorem Env.ext_at {e e' : Env} (hl : e.length = e'.length) (h : ∀ t, e.at t = e'.at t) : e = e' := by
  apply List.ext_getElem hl
  intro i h1 h2
  have := h i
  simpa [Env.at, List.getElem?_eq_getElem h1, List.getElem?_eq_getElem h2] using this

section
variable {B : Nat} {P : Program} {R : Type}

/-- What the proof of a drawn region stands on. -/
structure Run (B : Nat) (P : Program) (call : CallF R) (ops : Array Oper) (E : Nat → Env) (S : Nat → St) (V : Nat → AV) (ran : Nat → Bool) (pt : Nat → Nat × Nat) : Prop where
  hN : NatCall call
  hC : SoundCall B P call
  hok : drawOK ops = true
  text : Text P call ops (Region.before ops) 0 ops.size E S V ran pt

variable {call : CallF R} {ops : Array Oper} {E : Nat → Env} {S : Nat → St} {V : Nat → AV} {ran : Nat → Bool} {pt : Nat → Nat × Nat}

def EffAt (ops : Array Oper) (ran : Nat → Bool) (j : Nat) : Prop := ran j = true ∧ kindOf (opAt ops j) = .effect
def AlAt (ops : Array Oper) (ran : Nat → Bool) (j : Nat) : Prop := ran j = true ∧ kindOf (opAt ops j) = .alloc

open Classical in
/-- A continuation that knows what it wants. -/
noncomputable def want (r : R) (v : AV) (σ : St) : AV → St → Option R := fun v' σ' => if v' = v ∧ σ' = σ then some r else none

theorem want_some {r : R} {v v' : AV} {σ σ' : St} (h : want r v σ v' σ' = some r) : v' = v ∧ σ' = σ := by
  unfold want at h
  split at h
  · assumption
  · simp at h
theorem want_self (r : R) (v : AV) (σ : St) : want r v σ v σ = some r := by simp [want]

theorem Run.does (X : Run B P call ops E S V ran pt) {j : Nat} (hj : j < ops.size) (hr : ran j = true) (K : AV → St → Option R) : aop P call (opAt ops j) (E j) (S j) K = K (V j) (S (j + 1)) := by
  obtain ⟨_, h | ⟨_, _, h, _⟩⟩ := X.text.step j (Nat.zero_le _) hj
  · rw [h.1] at hr; cases hr
  · exact h K

theorem Run.wants (X : Run B P call ops E S V ran pt) (r : R) {j : Nat} (hj : j < ops.size) (hr : ran j = true) : aop P call (opAt ops j) (E j) (S j) (want r (V j) (S (j + 1))) = some r := by
  rw [X.does hj hr]; exact want_self r _ _

theorem Run.still (X : Run B P call ops E S V ran pt) (r : R) {j : Nat} (hj : j < ops.size) (h1 : ¬ AlAt ops ran j) (h2 : ¬ EffAt ops ran j) : S (j + 1) = S j := by
  obtain ⟨_, h | ⟨h, _⟩⟩ := X.text.step j (Nat.zero_le _) hj
  · exact h.2.2.1
  · obtain ⟨v, σ', q1, _, q3⟩ := aop_nat' X.hN (X.wants r hj h)
    rw [← (want_some q1).2]
    refine q3 ?_
    have hb := (drawOK_edge X.hok hj).1
    cases hk : kindOf (opAt ops j) with
    | quiet => exact .inl rfl
    | load => exact .inr rfl
    | alloc => exact absurd ⟨h, hk⟩ h1
    | effect => exact absurd ⟨h, hk⟩ h2
    | bad => exact absurd hk hb

theorem Run.alloc (X : Run B P call ops E S V ran pt) (r : R) {j : Nat} (hj : j < ops.size) (h : AlAt ops ran j) : ∃ bx, S (j + 1) = (S j).new bx := by
  obtain ⟨cs, val, h1, _⟩ := alloc_op h.2 (X.wants r hj h.1) X.hC.1
  exact ⟨cs, (want_some h1).2.symm⟩

theorem Run.length (X : Run B P call ops E S V ran pt) : ∀ j, j ≤ ops.size → (E j).length = (E 0).length := by
  intro j
  induction j with
  | zero => intro _; rfl
  | succ j ih =>
    intro hj
    rw [(X.text.step j (Nat.zero_le _) (by omega)).1, Env.put_length, ih (by omega)]

theorem Run.at (X : Run B P call ops E S V ran pt) {t y : Nat} : ∀ (d : Nat), y + d ≤ ops.size → (∀ k, y ≤ k → k < y + d → (opAt ops k).dst ≠ some t) → (E (y + d)).at t = (E y).at t := by
  intro d
  induction d with
  | zero => intro _ _; rfl
  | succ d ih =>
    intro hd h
    rw [← Nat.add_assoc, (X.text.step (y + d) (Nat.zero_le _) (by omega)).1, Env.at_put, if_neg (fun hc => h (y + d) (by omega) (by omega) hc.1)]
    exact ih (by omega) fun k h1 h2 => h k h1 (by omega)

theorem Run.at' (X : Run B P call ops E S V ran pt) {t y x : Nat} (hyx : y ≤ x) (hx : x ≤ ops.size) (h : ∀ k, y ≤ k → k < x → (opAt ops k).dst ≠ some t) : (E x).at t = (E y).at t := by
  obtain ⟨d, rfl⟩ : ∃ d, x = y + d := ⟨x - y, by omega⟩
  exact X.at d hx h

/-- Between two effects rows are added, and no more. -/
theorem Run.segment (X : Run B P call ops E S V ran pt) (r : R) {y : Nat} : ∀ (d : Nat), y + d ≤ ops.size → (∀ k, y ≤ k → k < y + d → ¬ EffAt ops ran k) →
    (S y).next ≤ (S (y + d)).next ∧ (∀ i, i < (S y).next ∨ (S (y + d)).next ≤ i → (S (y + d)).get i = (S y).get i) ∧
    ∀ i, (S y).next ≤ i → i < (S (y + d)).next → ∃ k, y ≤ k ∧ k < y + d ∧ AlAt ops ran k ∧ (S k).next = i := by
  intro d
  induction d with
  | zero => intro _ _; exact ⟨Nat.le_refl _, fun _ _ => rfl, fun i h1 h2 => absurd h1 (by simp at h2; omega)⟩
  | succ d ih =>
    intro hd h
    obtain ⟨h1, h2, h3⟩ := ih (by omega) fun k a b => h k a (by omega)
    rw [← Nat.add_assoc]
    by_cases ha : AlAt ops ran (y + d)
    · obtain ⟨cs, hcs⟩ := X.alloc r (by omega) ha
      rw [hcs]
      refine ⟨by simp only [St.next_new]; omega, fun i hi => ?_, fun i hi1 hi2 => ?_⟩
      · simp only [St.next_new] at hi
        rw [St.get_new, if_neg (by omega)]
        exact h2 i (by omega)
      · simp only [St.next_new] at hi2
        by_cases hi : i < (S (y + d)).next
        · obtain ⟨k, k1, k2, k3⟩ := h3 i hi1 hi
          exact ⟨k, k1, by omega, k3⟩
        · exact ⟨y + d, by omega, by omega, ha, by omega⟩
    · rw [X.still r (by omega) ha (h (y + d) (by omega) (by omega))]
      refine ⟨h1, h2, fun i hi1 hi2 => ?_⟩
      obtain ⟨k, k1, k2, k3⟩ := h3 i hi1 hi2
      exact ⟨k, k1, by omega, k3⟩

theorem Run.segment' (X : Run B P call ops E S V ran pt) (r : R) {y x : Nat} (hyx : y ≤ x) (hx : x ≤ ops.size) (h : ∀ k, y ≤ k → k < x → ¬ EffAt ops ran k) :
    (S y).next ≤ (S x).next ∧ (∀ i, i < (S y).next ∨ (S x).next ≤ i → (S x).get i = (S y).get i) ∧
    ∀ i, (S y).next ≤ i → i < (S x).next → ∃ k, y ≤ k ∧ k < x ∧ AlAt ops ran k ∧ (S k).next = i := by
  obtain ⟨d, rfl⟩ : ∃ d, x = y + d := ⟨x - y, by omega⟩
  exact X.segment r d hx h

/-- The next effect, or the end. -/
theorem next_eff (n : Nat) (ran : Nat → Bool) (ops : Array Oper) : ∀ (d q : Nat), q + d = n → ∃ t, q ≤ t ∧ t ≤ n ∧ (∀ k, q ≤ k → k < t → ¬ EffAt ops ran k) ∧ (t = n ∨ EffAt ops ran t) := by
  intro d
  induction d with
  | zero => intro q h; exact ⟨q, Nat.le_refl _, by omega, fun k a b => absurd a (by omega), .inl (by omega)⟩
  | succ d ih =>
    intro q h
    by_cases he : EffAt ops ran q
    · exact ⟨q, Nat.le_refl _, by omega, fun k a b => absurd a (by omega), .inr he⟩
    · obtain ⟨t, t1, t2, t3, t4⟩ := ih (q + 1) (by omega)
      refine ⟨t, by omega, t2, fun k a b => ?_, t4⟩
      by_cases hk : k = q
      · subst hk; exact he
      · exact t3 k (by omega) b


/-- The blocks that are there: up to the last effect, and those made since by operations in D. -/
def Has (S : Nat → St) (ops : Array Oper) (ran : Nat → Bool) (D : Nat → Prop) (q t : Nat) (i : Nat) : Prop :=
  i < (S q).next ∨ ∃ k, D k ∧ q ≤ k ∧ k < t ∧ AlAt ops ran k ∧ (S k).next = i

structure HeapAt (B : Nat) (ops : Array Oper) (S : Nat → St) (ran : Nat → Bool) (D : Nat → Prop) (m : Mp) (w : World) (q t : Nat) (σ : St) : Prop where
  qt : q ≤ t
  tn : t ≤ ops.size
  mid : ∀ k, q ≤ k → k < t → ¬ EffAt ops ran k
  top : t = ops.size ∨ EffAt ops ran t
  bot : q = 0 ∨ (0 < q ∧ EffAt ops ran (q - 1))
  effs : ∀ k, k < ops.size → EffAt ops ran k → (D k ↔ k < q)
  sim : Sim B σ m w
  dead : ∀ i, (S q).next ≤ i → Dd ((S q).get i)
  here : ∀ i, Has S ops ran D q t i → σ.get i = (S t).get i
  gone : ∀ i, ¬ Has S ops ran D q t i → Dd (σ.get i) ∧ m i = none

structure EnvAt (ops : Array Oper) (E : Nat → Env) (D : Nat → Prop) (m : Mp) (w : World) (a : Act) (e : Env) : Prop where
  rep : RepE m w e a
  len : e.length = (E 0).length
  rd : ∀ t x, x ≤ ops.size → (∀ k, k < ops.size → (opAt ops k).dst = some t → (D k ↔ k < x)) → e.at t = (E x).at t

/-- What holds while such a region runs: of the operations in D, and where the last effect lies. -/
structure Inv (B : Nat) (ops : Array Oper) (E : Nat → Env) (S : Nat → St) (ran : Nat → Bool) (m0 : Mp) (w0 : World) (D : Nat → Prop) (m : Mp) (w : World) (a : Act) : Prop where
  lt : ∀ j, D j → j < ops.size
  closed : ∀ i j, D j → ord (Region.before ops) i j = true → D i
  env : ∃ e, EnvAt ops E D m w a e
  heap : ∃ q t σ, HeapAt B ops S ran D m w q t σ
  defers : a.defers = []
  grows : Grows m0 w0 m w
  below : Below B w0 w

/-- An operation whose turn may have come. -/
structure Turn (ops : Array Oper) (D : Nat → Prop) (j : Nat) : Prop where
  lt : j < ops.size
  new : ¬ D j
  pre : ∀ i, ord (Region.before ops) i j = true → D i

variable {D : Nat → Prop} {m m0 : Mp} {w w0 : World} {a : Act}

theorem Run.pair (X : Run B P call ops E S V ran pt) {i j : Nat} (hij : i < j) (hj : j < ops.size) (ho : ord (Region.before ops) i j = false) :
    (∀ d, (opAt ops i).dst = some d → d ∉ (opAt ops j).looksAt ops ∧ (opAt ops j).dst ≠ some d) ∧ (∀ d, (opAt ops j).dst = some d → d ∉ (opAt ops i).looksAt ops) ∧
    ¬ (kindOf (opAt ops i) = .effect ∧ kindOf (opAt ops j) = .effect) ∧ ¬ (kindOf (opAt ops i) = .effect ∧ kindOf (opAt ops j) = .alloc) ∧ ¬ (kindOf (opAt ops i) = .alloc ∧ kindOf (opAt ops j) = .effect) :=
  pair_apart ((drawOK_edge X.hok hj).2.2 i hij) ho

theorem ordF {b : Array Nat} {i j : Nat} (h : ¬ ord b i j = true) : ord b i j = false := by simpa using h

/-- What the operation looks at stands in the environment. -/
theorem Run.looks (X : Run B P call ops E S V ran pt) (hcl : ∀ i j, D j → ord (Region.before ops) i j = true → D i) {j : Nat} (T : Turn ops D j) {e : Env} (he : EnvAt ops E D m w a e) {t : Nat} (ht : t ∈ (opAt ops j).looksAt ops) : e.at t = (E j).at t := by
  refine he.rd t j (Nat.le_of_lt T.lt) fun k hk hd => ?_
  rcases Nat.lt_trichotomy k j with h | h | h
  · refine ⟨fun _ => h, fun _ => ?_⟩
    by_cases ho : ord (Region.before ops) k j = true
    · exact T.pre k ho
    · exact absurd ht ((X.pair h T.lt (ordF ho)).1 t hd).1
  · subst h; exact ⟨fun hD => absurd hD T.new, fun h => absurd h (by omega)⟩
  · refine ⟨fun hD => ?_, fun h' => absurd h' (by omega)⟩
    by_cases ho : ord (Region.before ops) j k = true
    · exact absurd (hcl j k hD ho) T.new
    · exact absurd ht ((X.pair h hk (ordF ho)).2.1 t hd)

theorem Run.envStep (X : Run B P call ops E S V ran pt) (hcl : ∀ i j, D j → ord (Region.before ops) i j = true → D i) {j : Nat} (T : Turn ops D j) {e : Env} (he : EnvAt ops E D m w a e) {m' : Mp} {w' : World} (hg : Grows m w m' w')
    {cv : Value} (hv : RepV m' w' (V j) cv) : EnvAt ops E (fun k => D k ∨ k = j) m' w' (a.put (opAt ops j).dst cv) (Env.put e (opAt ops j).dst (V j)) := by
  refine ⟨(he.rep.mono hg).put _ hv, by rw [Env.put_length]; exact he.len, fun t x hx h => ?_⟩
  rw [Env.at_put]
  by_cases hd : (opAt ops j).dst = some t
  · have hjx : j < x := (h j T.lt hd).1 (.inr rfl)
    have hno : ∀ k, j + 1 ≤ k → k < x → (opAt ops k).dst ≠ some t := by
      intro k hk1 hk2 hdk
      have hDk : D k := by
        rcases (h k (by omega) hdk).2 hk2 with h | h
        · exact h
        · omega
      by_cases ho : ord (Region.before ops) j k = true
      · exact T.new (hcl j k hDk ho)
      · exact ((X.pair (by omega) (by omega) (ordF ho)).1 t hd).2 hdk
    rw [X.at' (y := j + 1) (by omega) hx hno, (X.text.step j (Nat.zero_le _) T.lt).1, Env.at_put, X.length j (Nat.le_of_lt T.lt), he.len]
    by_cases hl : t < (E 0).length
    · rw [if_pos ⟨hd, hl⟩, if_pos ⟨hd, hl⟩]
    · rw [if_neg (fun h => hl h.2), if_neg (fun h => hl h.2)]
      have o : ∀ (e : Env), e.length = (E 0).length → e.at t = .undef := fun e he => by
        simp [Env.at, List.getElem?_eq_none (show e.length ≤ t from by rw [he]; exact Nat.le_of_not_lt hl)]
      rw [o e he.len, o _ (X.length j (Nat.le_of_lt T.lt))]
  · rw [if_neg (fun h => hd h.1)]
    refine he.rd t x hx fun k hk hdk => ?_
    have hkj : k ≠ j := fun h => hd (h ▸ hdk)
    rw [← h k hk hdk]
    simp [hkj]

/-- Nothing that is quiet or a load moves the heap's side. -/
theorem HeapAt.same {q t : Nat} {σ : St} (H : HeapAt B ops S ran D m w q t σ) {j : Nat} (h1 : ¬ AlAt ops ran j) (h2 : ¬ EffAt ops ran j) : HeapAt B ops S ran (fun k => D k ∨ k = j) m w q t σ := by
  have hh : ∀ i, Has S ops ran (fun k => D k ∨ k = j) q t i ↔ Has S ops ran D q t i := by
    intro i
    unfold Has
    refine or_congr Iff.rfl ⟨fun ⟨k, a, b⟩ => ⟨k, ?_, b⟩, fun ⟨k, a, b⟩ => ⟨k, .inl a, b⟩⟩
    rcases a with a | a
    · exact a
    · subst a; exact absurd b.2.2.1 h1
  refine ⟨H.qt, H.tn, H.mid, H.top, H.bot, fun k hk he => ?_, H.sim, H.dead, fun i hi => H.here i ((hh i).1 hi), fun i hi => H.gone i (fun h => hi ((hh i).2 h))⟩
  rw [← H.effs k hk he]
  have hkj : k ≠ j := fun h => h2 (h ▸ he)
  simp [hkj]

/-- A load reads in the heap that is there what it reads in the text's order. -/
theorem Run.loads (X : Run B P call ops E S V ran pt) (r : R) (hcl : ∀ i j, D j → ord (Region.before ops) i j = true → D i) {j : Nat} (T : Turn ops D j) (hr : ran j = true) (hk : kindOf (opAt ops j) = .load) {q t : Nat} {σ : St} (H : HeapAt B ops S ran D m w q t σ)
    (hcells : ∀ i u, (V j).cells[i]? = some u → (S j).ld (pt j).1 ((pt j).2 + i) = some u) : ∀ i u, (V j).cells[i]? = some u → σ.ld (pt j).1 ((pt j).2 + i) = some u := by
  -- a state of the text that reads alike, of this stretch
  have key : ∀ x, q ≤ x → x ≤ t → x ≤ j → (∀ i u, (V j).cells[i]? = some u → (S x).ld (pt j).1 ((pt j).2 + i) = some u) → ∀ i u, (V j).cells[i]? = some u → σ.ld (pt j).1 ((pt j).2 + i) = some u := by
    intro x hqx hxt hxj hc i u hu
    have hl := hc i u hu
    have hlive := St.ld_live hl
    obtain ⟨n1, g1, s1⟩ := X.segment' r hqx (Nat.le_trans hxt H.tn) fun k a b => H.mid k a (by omega)
    obtain ⟨n2, g2, s2⟩ := X.segment' r hxt H.tn fun k a b => H.mid k (by omega) b
    have hlt : (pt j).1 < (S x).next := by
      refine Nat.lt_of_not_le fun hge => hlive ?_
      rw [g1 _ (.inr hge)]
      exact H.dead _ (by omega)
    have hhas : Has S ops ran D q t (pt j).1 := by
      by_cases hq : (pt j).1 < (S q).next
      · exact .inl hq
      · obtain ⟨k, k1, k2, k3, k4⟩ := s1 _ (by omega) hlt
        refine .inr ⟨k, ?_, k1, by omega, k3, k4⟩
        by_cases ho : ord (Region.before ops) k j = true
        · exact T.pre k ho
        · rcases X.text.load k j (Nat.zero_le _) (by omega) T.lt k3.1 hr (.inl k3.2) hk with h | h
          · exact absurd h ho
          · obtain ⟨n3, g3, _⟩ := X.segment' r k1 (by have := H.tn; omega) fun k' a b => H.mid k' a (by omega)
            exact absurd (by rw [← k4, g3 _ (.inr (Nat.le_refl _))]; exact H.dead _ n3) (St.same_live h)
    rw [St.ld_get ((H.here _ hhas).trans (g2 _ (.inl hlt)))]
    exact hl
  have same : ∀ (s : St), s.same (pt j).1 (pt j).2 (V j).cells = true → ∀ i u, (V j).cells[i]? = some u → s.ld (pt j).1 ((pt j).2 + i) = some u := fun s h => (St.lds_ld (St.same_lds h)).2
  by_cases hjq : j < q
  · -- an effect has run that may come behind it
    have hb := H.bot
    rcases hb with hb | ⟨hb0, hb⟩
    · omega
    · have hjb : j < q - 1 := by
        rcases Nat.lt_or_ge j (q - 1) with h | h
        · exact h
        · have : j = q - 1 := by omega
          have h2 := hb.2
          rw [← this, hk] at h2; cases h2
      have hqn : q - 1 < ops.size := by have := H.qt; have := H.tn; omega
      have hD : D (q - 1) := (H.effs _ hqn hb).2 (by omega)
      rcases X.text.change j (q - 1) (Nat.zero_le _) hjb hqn hr hb.1 hk (.inr hb.2) with h | h
      · exact absurd (hcl j _ hD h) T.new
      · rw [show q - 1 + 1 = q by omega] at h
        -- what the state behind it reads
        intro i u hu
        have hl := same _ h i u hu
        have hlt : (pt j).1 < (S q).next := Nat.lt_of_not_le fun hge => St.ld_live hl (H.dead _ hge)
        obtain ⟨n2, g2, _⟩ := X.segment' r H.qt H.tn H.mid
        rw [St.ld_get ((H.here _ (.inl hlt)).trans (g2 _ (.inl hlt)))]
        exact hl
  · by_cases hjt : j ≤ t
    · exact key j (by omega) hjt (Nat.le_refl _) hcells
    · have hT : EffAt ops ran t := by
        rcases H.top with h | h
        · have := T.lt; omega
        · exact h
      have htn : t < ops.size := by have := T.lt; omega
      rcases X.text.load t j (Nat.zero_le _) (by omega) T.lt hT.1 hr (.inr hT.2) hk with h | h
      · have := (H.effs t htn hT).1 (T.pre t h)
        have := H.qt; omega
      · exact key t H.qt (Nat.le_refl _) (by omega) (same _ h)

end
end Go.AM
