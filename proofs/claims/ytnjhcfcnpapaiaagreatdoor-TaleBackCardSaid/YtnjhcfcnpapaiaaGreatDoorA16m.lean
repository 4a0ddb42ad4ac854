/- The abstract machine against the model: maps, kept by the order in which they were filled. -/
import Derived.Test.YtnjhcfcnpapaiaaGreatDoorA16
import Derived.MapKept
set_option linter.unusedVariables false
set_option linter.unusedSimpArgs false
namespace Go.AM
open Go.RowKit (Below)

section
variable {B : Nat} {σ : St} {m : Mp} {w : World} {P : Program} {R : Type}

theorem plainSh_some {t : TypeId} {s : Sh} (h : plainSh P t = some s) : ∃ d, P.underlying t = some d ∧ ((d = .bool ∧ s = .bool) ∨ (∃ k, d = .int k ∧ s = .int k) ∨ (d = .string ∧ s = .str)) := by
  unfold plainSh at h
  split at h
  · rename_i hu; cases h; exact ⟨_, hu, .inl ⟨rfl, rfl⟩⟩
  · rename_i k hu; cases h; exact ⟨_, hu, .inr (.inl ⟨k, rfl, rfl⟩)⟩
  · rename_i hu; cases h; exact ⟨_, hu, .inr (.inr ⟨rfl, rfl⟩)⟩
  · simp at h

theorem plainSh_aeq {t : TypeId} {s : Sh} (h : plainSh P t = some s) (n : Nat) (x y : AV) : aeqT P (n + 1) t x y = eqCell s x y := by
  obtain ⟨d, hu, hd⟩ := plainSh_some h
  unfold aeqT
  rcases hd with ⟨rfl, rfl⟩ | ⟨k, rfl, rfl⟩ | ⟨rfl, rfl⟩ <;> simp [hu]

theorem plainSh_part {t : TypeId} {s : Sh} (h : plainSh P t = some s) (cs : List AV) (i : Nat) : partOf P t cs i = cs[i]? := by
  obtain ⟨d, hu, hd⟩ := plainSh_some h
  unfold partOf isAggT
  rcases hd with ⟨rfl, rfl⟩ | ⟨k, rfl, rfl⟩ | ⟨rfl, rfl⟩ <;> simp [hu]

theorem eqFs_cells {n : Nat} : ∀ (fs : List Field) (i : Nat) (shs : List Sh), fieldsSh P i fs = some shs → ∀ (xs ys : List AV) (b : Bool), eqCells shs (xs.drop i) (ys.drop i) = some b → eqFs P (aeqT P (n + 1)) xs ys fs = some b := by
  intro fs
  induction fs with
  | nil =>
    intro i shs h xs ys b hb
    simp only [fieldsSh, Option.some.injEq] at h
    subst h
    cases hx : xs.drop i <;> cases hy : ys.drop i <;> simp [hx, hy, eqCells] at hb
    subst hb; rfl
  | cons f fs ih =>
    intro i shs h xs ys b hb
    simp only [fieldsSh] at h
    split at h
    · simp at h
    · rename_i hn
      simp only [not_or, Decidable.not_not] at hn
      obtain ⟨hn, ho⟩ := hn
      simp only [Option.bind_eq_some_iff, Option.some.injEq] at h
      obtain ⟨s, hs, r, hr, rfl⟩ := h
      cases hx : xs.drop i with
      | nil => simp [hx, eqCells] at hb
      | cons x xt =>
        cases hy : ys.drop i with
        | nil => simp [hx, hy, eqCells] at hb
        | cons y yt =>
          simp only [hx, hy, eqCells, Option.bind_eq_some_iff, Option.some.injEq] at hb
          obtain ⟨a, ha, c, hc, rfl⟩ := hb
          have h1 : xs[i]? = some x := by have := congrArg (fun l => l[0]?) hx; simpa using this
          have h2 : ys[i]? = some y := by have := congrArg (fun l => l[0]?) hy; simpa using this
          have h3 : xs.drop (i + 1) = xt := by rw [← List.tail_drop, hx]; rfl
          have h4 : ys.drop (i + 1) = yt := by rw [← List.tail_drop, hy]; rfl
          simp only [eqFs, if_neg hn, ho, plainSh_part hs, h1, h2, Option.bind_some, plainSh_aeq hs, ha]
          rw [ih (i + 1) r hr xs ys c (by rw [h3, h4]; exact hc)]
          rfl

theorem key_aeq {kt : TypeId} {q : Bool × List Sh} (h : keySh P kt = some q) {x y : AV} {xs ys : List AV} (hx : keyCells q.1 x = some xs) (hy : keyCells q.1 y = some ys) {b : Bool} (hb : eqCells q.2 xs ys = some b) (n : Nat) :
    aeqT P (n + 2) kt x y = some b := by
  unfold keySh at h
  split at h
  · rename_i fs hu
    split at h
    · simp at h
    · rename_i hst
      simp only [Option.bind_eq_some_iff, Option.some.injEq] at h
      obtain ⟨r, hr, rfl⟩ := h
      simp only [keyCells, if_true] at hx hy
      obtain rfl := AV.toAgg_some hx
      obtain rfl := AV.toAgg_some hy
      unfold aeqT
      simp only [hu, if_neg hst]
      exact eqFs_cells fs.toList 0 r hr xs ys b (by simpa using hb)
  · simp only [Option.bind_eq_some_iff, Option.some.injEq] at h
    obtain ⟨s, hs, rfl⟩ := h
    simp only [keyCells, Bool.false_eq_true, if_false, Option.some.injEq] at hx hy
    subst hx hy
    simp only [eqCells, Option.bind_eq_some_iff, Option.some.injEq] at hb
    obtain ⟨a, ha, c, rfl, rfl⟩ := hb
    rw [plainSh_aeq hs, ha]; simp

theorem run_checkPlain {t : TypeId} {s : Sh} (h : plainSh P t = some s) (v : Value) (emp : Bool) (n : Nat) (w' : World) : (Instr.checkKey emp (n + 1) t v).run P w' = .ok () w' := by
  obtain ⟨d, hu, hd⟩ := plainSh_some h
  unfold Instr.checkKey
  simp only [Sem.run_bind, run_underlying hu, Result.andThen_ok]
  rcases hd with ⟨rfl, rfl⟩ | ⟨k, rfl, rfl⟩ | ⟨rfl, rfl⟩ <;> simp

theorem eqCells_len : ∀ {shs : List Sh} {xs ys : List AV} {b : Bool}, eqCells shs xs ys = some b → xs.length = shs.length ∧ ys.length = shs.length := by
  intro shs
  induction shs with
  | nil => intro xs ys b h; cases xs <;> cases ys <;> simp [eqCells] at h; simp
  | cons s shs ih =>
    intro xs ys b h
    cases xs with
    | nil => simp [eqCells] at h
    | cons x xs =>
      cases ys with
      | nil => simp [eqCells] at h
      | cons y ys =>
        simp only [eqCells, Option.bind_eq_some_iff] at h
        obtain ⟨a, ha, c, hc, _⟩ := h
        have := ih hc
        simp [this.1, this.2]

theorem run_checkFields (n : Nat) (emp : Bool) (us : Array Value) (w' : World) : ∀ (fs : List Field) (i : Nat) (shs : List Sh), fieldsSh P i fs = some shs → i + shs.length ≤ us.size →
    (forIn (m := Sem) fs PUnit.unit fun f _ => do
      if f.name ≠ "_" then Instr.checkKey emp (n + 1) f.type (← part f.type us f.offset)
      pure (ForInStep.yield PUnit.unit)).run P w' = .ok PUnit.unit w' := by
  intro fs
  induction fs with
  | nil => intro i shs _ _; simp
  | cons f fs ih =>
    intro i shs h hl
    simp only [fieldsSh] at h
    split at h
    · simp at h
    · rename_i hn
      simp only [not_or, Decidable.not_not] at hn
      obtain ⟨hn, ho⟩ := hn
      simp only [Option.bind_eq_some_iff, Option.some.injEq] at h
      obtain ⟨s, hs, r, hr, rfl⟩ := h
      simp only [List.length_cons] at hl
      have hpart : (part f.type us f.offset).run P w' = .ok (us[i]'(by omega)) w' := by
        obtain ⟨d, hu, hd⟩ := plainSh_some hs
        have hagg : isAggT P f.type = false := by
          unfold isAggT
          rcases hd with ⟨rfl, rfl⟩ | ⟨k, rfl, rfl⟩ | ⟨rfl, rfl⟩ <;> simp [hu]
        unfold part
        simp [run_isAggT hu, hagg, ho]
        have : i < us.size := by omega
        simp [this]
      simp only [List.forIn_cons, ne_eq, hn, not_false_eq_true, if_true, Sem.run_bind, hpart, run_checkPlain hs, Sem.run_pure, Result.andThen_ok]
      exact ih (i + 1) r hr (by omega)

theorem run_checkKey' {kt : TypeId} {q : Bool × List Sh} (h : keySh P kt = some q) {x : AV} {xs : List AV} (hx : keyCells q.1 x = some xs) {b : Bool} (hb : eqCells q.2 xs xs = some b) {u : Value} (hu : RepV m w x u) (emp : Bool) (w' : World) :
    (Instr.checkKey emp 10000 kt u).run P w' = .ok () w' := by
  unfold keySh at h
  split at h
  · rename_i fs hd
    split at h
    · simp at h
    · rename_i hst
      simp only [Option.bind_eq_some_iff, Option.some.injEq] at h
      obtain ⟨r, hr, rfl⟩ := h
      simp only [keyCells, if_true] at hx
      obtain rfl := AV.toAgg_some hx
      cases hu with
      | agg _ us hus =>
        have hl := hus.length
        have hl2 := (eqCells_len hb).1
        have hf := run_checkFields (P := P) 9998 emp us w' fs.toList 0 r hr (by simp at hl; simp at hl2; omega)
        rw [show (10000 : Nat) = 9998 + 1 + 1 from rfl]
        unfold Instr.checkKey
        simp only [Sem.run_bind, run_underlying hd, Result.andThen_ok]
        rw [← Array.forIn_toList]
        simp at hf ⊢
        rw [hf]
        rfl
  · simp only [Option.bind_eq_some_iff, Option.some.injEq] at h
    obtain ⟨s, hs, rfl⟩ := h
    exact run_checkPlain hs u emp 9999 w'

theorem eqCell_bits' {s : Sh} {x y : AV} {u v : Value} (h : eqCell s x y = some true) (hx : RepV m w x u) (hy : RepV m w y v) (n : Nat) : Instr.sameBits n v u = true := by
  cases s <;> cases x <;> cases y <;> simp [eqCell] at h <;> cases hx <;> cases hy
  · subst h; cases n <;> simp [Instr.sameBits, beq_bytes]
  · obtain ⟨⟨rfl, rfl⟩, rfl⟩ := h; cases n <;> simp [Instr.sameBits]
  · subst h; cases n <;> simp [Instr.sameBits, beq_bytes]

theorem eqCells_bits (n : Nat) : ∀ {shs : List Sh} {xs ys : List AV} {us vs : List Value}, eqCells shs xs ys = some true → RepL m w xs us → RepL m w ys vs →
    vs.length = us.length ∧ ((vs.zip us).all fun p => Instr.sameBits n p.1 p.2) = true := by
  intro shs
  induction shs with
  | nil =>
    intro xs ys us vs h hx hy
    cases xs <;> cases ys <;> simp [eqCells] at h
    cases hx; cases hy; simp
  | cons s shs ih =>
    intro xs ys us vs h hx hy
    cases xs with
    | nil => simp [eqCells] at h
    | cons x xs =>
      cases ys with
      | nil => simp [eqCells] at h
      | cons y ys =>
        simp only [eqCells, Option.bind_eq_some_iff, Option.some.injEq, Bool.and_eq_true] at h
        obtain ⟨a, ha, c, hc, rfl, rfl⟩ := h
        cases hx with
        | cons _ u _ ut h1 h2 =>
          cases hy with
          | cons _ v _ vt h3 h4 =>
            obtain ⟨q1, q2⟩ := ih hc h2 h4
            exact ⟨by simp [q1], by simp only [List.zip_cons_cons, List.all_cons, Bool.and_eq_true]; exact ⟨eqCell_bits' ha h1 h3 n, q2⟩⟩

theorem key_bits {q : Bool × List Sh} {x y : AV} {xs ys : List AV} (hx : keyCells q.1 x = some xs) (hy : keyCells q.1 y = some ys) (hb : eqCells q.2 xs ys = some true) {u v : Value} (hu : RepV m w x u) (hv : RepV m w y v) :
    Instr.sameBits 10000 v u = true := by
  obtain ⟨ag, shs⟩ := q
  cases ag with
  | true =>
    simp only [keyCells, if_true] at hx hy
    obtain rfl := AV.toAgg_some hx
    obtain rfl := AV.toAgg_some hy
    cases hu with
    | agg _ us hu =>
      cases hv with
      | agg _ vs hv =>
        obtain ⟨q1, q2⟩ := eqCells_bits 9999 hb hu hv
        rw [show (10000 : Nat) = 9999 + 1 from rfl]
        unfold Instr.sameBits
        simp only [Bool.and_eq_true, beq_iff_eq]
        exact ⟨by simpa using q1, q2⟩
  | false =>
    simp only [keyCells, Bool.false_eq_true, if_false, Option.some.injEq] at hx hy
    subst hx hy
    match shs, hb with
    | [], hb => simp [eqCells] at hb
    | [s], hb =>
      simp only [eqCells, Option.bind_eq_some_iff, Option.some.injEq] at hb
      obtain ⟨a, ha, c, rfl, hac⟩ := hb
      simp at hac
      subst hac
      exact eqCell_bits' ha hu hv 10000
    | s :: s2 :: st, hb => simp [eqCells] at hb

/-- What a finder found. -/
def FRep (m : Mp) (w : World) : Option (Nat × AV) → Option (Nat × Value) → Prop
  | none, none => True
  | some p, some q => p.1 = q.1 ∧ RepV m w p.2 q.2
  | _, _ => False

theorem sameNow_plain {t : TypeId} {s : Sh} (h : plainSh P t = some s) {d : TypeDesc} (hu : P.underlying t = some d) {x y : AV} {b : Bool} (hb : eqCell s x y = some b) {u v : Value} (hx : RepV m w x u) (hy : RepV m w y v) :
    Instr.sameNow d u v = some b := by
  obtain ⟨d', hu', hd⟩ := plainSh_some h
  rw [hu] at hu'
  cases hu'
  rcases hd with ⟨rfl, rfl⟩ | ⟨k, rfl, rfl⟩ | ⟨rfl, rfl⟩
  · cases x <;> cases y <;> simp [eqCell] at hb
    cases hx; cases hy; simp [Instr.sameNow, hb]
  · cases x <;> cases y <;> simp [eqCell] at hb
    obtain ⟨⟨rfl, rfl⟩, rfl⟩ := hb
    cases hx; cases hy; simp [Instr.sameNow]
  · cases x <;> cases y <;> simp [eqCell] at hb
    cases hx; cases hy; subst hb; simp [Instr.sameNow, beq_bytes]

theorem findNow_rep {kt : TypeId} {s : Sh} (h : plainSh P kt = some s) {d : TypeDesc} (hd : P.underlying kt = some d) {x : AV} {u : Value} (hu : RepV m w x u) :
    ∀ {es : List (AV × AV × Nat)} {ces : List MapEntry} {i : Nat} {r : Option (Nat × AV)}, RepEs m w es ces → findKey false [s] [x] es i = some r → ∃ r', Instr.findNow d u ces i = some r' ∧ FRep m w r r' := by
  intro es ces i r hr
  induction hr generalizing i r with
  | nil => intro h; simp [findKey] at h; subst h; exact ⟨none, rfl, trivial⟩
  | cons k v n e es ces hk hv hb _ ih =>
    intro hf
    simp only [findKey, keyCells, Bool.false_eq_true, if_false, Option.bind_some, eqCells, Option.bind_eq_some_iff, Option.some.injEq] at hf
    obtain ⟨b, ⟨a, ha, c, rfl, rfl⟩, hf⟩ := hf
    have hn := sameNow_plain h hd ha hu hk
    cases a with
    | true =>
      simp at hf
      subst hf
      exact ⟨some (i, e.val), by simp [Instr.findNow, hn], rfl, hv⟩
    | false =>
      simp at hf
      obtain ⟨r', h1, h2⟩ := ih hf
      exact ⟨r', by simp [Instr.findNow, hn, h1], h2⟩

theorem findAsk_rep {kt : TypeId} {q : Bool × List Sh} (h : keySh P kt = some q) {x : AV} {xs : List AV} (hx : keyCells q.1 x = some xs) {u : Value} (hu : RepV m w x u) (w' : World) :
    ∀ {es : List (AV × AV × Nat)} {ces : List MapEntry} {i : Nat} {r : Option (Nat × AV)}, RepEs m w es ces → findKey q.1 q.2 xs es i = some r → ∃ r', (Instr.findAsking kt u ces i).run P w' = .ok r' w' ∧ FRep m w r r' := by
  intro es ces i r hr
  induction hr generalizing i r with
  | nil => intro h; simp [findKey] at h; subst h; exact ⟨none, by simp [Instr.findAsking], trivial⟩
  | cons k v n e es ces hk hv hb _ ih =>
    intro hf
    simp only [findKey, Option.bind_eq_some_iff] at hf
    obtain ⟨ys, hy, b, hb, hf⟩ := hf
    have he : (Op.equal kt u e.key).run P w' = .ok b w' := aeqT_run (30) _ kt x k u e.key b (by unfold Op.maxDepth; omega) (key_aeq h hx hy hb 28) hu hk w'
    cases b with
    | true =>
      simp at hf
      subst hf
      exact ⟨some (i, e.val), by simp [Instr.findAsking, he], rfl, hv⟩
    | false =>
      simp at hf
      obtain ⟨r', h1, h2⟩ := ih hf
      exact ⟨r', by simp [Instr.findAsking, he, h1], h2⟩

theorem findKey_rep {kt : TypeId} {q : Bool × List Sh} (h : keySh P kt = some q) {x : AV} {xs : List AV} (hx : keyCells q.1 x = some xs) {u : Value} (hu : RepV m w x u) (w' : World)
    {es : List (AV × AV × Nat)} {ces : List MapEntry} {r : Option (Nat × AV)} (hr : RepEs m w es ces) (hf : findKey q.1 q.2 xs es 0 = some r) : ∃ r', (Instr.findKey kt u ces).run P w' = .ok r' w' ∧ FRep m w r r' := by
  have h0 := h
  unfold keySh at h
  split at h
  · rename_i fs hd
    split at h
    · simp at h
    · simp only [Option.bind_eq_some_iff, Option.some.injEq] at h
      obtain ⟨rr, hrr, rfl⟩ := h
      obtain ⟨r', h1, h2⟩ := findAsk_rep h0 hx hu w' hr hf
      cases hr with
      | nil =>
        simp [findKey] at hf
        subst hf
        exact ⟨none, by simp [Instr.findKey, run_underlying hd, Instr.findNow], trivial⟩
      | cons k v n e es ces hk hv hb ht =>
        refine ⟨r', ?_, h2⟩
        have : Instr.sameNow (.struct fs) u e.key = none := by simp [Instr.sameNow]
        simp [Instr.findKey, run_underlying hd, Instr.findNow, this, h1]
  · rename_i hns
    simp only [Option.bind_eq_some_iff, Option.some.injEq] at h
    obtain ⟨s, hs, rfl⟩ := h
    obtain ⟨d, hd, _⟩ := plainSh_some hs
    simp only [keyCells, Bool.false_eq_true, if_false, Option.some.injEq] at hx
    subst hx
    obtain ⟨r', h1, h2⟩ := findNow_rep hs hd hu hr hf
    exact ⟨r', by simp [Instr.findKey, run_underlying hd, h1], h2⟩

/-- What was found is there. -/
theorem findKey_at {ag : Bool} {shs : List Sh} {xs : List AV} : ∀ {es : List (AV × AV × Nat)} {i j : Nat} {v : AV}, findKey ag shs xs es i = some (some (j, v)) →
    i ≤ j ∧ ∃ e, es[j - i]? = some e ∧ e.2.1 = v ∧ ∃ ys, keyCells ag e.1 = some ys ∧ eqCells shs xs ys = some true := by
  intro es
  induction es with
  | nil => intro i j v h; simp [findKey] at h
  | cons e es ih =>
    intro i j v h
    simp only [findKey, Option.bind_eq_some_iff] at h
    obtain ⟨ys, hy, b, hb, h⟩ := h
    cases b with
    | true =>
      simp at h
      obtain ⟨rfl, rfl⟩ := h
      exact ⟨Nat.le_refl _, e, by simp, rfl, ys, hy, hb⟩
    | false =>
      simp at h
      obtain ⟨h1, e', h2, h3⟩ := ih h
      exact ⟨by omega, e', by rw [show j - i = (j - (i + 1)) + 1 by omega]; simpa using h2, h3⟩

theorem RepEs.get {es : List (AV × AV × Nat)} {ces : List MapEntry} (h : RepEs m w es ces) : ∀ {i : Nat} {e : AV × AV × Nat}, es[i]? = some e → ∃ c, ces[i]? = some c ∧ RepV m w e.1 c.key ∧ RepV m w e.2.1 c.val ∧ c.born = e.2.2 := by
  induction h with
  | nil => intro i e h; simp at h
  | cons k v n c es ces hk hv hb _ ih =>
    intro i e h
    cases i with
    | zero => simp at h; subst h; exact ⟨c, by simp, hk, hv, hb⟩
    | succ i => simpa using ih (by simpa using h)

theorem RepEs.length {es : List (AV × AV × Nat)} {ces : List MapEntry} (h : RepEs m w es ces) : es.length = ces.length := by
  induction h with
  | nil => rfl
  | cons => simp [*]

theorem RepEs.app {es fs : List (AV × AV × Nat)} {ces cfs : List MapEntry} (h : RepEs m w es ces) (k : RepEs m w fs cfs) : RepEs m w (es ++ fs) (ces ++ cfs) := by
  induction h with
  | nil => exact k
  | cons _ _ _ _ _ _ hk hv hb _ ih => exact .cons _ _ _ _ _ _ hk hv hb ih

theorem RepEs.modify {es : List (AV × AV × Nat)} {ces : List MapEntry} (h : RepEs m w es ces) {kv xv : AV} {ck cv : Value} (hk : RepV m w kv ck) (hv : RepV m w xv cv) : ∀ (i : Nat),
    RepEs m w (es.modify i fun e => (kv, xv, e.2.2)) (ces.modify i fun e => { e with key := ck, val := cv }) := by
  induction h with
  | nil => intro i; simpa using .nil
  | cons k v n c es ces hk' hv' hb ht ih =>
    intro i
    cases i with
    | zero => simp only [List.modify_zero_cons]; exact .cons _ _ _ _ _ _ hk hv hb ht
    | succ i => simp only [List.modify_succ_cons]; exact .cons _ _ _ _ _ _ hk' hv' hb (ih i)

theorem RepEs.erase {es : List (AV × AV × Nat)} {ces : List MapEntry} (h : RepEs m w es ces) : ∀ (i : Nat), RepEs m w (es.eraseIdx i) (ces.eraseIdx i) := by
  induction h with
  | nil => intro i; simpa using .nil
  | cons k v n c es ces hk hv hb ht ih =>
    intro i
    cases i with
    | zero => simpa using ht
    | succ i => simp only [List.eraseIdx_cons_succ]; exact .cons _ _ _ _ _ _ hk hv hb (ih i)

theorem RepEs.filter {es : List (AV × AV × Nat)} {ces : List MapEntry} (h : RepEs m w es ces) (f : Nat → Bool) : RepEs m w (es.filter fun e => f e.2.2) (ces.filter fun e => f e.born) := by
  induction h with
  | nil => exact .nil
  | cons k v n c es ces hk hv hb ht ih =>
    subst hb
    simp only [List.filter_cons]
    split
    · exact .cons _ _ _ _ _ _ hk hv rfl ih
    · exact ih

def wput (w : World) (r : Nat) (o : Obj) : World := { w with heap := w.heap.setIfInBounds r o }

def isRow : Obj → Bool | .cells _ _ _ => true | _ => false

/-- A map, an iterator, changed. -/
theorem putObj_sim (hs : Sim B σ m w) {b : Nat} {x0 x : Blk} {L : Loc} {o0 o : Obj} (hg : σ.get b = some x0) (h0 : x0.isObj = true) (hm : m b = some L) (hB : B ≤ L.blk ∧ L.base = 0) (hw : w.heap[L.blk]? = some o0) (hr0 : isRow o0 = false) (hr1 : isRow o = false)
    (hx : x.isObj = true) (ho : ObjRep m w x o) :
    Grows m w m (wput w L.blk o) ∧ Below B w (wput w L.blk o) ∧ Sim B (σ.put b x) m (wput w L.blk o) := by
  have hlt : L.blk < w.heap.size := (Array.getElem?_eq_some_iff.1 hw).1
  have hother : ∀ k, k ≠ L.blk → (wput w L.blk o).heap[k]? = w.heap[k]? := by
    intro k hk
    show (w.heap.setIfInBounds _ _)[k]? = _
    rw [Array.getElem?_setIfInBounds, if_neg (Ne.symm hk)]
  have hself : (wput w L.blk o).heap[L.blk]? = some o := by
    show (w.heap.setIfInBounds _ _)[L.blk]? = _
    simp [Array.getElem?_setIfInBounds, hlt]
  have hsz : ∀ k, blkSize (wput w L.blk o) k = blkSize w k := by
    intro k
    unfold blkSize
    by_cases hk : k = L.blk
    · subst hk
      rw [hself, hw]
      cases o <;> simp [isRow] at hr1 <;> cases o0 <;> simp [isRow] at hr0 <;> rfl
    · rw [hother k hk]
  have hgrow : Grows m w m (wput w L.blk o) := ⟨fun _ _ h => h, fun k => Nat.le_of_eq (hsz k).symm⟩
  refine ⟨hgrow, ⟨rfl, rfl, rfl, ?_, fun k hk => hother k (by have := hB.1; omega)⟩, ⟨?_, ?_, ?_, ?_, hs.globs hgrow ⟨rfl, rfl, rfl, by show _ ≤ (w.heap.setIfInBounds _ _).size; simp, fun k hk => hother k (by have := hB.1; omega)⟩ fun id n2 cs2 hid => by
    rw [St.get_put] at hid; split at hid
    · simp only [Option.some.injEq] at hid; subst hid; simp [Blk.isObj] at hx
    · exact hid⟩⟩
  · show _ ≤ (w.heap.setIfInBounds _ _).size
    simp
  · intro id cs own hid
    rw [St.get_put] at hid
    split at hid
    · simp only [Option.some.injEq] at hid; subst hid; simp [Blk.isObj] at hx
    · obtain ⟨L2, c2, el2, fr2, p1, p2, p3, p4, p5, p6, p7, p8⟩ := hs.row id cs own hid
      have hne : L2.blk ≠ L.blk := by
        intro he
        rw [he, hw] at p3
        cases p3
        simp [isRow] at hr0
      exact ⟨L2, c2, el2, fr2, p1, p2, by rw [hother _ hne]; exact p3, p4, RepL.mono hgrow p5, p6, p7, p8⟩
  · intro id y hid hy
    rw [St.get_put] at hid
    split at hid
    · rename_i he
      subst he
      simp only [Option.some.injEq] at hid
      subst hid
      exact ⟨L, o, hm, hB, hself, ho.mono hgrow⟩
    · rename_i hne
      obtain ⟨L2, o2, p1, p2, p3, p4⟩ := hs.obj id y hid hy
      have oy : y.own = true := by cases y <;> simp_all [Blk.isObj, Blk.own]
      have o0' : x0.own = true := by cases x0 <;> simp_all [Blk.isObj, Blk.own]
      have hbne : L2.blk ≠ L.blk := fun he => hne (hs.sep id b _ _ L2 L hid hg oy o0' p1 hm he)
      exact ⟨L2, o2, p1, p2, by rw [hother _ hbne]; exact p3, p4.mono hgrow⟩
  · intro i j x2 y L1 L2 hi hj hx2 hy hL1 hL2 he
    have o0' : x0.own = true := by cases x0 <;> simp_all [Blk.isObj, Blk.own]
    have conv : ∀ {i : Nat} {z : Blk}, (σ.put b x).get i = some z → z.own = true → ∃ z', σ.get i = some z' ∧ z'.own = true := by
      intro i z hi hz
      rw [St.get_put] at hi
      split at hi
      · rename_i he; subst he; exact ⟨_, hg, o0'⟩
      · exact ⟨z, hi, hz⟩
    obtain ⟨x', hx', ox⟩ := conv hi hx2
    obtain ⟨y', hy', oy⟩ := conv hj hy
    exact hs.sep i j x' y' L1 L2 hx' hy' ox oy hL1 hL2 he
  · show B ≤ (w.heap.setIfInBounds _ _).size
    have := hs.le
    simpa using this

theorem St.map_some {b : Nat} {s : List (AV × AV × Nat) × Nat} (h : σ.map b = some s) : σ.get b = some (.map s.1 s.2) := by
  unfold St.map at h
  cases hg : σ.get b with
  | none => simp [hg] at h
  | some x => cases x <;> simp [hg] at h; subst h; rfl

theorem St.iter_some {b : Nat} {s : Option Nat × Nat × List Nat × Nat} (h : σ.iter b = some s) : σ.get b = some (.miter s.1 s.2.1 s.2.2.1 s.2.2.2) := by
  unfold St.iter at h
  cases hg : σ.get b with
  | none => simp [hg] at h
  | some x => cases x <;> simp [hg] at h; subst h; rfl

theorem map_inv {o : Option Nat} {u : Value} (h : RepV m w (.map o) u) : (o = none ∧ u = .map none) ∨ ∃ id L, o = some id ∧ m id = some L ∧ u = .map (some L.blk) := by
  cases h with
  | mnil => exact .inl ⟨rfl, rfl⟩
  | map id L h => exact .inr ⟨id, L, rfl, h, rfl⟩

/-- A map that is there. -/
theorem Sim.mapAt (hs : Sim B σ m w) {b : Nat} {s : List (AV × AV × Nat) × Nat} (h : σ.map b = some s) {L : Loc} (hm : m b = some L) :
    (B ≤ L.blk ∧ L.base = 0) ∧ ∃ ces, w.heap[L.blk]? = some (.map ces s.2) ∧ RepEs m w s.1 ces.toList := by
  obtain ⟨L2, o, h1, h2, h3, h4⟩ := hs.obj b _ (St.map_some h) rfl
  rw [hm] at h1
  obtain rfl := Option.some.inj h1
  cases o with
  | map ces c => obtain ⟨rfl, hr⟩ := h4; exact ⟨h2, ces, h3, hr⟩
  | _ => exact h4.elim

theorem Sim.entries (hs : Sim B σ m w) {o : Option Nat} {es : List (AV × AV × Nat)} (h : σ.entries o = some es) {u : Value} (hu : RepV m w (.map o) u) :
    (u = .map none ∧ es = []) ∨ ∃ r ces c, u = .map (some r) ∧ w.heap[r]? = some (.map ces c) ∧ RepEs m w es ces.toList := by
  rcases map_inv hu with ⟨rfl, rfl⟩ | ⟨id, L, rfl, hL, rfl⟩
  · simp [St.entries] at h; exact .inl ⟨rfl, h⟩
  · simp only [St.entries, Option.bind_eq_some_iff, Option.some.injEq] at h
    obtain ⟨s, hs1, rfl⟩ := h
    obtain ⟨_, ces, h1, h2⟩ := hs.mapAt hs1 hL
    exact .inr ⟨_, ces, _, rfl, h1, h2⟩

theorem keyArg_some {kt : TypeId} {v : AV} {q : Bool × List Sh × List AV} (h : keyArg P kt v = some q) : keySh P kt = some (q.1, q.2.1) ∧ keyCells q.1 v = some q.2.2 ∧ ∃ b, eqCells q.2.1 q.2.2 q.2.2 = some b := by
  unfold keyArg at h
  simp only [Option.bind_eq_some_iff, Option.some.injEq] at h
  obtain ⟨q', h1, c, h2, b, h3, rfl⟩ := h
  exact ⟨h1, h2, b, h3⟩

theorem lookup_op {call : CallF R} {o : Oper} {t : TypeId} {x ix : Operand} {ok : Bool} (hop : o.op = .lookup t x ix ok) {e : Env} {a : Act} {K : AV → St → Option R} {r : R} (h : aop P call o e σ K = some r) (hs : Sim B σ m w) (he : RepE m w e a) :
    Eff B m w P o e a K σ r := by
  unfold Eff
  simp only [aop, hop] at h ⊢
  have hx := ev_rep (P := P) he x
  split at h
  · rename_i kt et mo hu hmo
    rw [hmo] at hx
    simp only [Option.bind_eq_some_iff] at h
    obtain ⟨q, hq, es, hes, r', hr', h⟩ := h
    obtain ⟨k1, k2, b, k3⟩ := keyArg_some hq
    have hk := evT_rep (P := P) he kt ix
    have hc : ∀ emp, (Instr.checkKey emp 10000 kt (a.eval ix)).run P w = .ok () w := fun emp => run_checkKey' k1 k2 k3 hk emp w
    obtain ⟨rr, hfr, hlk⟩ : ∃ rr, FRep m w r' rr ∧ (execOp a.eval o).run P w = ((match rr with | some (_, v) => pure (v, true) | none => do pure (← zeroValue et, false) : Sem (Value × Bool)) >>= fun p => pure (.value (if ok then .tuple #[p.1, .bool p.2] else p.1))).run P w := by
      rcases hs.entries hes hx with ⟨hv, rfl⟩ | ⟨r2, ces, c, hv, h1, h2⟩
      · obtain ⟨rr, hfk, hfr⟩ := findKey_rep k1 k2 hk w .nil hr'
        refine ⟨rr, hfr, ?_⟩
        cases rr with
        | none => simp [execOp, hop, Instr.lookup, run_underlying hu, hv, hc, hfk]; cases Sem.run P (zeroValue et) w <;> rfl
        | some p => simp [execOp, hop, Instr.lookup, run_underlying hu, hv, hc, hfk]
      · obtain ⟨rr, hfk, hfr⟩ := findKey_rep k1 k2 hk w h2 hr'
        refine ⟨rr, hfr, ?_⟩
        cases rr with
        | none => simp [execOp, hop, Instr.lookup, run_underlying hu, hv, hc, hfk, MapKept.run_getObj_map h1]; cases Sem.run P (zeroValue et) w <;> rfl
        | some p => simp [execOp, hop, Instr.lookup, run_underlying hu, hv, hc, hfk, MapKept.run_getObj_map h1]
    cases r' with
    | some p =>
      cases rr with
      | none => exact hfr.elim
      | some p' =>
        obtain ⟨_, hv⟩ := hfr
        obtain ⟨h1, h2⟩ := castVal_nat h
        refine ⟨_, σ, (if ok then .tuple #[p'.2, .bool true] else p'.2), w, m, h1, fun call' K' => by simp only [hu, hmo, hq, hes, hr', Option.bind_some]; exact h2 _ _, .inl (by rw [hlk]; simp), hs, .refl _ _, Below.refl _ _, ?_, .inl ⟨rfl, rfl⟩⟩
        cases ok with
        | true => exact .tuple _ _ (.cons _ _ _ _ hv (.cons _ _ _ _ (.bool true) .nil))
        | false => exact hv
    | none =>
      cases rr with
      | some p' => exact hfr.elim
      | none =>
        simp only [Option.bind_eq_some_iff] at h
        obtain ⟨z, hz, h⟩ := h
        obtain ⟨zv, hz1, hz2⟩ := zeroAV_rep (m := m) (w := w) hz
        refine ⟨_, σ, (if ok then .tuple #[zv, .bool false] else zv), w, m, h, fun call' K' => by simp only [hu, hmo, hq, hes, hr', hz, Option.bind_some], .inl (by rw [hlk]; simp [hz1]), hs, .refl _ _, Below.refl _ _, ?_, .inl ⟨rfl, rfl⟩⟩
        cases ok with
        | true => exact .tuple _ _ (.cons _ _ _ _ hz2 (.cons _ _ _ _ (.bool false) .nil))
        | false => exact hz2
  · simp at h

theorem mapUpdate_op {call : CallF R} {o : Oper} {t : TypeId} {x k v : Operand} (hop : o.op = .mapUpdate t x k v) {e : Env} {a : Act} {K : AV → St → Option R} {r : R} (h : aop P call o e σ K = some r) (hs : Sim B σ m w) (he : RepE m w e a) :
    Eff B m w P o e a K σ r := by
  unfold Eff
  simp only [aop, hop] at h ⊢
  have hx := ev_rep (P := P) he x
  split at h
  · rename_i kt et b hu hmo
    rw [hmo] at hx
    simp only [Option.bind_eq_some_iff] at h
    obtain ⟨q, hq, s, hsm, r', hr', h⟩ := h
    obtain ⟨k1, k2, b', k3⟩ := keyArg_some hq
    have hk := evT_rep (P := P) he kt k
    have hv := evT_rep (P := P) he et v
    have hc : ∀ emp, (Instr.checkKey emp 10000 kt (a.eval k)).run P w = .ok () w := fun emp => run_checkKey' k1 k2 k3 hk emp w
    rcases map_inv hx with ⟨h0, _⟩ | ⟨id, L, hid, hL, hxv⟩
    · simp at h0
    simp only [Option.some.injEq] at hid
    subst hid
    obtain ⟨hB, ces, hw, hrep⟩ := hs.mapAt hsm hL
    unfold mapSet at hr'
    simp only [Option.bind_eq_some_iff] at hr'
    obtain ⟨fr, hfr, hr'⟩ := hr'
    obtain ⟨rr, hfk, hfr2⟩ := findKey_rep k1 k2 hk w hrep hfr
    cases fr with
    | some p =>
      cases rr with
      | none => exact hfr2.elim
      | some p' =>
        simp only [Option.some.injEq] at hr'
        subst hr'
        obtain ⟨hpp, hpv⟩ := hfr2
        obtain ⟨_, e0, he1, he2, ys, hy1, hy2⟩ := findKey_at (i := 0) (j := p.1) (v := p.2) hfr
        obtain ⟨c0, hc1, hc2, _, _⟩ := hrep.get (by simpa using he1)
        have hbits : Instr.sameBits 10000 c0.key (a.eval k) = true := key_bits (q := (q.1, q.2.1)) k2 hy1 hy2 hk hc2
        have hck : ces[p'.1]? = some c0 := by rw [← hpp]; simpa using hc1
        obtain ⟨g1, g2, g3⟩ := putObj_sim hs (St.map_some hsm) rfl hL hB hw rfl (o := .map (ces.modify p'.1 fun e => { e with key := a.eval k, val := a.eval v }) s.2) (x := .map (s.1.modify p.1 fun z => (evT P e kt k, evT P e et v, z.2.2)) s.2) rfl rfl
          ⟨rfl, by rw [Array.toList_modify, hpp]; exact hrep.modify hk hv _⟩
        refine ⟨_, _, undef, _, m, h, fun call' K' => by simp only [hu, hmo, hq, hsm, mapSet, hfr, Option.bind_some], .inr ⟨rfl, ?_⟩, g3, g1, g2, .tuple [] #[] .nil, .inl ⟨rfl, rfl⟩⟩
        simp [execOp, hop, Instr.mapUpdate, run_underlying hu, hxv, hc, hfk, MapKept.run_getObj_map hw, MapKept.run_setObj_map _ hw, hck, Instr.keyThatStays, hbits, wput]
    | none =>
      cases rr with
      | some p' => exact hfr2.elim
      | none =>
        simp only [Option.some.injEq] at hr'
        subst hr'
        obtain ⟨g1, g2, g3⟩ := putObj_sim hs (St.map_some hsm) rfl hL hB hw rfl (o := .map (ces.push { key := a.eval k, val := a.eval v, born := s.2 }) (s.2 + 1)) (x := .map (s.1 ++ [(evT P e kt k, evT P e et v, s.2)]) (s.2 + 1)) rfl rfl
          ⟨rfl, by rw [Array.toList_push]; exact hrep.app (.cons _ _ _ _ _ _ hk hv rfl .nil)⟩
        refine ⟨_, _, undef, _, m, h, fun call' K' => by simp only [hu, hmo, hq, hsm, mapSet, hfr, Option.bind_some], .inr ⟨rfl, ?_⟩, g3, g1, g2, .tuple [] #[] .nil, .inl ⟨rfl, rfl⟩⟩
        simp [execOp, hop, Instr.mapUpdate, run_underlying hu, hxv, hc, hfk, MapKept.run_getObj_map hw, MapKept.run_setObj_map _ hw, wput]
  · simp at h
end
end Go.AM
