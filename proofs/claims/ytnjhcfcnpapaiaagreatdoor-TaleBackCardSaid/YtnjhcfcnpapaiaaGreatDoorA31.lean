/- Plain structs that are handed over, by the shapes of their cells. -/
import Derived.Test.YtnjhcfcnpapaiaaGreatDoorA30
set_option linter.unusedVariables false
set_option linter.unusedSimpArgs false
namespace Go.AM
open Go.ChangeShapes Go.WideShapes Go.ChangeAt Go.RowKit

/-- The cells' shapes of a type of plain values alone, part behind part. -/
def flatFs (P : Program) (rec : TypeId → Option (List Sh)) : Nat → List Field → Option (List Sh)
  | _, [] => some []
  | off, f :: fs => match rec f.type with
    | some s => if f.offset = off ∧ s.length = P.cellsOf f.type then (flatFs P rec (off + s.length) fs).map (s ++ ·) else none
    | none => none
def flatSh (P : Program) : Nat → TypeId → Option (List Sh)
  | 0, _ => none
  | n + 1, t => match P.underlying t with
    | some .bool => some [.bool]
    | some (.int k) => some [.int k]
    | some .string => some [.str]
    | some (.struct fs) => match flatFs P (flatSh P n) 0 fs.toList with
      | some s => if s.length = P.cellsOf t then some s else none
      | none => none
    | _ => none

def shOK : Sh → AV → Prop
  | .bool, v => ∃ b, v = .bool b
  | .int k, v => ∃ n, v = .int k n
  | .str, v => ∃ s, v = .str s
  | _, _ => False

def shsOK : List Sh → List AV → Prop
  | [], ys => ys = []
  | s :: ss, ys => ∃ y r, ys = y :: r ∧ shOK s y ∧ shsOK ss r

theorem shsOK.append {a b : List Sh} {x y : List AV} (h : shsOK a x) (g : shsOK b y) : shsOK (a ++ b) (x ++ y) := by
  induction a generalizing x with
  | nil => cases h; exact g
  | cons s a ih => obtain ⟨y', r, rfl, h1, h2⟩ := h; exact ⟨y', r ++ y, rfl, h1, ih h2⟩
theorem shsOK.length {a : List Sh} {x : List AV} (h : shsOK a x) : x.length = a.length := by
  induction a generalizing x with
  | nil => cases h; rfl
  | cons s a ih => obtain ⟨y', r, rfl, h1, h2⟩ := h; simp [ih h2]

section
variable {H : Type} {enc : TypeId × Value → H} {P : Program} {w : World}

theorem flat_fs {n' : Nat} {rec : TypeId → Option (List Sh)} {cs : List Value}
    (hrec : ∀ t s cs x, rec t = some s → DataW.trod enc P w 0 (fun _ => true) true n' t cs = some x → ∃ ys, Plain ys cs ∧ shsOK s ys) :
    ∀ (l : List Field) (off : Nat) (shs : List Sh), (∀ f ∈ l, ∃ x, DataW.trod enc P w 0 (fun _ => true) true n' f.type ((cs.drop f.offset).take (P.cellsOf f.type)) = some x) → flatFs P rec off l = some shs →
      ∃ ys, Plain ys ((cs.drop off).take shs.length) ∧ shsOK shs ys := by
  intro l
  induction l with
  | nil =>
    intro off shs _ h
    simp only [flatFs, Option.some.injEq] at h
    subst h
    exact ⟨[], ⟨fun _ _ => by simpa using .nil, rfl⟩, rfl⟩
  | cons f l ih =>
    intro off shs hx h
    simp only [flatFs] at h
    split at h
    · rename_i s hs
      split at h
      · rename_i ho
        obtain ⟨ho, hl⟩ := ho
        simp only [Option.map_eq_some_iff] at h
        obtain ⟨s2, h2, rfl⟩ := h
        obtain ⟨x, hx1⟩ := hx f (by simp)
        obtain ⟨ys, p1, p2⟩ := hrec _ _ _ _ hs hx1
        obtain ⟨zs, q1, q2⟩ := ih (off + s.length) s2 (fun g hg => hx g (by simp [hg])) h2
        rw [ho, ← hl] at p1
        refine ⟨ys ++ zs, ?_, p2.append q2⟩
        have := p1.append q1
        rw [List.length_append, List.take_add, List.drop_drop]
        exact this
      · cases h
    · cases h

/-- What is read of such a type. -/
theorem flat_dec : ∀ (n : Nat) (t : TypeId) (s : List Sh), flatSh P n t = some s → ∀ (fuel : Nat) (cs : List Value) (x : DataW H × List MemPlace), DataW.trod enc P w 0 (fun _ => true) true fuel t cs = some x →
    ∃ ys, Plain ys cs ∧ shsOK s ys := by
  intro n
  induction n with
  | zero => intro t s h; simp [flatSh] at h
  | succ n ih =>
    intro t s h fuel cs x hx
    simp only [flatSh] at h
    split at h
    · rename_i ht; injection h with h; subst h
      obtain ⟨b, rfl, _⟩ := DataW.trod_bool ht hx
      exact ⟨[.bool b], plain_bool b, _, _, rfl, ⟨b, rfl⟩, rfl⟩
    · rename_i k ht; injection h with h; subst h
      obtain ⟨m, rfl, _⟩ := DataW.trod_int ht hx
      exact ⟨[.int k m], plain_int k m, _, _, rfl, ⟨m, rfl⟩, rfl⟩
    · rename_i ht; injection h with h; subst h
      obtain ⟨m, rfl, _⟩ := DataW.trod_string ht hx
      exact ⟨[.str m], plain_str m, _, _, rfl, ⟨m, rfl⟩, rfl⟩
    · rename_i fs ht
      split at h
      · rename_i s' hs
        split at h
        · rename_i hl
          injection h with h; subst h
          obtain ⟨xs, n', rfl, -, hcl, hxl, hf⟩ := DataW.trod_struct ht hx
          obtain ⟨ys, p1, p2⟩ := flat_fs (n' := n') (cs := cs) (fun t s cs x h1 h2 => ih t s h1 n' cs x h2) fs.toList 0 s' (fun f hf' => by
            obtain ⟨i, hi, e⟩ := List.mem_iff_getElem.1 hf'
            have h1 : fs[i]? = some f := by rw [← Array.getElem?_toList, List.getElem?_eq_getElem hi, e]
            have h2 := hf i f h1
            obtain ⟨x, hx⟩ : ∃ x, xs[i]? = some x := ⟨_, List.getElem?_eq_getElem (by simp at hi; omega)⟩
            exact ⟨x, h2.trans hx⟩) hs
          rw [List.drop_zero, List.take_of_length_le (by omega)] at p1
          exact ⟨ys, p1, p2⟩
        · cases h
      · cases h
    · cases h

/-- A slice of plain structs. -/
theorem open_structs {α : Type} {f : α → List AV} {s : List Sh} {z : Nat} {t e : TypeId} (ht : P.underlying t = some (.slice e)) (he : flatSh P 8 e = some s) (hz : P.cellsOf e = z) (hz0 : 0 < z) (hl : s.length = z)
    (hf : ∀ ys, shsOK s ys → ∃ a, ys = f a) {v : Value} {d : DataW H} {ps : List MemPlace} (hd : DataW.Trod enc P w 0 (fun _ => true) true t v d ps) (hv : ∃ a len cap, v = .slice a len cap) :
    ∃ as : List α, ∀ (σ : St) (m : Mp) (r : Hp), Sim w.heap.size σ m w → Fr m σ.next → HasH σ r →
      ∃ av σ' m' h, Arg z av as.length (as.flatMap f) h ∧ Sim w.heap.size σ' m' w ∧ Fr m' σ'.next ∧ Grows m w m' w ∧ RepV m' w av v ∧ HasH σ' (h ++ r) := by
  obtain ⟨xss, hq, hx⟩ := open_arg (Q := fun ys => ∃ a, ys = f a) (z := z) ht hz hz0 (fun n cs x h => by
    obtain ⟨ys, p, q⟩ := flat_dec 8 e s he n cs x h
    exact ⟨ys, p, by rw [q.length, hl], hf ys q⟩) hd hv
  obtain ⟨ss, rfl⟩ := exists_map (f := f) (fun y hy => (hq y hy).1)
  refine ⟨ss, ?_⟩
  rw [List.length_map, ← List.flatMap_def] at hx
  exact hx

/-- A plain struct. -/
theorem open_plain {t : TypeId} {fs : Array Field} {s : List Sh} {r : Reach} {b0 : Nat} (ht : P.underlying t = some (.struct fs)) (he : flatSh P 8 t = some s) {v : Value} {d : DataW H} {ps : List MemPlace}
    (hd : DataW.Trod enc P w 0 (fun _ => true) true t v d ps) (hv : Value.okWide P w r b0 t v) : ∃ ys, shsOK s ys ∧ ∀ m w', RepV m w' (.agg ys) v := by
  obtain ⟨cs, rfl, _⟩ := okWide_struct ht hv
  obtain ⟨fuel, hf⟩ := hd
  obtain ⟨ys, p, q⟩ := flat_dec 8 t s he fuel _ _ hf
  exact ⟨ys, q, fun m w' => .agg _ _ (by simpa [Value.cells] using p.1 m w')⟩
end
end Go.AM
