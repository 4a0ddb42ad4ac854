/- Maps, told as rows of entries of a kind: what is found, laid, taken out, ranged over. -/
import Derived.Test.YtnjhcfcnpapaiaaGreatDoorA31
set_option linter.unusedVariables false
set_option linter.unusedSimpArgs false
namespace Go.AM

/-- A kind of entries: how they lie in a map's block, and their keys. -/
structure MK (α κ : Type) [DecidableEq κ] where
  av : α → AV × AV × Nat
  key : α → κ
  kc : κ → List AV
  ag : Bool
  shs : List Sh
  hk : ∀ a, keyCells ag (av a).1 = some (kc (key a))
  he : ∀ k l, eqCells shs (kc k) (kc l) = some (decide (k = l))

namespace MK
variable {α κ : Type} [DecidableEq κ] (M : MK α κ)

def born (a : α) : Nat := (M.av a).2.2

/-- Entries as they can be: of unlike keys and numbers, below the clock. -/
def Ok (es : List α) (c : Nat) : Prop := (es.map M.born).Nodup ∧ (∀ e ∈ es, M.born e < c) ∧ (es.map M.key).Nodup

variable {M}

theorem ok_nil (c : Nat) : M.Ok [] c := ⟨by simp, by simp, by simp⟩
theorem Ok.sub {es fs : List α} {c : Nat} (h : M.Ok es c) (s : fs.Sublist es) : M.Ok fs c :=
  ⟨h.1.sublist (s.map _), fun e he => h.2.1 e (s.subset he), h.2.2.sublist (s.map _)⟩
theorem Ok.push {es : List α} {c : Nat} (h : M.Ok es c) {a : α} (hb : M.born a = c) (hk : ∀ e ∈ es, M.key e ≠ M.key a) : M.Ok (es ++ [a]) (c + 1) := by
  refine ⟨?_, ?_, ?_⟩
  · rw [List.map_append, List.nodup_append]
    refine ⟨h.1, by simp, ?_⟩
    intro x hx y hy
    obtain ⟨e, he, rfl⟩ := List.mem_map.1 hx
    simp at hy
    have := h.2.1 e he
    omega
  · intro e he
    rcases List.mem_append.1 he with he | he
    · have := h.2.1 e he; omega
    · simp at he; subst he; omega
  · rw [List.map_append, List.nodup_append]
    refine ⟨h.2.2, by simp, ?_⟩
    intro x hx y hy
    obtain ⟨e, he, rfl⟩ := List.mem_map.1 hx
    simp at hy
    subst hy
    exact hk e he

variable (M)
/-- What is found. -/
theorem find (k : κ) : ∀ (es : List α) (i : Nat), (∃ j e, es[j]? = some e ∧ M.key e = k ∧ findKey M.ag M.shs (M.kc k) (es.map M.av) i = some (some (i + j, (M.av e).2.1))) ∨
    ((∀ e ∈ es, M.key e ≠ k) ∧ findKey M.ag M.shs (M.kc k) (es.map M.av) i = some none) := by
  intro es
  induction es with
  | nil => intro i; exact .inr ⟨by simp, rfl⟩
  | cons a es ih =>
    intro i
    simp only [List.map_cons, findKey, M.hk, Option.bind_some, M.he]
    by_cases hk : k = M.key a
    · left
      exact ⟨0, a, by simp, hk.symm, by simp [hk]⟩
    · rcases ih (i + 1) with ⟨j, e, h1, h2, h3⟩ | ⟨h1, h2⟩
      · left
        exact ⟨j + 1, e, by simpa using h1, h2, by simp only [decide_eq_true_eq, if_neg hk, h3]; congr 3; omega⟩
      · right
        refine ⟨fun e he => ?_, by simp only [decide_eq_true_eq, if_neg hk, h2]⟩
        rcases List.mem_cons.1 he with rfl | he
        · exact fun h => hk h.symm
        · exact h1 e he

theorem set_new {k : κ} {es : List α} (h : ∀ e ∈ es, M.key e ≠ k) (kv xv : AV) (c : Nat) : mapSet M.ag M.shs (M.kc k) kv xv (es.map M.av) c = some (es.map M.av ++ [(kv, xv, c)], c + 1) := by
  rcases M.find k es 0 with ⟨j, e, h1, h2, _⟩ | ⟨_, h2⟩
  · exact absurd h2 (h e (List.mem_of_getElem? h1))
  · simp [mapSet, h2]

theorem set_old {k : κ} {es : List α} {e : α} (he : e ∈ es) (hk : M.key e = k) (kv xv : AV) (c : Nat) : ∃ j e', es[j]? = some e' ∧ M.key e' = k ∧ mapSet M.ag M.shs (M.kc k) kv xv (es.map M.av) c = some ((es.map M.av).modify j (fun z => (kv, xv, z.2.2)), c) := by
  rcases M.find k es 0 with ⟨j, e', h1, h2, h3⟩ | ⟨h1, _⟩
  · exact ⟨j, e', h1, h2, by simp [mapSet, h3]⟩
  · exact absurd hk (h1 e he)

theorem erase_filter {k : κ} : ∀ {es : List α} {j : Nat} {e : α}, (es.map M.key).Nodup → es[j]? = some e → M.key e = k → es.eraseIdx j = es.filter fun x => decide (M.key x ≠ k) := by
  intro es
  induction es with
  | nil => intro j e _ h; simp at h
  | cons a es ih =>
    intro j e hn h hk
    simp only [List.map_cons, List.nodup_cons] at hn
    cases j with
    | zero =>
      simp at h
      subst h
      have : ∀ x ∈ es, decide (M.key x ≠ k) = true := by
        intro x hx
        simp only [decide_eq_true_eq, ne_eq]
        intro hxk
        exact hn.1 (by rw [hk, ← hxk]; exact List.mem_map_of_mem hx)
      rw [List.eraseIdx_cons_zero, List.filter_cons, if_neg (by simp [hk]), List.filter_eq_self.2 this]
    | succ j =>
      have h' : es[j]? = some e := by simpa using h
      have ha : M.key a ≠ k := by
        intro hak
        exact hn.1 (by rw [hak, ← hk]; exact List.mem_map_of_mem (List.mem_of_getElem? h'))
      rw [List.eraseIdx_cons_succ, List.filter_cons, if_pos (by simp [ha]), ih hn.2 h' hk]

theorem eraseIdx_map' {β γ : Type} (f : β → γ) : ∀ (l : List β) (j : Nat), (l.map f).eraseIdx j = (l.eraseIdx j).map f := by
  intro l
  induction l with
  | nil => intro j; rfl
  | cons a l ih => intro j; cases j with | zero => rfl | succ j => simp [ih]

theorem del {k : κ} {es : List α} (hn : (es.map M.key).Nodup) : mapDel M.ag M.shs (M.kc k) (es.map M.av) = some ((es.filter fun x => decide (M.key x ≠ k)).map M.av) := by
  rcases M.find k es 0 with ⟨j, e, h1, h2, h3⟩ | ⟨h1, h2⟩
  · simp only [mapDel, h3, Option.bind_some, Nat.zero_add]
    rw [← M.erase_filter hn h1 h2, eraseIdx_map']
  · simp only [mapDel, h2, Option.bind_some]
    rw [List.filter_eq_self.2 (fun x hx => by simp [h1 x hx])]

/-- A round of a range: whichever of those that are left. -/
theorem next {σ : St} {it mb c : Nat} {seen : List Nat} {es : List α} {K0 : Option Unit} {K1 : AV → AV → St → Option Unit} (h1 : σ.get it = some (.miter (some mb) c seen c)) (h2 : σ.get mb = some (.map (es.map M.av) c))
    (hb : ∀ e ∈ es, M.born e < c) (k0 : (∀ e ∈ es, M.born e ∈ seen) → K0 = some ())
    (k1 : ∀ e ∈ es, M.born e ∉ seen → K1 (M.av e).1 (M.av e).2.1 (σ.put it (.miter (some mb) c (seen ++ [M.born e]) c)) = some ()) : nextK true σ it K0 K1 = some () := by
  have e1 : σ.iter it = some (some mb, c, seen, c) := by simp [St.iter, h1]
  have e2 : σ.map mb = some (es.map M.av, c) := by simp [St.map, h2]
  have e3 : leftOf (es.map M.av) c seen c = some ((es.map M.av).filter fun x => !seen.contains x.2.2) := by
    have hall : ((es.map M.av).all fun x => decide (x.2.2 < c)) = true := by
      rw [List.all_eq_true]
      intro x hx
      obtain ⟨e, he, rfl⟩ := List.mem_map.1 hx
      have := hb e he
      simpa [born] using this
    unfold leftOf
    rw [if_pos ⟨hall, Nat.le_refl _⟩]
  have hall : ∀ {β : Type} (f : β → Option Unit) (l : List β), l ≠ [] → (∀ x ∈ l, f x = some ()) → allK l f = some () := by
    intro β f l
    induction l with
    | nil => intro h; exact absurd rfl h
    | cons a l ih =>
      intro _ h
      cases l with
      | nil => exact h a (by simp)
      | cons b l =>
        simp only [allK, h a (by simp), Option.bind_some]
        exact ih (by simp) fun x hx => h x (List.mem_cons_of_mem _ hx)
  unfold nextK
  simp only [e1, e2, e3, Option.bind_some]
  by_cases hl : ((es.map M.av).filter fun x => !seen.contains x.2.2).isEmpty = true
  · rw [if_pos hl]
    refine k0 fun e he => ?_
    have : (es.map M.av).filter (fun x => !seen.contains x.2.2) = [] := by simpa using hl
    rw [List.filter_eq_nil_iff] at this
    have := this _ (List.mem_map_of_mem he)
    simpa [born] using this
  · rw [if_neg hl]
    simp only [if_true]
    refine hall _ _ (by simpa using hl) ?_
    intro x hx
    rw [List.mem_filter] at hx
    obtain ⟨e, he, rfl⟩ := List.mem_map.1 hx.1
    exact k1 e he (by simpa [born] using hx.2)

/-- What a step came to. -/
theorem entry {σ : St} {it mb c : Nat} {seen : List Nat} {es : List α} {e : α} (h1 : σ.get it = some (.miter (some mb) c (seen ++ [M.born e]) c)) (h2 : σ.get mb = some (.map (es.map M.av) c)) (hn : (es.map M.born).Nodup) (he : e ∈ es) :
    entryOf σ it = some ((M.av e).1, (M.av e).2.1) := by
  have e1 : σ.iter it = some (some mb, c, seen ++ [M.born e], c) := by simp [St.iter, h1]
  have e2 : σ.map mb = some (es.map M.av, c) := by simp [St.map, h2]
  have hf : ∀ {es : List α}, (es.map M.born).Nodup → e ∈ es → (es.map M.av).find? (fun x => x.2.2 == M.born e) = some (M.av e) := by
    intro es
    induction es with
    | nil => intro _ h; simp at h
    | cons a es ih =>
      intro hn he
      simp only [List.map_cons, List.nodup_cons] at hn
      rw [List.map_cons, List.find?_cons]
      rcases List.mem_cons.1 he with rfl | he
      · have : ((M.av e).2.2 == M.born e) = true := by simp [born]
        rw [this]
      · have hne : M.born a ≠ M.born e := fun h => hn.1 (by rw [h]; exact List.mem_map_of_mem he)
        have : ((M.av a).2.2 == M.born e) = false := by simpa [born] using hne
        rw [this]
        exact ih hn.2 he
  unfold entryOf
  simp only [e1, e2, Option.bind_some, List.getLast?_concat, if_true, hf hn he]
end MK

theorem map_get {σ : St} {b : Nat} : σ.map b = (match σ.get b with | some (.map es c) => some (es, c) | _ => none) := hide (by
  unfold St.map
  cases σ.get b with
  | none => rfl
  | some x => cases x <;> rfl)
theorem entries_none {σ : St} : σ.entries none = some [] := hide rfl
theorem entries_some {σ : St} {b : Nat} : σ.entries (some b) = (match σ.get b with | some (.map es _) => some es | _ => none) := hide (by
  unfold St.entries St.map
  cases h : σ.get b with
  | none => simp [h]
  | some x => cases x <;> simp [h])
attribute [go_sem] map_get entries_none entries_some

end Go.AM
