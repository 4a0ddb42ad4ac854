/- A window and the reference's: what they have in common, step by step. No program in sight. -/
import Derived.Test.YtmgacgonoodkfaaWR3
namespace Go.Proofs.Ytmgacgonoodkfaa
open Go.AM
set_option linter.unusedSimpArgs false
set_option linter.unusedVariables false

structure Rel (x : Wn) (low : Int) (S B : List Pl) (i : Nat) : Prop where
  lw : x.low = low
  sl : S.map (fun p => (p.v, p.n)) = x.es.map fun e => (e.view, e.number)
  be : ∀ n, (rget B n).map (fun p => (p.v, p.t)) = (bget x.fs n).map fun e => (e.view, e.text)
  sv : ∀ p ∈ S, 0 ≤ p.v ∧ low < p.n
  bv : ∀ p ∈ B, 0 ≤ p.v
  l1 : x.es.length ≤ i
  l2 : x.fs.length ≤ i
  l3 : B.length ≤ i

theorem filter_same {α β κ : Type} {f : α → κ} {g : β → κ} {S : List α} {E : List β} (h : S.map f = E.map g) (Q : κ → Bool) : (S.filter fun p => Q (f p)).map f = (E.filter fun e => Q (g e)).map g := by
  have h1 : ∀ {γ : Type} (k : γ → κ) (l : List γ), (l.filter fun p => Q (k p)).map k = (l.map k).filter Q := by
    intro γ k l
    induction l with
    | nil => rfl
    | cons a l ih => simp only [List.filter_cons, List.map_cons]; split <;> simp [ih]
  rw [h1, h1, h]

theorem bget_setS {fs : List Bn} {c : Nat} (n v : Int) (text : ByteArray) (g : Int) : ∃ e, bget (setB fs c n v text g).1 n = some e ∧ e.view = v ∧ e.text = text := by
  unfold setB
  by_cases h : (bget fs n).isSome = true
  · rw [if_pos h]
    obtain ⟨e, he⟩ := Option.isSome_iff_exists.1 h
    have : ∀ {l : List Bn}, bget l n = some e → bget (l.map (upB n v text g)) n = some (upB n v text g e) := by
      intro l
      induction l with
      | nil => intro h; simp [bget] at h
      | cons a l ih =>
        intro h
        unfold bget at h ⊢
        rw [List.map_cons, List.find?_cons]
        rw [List.find?_cons] at h
        by_cases ha : a.number = n
        · simp only [ha, decide_true] at h
          obtain rfl : a = e := by simpa using h
          have : (upB n v text g a).number = n := by unfold upB; split <;> exact ha
          simp only [this, decide_true]
        · simp only [ha, decide_false] at h
          have : ¬ (upB n v text g a).number = n := by unfold upB; rw [if_neg ha]; exact ha
          simp only [this, decide_false]
          exact ih h
    refine ⟨_, this he, ?_⟩
    have hn := (bget_mem he).2
    simp [upB, hn]
  · rw [if_neg h]
    have hn : bget fs n = none := by simpa using h
    refine ⟨⟨n, v, text, g, c⟩, ?_, rfl, rfl⟩
    unfold bget at hn ⊢
    rw [List.find?_append, hn]
    simp

namespace Rel
variable {x : Wn} {low : Int} {S B : List Pl} {i : Nat}

theorem up (R : Rel x low S B i) : Rel x low S B (i + 1) := ⟨R.lw, R.sl, R.be, R.sv, R.bv, by have := R.l1; omega, by have := R.l2; omega, by have := R.l3; omega⟩

theorem len (R : Rel x low S B i) : S.length = x.es.length := by
  have := congrArg List.length R.sl
  simpa using this

theorem has (R : Rel x low S B i) (v n : Int) : hasPl S v n = true ↔ ∃ e ∈ x.es, e.view = v ∧ e.number = n := by
  unfold hasPl
  rw [List.any_eq_true]
  constructor
  · rintro ⟨p, hp, h⟩
    simp at h
    have : (p.v, p.n) ∈ S.map (fun p => (p.v, p.n)) := List.mem_map_of_mem (f := fun p : Pl => (p.v, p.n)) hp
    rw [R.sl] at this
    obtain ⟨e, he, hh⟩ := List.mem_map.1 this
    simp at hh
    exact ⟨e, he, by rw [hh.1, h.1], by rw [hh.2, h.2]⟩
  · rintro ⟨e, he, h1, h2⟩
    have : (e.view, e.number) ∈ x.es.map (fun e => (e.view, e.number)) := List.mem_map_of_mem (f := fun e : En => (e.view, e.number)) he
    rw [← R.sl] at this
    obtain ⟨p, hp, hh⟩ := List.mem_map.1 this
    simp at hh
    exact ⟨p, hp, by simp [hh.1, hh.2, h1, h2]⟩

theorem at_old (R : Rel x low S B i) {v n : Int} (h : askE low v n ≠ 0 ∨ ∃ e ∈ x.es, e.view = v ∧ e.number = n) : ratS low S v n = S := by
  unfold ratS
  rw [if_neg]
  rintro ⟨h1, h2⟩
  rcases h with h | h
  · exact h h1
  · rw [(R.has v n).2 h] at h2; cases h2

theorem askE_view {v n : Int} (h : askE low v n = 0) : 0 ≤ v ∧ low < n := by
  unfold askE at h
  split at h
  · cases h
  · rename_i hv
    split at h
    · rename_i hb
      simp [hasB] at hb
      omega
    · cases h

theorem at_new (R : Rel x low S B i) {v n : Int} (ha : askE low v n = 0) (hno : ∀ e ∈ x.es, ¬ (e.view = v ∧ e.number = n)) (s : Nat) :
    Rel { x with es := x.es ++ [⟨v, n, s, x.c1⟩], c1 := x.c1 + 1 } low (ratS low S v n) B (i + 1) := by
  have hs : hasPl S v n = false := by
    cases h : hasPl S v n with
    | false => rfl
    | true =>
      obtain ⟨e, he, h2⟩ := (R.has v n).1 h
      exact absurd h2 (hno e he)
  have hr : ratS low S v n = S ++ [(⟨v, n, ByteArray.mk #[]⟩ : Pl)] := by unfold ratS; rw [if_pos ⟨ha, hs⟩]
  rw [hr]
  refine ⟨R.lw, by simp [R.sl], R.be, ?_, R.bv, ?_, ?_, ?_⟩
  · intro p hp
    rcases List.mem_append.1 hp with hp | hp
    · exact R.sv p hp
    · simp at hp; subst hp; exact askE_view ha
  · have := R.l1; simp; omega
  · have := R.l2; simp only; omega
  · have := R.l3; omega

theorem note_b (R : Rel x low S B i) (v n : Int) : noteB x v n = rnoteB low B v n := by
  unfold noteB rnoteB
  rw [R.lw]
  have h := R.be n
  cases h1 : rget B n with
  | none =>
    rw [h1] at h
    cases h2 : bget x.fs n with
    | none => rfl
    | some e => rw [h2] at h; simp at h
  | some p =>
    rw [h1] at h
    cases h2 : bget x.fs n with
    | none => rw [h2] at h; simp at h
    | some e => rw [h2] at h; simp at h; simp [h.1]

theorem bget_other {fs : List Bn} {c : Nat} {n v : Int} {text : ByteArray} {g : Int} {m : Int} (hm : m ≠ n) : bget (setB fs c n v text g).1 m = bget fs m := by
  unfold setB
  by_cases h : (bget fs n).isSome = true
  · rw [if_pos h]
    have : ∀ l : List Bn, bget (l.map (upB n v text g)) m = bget l m := by
      intro l
      induction l with
      | nil => rfl
      | cons a l ih =>
        unfold bget at ih ⊢
        rw [List.map_cons, List.find?_cons, List.find?_cons, ih]
        by_cases ha : a.number = n
        · have h1 : (upB n v text g a).number = a.number := by unfold upB; split <;> rfl
          have h2 : ¬ a.number = m := fun h => hm (h.symm.trans ha)
          simp only [h1, h2, decide_false]
        · have h1 : upB n v text g a = a := by unfold upB; rw [if_neg ha]
          rw [h1]
    exact this fs
  · rw [if_neg h]
    unfold bget
    rw [List.find?_append]
    have : ¬ n = m := fun h => hm h.symm
    simp [this]

theorem rget_new {B : List Pl} {v n : Int} {text : ByteArray} : rget (others n B ++ [⟨v, n, text⟩]) n = some ⟨v, n, text⟩ := by
  unfold rget others
  rw [List.find?_append]
  have : (B.filter fun p => decide (p.n ≠ n)).find? (fun p => decide (p.n = n)) = none := by
    rw [List.find?_eq_none]
    intro p hp
    rw [List.mem_filter] at hp
    simpa using hp.2
  rw [this]
  simp

theorem rget_other {B : List Pl} {v n m : Int} {text : ByteArray} (hm : m ≠ n) : rget (others n B ++ [⟨v, n, text⟩]) m = rget B m := by
  unfold rget others
  rw [List.find?_append]
  have h1 : ∀ l : List Pl, (l.filter fun p => decide (p.n ≠ n)).find? (fun p => decide (p.n = m)) = l.find? (fun p => decide (p.n = m)) := by
    intro l
    induction l with
    | nil => rfl
    | cons a l ih =>
      rw [List.filter_cons]
      by_cases ha : a.n = n
      · rw [if_neg (by simp [ha]), List.find?_cons]
        have : ¬ a.n = m := fun h => hm (h.symm.trans ha)
        simp only [this, decide_false, ih]
      · rw [if_pos (by simp [ha]), List.find?_cons, List.find?_cons, ih]
  rw [h1]
  have : ¬ n = m := fun h => hm h.symm
  simp [this]

theorem setB_len {fs : List Bn} {c : Nat} {n v : Int} {text : ByteArray} {g : Int} : (setB fs c n v text g).1.length ≤ fs.length + 1 := by
  unfold setB; split <;> simp

theorem note (R : Rel x low S B i) (v n : Int) (text : ByteArray) : Rel (noteX x v n text 1) low S (rnoteX low B v n text) (i + 1) := by
  unfold noteX rnoteX
  rw [R.note_b]
  by_cases h : rnoteB low B v n = true
  · rw [if_pos h, if_pos h]
    have ha : askE low v n = 0 := by
      unfold rnoteB at h
      simp at h
      exact h.1
    refine ⟨R.lw, R.sl, ?_, R.sv, ?_, by have := R.l1; simp only; omega, ?_, ?_⟩
    · intro m
      by_cases hm : m = n
      · subst hm
        obtain ⟨e, h1, h2, h3⟩ := bget_setS (fs := x.fs) (c := x.c2) m v text 1
        rw [rget_new]
        simp only [h1, Option.map_some, h2, h3]
      · rw [rget_other hm]
        simp only [bget_other hm]
        exact R.be m
    · intro p hp
      rcases List.mem_append.1 hp with hp | hp
      · exact R.bv p (List.mem_filter.1 hp).1
      · simp at hp; subst hp; exact (askE_view ha).1
    · have := setB_len (fs := x.fs) (c := x.c2) (n := n) (v := v) (text := text) (g := 1)
      have := R.l2
      simp only; omega
    · have : (others n B).length ≤ B.length := List.length_filter_le _ _
      have := R.l3
      simp; omega
  · rw [if_neg h, if_neg h]; exact R.up

theorem raise_b (R : Rel x low S B i) (l : Int) : raiseB x l = decide (raiseE l = 0 ∧ low < l) := by
  unfold raiseB; rw [R.lw]
  by_cases h : raiseE l = 0 <;> simp [h]

theorem raise (R : Rel x low S B i) {l : Int} (hr : raiseE l = 0 ∧ low < l) : Rel (raiseX x l) l (abv l 0 S) (abv l 0 B) (i + 1) := by
  have hb : raiseB x l = true := by rw [R.raise_b]; simpa using hr
  have hx : raiseX x l = { x with low := l, es := x.es.filter (fun e => decide (l < e.number)), fs := x.fs.filter fun e => decide (l < e.number) } := by unfold raiseX; rw [if_pos hb]
  have hS : abv l 0 S = S.filter fun p => decide (l < p.n) := by
    unfold abv
    refine List.filter_congr fun p hp => ?_
    simp [(R.sv p hp).1]
  have hB : abv l 0 B = B.filter fun p => decide (l < p.n) := by
    unfold abv
    refine List.filter_congr fun p hp => ?_
    simp [R.bv p hp]
  rw [hx, hS, hB]
  refine ⟨rfl, ?_, ?_, ?_, ?_, ?_, ?_, ?_⟩
  · exact filter_same R.sl (fun k => decide (l < k.2))
  · intro n
    have h1 : ∀ (L : List Pl), rget (L.filter fun p => decide (l < p.n)) n = if l < n then rget L n else none := by
      intro L
      unfold rget
      induction L with
      | nil => simp
      | cons a L ih =>
        rw [List.filter_cons]
        by_cases ha : l < a.n
        · rw [if_pos (by simpa using ha), List.find?_cons, List.find?_cons, ih]
          by_cases hn : a.n = n
          · subst hn; simp [ha]
          · simp [hn]
        · rw [if_neg (by simpa using ha), ih, List.find?_cons]
          by_cases hn : a.n = n
          · subst hn; simp [ha]
          · simp [hn]
    have h2 : ∀ (L : List Bn), bget (L.filter fun p => decide (l < p.number)) n = if l < n then bget L n else none := by
      intro L
      unfold bget
      induction L with
      | nil => simp
      | cons a L ih =>
        rw [List.filter_cons]
        by_cases ha : l < a.number
        · rw [if_pos (by simpa using ha), List.find?_cons, List.find?_cons, ih]
          by_cases hn : a.number = n
          · subst hn; simp [ha]
          · simp [hn]
        · rw [if_neg (by simpa using ha), ih, List.find?_cons]
          by_cases hn : a.number = n
          · subst hn; simp [ha]
          · simp [hn]
    rw [h1]
    simp only [h2]
    split
    · exact R.be n
    · rfl
  · intro p hp
    rw [List.mem_filter] at hp
    exact ⟨(R.sv p hp.1).1, by simpa using hp.2⟩
  · intro p hp
    exact R.bv p (List.mem_filter.1 hp).1
  · have := R.l1
    have h : (x.es.filter fun e => decide (l < e.number)).length ≤ x.es.length := List.length_filter_le _ _
    simp only; omega
  · have := R.l2
    have h : (x.fs.filter fun e => decide (l < e.number)).length ≤ x.fs.length := List.length_filter_le _ _
    simp only; omega
  · have := R.l3
    have h : (B.filter fun e => decide (l < e.n)).length ≤ B.length := List.length_filter_le _ _
    omega

theorem leave (R : Rel x low S B i) (v : Int) : Rel (leaveX x v) low (abv low v S) B (i + 1) := by
  have hS : abv low v S = S.filter fun p => decide (v ≤ p.v) := by
    unfold abv
    refine List.filter_congr fun p hp => ?_
    simp [(R.sv p hp).2]
  rw [hS]
  refine ⟨R.lw, ?_, R.be, ?_, R.bv, ?_, by have := R.l2; simp only [leaveX]; omega, by have := R.l3; omega⟩
  · exact filter_same R.sl (fun k => decide (v ≤ k.1))
  · intro p hp
    exact R.sv p (List.mem_filter.1 hp).1
  · have := R.l1
    have h : (x.es.filter fun e => decide (v ≤ e.view)).length ≤ x.es.length := List.length_filter_le _ _
    simp only [leaveX]; omega

/-- What is best reads alike. -/
theorem best (R : Rel x low S B i) (n : Int) : (rget B n).isSome = (bget x.fs n).isSome ∧ (rgetP B n).v = bestV x.fs n ∧ (rgetP B n).t = bestT x.fs n := by
  have h := R.be n
  unfold rgetP bestV bestT
  cases h1 : rget B n with
  | none =>
    rw [h1] at h
    cases h2 : bget x.fs n with
    | none => exact ⟨rfl, rfl, rfl⟩
    | some e => rw [h2] at h; simp at h
  | some p =>
    rw [h1] at h
    cases h2 : bget x.fs n with
    | none => rw [h2] at h; simp at h
    | some e => rw [h2] at h; simp at h; exact ⟨rfl, h.1, h.2⟩
end Rel

end Go.Proofs.Ytmgacgonoodkfaa
