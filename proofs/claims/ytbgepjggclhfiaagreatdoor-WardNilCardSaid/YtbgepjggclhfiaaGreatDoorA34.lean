/- The abstract machine against the model: what only lays new blocks; a row that a call has laid. -/
import Derived.Test.YtbgepjggclhfiaaGreatDoorA33
import Derived.Laws.AppendOwn
set_option linter.unusedVariables false
namespace Go.AM
open Go.RowKit (Below)

/-- What only lays new blocks leaves all as it is. -/
theorem sim_behind {B : Nat} {σ : St} {m : Mp} {w w' : World} (hs : Sim B σ m w) (hb : Below w.heap.size w w') : Sim B σ m w' ∧ Grows m w m w' ∧ Below B w w' := by
  have hB : Below B w w' := ⟨hb.os, hb.tape, hb.output, hb.size, fun k hk => hb.block k (by have := hs.le; omega)⟩
  have g : Grows m w m w' := by
    refine ⟨fun _ _ h => h, fun k => ?_⟩
    by_cases hk : k < w.heap.size
    · unfold blkSize; rw [hb.block k hk]; exact Nat.le_refl _
    · unfold blkSize
      rw [Array.getElem?_eq_none (by omega)]
      exact Nat.zero_le _
  refine ⟨⟨?_, ?_, hs.sep, Nat.le_trans hs.le hb.size, hs.globs g hB fun _ _ _ h => h⟩, g, hB⟩
  · intro id cs own h
    obtain ⟨L, ccs, el, fr, p1, p2, p3, p4, p5, p6⟩ := hs.row id cs own h
    exact ⟨L, ccs, el, fr, p1, p2, by rw [hb.block _ (Array.getElem?_eq_some_iff.1 p3).1]; exact p3, p4, RepL.mono g p5, p6⟩
  · intro id x h hx
    obtain ⟨L, o, p1, p2, p3, p4⟩ := hs.obj id x h hx
    exact ⟨L, o, p1, p2, by rw [hb.block _ (Array.getElem?_eq_some_iff.1 p3).1]; exact p3, p4.mono g⟩

/-- A row that a call has laid. -/
theorem row_behind {B : Nat} {σ : St} {m : Mp} {w w' : World} (hs : Sim B σ m w) (hb : Below w.heap.size w w') (hf : Fr m σ.next) {g : Nat} {cur : Array Value} {el : TypeId} (hg : w.heap.size ≤ g) (hh : w'.heap[g]? = some (.cells cur el (0, 0)))
    {vs : List AV} (h1 : vs.all AV.one = true) (hr : ∀ m w, RepL m w vs (cur.toList.take vs.length)) :
    Sim B (σ.new (.cells vs true)) (upd m σ.next ⟨g, 0, vs.length⟩) w' ∧ Grows m w (upd m σ.next ⟨g, 0, vs.length⟩) w' ∧ Below B w w' ∧ Fr (upd m σ.next ⟨g, 0, vs.length⟩) (σ.next + 1) := by
  obtain ⟨hs', g1, hB⟩ := sim_behind hs hb
  have hn : m σ.next = none := hf σ.next (Nat.le_refl _)
  have hle := hs.le
  have hg2 : Grows m w' (upd m σ.next ⟨g, 0, vs.length⟩) w' := by
    refine ⟨fun i L h => ?_, fun _ => Nat.le_refl _⟩
    unfold upd
    split
    · rename_i he; subst he; rw [hn] at h; cases h
    · exact h
  have hgrow := Grows.trans g1 hg2
  refine ⟨⟨?_, ?_, ?_, hs'.le, hs'.globs hg2 (Below.refl B w') fun id n2 cs2 hid => by
    rw [St.get_new] at hid; split at hid
    · simp at hid
    · exact hid⟩, hgrow, hB, ?_⟩
  · intro id cs own hid
    rw [St.get_new] at hid
    split at hid
    · rename_i he
      subst he
      simp only [Option.some.injEq, Blk.cells.injEq] at hid
      obtain ⟨rfl, rfl⟩ := hid
      have hl := (hr m w').length
      refine ⟨⟨g, 0, vs.length⟩, cur, el, (0, 0), by simp [upd], rfl, hh, ?_, ?_, h1, fun _ => ⟨by show B ≤ g; omega, rfl⟩, by simp⟩
      · simp at hl ⊢; omega
      · simpa using hr _ _
    · obtain ⟨L2, c2, el2, fr2, p1, p2, p3, p4, p5, p6⟩ := hs'.row id cs own hid
      exact ⟨L2, c2, el2, fr2, hg2.map _ _ p1, p2, p3, p4, RepL.mono hg2 p5, p6⟩
  · intro id x hid hx
    rw [St.get_new] at hid
    split at hid
    · simp only [Option.some.injEq] at hid; subst hid; simp [Blk.isObj] at hx
    · obtain ⟨L2, o, p1, p2, p3, p4⟩ := hs'.obj id x hid hx
      exact ⟨L2, o, hg2.map _ _ p1, p2, p3, p4.mono hg2⟩
  · intro i j x y L1 L2 hi hj hx hy hL1 hL2 he
    have old : ∀ {i : Nat} {x : Blk} {L : Loc}, i ≠ σ.next → (σ.new (.cells vs true)).get i = some x → x.own = true → upd m σ.next ⟨g, 0, vs.length⟩ i = some L → σ.get i = some x ∧ m i = some L ∧ L.blk ≠ g := by
      intro i x L hne hi hx hL
      rw [St.get_new, if_neg hne] at hi
      unfold upd at hL
      rw [if_neg hne] at hL
      refine ⟨hi, hL, ?_⟩
      have := (hs.there hi hx hL).2; omega
    by_cases hin : i = σ.next
    · by_cases hjn : j = σ.next
      · rw [hin, hjn]
      · obtain ⟨_, _, hne⟩ := old hjn hj hy hL2
        subst hin
        simp [upd] at hL1
        subst hL1
        exact absurd he.symm hne
    · by_cases hjn : j = σ.next
      · obtain ⟨_, _, hne⟩ := old hin hi hx hL1
        subst hjn
        simp [upd] at hL2
        subst hL2
        exact absurd he hne
      · obtain ⟨a1, a2, _⟩ := old hin hi hx hL1
        obtain ⟨b1, b2, _⟩ := old hjn hj hy hL2
        exact hs.sep i j x y L1 L2 a1 b1 hx hy a2 b2 he
  · exact Fresh.fr (σ' := σ.new (.cells vs true)) (.inr ⟨rfl, _, rfl⟩) hf

theorem strs_rep (m : Mp) (w : World) : ∀ l : List ByteArray, RepL m w (l.map AV.str) (l.map Value.string)
  | [] => .nil
  | s :: l => .cons _ _ _ _ (.str s) (strs_rep m w l)
theorem strs_one (l : List ByteArray) : (l.map AV.str).all AV.one = true := by
  simp [List.all_map, Function.comp_def]
  intro x _; rfl

/-- A slice of texts that a call has laid. -/
theorem texts_behind {B : Nat} {σ : St} {m : Mp} {w w' : World} (hs : Sim B σ m w) (hb : Below w.heap.size w w') (hf : Fr m σ.next) {e : TypeId} {v : Value} {l : List ByteArray} (hne : l ≠ [])
    (ho : w'.ownsRow w.heap.size e 1 v l.length (l.map Value.string)) :
    ∃ m', Sim B (σ.new (.cells (l.map AV.str) true)) m' w' ∧ Grows m w m' w' ∧ Below B w w' ∧ Fr m' (σ.next + 1) ∧ RepV m' w' (.slice (some (σ.next, 0)) l.length none 1) v := by
  rcases ho.2 with ⟨_, h0⟩ | ⟨g, cap, cur, rfl, hg, hh, hc1, hc2, hc3, hc4⟩
  · exact absurd (List.eq_nil_of_length_eq_zero h0) hne
  · obtain ⟨p1, p2, p3, p4⟩ := row_behind (vs := l.map AV.str) hs hb hf hg hh (strs_one l) (fun m w => by
      rw [Nat.mul_one] at hc4
      rw [List.length_map, hc4]; exact strs_rep m w l)
    refine ⟨_, p1, p2, p3, p4, ?_⟩
    refine .slice σ.next 0 _ _ _ ⟨g, 0, (l.map AV.str).length⟩ cap _ (by simp [upd]) hc1 (by simp) ⟨.inl ⟨rfl, fun _ => ?_⟩, fun _ => ?_⟩
    · unfold blkSize
      rw [hh]
      simp only
      omega
    · simp; omega
end Go.AM
