/- Plain laws of slots: what a vote changes, and what a certificate is of. -/
import Derived.Test.YtmgacgonoodkfaaSS6
namespace Go.Proofs.Ytmgacgonoodkfaa
open Go.AM
set_option linter.unusedSimpArgs false
set_option linter.unusedVariables false

theorem voteF_zero {x : Slt} {k no : Int} {text tag : ByteArray} (h : voteF x k no text tag = 0) : (k = 1 ∨ k = 2) ∧ 0 ≤ no ∧ no ≤ 3 * x.f := by
  unfold voteF at h
  split at h
  · cases h
  · rename_i hn
    have : kindB k = true := by
      cases hk : kindB k with
      | true => rfl
      | false => exact absurd (.inl hk) hn
    refine ⟨by simpa [kindB] using this, ?_, ?_⟩ <;> omega

theorem put_ok {x : Slt} (h : x.ok) (k : Int) (i : Nat) (v : Vt) : (x.put k i v).ok := by
  obtain ⟨a, b, c, d, e, f, g⟩ := h
  unfold Slt.put
  split
  · exact ⟨a, b, c, d, e, by simpa using f, g⟩
  · exact ⟨a, b, c, d, e, f, by simpa using g⟩

theorem put_vs {x : Slt} {k : Int} (hk : k = 1 ∨ k = 2) (i : Nat) (v : Vt) (j : Int) : (x.put k i v).vs j = if j = k then (x.vs k).set i v else x.vs j := by
  unfold Slt.put Slt.vs
  rcases hk with rfl | rfl
  · by_cases hj : j = 1
    · subst hj; simp
    · simp [hj]
  · by_cases hj : j = 2
    · subst hj; simp
    · simp [hj]

theorem countP_set (V : List Vt) (i : Nat) (v : Vt) (h : ∀ u, V[i]? = some u → u.there = false) (hi : i < V.length) (hv : v.there = true) : (V.set i v).countP Vt.there = V.countP Vt.there + 1 := by
  induction V generalizing i with
  | nil => simp at hi
  | cons a V ih =>
    cases i with
    | zero =>
      have := h a rfl
      simp [List.countP_cons, this, hv]
    | succ i =>
      have := ih i (fun u hu => h u (by simpa using hu)) (by simpa using hi)
      simp only [List.set_cons_succ, List.countP_cons, this]
      omega

theorem at_eq {x : Slt} {k no : Int} (h : 0 ≤ no) : x.at k no = ((x.vs k)[no.toNat]?).getD .zero := by unfold Slt.at; rw [if_pos h]

/-- A vote that counts: one more, and it is there. -/
theorem vote_counts {x : Slt} (ho : x.ok) {k no : Int} {text tag : ByteArray} (h : voteC x k no text tag = true) :
    (voteX x k no text tag).cnt k = x.cnt k + 1 ∧ (voteX x k no text tag).at k no = ⟨true, text, tag⟩ := by
  have hF : voteF x k no text tag = 0 := by simp only [voteC, Bool.and_eq_true, decide_eq_true_eq] at h; exact h.1
  have ht : (x.at k no).there = false := by simp only [voteC, Bool.and_eq_true, Bool.not_eq_true'] at h; exact h.2
  obtain ⟨hk, h0, h1⟩ := voteF_zero hF
  have hl := Slt.vs_len ho hk
  have hX : voteX x k no text tag = x.put k no.toNat ⟨true, text, tag⟩ := by simp [voteX, h]
  have hi : no.toNat < (x.vs k).length := by omega
  rw [hX]
  constructor
  · unfold Slt.cnt
    rw [put_vs hk, if_pos rfl]
    refine countP_set _ _ _ ?_ hi rfl
    intro u hu
    rw [at_eq h0, hu] at ht
    exact ht
  · rw [at_eq h0, put_vs hk, if_pos rfl, List.getElem?_set_self hi]; rfl

theorem voteX_same {x : Slt} {k no : Int} {text tag : ByteArray} (h : voteC x k no text tag = false) : voteX x k no text tag = x := by simp [voteX, h]

/-- The tags of a text: each one's vote is there, of this text, with this tag; and they rise. -/
theorem tagsOf_mem {text : ByteArray} : ∀ {V : List Vt} {i : Nat} {t : Nat × ByteArray}, t ∈ tagsOf text V i → i ≤ t.1 ∧ ∃ v, V[t.1 - i]? = some v ∧ v = ⟨true, text, t.2⟩
  | [], i, t, h => by simp [tagsOf] at h
  | v :: V, i, t, h => by
    simp only [tagsOf] at h
    split at h
    · rename_i hv
      rcases List.mem_cons.1 h with rfl | h
      · refine ⟨Nat.le_refl _, v, by simp, ?_⟩
        obtain ⟨a, b, c⟩ := v
        simp only at hv ⊢
        obtain ⟨rfl, rfl⟩ := hv
        rfl
      · obtain ⟨h1, u, h2, h3⟩ := tagsOf_mem h
        refine ⟨by omega, u, ?_, h3⟩
        rw [show t.1 - i = (t.1 - (i + 1)) + 1 by omega]; simpa using h2
    · obtain ⟨h1, u, h2, h3⟩ := tagsOf_mem h
      refine ⟨by omega, u, ?_, h3⟩
      rw [show t.1 - i = (t.1 - (i + 1)) + 1 by omega]; simpa using h2
theorem tagsOf_rise {text : ByteArray} : ∀ {V : List Vt} {i : Nat}, (tagsOf text V i).Pairwise fun a b => a.1 < b.1
  | [], i => by simp [tagsOf]
  | v :: V, i => by
    simp only [tagsOf]
    split
    · refine List.pairwise_cons.2 ⟨fun b hb => ?_, tagsOf_rise⟩
      have := (tagsOf_mem hb).1
      omega
    · exact tagsOf_rise
theorem tagsOf_of {text : ByteArray} : ∀ {V : List Vt} {i j : Nat} {v : Vt}, V[j]? = some v → v.there = true → v.text = text → (i + j, v.tag) ∈ tagsOf text V i
  | [], i, j, v, h, _, _ => by simp at h
  | u :: V, i, j, v, h, h1, h2 => by
    simp only [tagsOf]
    cases j with
    | zero =>
      simp at h; subst h
      rw [if_pos ⟨h1, h2⟩]; simp
    | succ j =>
      have := tagsOf_of (i := i + 1) (by simpa using h) h1 h2
      rw [show i + 1 + j = i + (j + 1) by omega] at this
      split
      · exact List.mem_cons_of_mem _ this
      · exact this

end Go.Proofs.Ytmgacgonoodkfaa
