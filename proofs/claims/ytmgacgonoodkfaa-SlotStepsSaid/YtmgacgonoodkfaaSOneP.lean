/- Of one kind there is one certified text: the plain law. -/
import Derived.Test.YtmgacgonoodkfaaSP
namespace Go.Proofs.Ytmgacgonoodkfaa
open Go.AM
set_option linter.unusedSimpArgs false
set_option linter.unusedVariables false

/-- The bits of a set, and who fails by it. -/
def bit (s k : Int) : Int := Int.fdiv s (2 ^ min (Int.toNat (IntKind.wrap IntKind.u64 k)) 64) % 2
def bits (s : Int) : Nat → Int
  | 0 => 0
  | n + 1 => bits s n + bit s n
def failsB (s f : Int) (i : Nat) : Bool := bit s i == 1 && decide (bits s (i + 1) ≤ f)
theorem bit_two (s k : Int) : 0 ≤ bit s k ∧ bit s k ≤ 1 := by unfold bit; omega
theorem bits_le (s : Int) : ∀ n : Nat, 0 ≤ bits s n ∧ bits s n ≤ n
  | 0 => by simp [bits]
  | n + 1 => by have := bits_le s n; have := bit_two s n; simp only [bits]; omega

/-- How many of n fail. -/
def cntF (F : Nat → Bool) : Nat → Nat
  | 0 => 0
  | n + 1 => cntF F n + (if F n = true then 1 else 0)
theorem cntF_fails (s f : Int) (h : 0 ≤ f) : ∀ n, (cntF (failsB s f) n : Int) ≤ bits s n ∧ (cntF (failsB s f) n : Int) ≤ f
  | 0 => by simp [cntF, bits, h]
  | n + 1 => by
    have := cntF_fails s f h n
    have h2 := bit_two s n
    simp only [cntF, bits]
    cases hF : failsB s f n with
    | false => simp only [Bool.false_eq_true, if_false, Nat.add_zero]; exact ⟨Int.le_trans this.1 (Int.le_add_of_nonneg_right h2.1), this.2⟩
    | true =>
      simp only [failsB, Bool.and_eq_true, beq_iff_eq, decide_eq_true_eq] at hF
      simp only [bits] at hF
      simp only [if_true, Int.natCast_add, Int.natCast_one]; omega

/-- The votes told. -/
def pick (F : Nat → Bool) (hs os : List ByteArray) (i : Nat) : Option ByteArray := (if F i = true then os else hs)[i]?
def fillX (L : Nat → Option ByteArray) (kd : Int) (tag : ByteArray) (x : Slt) : Nat → Slt
  | 0 => x
  | i + 1 => match L i with
    | some t => voteX (fillX L kd tag x i) kd i t tag
    | none => fillX L kd tag x i

theorem voteX_ok {x : Slt} (ho : x.ok) (k no : Int) (text tag : ByteArray) : (voteX x k no text tag).ok := by
  unfold voteX
  split
  · unfold Slt.put
    obtain ⟨a, b, c, e, f, g, h⟩ := ho
    split
    · exact ⟨a, b, c, e, f, by simpa using g, h⟩
    · exact ⟨a, b, c, e, f, g, by simpa using h⟩
  · exact ho

theorem fillX_ok {L : Nat → Option ByteArray} {kd : Int} {tag : ByteArray} {x : Slt} (ho : x.ok) : ∀ i, (fillX L kd tag x i).ok
  | 0 => ho
  | i + 1 => by
    have := fillX_ok (L := L) (kd := kd) (tag := tag) ho i
    simp only [fillX]
    split
    · exact voteX_ok this _ _ _ _
    · exact this

theorem fillX_f {L : Nat → Option ByteArray} {kd : Int} {tag : ByteArray} {x : Slt} : ∀ i, (fillX L kd tag x i).f = x.f
  | 0 => rfl
  | i + 1 => by
    have := fillX_f (L := L) (kd := kd) (tag := tag) (x := x) i
    simp only [fillX]
    split
    · rw [show ∀ y : Slt, ∀ a b c d, (voteX y a b c d).f = y.f from fun y a b c d => by unfold voteX; split; · unfold Slt.put; split <;> rfl
                                                                                        · rfl]
      exact this
    · exact this

/-- Each text that lies in the slot is one of those told. -/
theorem fillX_told {L : Nat → Option ByteArray} {kd : Int} {tag : ByteArray} {x : Slt} (ho : x.ok) (hk : kd = 1 ∨ kd = 2) (h0 : ∀ v ∈ x.vs kd, v.there = false) :
    ∀ i (j : Nat) (v : Vt), ((fillX L kd tag x i).vs kd)[j]? = some v → v.there = true → L j = some v.text
  | 0, j, v, h, ht => by
    have := h0 v (List.mem_of_getElem? h)
    rw [ht] at this; cases this
  | i + 1, j, v, h, ht => by
    have ih := fillX_told (L := L) (tag := tag) ho hk h0 i j v
    simp only [fillX] at h
    split at h
    · rename_i t hL
      unfold voteX at h
      split at h
      · rw [put_vs hk, if_pos rfl] at h
        by_cases hij : j = i
        · subst hij
          simp only [Int.toNat_natCast] at h
          have hlt : j < ((fillX L kd tag x j).vs kd).length := by
            have := (List.getElem?_eq_some_iff.1 h).1
            simpa using this
          rw [List.getElem?_set_self hlt] at h
          injection h with h
          subst h
          exact hL
        · rw [List.getElem?_set_ne (by omega)] at h
          exact ih h ht
      · exact ih h ht
    · exact ih h ht

/-- Two texts, each of its slot: who tells both must fail, if the texts differ. -/
theorem two_tags {ta tb : ByteArray} {F : Nat → Bool} : ∀ (X Y : List Vt) (i : Nat), X.length = Y.length →
    (∀ j v w, X[j]? = some v → Y[j]? = some w → v.there = true ∧ v.text = ta → w.there = true ∧ w.text = tb → F (i + j) = true) →
    (tagsOf ta X i).length + (tagsOf tb Y i).length + cntF F i ≤ X.length + cntF F (i + X.length)
  | [], [], i, _, _ => by simp [tagsOf]
  | v :: X, w :: Y, i, hl, h => by
    have ih := two_tags (ta := ta) (tb := tb) (F := F) X Y (i + 1) (by simpa using hl) (fun j a b h1 h2 => by
      have := h (j + 1) a b (by simpa using h1) (by simpa using h2)
      rwa [show i + 1 + j = i + (j + 1) by omega])
    have h00 := h 0 v w rfl rfl
    rw [Nat.add_zero] at h00
    simp only [tagsOf, List.length_cons]
    rw [show i + (X.length + 1) = i + 1 + X.length by omega]
    simp only [cntF] at ih
    by_cases c1 : v.there = true ∧ v.text = ta
    · by_cases c2 : w.there = true ∧ w.text = tb
      · rw [if_pos (h00 c1 c2)] at ih
        rw [if_pos c1, if_pos c2]
        simp only [List.length_cons]; omega
      · rw [if_pos c1, if_neg c2]
        simp only [List.length_cons]; omega
    · by_cases c2 : w.there = true ∧ w.text = tb
      · rw [if_neg c1, if_pos c2]
        simp only [List.length_cons]; omega
      · rw [if_neg c1, if_neg c2]; omega
  | [], _ :: _, _, hl, _ => by simp at hl
  | _ :: _, [], _, hl, _ => by simp at hl

theorem one_agree {x y : Slt} (hx : x.ok) (hy : y.ok) (hf : x.f = y.f) {k s : Int} {hs va vb : List ByteArray}
    (hX : ∀ (j : Nat) (v : Vt), (x.vs k)[j]? = some v → v.there = true → pick (failsB s x.f) hs va j = some v.text)
    (hY : ∀ (j : Nat) (v : Vt), (y.vs k)[j]? = some v → v.there = true → pick (failsB s x.f) hs vb j = some v.text)
    (hk : k = 1 ∨ k = 2) {ta tb : ByteArray} (h1 : 2 * x.f + 1 ≤ ((tagsOf ta (x.vs k) 0).length : Int)) (h2 : 2 * y.f + 1 ≤ ((tagsOf tb (y.vs k) 0).length : Int)) : ta = tb := by
  apply Decidable.byContradiction
  intro hne
  have l1 := Slt.vs_len hx hk
  have l2 := Slt.vs_len hy hk
  have := two_tags (ta := ta) (tb := tb) (F := failsB s x.f) (x.vs k) (y.vs k) 0 (by omega) (by
    intro j v w hv hw ⟨v1, v2⟩ ⟨w1, w2⟩
    cases hF : failsB s x.f (0 + j) with
    | true => rfl
    | false =>
      rw [Nat.zero_add] at hF
      have a := hX j v hv v1
      have b := hY j w hw w1
      simp only [pick, hF, Bool.false_eq_true, if_false] at a b
      rw [a] at b
      injection b with b
      exact absurd (by rw [← v2, ← w2, b]) hne)
  have c := (cntF_fails s x.f hx.1 (0 + (x.vs k).length)).2
  simp only [cntF] at this
  obtain ⟨f0, _⟩ := hx
  omega

end Go.Proofs.Ytmgacgonoodkfaa
