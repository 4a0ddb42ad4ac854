/- Numbers' texts and lists' texts in plain Lean: what is written is read, what is read was written. -/
import Derived.Lib.AtoiAllCases
import Derived.Lib.IndexBytes
import Derived.Lib.IndexMore
import Derived.Lib.ItoaNum
import Derived.KernelRfl
namespace Go.Proofs

/-- One text, packed. -/
def packOne (s : ByteArray) : List UInt8 := Lib.itoa s.size ++ 58 :: (s.data.toList ++ [44])
def packAll (l : List ByteArray) : List UInt8 := l.flatMap packOne

/-- The number that a text is. -/
def toNumL (s : ByteArray) : Option Int :=
  match Lib.atoiAll s.data.toList with
  | .ok v => if Lib.itoa v = s.data.toList then some v else none
  | _ => none

/-- The first text, and what is behind. -/
def takeL (s : ByteArray) : Option (ByteArray × ByteArray) :=
  match Lib.cut s.data.toList [58] with
  | (h, r, f) => match toNumL ⟨h.toArray⟩ with
    | some n => if f = true ∧ h.length ≤ 9 ∧ 0 ≤ n ∧ n < r.length ∧ r[n.toNat]? = some 44 then some (⟨(r.take n.toNat).toArray⟩, ⟨(r.drop (n.toNat + 1)).toArray⟩) else none
    | none => none

/-- The texts of a text, each with its error's number. -/
def seqL : Nat → ByteArray → List (ByteArray × Int)
  | 0, _ => []
  | f + 1, s => if s.data.toList = [] then [] else match takeL s with
    | some (t, r) => (t, 0) :: seqL f r
    | none => [(⟨#[]⟩, 4)]

/-- The list that a text is. -/
def unpackL (s : ByteArray) : Option (List ByteArray) :=
  if (seqL (s.size + 1) s).all (fun x => x.2 == 0) = true then some ((seqL (s.size + 1) s).map (·.1)) else none

/-- A digit. -/
def isDg (c : UInt8) : Prop := 48 ≤ c.toNat ∧ c.toNat ≤ 57
theorem dg_byte {d : Nat} (h : d < 10) : (UInt8.ofNat (48 + d)).toNat = 48 + d := by
  simp only [UInt8.toNat_ofNat']
  omega
theorem decDigits_dg (u : Nat) : ∀ c ∈ Lib.decDigits u, isDg c := by
  induction u using Nat.strongRecOn with
  | _ u ih =>
    rw [Lib.decDigits]
    split
    · rename_i h
      intro c hc
      rw [List.mem_singleton.1 hc]
      unfold isDg; rw [dg_byte h]; omega
    · intro c hc
      rcases List.mem_append.1 hc with hc | hc
      · exact ih (u / 10) (by omega) c hc
      · rw [List.mem_singleton.1 hc]
        unfold isDg; rw [dg_byte (Nat.mod_lt u (by omega))]; omega
theorem decDigits_ne (u : Nat) : Lib.decDigits u ≠ [] := by
  rw [Lib.decDigits]; split <;> simp

theorem parse_app : ∀ (l : List UInt8) (acc v d : Nat), Lib.parseUint10 acc l = .ok v → d < 10 → v * 10 + d < 18446744073709551616 → Lib.parseUint10 acc (l ++ [UInt8.ofNat (48 + d)]) = .ok (v * 10 + d) := by
  intro l
  induction l with
  | nil =>
    intro acc v d h hd hv
    simp only [Lib.parseUint10] at h
    injection h with h
    subst h
    rw [List.nil_append]
    unfold Lib.parseUint10
    rw [dg_byte hd, if_pos (by omega), if_neg (by omega), if_neg (by omega)]
    unfold Lib.parseUint10
    congr 1; omega
  | cons c l ih =>
    intro acc v d h hd hv
    rw [List.cons_append]
    unfold Lib.parseUint10 at h ⊢
    by_cases h1 : 48 ≤ c.toNat ∧ c.toNat ≤ 57
    · rw [if_pos h1] at h ⊢
      by_cases h2 : 1844674407370955162 ≤ acc
      · rw [if_pos h2] at h; cases h
      · rw [if_neg h2] at h ⊢
        by_cases h3 : 18446744073709551616 ≤ acc * 10 + (c.toNat - 48)
        · rw [if_pos h3] at h; cases h
        · rw [if_neg h3] at h ⊢
          exact ih _ _ _ h hd hv
    · rw [if_neg h1] at h; cases h
theorem parse_dec (u : Nat) : u < 18446744073709551616 → Lib.parseUint10 0 (Lib.decDigits u) = .ok u := by
  induction u using Nat.strongRecOn with
  | _ u ih =>
    intro hu
    rw [Lib.decDigits]
    split
    · rename_i h
      have := parse_app [] 0 0 u rfl h (by omega)
      simpa using this
    · have := parse_app _ 0 (u / 10) (u % 10) (ih (u / 10) (by omega) (by omega)) (by omega) (by omega)
      rw [this]; congr 1; omega

theorem atoi_itoa (v : Int) (h0 : -9223372036854775808 ≤ v) (h1 : v ≤ 9223372036854775807) : Lib.atoiAll (Lib.itoa v) = .ok v := by
  unfold Lib.itoa
  split
  · rename_i hv
    rw [Lib.atoiAll_minus]
    have hp : Lib.parseMag (Lib.decDigits v.natAbs) = .ok v.natAbs := by
      unfold Lib.parseMag; rw [if_neg (decDigits_ne _)]; exact parse_dec _ (by omega)
    rw [hp]
    simp only [Lib.signed]
    rw [if_neg (by omega)]
    congr 1; omega
  · have hp : Lib.parseMag (Lib.decDigits v.toNat) = .ok v.toNat := by
      unfold Lib.parseMag; rw [if_neg (decDigits_ne _)]; exact parse_dec _ (by omega)
    cases hd : Lib.decDigits v.toNat with
    | nil => exact absurd hd (decDigits_ne _)
    | cons c r =>
      have hc := decDigits_dg v.toNat c (by rw [hd]; simp)
      unfold isDg at hc
      rw [Lib.atoiAll_plain c r (by omega) (by omega), ← hd, hp]
      simp only [Lib.signless]
      rw [if_neg (by omega)]
      congr 1; omega
theorem toNum_itoa (v : Int) (h0 : -9223372036854775808 ≤ v) (h1 : v ≤ 9223372036854775807) : toNumL ⟨(Lib.itoa v).toArray⟩ = some v := by
  have e : (⟨(Lib.itoa v).toArray⟩ : ByteArray).data.toList = Lib.itoa v := rfl
  unfold toNumL
  rw [e, atoi_itoa v h0 h1]
  simp
theorem toNum_some {s : ByteArray} {v : Int} (h : toNumL s = some v) : s.data.toList = Lib.itoa v ∧ -9223372036854775808 ≤ v ∧ v ≤ 9223372036854775807 := by
  unfold toNumL at h
  split at h
  · rename_i u hu
    split at h
    · rename_i e
      injection h with h
      subst h
      exact ⟨e.symm, Lib.atoiAll_bounds hu⟩
    · cases h
  · cases h

theorem cut_hit {h r : List UInt8} (hn : ∀ c ∈ h, c ≠ 58) : Lib.cut (h ++ 58 :: r) [58] = (h, r, true) := by
  have hi : Lib.index (h ++ 58 :: r) [58] = (h.length : Int) := by
    refine Lib.index_first (by simp) ?_ ?_
    · simp [Lib.occAt]
    · intro j hj
      have hd : (h ++ 58 :: r).drop j = h.drop j ++ 58 :: r := by rw [List.drop_append_of_le_length (by omega)]
      unfold Lib.occAt
      rw [hd]
      cases hx : h.drop j with
      | nil => have := congrArg List.length hx; simp at this; omega
      | cons a t =>
        have ha : a ≠ 58 := hn a (List.mem_of_mem_drop (i := j) (by rw [hx]; simp))
        simp [List.isPrefixOf, Ne.symm ha]
  unfold Lib.cut
  rw [hi, if_pos (by omega)]
  have : ((h.length : Int).toNat) = h.length := by omega
  rw [this]
  simp
theorem cut_none {l : List UInt8} (hn : ∀ c ∈ l, c ≠ 58) : Lib.cut l [58] = (l, [], false) := by
  have hi : Lib.index l [58] = -1 := by
    refine Lib.index_none fun j hj => ?_
    unfold Lib.occAt
    cases hx : l.drop j with
    | nil => rfl
    | cons a t =>
      have ha : a ≠ 58 := hn a (List.mem_of_mem_drop (i := j) (by rw [hx]; simp))
      simp [List.isPrefixOf, Ne.symm ha]
  unfold Lib.cut
  rw [hi, if_neg (by omega)]
theorem cut_split {l h r : List UInt8} (hc : Lib.cut l [58] = (h, r, true)) : l = h ++ 58 :: r := by
  rcases Lib.index_spec l [58] with ⟨hi, _⟩ | ⟨i, hi, hle, ho, _⟩
  · unfold Lib.cut at hc; rw [hi, if_neg (by omega)] at hc; cases hc
  · unfold Lib.cut at hc
    rw [hi, if_pos (by omega)] at hc
    have hn : ((i : Int).toNat) = i := by omega
    rw [hn] at hc
    injection hc with h1 h2
    injection h2 with h2 _
    subst h1 h2
    unfold Lib.occAt at ho
    cases hx : l.drop i with
    | nil => rw [hx] at ho; cases ho
    | cons a t =>
      rw [hx] at ho
      have ha : a = 58 := by
        simp only [List.isPrefixOf, Bool.and_true, beq_iff_eq] at ho
        exact ho.symm
      subst ha
      have h3 : l.drop (i + 1) = t := by rw [← List.drop_drop, hx]; rfl
      show l = List.take i l ++ 58 :: List.drop (i + 1) l
      rw [h3, ← hx, List.take_append_drop]

theorem itoa_no58 (n : Nat) : ∀ c ∈ Lib.itoa n, c ≠ 58 := by
  intro c hc
  unfold Lib.itoa at hc
  rw [if_neg (by omega)] at hc
  have := decDigits_dg _ c hc
  unfold isDg at this
  intro e; subst e
  exact absurd this.2 (by decide)
theorem decDigits_le (u : Nat) : ∀ k, 0 < k → u < 10 ^ k → (Lib.decDigits u).length ≤ k := by
  induction u using Nat.strongRecOn with
  | _ u ih =>
    intro k hk hu
    rw [Lib.decDigits]
    split
    · exact hk
    · rename_i h
      obtain ⟨j, rfl⟩ : ∃ j, k = j + 1 := ⟨k - 1, by omega⟩
      have hj : 0 < j := by
        apply Nat.pos_of_ne_zero
        rintro rfl
        simp at hu; omega
      have := ih (u / 10) (by omega) j hj (by rw [Nat.pow_succ] at hu; omega)
      simp
      omega
theorem itoa_len {n : Nat} (h : n < 1000000000) : (Lib.itoa n).length ≤ 9 := by
  unfold Lib.itoa
  rw [if_neg (by omega)]
  exact decDigits_le _ 9 (by omega) (by simpa using h)

theorem bytes_mk (l : List UInt8) : (⟨l.toArray⟩ : ByteArray).data.toList = l := rfl
theorem bytes_eta (s : ByteArray) : (⟨s.data.toList.toArray⟩ : ByteArray) = s := by cases s; rfl
theorem size_eq (s : ByteArray) : s.data.toList.length = s.size := rfl

/-- What is written first is read first. -/
theorem take_pack (t : ByteArray) (r : List UInt8) (ht : t.size < 1000000000) : takeL ⟨(packOne t ++ r).toArray⟩ = some (t, ⟨r.toArray⟩) := by
  have e : (⟨(packOne t ++ r).toArray⟩ : ByteArray).data.toList = Lib.itoa t.size ++ 58 :: (t.data.toList ++ 44 :: r) := by rw [bytes_mk]; simp [packOne]
  have hl : t.data.toList.length = t.size := rfl
  unfold takeL
  rw [e, cut_hit (itoa_no58 _)]
  simp only [toNum_itoa (t.size : Int) (by omega) (by omega)]
  have hz : ((t.size : Int).toNat) = t.data.toList.length := by rw [hl]; omega
  rw [if_pos ⟨trivial, itoa_len ht, by omega, by simp; omega, by rw [hz]; simp⟩, hz]
  rw [List.take_left' rfl, List.drop_append]
  simp
/-- What is read first was written first. -/
theorem take_back {s t r : ByteArray} (h : takeL s = some (t, r)) : s.data.toList = packOne t ++ r.data.toList ∧ t.size < 1000000000 := by
  unfold takeL at h
  obtain ⟨a, b, f, hc⟩ : ∃ a b f, Lib.cut s.data.toList [58] = (a, b, f) := ⟨_, _, _, rfl⟩
  rw [hc] at h
  simp only at h
  split at h
  · rename_i n hn
    split at h
    · rename_i hk
      obtain ⟨rfl, hk1, hk2, hk3, hk4⟩ := hk
      simp only [Option.some.injEq, Prod.mk.injEq] at h
      obtain ⟨rfl, rfl⟩ := h
      have hs := cut_split hc
      obtain ⟨ha, _, _⟩ := toNum_some hn
      have ha : a = Lib.itoa n := ha
      obtain ⟨k, rfl⟩ : ∃ k : Nat, n = k := ⟨n.toNat, by omega⟩
      have hkk : ((k : Int).toNat) = k := by omega
      rw [hkk] at hk4 ⊢
      have hlt : k < b.length := by omega
      have hz : (⟨(b.take k).toArray⟩ : ByteArray).size = k := by
        show (b.take k).toArray.size = k
        simp; omega
      constructor
      · rw [hs, ha]
        unfold packOne
        rw [hz]
        simp only [List.append_assoc, List.cons_append, List.nil_append, List.append_cancel_left_eq, List.cons.injEq, true_and]
        rw [← List.take_append_drop k b]
        congr 1
        · simp
        · rw [List.take_append_drop]
          rw [List.drop_eq_getElem_cons hlt]
          have := List.getElem?_eq_getElem hlt
          rw [hk4] at this
          injection this with this
          rw [← this]
      · rw [hz]
        rw [ha] at hk1
        unfold Lib.itoa at hk1
        rw [if_neg (by omega)] at hk1
        refine Nat.lt_of_not_le fun hge => ?_
        have hkk : ((k : Int).toNat) = k := by omega
        rw [hkk] at hk1
        have h10 : ∀ (j u : Nat), 10 ^ j ≤ u → j < (Lib.decDigits u).length := by
          intro j
          induction j with
          | zero =>
            intro u _
            exact List.length_pos_iff.2 (decDigits_ne u)
          | succ j ih =>
            intro u hu
            rw [Nat.pow_succ] at hu
            have hp : 0 < 10 ^ j := Nat.pos_of_ne_zero (by simp)
            rw [Lib.decDigits, dif_neg (by omega)]
            have := ih (u / 10) (by omega)
            simp; omega
        have := h10 9 k (by simpa using hge)
        omega
    · cases h
  · cases h

theorem seq_pack : ∀ (l : List ByteArray) (f : Nat), (∀ t ∈ l, t.size < 1000000000) → l.length < f → seqL f ⟨(packAll l).toArray⟩ = l.map fun t => (t, 0) := by
  intro l
  induction l with
  | nil =>
    intro f _ hf
    obtain ⟨f, rfl⟩ : ∃ g, f = g + 1 := ⟨f - 1, by omega⟩
    simp [seqL, packAll]
  | cons t l ih =>
    intro f ht hf
    obtain ⟨f, rfl⟩ : ∃ g, f = g + 1 := ⟨f - 1, by omega⟩
    have e : packAll (t :: l) = packOne t ++ packAll l := rfl
    rw [seqL, e, take_pack t _ (ht t (by simp)), bytes_mk, if_neg (by simp [packOne])]
    simp only [List.map_cons]
    rw [ih f (fun u hu => ht u (List.mem_cons_of_mem _ hu)) (by simp at hf; omega)]
theorem pack_len (l : List ByteArray) : l.length ≤ (packAll l).length := by
  induction l with
  | nil => simp
  | cons t l ih =>
    have e : packAll (t :: l) = packOne t ++ packAll l := rfl
    rw [e]; simp [packOne]; omega
theorem unpack_pack (l : List ByteArray) (h : ∀ t ∈ l, t.size < 1000000000) : unpackL ⟨(packAll l).toArray⟩ = some l := by
  have hs : (⟨(packAll l).toArray⟩ : ByteArray).size = (packAll l).length := by show (packAll l).toArray.size = _; simp
  unfold unpackL
  rw [seq_pack l _ h (by have := pack_len l; omega)]
  rw [if_pos (by simp)]
  simp [Function.comp_def]
theorem take_less {s t r : ByteArray} (h : takeL s = some (t, r)) : r.size < s.size := by
  have := congrArg List.length (take_back h).1
  have e1 : s.data.toList.length = s.size := rfl
  have e2 : r.data.toList.length = r.size := rfl
  simp [packOne] at this
  rw [← size_eq, ← size_eq]; simp; omega
theorem seq_back : ∀ (f : Nat) (s : ByteArray), s.size < f → (seqL f s).all (fun x => x.2 == 0) = true →
    s.data.toList = packAll ((seqL f s).map (·.1)) ∧ ∀ t ∈ (seqL f s).map (·.1), t.size < 1000000000 := by
  intro f
  induction f with
  | zero => intro s h; omega
  | succ f ih =>
    intro s hs ha
    rw [seqL] at ha ⊢
    split
    · rename_i he
      rw [he]; simp [packAll]
    · rename_i he
      rw [if_neg he] at ha
      cases ht : takeL s with
      | none => rw [ht] at ha; simp at ha
      | some q =>
        obtain ⟨t, r⟩ := q
        rw [ht] at ha
        simp only [List.all_cons, Bool.and_eq_true] at ha
        obtain ⟨h1, h2⟩ := take_back ht
        have h3 := take_less ht
        obtain ⟨i1, i2⟩ := ih r (by omega) ha.2
        simp only [List.map_cons, List.mem_cons]
        refine ⟨?_, ?_⟩
        · show s.data.toList = packOne t ++ packAll _
          rw [h1, i1]
        · rintro u (rfl | hu)
          · exact h2
          · exact i2 u hu
theorem unpack_back {s : ByteArray} {l : List ByteArray} (h : unpackL s = some l) : s = ⟨(packAll l).toArray⟩ ∧ ∀ t ∈ l, t.size < 1000000000 := by
  unfold unpackL at h
  split at h
  · rename_i ha
    injection h with h
    obtain ⟨h1, h2⟩ := seq_back _ s (by omega) ha
    rw [h] at h1 h2
    exact ⟨by rw [← h1], h2⟩
  · cases h
theorem seq_err : ∀ (f : Nat) (s : ByteArray), ∀ x ∈ seqL f s, x.2 = 0 ∨ x = (⟨#[]⟩, 4) := by
  intro f
  induction f with
  | zero => intro s x h; cases h
  | succ f ih =>
    intro s x h
    rw [seqL] at h
    split at h
    · cases h
    · split at h
      · rcases List.mem_cons.1 h with rfl | h
        · exact .inl rfl
        · exact ih _ _ h
      · obtain rfl : x = _ := by simpa using h
        exact .inr rfl
theorem seq_len : ∀ (f : Nat) (s : ByteArray), (seqL f s).length ≤ f := by
  intro f
  induction f with
  | zero => intro s; simp [seqL]
  | succ f ih =>
    intro s
    rw [seqL]
    split
    · simp
    · split
      · have := ih
        simp [ih]
      · simp
end Go.Proofs

namespace Go.Proofs

/-- Decimal digits. -/
def dg : Nat → Nat → List UInt8
  | 0, _ => []
  | f + 1, u => if u < 10 then [UInt8.ofNat (48 + u)] else dg f (u / 10) ++ [UInt8.ofNat (48 + u % 10)]
theorem dg_eq : ∀ (f u : Nat), u < 10 ^ (f + 1) → dg (f + 1) u = Lib.decDigits u := by
  intro f
  induction f with
  | zero =>
    intro u h
    rw [Lib.decDigits, dg, dif_pos (by simpa using h), if_pos (by simpa using h)]
  | succ f ih =>
    intro u h
    rw [Lib.decDigits, dg]
    by_cases h10 : u < 10
    · rw [dif_pos h10, if_pos h10]
    · rw [dif_neg h10, if_neg h10, ih (u / 10) (by rw [Nat.pow_succ] at h; omega)]
def pkOne (s : ByteArray) : List UInt8 := dg 12 s.size ++ 58 :: (s.data.toList ++ [44])
def pk (l : List ByteArray) : List UInt8 := l.flatMap pkOne
theorem pkOne_eq {s : ByteArray} (h : s.size < 1000000000) : pkOne s = packOne s := by
  unfold pkOne packOne Lib.itoa
  rw [if_neg (by omega), dg_eq 11 s.size (by omega)]
  rfl
theorem pk_eq {l : List ByteArray} (h : ∀ s ∈ l, s.size < 1000000000) : pk l = packAll l := by
  induction l with
  | nil => rfl
  | cons a l ih =>
    have := ih fun s hs => h s (List.mem_cons_of_mem _ hs)
    unfold pk packAll at this ⊢
    rw [List.flatMap_cons, List.flatMap_cons, this, pkOne_eq (h a (by simp))]

/-- What stands ahead of the first ':' and behind it. -/
def spK : List UInt8 → Option (List UInt8 × List UInt8)
  | [] => none
  | c :: l => if c == 58 then some ([], l) else (spK l).map fun p => (c :: p.1, p.2)
theorem spK_some : ∀ {l h r : List UInt8}, spK l = some (h, r) → l = h ++ 58 :: r ∧ ∀ c ∈ h, c ≠ 58 := by
  intro l
  induction l with
  | nil => intro h r e; cases e
  | cons c l ih =>
    intro h r e
    unfold spK at e
    split at e
    · rename_i hc
      injection e with e; injection e with e1 e2
      subst e1 e2
      exact ⟨by rw [eq_of_beq hc]; rfl, fun _ h => by cases h⟩
    · rename_i hc
      simp only [Option.map_eq_some_iff] at e
      obtain ⟨⟨a, b⟩, e1, e2⟩ := e
      injection e2 with e2 e3
      subst e2 e3
      obtain ⟨i1, i2⟩ := ih e1
      refine ⟨by rw [i1]; rfl, fun x hx => ?_⟩
      rcases List.mem_cons.1 hx with rfl | hx
      · intro e; subst e; exact hc rfl
      · exact i2 x hx
theorem spK_none : ∀ {l : List UInt8}, spK l = none → ∀ c ∈ l, c ≠ 58 := by
  intro l
  induction l with
  | nil => intro _ c h; cases h
  | cons c l ih =>
    intro e x hx
    unfold spK at e
    split at e
    · cases e
    · rename_i hc
      simp only [Option.map_eq_none_iff] at e
      rcases List.mem_cons.1 hx with rfl | hx
      · intro e; subst e; exact hc rfl
      · exact ih e x hx
def valK (h : List UInt8) : Nat := h.foldl (fun a c => a * 10 + (c.toNat - 48)) 0
def tkK (l : List UInt8) : Option (List UInt8 × List UInt8) :=
  (spK l).bind fun p => if (dg 12 (valK p.1) == p.1 && Nat.blt (valK p.1) 1000000000 && (p.2.drop (valK p.1)).head? == some 44) = true then some (p.2.take (valK p.1), p.2.drop (valK p.1 + 1)) else none
theorem tkK_some {l t r : List UInt8} (h : tkK l = some (t, r)) : takeL ⟨l.toArray⟩ = some (⟨t.toArray⟩, ⟨r.toArray⟩) ∧ r.length < l.length := by
  unfold tkK at h
  simp only [Option.bind_eq_some_iff] at h
  obtain ⟨⟨a, b⟩, h1, h2⟩ := h
  split at h2
  · rename_i hk
    simp only [Bool.and_eq_true, beq_iff_eq] at hk
    obtain ⟨⟨k1, k2⟩, k3⟩ := hk
    have k2 := Nat.blt_eq.mp k2
    simp only [Option.some.injEq, Prod.mk.injEq] at h2
    obtain ⟨rfl, rfl⟩ := h2
    obtain ⟨rfl, i2⟩ := spK_some h1
    rw [dg_eq 11 _ (by omega)] at k1
    have hi : Lib.itoa ((valK a : Nat) : Int) = a := by
      unfold Lib.itoa
      rw [if_neg (by omega)]
      exact k1
    have hv : toNumL ⟨a.toArray⟩ = some ((valK a : Nat) : Int) := by
      have := toNum_itoa ((valK a : Nat) : Int) (by omega) (by omega)
      rw [hi] at this
      exact this
    have hz : ((valK a : Nat) : Int).toNat = valK a := by omega
    have hlt : valK a < b.length := by
      refine Nat.lt_of_not_le fun hge => ?_
      rw [List.drop_eq_nil_of_le hge] at k3
      cases k3
    have hb : b[valK a]? = some 44 := by
      rw [← k3, List.head?_drop]
    constructor
    · unfold takeL
      rw [bytes_mk, cut_hit i2]
      simp only [hv]
      rw [if_pos ⟨trivial, by rw [← hi]; exact itoa_len k2, by omega, by omega, by rw [hz]; exact hb⟩, hz]
    · simp
      omega
  · cases h2

/-- The list that a text is. -/
def upK : Nat → List UInt8 → Option (List (List UInt8))
  | 0, _ => none
  | _ + 1, [] => some []
  | f + 1, c :: l => (tkK (c :: l)).bind fun p => (upK f p.2).map fun q => p.1 :: q
theorem upK_seq : ∀ (f : Nat) (l : List UInt8) (L : List (List UInt8)), upK f l = some L → ∀ g, l.length < g → seqL g ⟨l.toArray⟩ = L.map fun t => ((⟨t.toArray⟩ : ByteArray), (0 : Int)) := by
  intro f
  induction f with
  | zero => intro l L h; cases h
  | succ f ih =>
    intro l L h g hg
    obtain ⟨g, rfl⟩ : ∃ k, g = k + 1 := ⟨g - 1, by omega⟩
    cases l with
    | nil =>
      unfold upK at h
      injection h with h
      subst h
      simp [seqL]
    | cons c l =>
      unfold upK at h
      simp only [Option.bind_eq_some_iff, Option.map_eq_some_iff] at h
      obtain ⟨⟨t, r⟩, h1, q, h2, rfl⟩ := h
      obtain ⟨h3, h4⟩ := tkK_some h1
      rw [seqL, bytes_mk, if_neg (by simp), h3]
      simp only [List.map_cons]
      rw [ih r q h2 g (by simp at h4 hg ⊢; omega)]
theorem upK_ok {f : Nat} {s : ByteArray} {L : List (List UInt8)} (h : upK f s.data.toList = some L) : unpackL s = some (L.map fun t => (⟨t.toArray⟩ : ByteArray)) := by
  have hs : (⟨s.data.toList.toArray⟩ : ByteArray) = s := bytes_eta s
  have := upK_seq f _ L h (s.size + 1) (by rw [size_eq]; omega)
  rw [hs] at this
  unfold unpackL
  rw [this, if_pos (by simp)]
  simp [Function.comp_def]
/-- What holds no ':' is no list. -/
theorem no58_bad {s : ByteArray} (h : spK s.data.toList = none) (hne : s.data.toList ≠ []) : unpackL s = none ∧ takeL s = none := by
  have ht : takeL s = none := by
    unfold takeL
    rw [cut_none (spK_none h)]
    simp only
    split
    · rw [if_neg (by simp)]
    · rfl
  refine ⟨?_, ht⟩
  unfold unpackL
  have e : seqL (s.size + 1) s = [(⟨#[]⟩, 4)] := by rw [seqL, if_neg hne, ht]
  rw [e, if_neg (by simp)]
end Go.Proofs

namespace Go.Proofs

def itoaK (n : Int) : List UInt8 := if n < 0 then 45 :: dg 20 n.natAbs else dg 20 n.toNat
theorem itoaK_eq {n : Int} (h0 : -9223372036854775808 ≤ n) (h1 : n ≤ 9223372036854775807) : itoaK n = Lib.itoa n := by
  have e : (10 : Nat) ^ 20 = 100000000000000000000 := by decide
  unfold itoaK Lib.itoa
  split
  · rw [dg_eq 19 _ (by omega)]
  · rw [dg_eq 19 _ (by omega)]
def inI64 (n : Int) : Bool := decide (-9223372036854775808 ≤ n) && decide (n ≤ 9223372036854775807)
theorem inI64_iff {n : Int} : inI64 n = true ↔ -9223372036854775808 ≤ n ∧ n ≤ 9223372036854775807 := by
  unfold inI64; simp
/-- The number that a text is, where it is one. -/
def tonumK (l : List UInt8) : Option Int :=
  let n : Int := match l with
    | 45 :: r => -((valK r : Nat) : Int)
    | _ => ((valK l : Nat) : Int)
  if (inI64 n && itoaK n == l) = true then some n else none
theorem tonumK_ok {s : ByteArray} {n : Int} (h : tonumK s.data.toList = some n) : toNumL s = some n := by
  unfold tonumK at h
  generalize (match s.data.toList with | 45 :: r => -((valK r : Nat) : Int) | _ => ((valK s.data.toList : Nat) : Int)) = k at h
  simp only at h
  split at h
  · rename_i hk
    injection h with h
    subst h
    simp only [Bool.and_eq_true, beq_iff_eq] at hk
    obtain ⟨h1, h2⟩ := hk
    obtain ⟨h0, h1⟩ := inI64_iff.1 h1
    rw [itoaK_eq h0 h1] at h2
    have := toNum_itoa k h0 h1
    rw [h2, bytes_eta] at this
    exact this
  · cases h
end Go.Proofs
