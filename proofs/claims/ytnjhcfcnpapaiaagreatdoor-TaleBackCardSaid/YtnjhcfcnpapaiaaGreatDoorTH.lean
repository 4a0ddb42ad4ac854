/- Choices' and scripts' texts in plain Lean: there and back. -/
import Derived.Test.YtnjhcfcnpapaiaaGreatDoorNM
namespace Go.Proofs

/-- The place of the last one that is not nothing. -/
def lastL : Nat → List Bool → Nat → Nat
  | _, [], a => a
  | i, b :: l, a => lastL (i + 1) l (if b = true then a else i)
theorem lastL_snoc : ∀ (l : List Bool) (i a : Nat) (b : Bool), lastL i (l ++ [b]) a = if b = true then lastL i l a else i + l.length := by
  intro l
  induction l with
  | nil => intro i a b; simp [lastL]
  | cons c l ih =>
    intro i a b
    rw [List.cons_append, lastL, ih, lastL]
    simp only [List.length_cons]
    split
    · rfl
    · omega
theorem lastL_le : ∀ (l : List Bool) (i a : Nat), a ≤ i → lastL i l a < i + l.length ∨ lastL i l a = a := by
  intro l
  induction l with
  | nil => intro i a h; exact .inr rfl
  | cons c l ih =>
    intro i a h
    rw [lastL]
    rcases ih (i + 1) (if c = true then a else i) (by split <;> omega) with h1 | h1
    · left; simp only [List.length_cons]; omega
    · rw [h1]
      split
      · exact .inr rfl
      · left; simp
theorem lastL_none : ∀ (l : List Bool) (i a k : Nat), a ≤ i → lastL i l a < i + k → k < l.length → l[k]? = some true := by
  intro l
  induction l with
  | nil => intro i a k _ _ h; simp at h
  | cons c l ih =>
    intro i a k ha h hk
    rw [lastL] at h
    cases k with
    | zero =>
      have hge : ∀ (l : List Bool) (i a : Nat), a ≤ i → a ≤ lastL i l a := by
        intro l
        induction l with
        | nil => intro i a _; exact Nat.le_refl _
        | cons d l ih =>
          intro i a h
          rw [lastL]
          have := ih (i + 1) (if d = true then a else i) (by split <;> omega)
          cases d
          · simp only [Bool.false_eq_true, if_false] at this ⊢; omega
          · simp only [if_true] at this ⊢; exact this
      have := hge l (i + 1) (if c = true then a else i) (by split <;> omega)
      cases c with
      | true => rfl
      | false => simp at this h; omega
    | succ k =>
      rw [List.getElem?_cons_succ]
      exact ih (i + 1) (if c = true then a else i) k (by split <;> omega) (by omega) (by simp at hk; omega)

/-- A choice: its numbers, its texts. -/
def fieldsL (ns : List Int) (ts : List ByteArray) : List ByteArray := (ns.map fun n => (⟨(Lib.itoa n).toArray⟩ : ByteArray)) ++ ts
def noneL (ns : List Int) (ts : List ByteArray) : List Bool := (ns.map fun n => n == 0) ++ (ts.map fun t => decide (t = ⟨#[]⟩))
def choiceL (ns : List Int) (ts : List ByteArray) : ByteArray := ⟨(packAll ((fieldsL ns ts).take (lastL 0 (noneL ns ts) 0 + 1))).toArray⟩
/-- The numbers of fields, the texts of fields. -/
def numAt (l : List ByteArray) (i : Nat) : Int := if i < l.length then (toNumL (l.getD i ⟨#[]⟩)).getD 0 else 0
def txtAt (l : List ByteArray) (i : Nat) : ByteArray := if i < l.length then l.getD i ⟨#[]⟩ else ⟨#[]⟩
def numsAt (l : List ByteArray) (k : Nat) : List Int := (List.range k).map (numAt l)
def txtsAt (l : List ByteArray) (k n : Nat) : List ByteArray := (List.range n).map fun i => txtAt l (k + i)

def i64 (n : Int) : Prop := -9223372036854775808 ≤ n ∧ n ≤ 9223372036854775807

theorem itoa_size (n : Int) (h : i64 n) : (Lib.itoa n).length ≤ 20 := by
  obtain ⟨h0, h1⟩ := h
  unfold Lib.itoa
  split
  · have := decDigits_le n.natAbs 19 (by omega) (by
      have : (10 : Nat) ^ 19 = 10000000000000000000 := by decide
      omega)
    simp; omega
  · have := decDigits_le n.toNat 19 (by omega) (by
      have : (10 : Nat) ^ 19 = 10000000000000000000 := by decide
      omega)
    omega

theorem fields_small {ns : List Int} {ts : List ByteArray} (hn : ∀ n ∈ ns, i64 n) (ht : ∀ t ∈ ts, t.size < 1000000000) : ∀ t ∈ fieldsL ns ts, t.size < 1000000000 := by
  intro t h
  rcases List.mem_append.1 h with h | h
  · obtain ⟨n, h1, rfl⟩ := List.mem_map.1 h
    have := itoa_size n (hn n h1)
    show (Lib.itoa n).toArray.size < _
    simp; omega
  · exact ht t h

/-- What is written of a choice is read. -/
theorem choice_back {ns : List Int} {ts : List ByteArray} (hn : ∀ n ∈ ns, i64 n) (ht : ∀ t ∈ ts, t.size < 1000000000) :
    ∃ l, unpackL (choiceL ns ts) = some l ∧ l.length ≤ ns.length + ts.length + 1 ∧ l.length ≤ max (ns.length + ts.length) 1 ∧ numsAt l ns.length = ns ∧ txtsAt l ns.length ts.length = ts := by
  refine ⟨_, unpack_pack _ fun t h => fields_small hn ht t (List.mem_of_mem_take h), ?_, ?_, ?_, ?_⟩
  · simp [fieldsL]; omega
  · simp [fieldsL]; omega
  all_goals
    have hlen : (noneL ns ts).length = ns.length + ts.length := by simp [noneL]
    have hfl : (fieldsL ns ts).length = ns.length + ts.length := by simp [fieldsL]
    generalize hk : lastL 0 (noneL ns ts) 0 = k
    have hno : ∀ i, k < i → i < ns.length + ts.length → (noneL ns ts)[i]? = some true := by
      intro i h1 h2
      exact lastL_none _ 0 0 i (Nat.le_refl _) (by rw [hk]; omega) (by omega)
  · apply List.ext_getElem?
    intro i
    by_cases hi : i < ns.length
    · have hni := List.getElem?_eq_getElem hi
      rw [numsAt, List.getElem?_map, List.getElem?_range hi, hni]
      simp only [Option.map_some, Option.some.injEq]
      unfold numAt
      split
      · rename_i h
        have hf : (fieldsL ns ts)[i]? = some ⟨(Lib.itoa ns[i]).toArray⟩ := by
          unfold fieldsL
          rw [List.getElem?_append_left (by simpa using hi), List.getElem?_map, hni]
          rfl
        have hg : ((fieldsL ns ts).take (k + 1)).getD i ⟨#[]⟩ = ⟨(Lib.itoa ns[i]).toArray⟩ := by
          rw [List.getD_eq_getElem?_getD, List.getElem?_take, if_pos (by simp at h; omega), hf]
          rfl
        have hm := hn ns[i] (List.getElem_mem hi)
        rw [hg, toNum_itoa _ hm.1 hm.2]
        rfl
      · rename_i h
        have hlt : k < i := by simp [hfl] at h; omega
        have := hno i hlt (by omega)
        unfold noneL at this
        rw [List.getElem?_append_left (by simpa using hi), List.getElem?_map, hni] at this
        simp at this
        exact this.symm
    · rw [List.getElem?_eq_none (by simp [numsAt]; omega), List.getElem?_eq_none (by omega)]
  · apply List.ext_getElem?
    intro i
    by_cases hi : i < ts.length
    · have hni := List.getElem?_eq_getElem hi
      rw [txtsAt, List.getElem?_map, List.getElem?_range hi, hni]
      simp only [Option.map_some, Option.some.injEq]
      unfold txtAt
      split
      · rename_i h
        have hf : (fieldsL ns ts)[ns.length + i]? = some ts[i] := by
          unfold fieldsL
          rw [List.getElem?_append_right (by simp)]
          simp
        rw [List.getD_eq_getElem?_getD, List.getElem?_take, if_pos (by simp at h; omega), hf]
        rfl
      · rename_i h
        have hlt : k < ns.length + i := by simp [hfl] at h; omega
        have := hno (ns.length + i) hlt (by omega)
        unfold noneL at this
        rw [List.getElem?_append_right (by simp)] at this
        simp only [List.length_map, Nat.add_sub_cancel_left, List.getElem?_map, hni, Option.map_some, Option.some.injEq] at this
        exact (of_decide_eq_true this).symm
    · rw [List.getElem?_eq_none (by simp [txtsAt]; omega), List.getElem?_eq_none (by omega)]
end Go.Proofs

namespace Go.Proofs

def itoaB (n : Int) : ByteArray := ⟨(Lib.itoa n).toArray⟩
def headF (f g c : Int) (seed : ByteArray) (odd : List Int) : List ByteArray := [itoaB f, itoaB g, itoaB c, seed] ++ odd.map itoaB
def headT (f g c : Int) (seed : ByteArray) (odd : List Int) : ByteArray := ⟨(packAll (headF f g c seed odd)).toArray⟩
def numOf (t : ByteArray) : Int := (toNumL t).getD 0

structure Chs where
  ns : List Int
  ts : List ByteArray
structure Scr where
  f : Int
  g : Int
  c : Int
  seed : ByteArray
  odd : List Int
  l : List Chs
def Chs.ok (c : Chs) : Prop := (∀ n ∈ c.ns, i64 n) ∧ (∀ t ∈ c.ts, t.size ≤ 20000) ∧ c.ns.length = 8 ∧ c.ts.length = 4
def Chs.text (c : Chs) : ByteArray := choiceL c.ns c.ts
def Scr.head (s : Scr) : ByteArray := headT s.f s.g s.c s.seed s.odd
def Scr.wrong (s : Scr) : Prop := 16 < s.odd.length ∨ 32 < s.seed.size
def formatL (s : Scr) : ByteArray := ⟨(packAll (s.head :: s.l.map Chs.text)).toArray⟩

theorem numOf_itoa {n : Int} (h : i64 n) : numOf (itoaB n) = n := by
  unfold numOf itoaB
  rw [toNum_itoa n h.1 h.2]; rfl
theorem itoaB_size {n : Int} (h : i64 n) : (itoaB n).size ≤ 20 := by
  have := itoa_size n h
  show (Lib.itoa n).toArray.size ≤ 20
  simpa using this
theorem packOne_length (s : ByteArray) : (packOne s).length = (Lib.itoa s.size).length + 1 + s.size + 1 := by
  simp only [packOne, List.length_append, List.length_cons, List.length_nil, Array.length_toList]
  show _ = _ + 1 + s.data.size + 1
  omega
theorem packAll_length_le (b : Nat) (hb : b < 1000000000) : ∀ (l : List ByteArray), (∀ t ∈ l, t.size ≤ b) → (packAll l).length ≤ l.length * (b + 11) := by
  intro l
  induction l with
  | nil => intro _; simp [packAll]
  | cons t l ih =>
    intro h
    have e : packAll (t :: l) = packOne t ++ packAll l := rfl
    have h1 := h t (by simp)
    have h2 := ih fun u hu => h u (List.mem_cons_of_mem _ hu)
    have h3 := itoa_len (n := t.size) (by omega)
    rw [e, List.length_append, packOne_length, List.length_cons, Nat.add_mul]
    omega
theorem mk_size (l : List UInt8) : (⟨l.toArray⟩ : ByteArray).size = l.length := by
  show l.toArray.size = _; simp

theorem Chs.text_size {c : Chs} (h : c.ok) : c.text.size < 1000000 := by
  obtain ⟨h1, h2, h3, h4⟩ := h
  unfold Chs.text choiceL
  rw [mk_size]
  have := packAll_length_le 20000 (by omega) ((fieldsL c.ns c.ts).take (lastL 0 (noneL c.ns c.ts) 0 + 1)) (fun t ht => by
    rcases List.mem_append.1 (List.mem_of_mem_take ht) with h | h
    · obtain ⟨n, q1, rfl⟩ := List.mem_map.1 h
      have := itoaB_size (h1 n q1)
      unfold itoaB at this
      omega
    · have := h2 t h; omega)
  have hl : ((fieldsL c.ns c.ts).take (lastL 0 (noneL c.ns c.ts) 0 + 1)).length ≤ 12 := by simp [fieldsL, h3, h4]; omega
  have := Nat.mul_le_mul_right (20000 + 11) hl
  omega
structure Scr.ok (s : Scr) : Prop where
  f : i64 s.f
  g : i64 s.g
  c : i64 s.c
  seed : s.seed.size ≤ 32
  odd : ∀ n ∈ s.odd, i64 n
  odds : s.odd.length ≤ 16
  l : ∀ c ∈ s.l, c.ok

theorem head_back {s : Scr} (h : s.ok) : unpackL s.head = some (headF s.f s.g s.c s.seed s.odd) ∧ s.head.size < 100000 := by
  have hb : ∀ t ∈ headF s.f s.g s.c s.seed s.odd, t.size ≤ 32 := by
    intro t ht
    rcases List.mem_append.1 ht with ht | ht
    · simp only [List.mem_cons, List.not_mem_nil, or_false] at ht
      rcases ht with rfl | rfl | rfl | rfl
      · have := itoaB_size h.f; omega
      · have := itoaB_size h.g; omega
      · have := itoaB_size h.c; omega
      · exact h.seed
    · obtain ⟨n, q1, rfl⟩ := List.mem_map.1 ht
      have := itoaB_size (h.odd n q1); omega
  refine ⟨unpack_pack _ fun t ht => by have := hb t ht; omega, ?_⟩
  unfold Scr.head headT
  rw [mk_size]
  have := packAll_length_le 32 (by omega) _ hb
  have hl : (headF s.f s.g s.c s.seed s.odd).length ≤ 20 := by simp [headF]; have := h.odds; omega
  have := Nat.mul_le_mul_right (32 + 11) hl
  omega
theorem format_back {s : Scr} (h : s.ok) : unpackL (formatL s) = some (s.head :: s.l.map Chs.text) := by
  refine unpack_pack _ fun t ht => ?_
  rcases List.mem_cons.1 ht with rfl | ht
  · have := (head_back h).2; omega
  · obtain ⟨c, q1, rfl⟩ := List.mem_map.1 ht
    have := Chs.text_size (h.l c q1); omega
end Go.Proofs
