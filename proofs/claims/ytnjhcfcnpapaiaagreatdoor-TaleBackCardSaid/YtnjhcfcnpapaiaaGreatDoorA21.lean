/- The abstract machine against the model: a region that draws its order: what is known beforehand; the run in the text's order. -/
import Derived.Test.YtnjhcfcnpapaiaaGreatDoorA20
set_option linter.unusedVariables false
set_option linter.unusedSimpArgs false
namespace Go.AM

def opAt (ops : Array Oper) (j : Nat) : Oper := ops.getD j default

theorem opAt_some {ops : Array Oper} {j : Nat} (h : j < ops.size) : ops[j]? = some (opAt ops j) := by
  simp [opAt, Array.getD_eq_getD_getElem?, h]

/-- The bits of an 'or' over edges. -/
theorem edges_bits (acc : Array Nat) (k : Nat) : ∀ (l : List Edge) (s : Nat), (l.foldl (fun s e => if Region.binds .any e then s ||| 2 ^ e.on ||| acc.getD e.on 0 else s) s).testBit k = true ↔
    s.testBit k = true ∨ ∃ e ∈ l, Region.binds .any e = true ∧ (k = e.on ∨ (acc.getD e.on 0).testBit k = true) := by
  intro l
  induction l with
  | nil => intro s; simp
  | cons e l ih =>
    intro s
    simp only [List.foldl_cons]
    rw [ih]
    by_cases hb : Region.binds .any e = true
    · simp only [hb, if_true, Nat.testBit_or, Bool.or_eq_true, List.mem_cons]
      have h2 : (2 ^ e.on).testBit k = true ↔ k = e.on := by rw [Nat.testBit_two_pow]; simp; exact eq_comm
      rw [h2]
      constructor
      · rintro ((h | h) | h)
        · rcases h with h | h
          · exact .inl h
          · exact .inr ⟨e, .inl rfl, hb, .inl h⟩
        · exact .inr ⟨e, .inl rfl, hb, .inr h⟩
        · obtain ⟨e', h1, h2, h3⟩ := h; exact .inr ⟨e', .inr h1, h2, h3⟩
      · rintro (h | ⟨e', rfl | h1, h2, h3⟩)
        · exact .inl (.inl (.inl h))
        · rcases h3 with h3 | h3
          · exact .inl (.inl (.inr h3))
          · exact .inl (.inr h3)
        · exact .inr ⟨e', h1, h2, h3⟩
    · simp only [hb, Bool.false_eq_true, if_false, List.mem_cons]
      constructor
      · rintro (h | ⟨e', h1, h2, h3⟩)
        · exact .inl h
        · exact .inr ⟨e', .inr h1, h2, h3⟩
      · rintro (h | ⟨e', rfl | h1, h2, h3⟩)
        · exact .inl h
        · exact absurd h2 hb
        · exact .inr ⟨e', h1, h2, h3⟩

/-- 'before', taken up to some operation. -/
theorem before_go : ∀ (l : List Oper) (acc : Array Nat), 
    (l.foldl (fun acc (o : Oper) => acc.push (o.after.toList.foldl (fun s e => if Region.binds .any e then s ||| 2 ^ e.on ||| acc.getD e.on 0 else s) 0)) acc).size = acc.size + l.length ∧
    ∀ j, j < acc.size → (l.foldl (fun acc (o : Oper) => acc.push (o.after.toList.foldl (fun s e => if Region.binds .any e then s ||| 2 ^ e.on ||| acc.getD e.on 0 else s) 0)) acc).getD j 0 = acc.getD j 0 := by
  intro l
  induction l with
  | nil => intro acc; simp
  | cons o l ih =>
    intro acc
    simp only [List.foldl_cons]
    obtain ⟨h1, h2⟩ := ih (acc.push (o.after.toList.foldl (fun s e => if Region.binds .any e then s ||| 2 ^ e.on ||| acc.getD e.on 0 else s) 0))
    refine ⟨by rw [h1]; simp; omega, fun j hj => ?_⟩
    rw [h2 j (by simp; omega)]
    simp only [Array.getD_eq_getD_getElem?, Array.getElem?_push]
    rw [if_neg (by omega)]

def bstep (acc : Array Nat) (o : Oper) : Array Nat := acc.push (o.after.toList.foldl (fun s e => if Region.binds .any e then s ||| 2 ^ e.on ||| acc.getD e.on 0 else s) 0)

theorem bsteps : ∀ (l : List Oper) (acc : Array Nat), (l.foldl bstep acc).size = acc.size + l.length ∧ ∀ j, j < acc.size → (l.foldl bstep acc).getD j 0 = acc.getD j 0 := before_go

theorem before_eq (ops : Array Oper) : Region.before ops = ops.toList.foldl bstep #[] := by
  unfold Region.before
  rw [← Array.foldl_toList]
  congr 1
  funext acc o
  unfold bstep
  rw [← Array.foldl_toList]

theorem ord_spec {ops : Array Oper} {j : Nat} (hj : j < ops.size) (hb : ∀ e ∈ (opAt ops j).after.toList, Region.binds .any e = true → e.on < j) (k : Nat) :
    ord (Region.before ops) k j = true ↔ ∃ e ∈ (opAt ops j).after.toList, Region.binds .any e = true ∧ (k = e.on ∨ ord (Region.before ops) k e.on = true) := by
  have hsplit : ops.toList = ops.toList.take j ++ opAt ops j :: ops.toList.drop (j + 1) := by
    have h1 : ops.toList[j]? = some (opAt ops j) := by simpa using opAt_some hj
    have hl : j < ops.toList.length := by simpa using hj
    have h2 : ops.toList[j] = opAt ops j := by simpa [List.getElem?_eq_getElem hl] using h1
    rw [← h2, List.getElem_cons_drop, List.take_append_drop]
  have hbe : Region.before ops = (ops.toList.drop (j + 1)).foldl bstep (bstep ((ops.toList.take j).foldl bstep #[]) (opAt ops j)) := by
    rw [before_eq]
    conv => lhs; rw [hsplit]
    rw [List.foldl_append, List.foldl_cons]
  obtain ⟨hsz, _⟩ := bsteps (ops.toList.take j) #[]
  have hlen : (ops.toList.take j).length = j := by simp; omega
  rw [hlen] at hsz
  generalize hacc : (ops.toList.take j).foldl bstep #[] = acc at *
  have hsz' : acc.size = j := by simpa using hsz
  obtain ⟨_, hpost⟩ := bsteps (ops.toList.drop (j + 1)) (bstep acc (opAt ops j))
  have hsz2 : (bstep acc (opAt ops j)).size = j + 1 := by simp [bstep, hsz']
  have hlow : ∀ i, i < j → (Region.before ops).getD i 0 = acc.getD i 0 := by
    intro i hi
    rw [hbe, hpost i (by omega)]
    simp only [bstep, Array.getD_eq_getD_getElem?, Array.getElem?_push]
    rw [if_neg (by omega)]
  have hat : (Region.before ops).getD j 0 = (opAt ops j).after.toList.foldl (fun s e => if Region.binds .any e then s ||| 2 ^ e.on ||| acc.getD e.on 0 else s) 0 := by
    rw [hbe, hpost j (by omega)]
    simp only [bstep, Array.getD_eq_getD_getElem?, Array.getElem?_push]
    rw [if_pos hsz'.symm]
    rfl
  unfold ord
  rw [hat, edges_bits]
  simp only [Nat.zero_testBit, Bool.false_eq_true, false_or]
  constructor
  · rintro ⟨e, h1, h2, h3⟩
    refine ⟨e, h1, h2, h3.imp id fun h => ?_⟩
    rw [hlow e.on (hb e h1 h2)]; exact h
  · rintro ⟨e, h1, h2, h3⟩
    refine ⟨e, h1, h2, h3.imp id fun h => ?_⟩
    rw [hlow e.on (hb e h1 h2)] at h; exact h

/-- What the static look says of two operations. -/
theorem drawOK_edge {ops : Array Oper} (h : drawOK ops = true) {j : Nat} (hj : j < ops.size) : kindOf (opAt ops j) ≠ .bad ∧ (∀ e ∈ (opAt ops j).after.toList, Region.binds .any e = true → e.on < j) ∧
    (∀ i, i < j → pairOK ops (Region.before ops) i j (opAt ops i) (opAt ops j) = true) := by
  unfold drawOK at h
  simp only [List.all_eq_true] at h
  have hm : (opAt ops j, j) ∈ ops.toList.zipIdx := by
    rw [List.mem_zipIdx_iff_getElem?]
    simpa using opAt_some hj
  have := h _ hm
  simp only [Bool.and_eq_true, List.all_eq_true, bne_iff_ne, ne_eq] at this
  obtain ⟨⟨⟨h1, h2⟩, _⟩, h4⟩ := this
  refine ⟨h1, fun e he hb => ?_, fun i hi => ?_⟩
  · have h2' : ∀ e ∈ (opAt ops j).after.toList, (!Region.binds .any e || decide (e.on < j)) = true := by
      intro e he
      obtain ⟨i, hi, rfl⟩ := List.getElem_of_mem he
      rw [Array.all_eq_true] at h2
      exact h2 i (by simpa using hi)
    have := h2' e he
    simp [hb] at this
    exact this
  · have hmi : (opAt ops i, i) ∈ ops.toList.zipIdx := by
      rw [List.mem_zipIdx_iff_getElem?]
      simpa using opAt_some (show i < ops.size by omega)
    have := h4 _ hmi
    simp only [Bool.or_eq_true, decide_eq_true_eq] at this
    rcases this with h | h
    · omega
    · exact h

/-- Of two temporaries' writers and readers that are not ordered nothing touches the other. -/
theorem pair_apart {ops : Array Oper} {i j : Nat} (h : pairOK ops (Region.before ops) i j (opAt ops i) (opAt ops j) = true) (ho : ord (Region.before ops) i j = false) :
    (∀ d, (opAt ops i).dst = some d → d ∉ (opAt ops j).looksAt ops ∧ (opAt ops j).dst ≠ some d) ∧ (∀ d, (opAt ops j).dst = some d → d ∉ (opAt ops i).looksAt ops) ∧
    ¬ (kindOf (opAt ops i) = .effect ∧ kindOf (opAt ops j) = .effect) ∧ ¬ (kindOf (opAt ops i) = .effect ∧ kindOf (opAt ops j) = .alloc) ∧ ¬ (kindOf (opAt ops i) = .alloc ∧ kindOf (opAt ops j) = .effect) := by
  unfold pairOK at h
  rw [ho] at h
  simp only [Bool.false_or, Bool.and_eq_true] at h
  obtain ⟨h1, h2⟩ := h
  unfold looksApart at h1
  simp only [Bool.and_eq_true] at h1
  obtain ⟨h1a, h1b⟩ := h1
  refine ⟨fun d hd => ?_, fun d hd => ?_, ?_, ?_, ?_⟩
  · rw [hd] at h1a; simp at h1a; exact h1a
  · rw [hd] at h1b; simp at h1b; exact h1b
  · rintro ⟨a, b⟩; rw [a, b] at h2; simp at h2
  · rintro ⟨a, b⟩; rw [a, b] at h2; simp at h2
  · rintro ⟨a, b⟩; rw [a, b] at h2; simp at h2

end Go.AM
