/- The abstract machine against the model: memory that is written, memory that is made. -/
import Derived.Test.YtbgepjggclhfiaaGreatDoorA12
import Derived.Laws.CopyOwn
set_option linter.unusedVariables false
set_option linter.unusedSimpArgs false
namespace Go.AM
open Go.RowKit (Below)

section
variable {B : Nat} {σ : St} {m : Mp} {w : World} {P : Program} {R : Type}

/-- What the program's variables hold goes on. -/
theorem Sim.globs {B : Nat} {σ σ' : St} {m m' : Mp} {w w' : World} (hs : Sim B σ m w) (g : Grows m w m' w') (hb : Below B w w') (h : ∀ id n cs, σ'.get id = some (.glob n cs) → σ.get id = some (.glob n cs)) :
    ∀ id n cs, σ'.get id = some (.glob n cs) → (n < B ∧ ∃ L, m' id = some L) ∧ ∃ ccs el fr, w'.heap[n]? = some (.cells ccs el fr) ∧ RepL m' w' cs ccs.toList := by
  intro id n cs hid
  obtain ⟨⟨h1, L, hL⟩, ccs, el, fr, h2, h3⟩ := hs.glob id n cs (h id n cs hid)
  exact ⟨⟨h1, L, g.map _ _ hL⟩, ccs, el, fr, by rw [hb.block n h1]; exact h2, h3.mono g⟩

theorem splice_region {α : Type} (c u : List α) (b o n : Nat) (h1 : o + u.length ≤ n) (h2 : b + n ≤ c.length) :
    ((c.take (b + o) ++ u ++ c.drop (b + o + u.length)).drop b).take n = ((c.drop b).take n).take o ++ u ++ ((c.drop b).take n).drop (o + u.length) := by
  apply List.ext_getElem?
  intro i
  simp only [List.getElem?_take, List.getElem?_drop, List.getElem?_append, List.length_take, List.length_append, List.length_drop]
  have e1 : min (b + o) c.length = b + o := by omega
  have e2 : min o (min n (c.length - b)) = o := by omega
  simp only [e1, e2]
  by_cases hi : i < n
  · by_cases h3 : i < o
    · simp [hi, h3, show b + i < b + o + u.length by omega, show i < o + u.length by omega]
    · by_cases h4 : i < o + u.length
      · simp [hi, h3, h4, show b + i < b + o + u.length by omega, show b + i - (b + o) = i - o by omega]
      · simp [hi, h3, h4, show ¬ b + i < b + o + u.length by omega, show b + o + u.length + (b + i - (b + o + u.length)) = b + i by omega,
          show o + u.length + (i - (o + u.length)) = i by omega]
  · simp [hi, show ¬ i < o by omega, show ¬ i < o + u.length by omega, show ¬ o + u.length + (i - (o + u.length)) < n by omega]

theorem blkSize_setRow {g : Nat} {old cs : Array Value} {t : TypeId} {fr : Nat × Nat} (hg : w.heap[g]? = some (.cells old t fr)) (hsz : cs.size = old.size) (b : Nat) : blkSize (w.setRow g cs) b = blkSize w b := by
  unfold blkSize
  by_cases hb : b = g
  · subst hb; rw [setRow_heap w b old cs t fr hg, hg]; simpa using hsz
  · rw [setRow_other w g b cs hb]

theorem blkSize_alloc (o : Obj) (b : Nat) : blkSize w b ≤ blkSize (w.alloc o) b := by
  unfold blkSize
  by_cases hb : b < w.heap.size
  · rw [Below.heap_alloc w o b hb]; exact Nat.le_refl _
  · rw [Array.getElem?_eq_none (by omega)]; exact Nat.zero_le _

theorem St.rowOwn_some {b : Nat} {cs : List AV} (h : σ.rowOwn b = some cs) : σ.get b = some (.cells cs true) := by
  unfold St.rowOwn at h
  cases hg : σ.get b with
  | none => simp [hg] at h
  | some x =>
    cases x with
    | cells c o => cases o <;> simp [hg] at h; rw [h]
    | _ => simp [hg] at h

theorem store_sim (hs : Sim B σ m w) {b off : Nat} {vs : List AV} {us : List Value} {L : Loc} {σ' : St} (h : σ.st b off vs = some σ') (hm : m b = some L) (hr : RepL m w vs us) (h1 : vs.all AV.one = true) :
    ∃ w', (storeCells ⟨L.blk, L.base + off, none⟩ us).run P w = .ok () w' ∧ Sim B σ' m w' ∧ Grows m w m w' ∧ Below B w w' ∧ σ'.next = σ.next := by
  unfold St.st at h
  cases hrow : σ.rowOwn b with
  | none => simp [hrow] at h
  | some cs =>
    simp only [hrow, Option.bind_some] at h
    split at h
    · rename_i hl
      simp only [Option.some.injEq] at h
      have hg := St.rowOwn_some hrow
      obtain ⟨L', ccs, el, fr, q1, q2, q3, q4, q5, q6, q7, _⟩ := hs.row b cs true hg
      rw [hm] at q1; obtain rfl := Option.some.inj q1
      obtain ⟨hB, rfl⟩ := q7 rfl
      have hlu := hr.length
      have hrun := run_storeCells_at P L.blk (L.base + off) el us 0 ccs w q3 (by omega) (hr.one h1)
      simp only [Nat.add_zero] at hrun
      let nc : Array Value := (ccs.toList.take (L.base + off) ++ us ++ ccs.toList.drop (L.base + off + us.length)).toArray
      have hnc : nc.size = ccs.size := by simp [nc]; omega
      have hbs := blkSize_setRow (cs := nc) q3 hnc
      have hgrow : Grows m w m (w.setRow L.blk nc) := ⟨fun _ _ h => h, fun b => Nat.le_of_eq (hbs b).symm⟩
      refine ⟨w.setRow L.blk nc, hrun, ?_, hgrow, ?_, by subst h; rfl⟩
      · subst h
        refine ⟨?_, ?_, ?_, by simpa using hs.le, hs.globs hgrow ⟨rfl, rfl, rfl, by simp, fun k hk => setRow_other w L.blk k nc (by omega)⟩ fun id n cs2 hid => by
          rw [St.get_put] at hid; split at hid
          · simp at hid
          · exact hid⟩
        · intro id cs2 own hid
          rw [St.get_put] at hid
          split at hid
          · rename_i he
            subst he
            simp only [Option.some.injEq, Blk.cells.injEq] at hid
            obtain ⟨rfl, rfl⟩ := hid
            have hlen : (St.splice cs off vs).length = cs.length := by simp [St.splice]; omega
            refine ⟨L, nc, el, (0, 0), hm, by rw [hlen]; exact q2, setRow_heap w L.blk ccs nc el (0, 0) q3, by rw [hlen, hnc]; exact q4, ?_, ?_, fun _ => ⟨hB, rfl⟩, by simp⟩
            · rw [hlen]
              have := splice_region ccs.toList us L.base off cs.length (by omega) (by simpa using q4)
              simp only [nc]
              rw [this]
              unfold St.splice
              have r1 : RepL m (w.setRow L.blk nc) cs ((ccs.toList.drop L.base).take cs.length) := RepL.mono hgrow q5
              have r2 : RepL m (w.setRow L.blk nc) vs us := RepL.mono hgrow hr
              rw [hlu]
              exact ((r1.take off).append r2).append (r1.drop _)
            · simp only [St.splice, List.all_append, Bool.and_eq_true]
              refine ⟨⟨?_, h1⟩, ?_⟩
              · exact List.all_eq_true.2 fun v hv => List.all_eq_true.1 q6 v (List.mem_of_mem_take hv)
              · exact List.all_eq_true.2 fun v hv => List.all_eq_true.1 q6 v (List.mem_of_mem_drop hv)
          · rename_i hne
            obtain ⟨L2, c2, el2, fr2, p1, p2, p3, p4, p5, p6, p7, p8⟩ := hs.row id cs2 own hid
            have hbne : L2.blk ≠ L.blk := by
              cases own with
              | true => exact fun he => hne (hs.sep id b _ _ L2 L hid hg rfl rfl p1 hm he)
              | false => have := p8 rfl; omega
            exact ⟨L2, c2, el2, fr2, p1, p2, by rw [setRow_other w L.blk L2.blk nc hbne]; exact p3, p4, RepL.mono hgrow p5, p6, p7, p8⟩
        · intro id x hid hx
          rw [St.get_put] at hid
          split at hid
          · simp only [Option.some.injEq] at hid; subst hid; simp [Blk.isObj] at hx
          · rename_i hne
            obtain ⟨L2, o, p1, p2, p3, p4⟩ := hs.obj id x hid hx
            have ox : x.own = true := by cases x <;> simp_all [Blk.isObj, Blk.own]
            have hbne : L2.blk ≠ L.blk := fun he => hne (hs.sep id b _ _ L2 L hid hg ox rfl p1 hm he)
            exact ⟨L2, o, p1, p2, by rw [setRow_other w L.blk L2.blk nc hbne]; exact p3, p4.mono hgrow⟩
        · intro i j x y L1 L2 hi hj hx hy hL1 hL2 he
          have conv : ∀ {i : Nat} {x : Blk}, (σ.put b (.cells (St.splice cs off vs) true)).get i = some x → x.own = true → ∃ x', σ.get i = some x' ∧ x'.own = true := by
            intro i x hi hx
            rw [St.get_put] at hi
            split at hi
            · rename_i he; subst he; exact ⟨_, hg, rfl⟩
            · exact ⟨x, hi, hx⟩
          obtain ⟨x', hx', ox⟩ := conv hi hx
          obtain ⟨y', hy', oy⟩ := conv hj hy
          exact hs.sep i j x' y' L1 L2 hx' hy' ox oy hL1 hL2 he
      · exact ⟨rfl, rfl, rfl, by simp, fun k hk => setRow_other w L.blk k nc (by omega)⟩
    · simp at h

/-- A new block, of whatever number. -/
theorem new_sim_at (hs : Sim B σ m w) {vs : List AV} {us : Array Value} (el : TypeId) (hr : RepL m w vs us.toList) (h1 : vs.all AV.one = true) {n : Nat} (hn : m n = none) {extra : Array Value} :
    Grows m w (upd m n ⟨w.heap.size, 0, vs.length⟩) (w.alloc (.cells (us ++ extra) el)) ∧ Below B w (w.alloc (.cells (us ++ extra) el)) ∧
    ∀ (σ' : St), (∀ i, σ'.get i = if i = n then some (.cells vs true) else σ.get i) → Sim B σ' (upd m n ⟨w.heap.size, 0, vs.length⟩) (w.alloc (.cells (us ++ extra) el)) := by
  have hgrow : Grows m w (upd m n ⟨w.heap.size, 0, vs.length⟩) (w.alloc (.cells (us ++ extra) el)) := by
    refine ⟨fun i L h => ?_, blkSize_alloc _⟩
    unfold upd
    split
    · rename_i he; subst he; rw [hn] at h; cases h
    · exact h
  have hbel : Below B w (w.alloc (.cells (us ++ extra) el)) := (Below.refl B w).alloc hs.le _
  have hheap : ∀ k, k < w.heap.size → (w.alloc (.cells (us ++ extra) el)).heap[k]? = w.heap[k]? := Below.heap_alloc w _
  have hnew : (w.alloc (.cells (us ++ extra) el)).heap[w.heap.size]? = some (.cells (us ++ extra) el (0, 0)) := by
    show (w.heap.push _)[w.heap.size]? = _
    simp
  refine ⟨hgrow, hbel, fun σ' hσ => ⟨?_, ?_, ?_, ?_, hs.globs hgrow hbel fun id n2 cs2 hid => by
    rw [hσ] at hid; split at hid
    · simp at hid
    · exact hid⟩⟩
  · intro id cs own hid
    rw [hσ] at hid
    split at hid
    · rename_i he
      subst he
      simp only [Option.some.injEq, Blk.cells.injEq] at hid
      obtain ⟨rfl, rfl⟩ := hid
      have hl := hr.length
      refine ⟨⟨w.heap.size, 0, vs.length⟩, us ++ extra, el, (0, 0), by simp [upd], rfl, hnew, by simp; simp at hl; omega, ?_, h1, fun _ => ⟨hs.le, rfl⟩, by simp⟩
      have : ((us ++ extra).toList.drop 0).take vs.length = us.toList := by
        simp [hl]
      rw [this]
      exact RepL.mono hgrow hr
    · obtain ⟨L2, c2, el2, fr2, p1, p2, p3, p4, p5, p6, p7, p8⟩ := hs.row id cs own hid
      have hlt : L2.blk < w.heap.size := (Array.getElem?_eq_some_iff.1 p3).1
      exact ⟨L2, c2, el2, fr2, hgrow.map _ _ p1, p2, by rw [hheap _ hlt]; exact p3, p4, RepL.mono hgrow p5, p6, p7, p8⟩
  · intro id x hid hx
    rw [hσ] at hid
    split at hid
    · simp only [Option.some.injEq] at hid; subst hid; simp [Blk.isObj] at hx
    · obtain ⟨L2, o, p1, p2, p3, p4⟩ := hs.obj id x hid hx
      have hlt : L2.blk < w.heap.size := (Array.getElem?_eq_some_iff.1 p3).1
      exact ⟨L2, o, hgrow.map _ _ p1, p2, by rw [hheap _ hlt]; exact p3, p4.mono hgrow⟩
  · intro i j x y L1 L2 hi hj hx hy hL1 hL2 he
    have old : ∀ {i : Nat} {x : Blk} {L : Loc}, i ≠ n → σ'.get i = some x → x.own = true → upd m n ⟨w.heap.size, 0, vs.length⟩ i = some L → σ.get i = some x ∧ m i = some L ∧ L.blk ≠ w.heap.size := by
      intro i x L hne hi hx hL
      rw [hσ, if_neg hne] at hi
      unfold upd at hL
      rw [if_neg hne] at hL
      refine ⟨hi, hL, ?_⟩
      have := (hs.there hi hx hL).2; omega
    by_cases hin : i = n
    · by_cases hjn : j = n
      · rw [hin, hjn]
      · obtain ⟨_, _, hne⟩ := old hjn hj hy hL2
        subst hin
        simp [upd] at hL1
        subst hL1
        exact absurd he.symm hne
    · by_cases hjn : j = n
      · obtain ⟨_, _, hne⟩ := old hin hi hx hL1
        subst hjn
        simp [upd] at hL2
        subst hL2
        exact absurd he hne
      · obtain ⟨a1, a2, _⟩ := old hin hi hx hL1
        obtain ⟨b1, b2, _⟩ := old hjn hj hy hL2
        exact hs.sep i j x y L1 L2 a1 b1 hx hy a2 b2 he
  · simp; have := hs.le; omega

end

end Go.AM
