/- The abstract machine against the model: memory that is written, memory that is made. -/
import Derived.Test.YtnjhcfcnpapaiaaGreatDoorA12
import Derived.Laws.CopyOwn
set_option linter.unusedVariables false
set_option linter.unusedSimpArgs false
namespace Go.AM
open Go.RowKit (Below)

section
variable {B : Nat} {σ : St} {m : Mp} {w : World} {P : Program} {R : Type}

/-- What the program's variables hold goes on. -/
theorem Sim.globs {B : Nat} {σ σ' : St} {m m' : Mp} {w w' : World} (hs : Sim B σ m w) (g : Grows m w m' w') (hb : Below B w w') (h : ∀ id n cs, σ'.get id = some (.glob n cs) → σ.get id = some (.glob n cs)) :
    ∀ id n cs, σ'.get id = some (.glob n cs) → (n < B ∧ ∃ L, m' id = some L) ∧ ∃ ccs el fr, w'.heap[n]? = some (.cells ccs el fr) ∧ RepL m' w' cs ccs.toList := by
  intro id n cs hid
  obtain ⟨⟨h1, L, hL⟩, ccs, el, fr, h2, h3⟩ := hs.glob id n cs (h id n cs hid)
  exact ⟨⟨h1, L, g.map _ _ hL⟩, ccs, el, fr, by rw [hb.block n h1]; exact h2, h3.mono g⟩

theorem splice_region {α : Type} (c u : List α) (b o n : Nat) (h1 : o + u.length ≤ n) (h2 : b + n ≤ c.length) :
    ((c.take (b + o) ++ u ++ c.drop (b + o + u.length)).drop b).take n = ((c.drop b).take n).take o ++ u ++ ((c.drop b).take n).drop (o + u.length) := by
  apply List.ext_getElem?
  intro i
  simp only [List.getElem?_take, List.getElem?_drop, List.getElem?_append, List.length_take, List.length_append, List.length_drop]
  have e1 : min (b + o) c.length = b + o := by omega
  have e2 : min o (min n (c.length - b)) = o := by omega
  simp only [e1, e2]
  by_cases hi : i < n
  · by_cases h3 : i < o
    · simp [hi, h3, show b + i < b + o + u.length by omega, show i < o + u.length by omega]
    · by_cases h4 : i < o + u.length
      · simp [hi, h3, h4, show b + i < b + o + u.length by omega, show b + i - (b + o) = i - o by omega]
      · simp [hi, h3, h4, show ¬ b + i < b + o + u.length by omega, show b + o + u.length + (b + i - (b + o + u.length)) = b + i by omega,
          show o + u.length + (i - (o + u.length)) = i by omega]
  · simp [hi, show ¬ i < o by omega, show ¬ i < o + u.length by omega, show ¬ o + u.length + (i - (o + u.length)) < n by omega]

theorem blkSize_setRow {g : Nat} {old cs : Array Value} {t : TypeId} {fr : Nat × Nat} (hg : w.heap[g]? = some (.cells old t fr)) (hsz : cs.size = old.size) (b : Nat) : blkSize (w.setRow g cs) b = blkSize w b := by
  unfold blkSize
  by_cases hb : b = g
  · subst hb; rw [setRow_heap w b old cs t fr hg, hg]; simpa using hsz
  · rw [setRow_other w g b cs hb]

theorem blkSize_alloc (o : Obj) (b : Nat) : blkSize w b ≤ blkSize (w.alloc o) b := by
  unfold blkSize
  by_cases hb : b < w.heap.size
  · rw [Below.heap_alloc w o b hb]; exact Nat.le_refl _
  · rw [Array.getElem?_eq_none (by omega)]; exact Nat.zero_le _

theorem St.rowOwn_some {b : Nat} {cs : List AV} (h : σ.rowOwn b = some cs) : σ.get b = some (.cells cs true) := by
  unfold St.rowOwn at h
  cases hg : σ.get b with
  | none => simp [hg] at h
  | some x =>
    cases x with
    | cells c o => cases o <;> simp [hg] at h; rw [h]
    | _ => simp [hg] at h

theorem store_sim (hs : Sim B σ m w) {b off : Nat} {vs : List AV} {us : List Value} {L : Loc} {σ' : St} (h : σ.st b off vs = some σ') (hm : m b = some L) (hr : RepL m w vs us) (h1 : vs.all AV.one = true) :
    ∃ w', (storeCells ⟨L.blk, L.base + off, none⟩ us).run P w = .ok () w' ∧ Sim B σ' m w' ∧ Grows m w m w' ∧ Below B w w' ∧ σ'.next = σ.next := by
  unfold St.st at h
  cases hrow : σ.rowOwn b with
  | none => simp [hrow] at h
  | some cs =>
    simp only [hrow, Option.bind_some] at h
    split at h
    · rename_i hl
      simp only [Option.some.injEq] at h
      have hg := St.rowOwn_some hrow
      obtain ⟨L', ccs, el, fr, q1, q2, q3, q4, q5, q6, q7, _⟩ := hs.row b cs true hg
      rw [hm] at q1; obtain rfl := Option.some.inj q1
      obtain ⟨hB, rfl⟩ := q7 rfl
      have hlu := hr.length
      have hrun := run_storeCells_at P L.blk (L.base + off) el us 0 ccs w q3 (by omega) (hr.one h1)
      simp only [Nat.add_zero] at hrun
      let nc : Array Value := (ccs.toList.take (L.base + off) ++ us ++ ccs.toList.drop (L.base + off + us.length)).toArray
      have hnc : nc.size = ccs.size := by simp [nc]; omega
      have hbs := blkSize_setRow (cs := nc) q3 hnc
      have hgrow : Grows m w m (w.setRow L.blk nc) := ⟨fun _ _ h => h, fun b => Nat.le_of_eq (hbs b).symm⟩
      refine ⟨w.setRow L.blk nc, hrun, ?_, hgrow, ?_, by subst h; rfl⟩
      · subst h
        refine ⟨?_, ?_, ?_, by simpa using hs.le, hs.globs hgrow ⟨rfl, rfl, rfl, by simp, fun k hk => setRow_other w L.blk k nc (by omega)⟩ fun id n cs2 hid => by
          rw [St.get_put] at hid; split at hid
          · simp at hid
          · exact hid⟩
        · intro id cs2 own hid
          rw [St.get_put] at hid
          split at hid
          · rename_i he
            subst he
            simp only [Option.some.injEq, Blk.cells.injEq] at hid
            obtain ⟨rfl, rfl⟩ := hid
            have hlen : (St.splice cs off vs).length = cs.length := by simp [St.splice]; omega
            refine ⟨L, nc, el, (0, 0), hm, by rw [hlen]; exact q2, setRow_heap w L.blk ccs nc el (0, 0) q3, by rw [hlen, hnc]; exact q4, ?_, ?_, fun _ => ⟨hB, rfl⟩, by simp⟩
            · rw [hlen]
              have := splice_region ccs.toList us L.base off cs.length (by omega) (by simpa using q4)
              simp only [nc]
              rw [this]
              unfold St.splice
              have r1 : RepL m (w.setRow L.blk nc) cs ((ccs.toList.drop L.base).take cs.length) := RepL.mono hgrow q5
              have r2 : RepL m (w.setRow L.blk nc) vs us := RepL.mono hgrow hr
              rw [hlu]
              exact ((r1.take off).append r2).append (r1.drop _)
            · simp only [St.splice, List.all_append, Bool.and_eq_true]
              refine ⟨⟨?_, h1⟩, ?_⟩
              · exact List.all_eq_true.2 fun v hv => List.all_eq_true.1 q6 v (List.mem_of_mem_take hv)
              · exact List.all_eq_true.2 fun v hv => List.all_eq_true.1 q6 v (List.mem_of_mem_drop hv)
          · rename_i hne
            obtain ⟨L2, c2, el2, fr2, p1, p2, p3, p4, p5, p6, p7, p8⟩ := hs.row id cs2 own hid
            have hbne : L2.blk ≠ L.blk := by
              cases own with
              | true => exact fun he => hne (hs.sep id b _ _ L2 L hid hg rfl rfl p1 hm he)
              | false => have := p8 rfl; omega
            exact ⟨L2, c2, el2, fr2, p1, p2, by rw [setRow_other w L.blk L2.blk nc hbne]; exact p3, p4, RepL.mono hgrow p5, p6, p7, p8⟩
        · intro id x hid hx
          rw [St.get_put] at hid
          split at hid
          · simp only [Option.some.injEq] at hid; subst hid; simp [Blk.isObj] at hx
          · rename_i hne
            obtain ⟨L2, o, p1, p2, p3, p4⟩ := hs.obj id x hid hx
            have ox : x.own = true := by cases x <;> simp_all [Blk.isObj, Blk.own]
            have hbne : L2.blk ≠ L.blk := fun he => hne (hs.sep id b _ _ L2 L hid hg ox rfl p1 hm he)
            exact ⟨L2, o, p1, p2, by rw [setRow_other w L.blk L2.blk nc hbne]; exact p3, p4.mono hgrow⟩
        · intro i j x y L1 L2 hi hj hx hy hL1 hL2 he
          have conv : ∀ {i : Nat} {x : Blk}, (σ.put b (.cells (St.splice cs off vs) true)).get i = some x → x.own = true → ∃ x', σ.get i = some x' ∧ x'.own = true := by
            intro i x hi hx
            rw [St.get_put] at hi
            split at hi
            · rename_i he; subst he; exact ⟨_, hg, rfl⟩
            · exact ⟨x, hi, hx⟩
          obtain ⟨x', hx', ox⟩ := conv hi hx
          obtain ⟨y', hy', oy⟩ := conv hj hy
          exact hs.sep i j x' y' L1 L2 hx' hy' ox oy hL1 hL2 he
      · exact ⟨rfl, rfl, rfl, by simp, fun k hk => setRow_other w L.blk k nc (by omega)⟩
    · simp at h

/-- A new block, of whatever number. -/
theorem new_sim_at (hs : Sim B σ m w) {vs : List AV} {us : Array Value} (el : TypeId) (hr : RepL m w vs us.toList) (h1 : vs.all AV.one = true) {n : Nat} (hn : m n = none) {extra : Array Value} :
    Grows m w (upd m n ⟨w.heap.size, 0, vs.length⟩) (w.alloc (.cells (us ++ extra) el)) ∧ Below B w (w.alloc (.cells (us ++ extra) el)) ∧
    ∀ (σ' : St), (∀ i, σ'.get i = if i = n then some (.cells vs true) else σ.get i) → Sim B σ' (upd m n ⟨w.heap.size, 0, vs.length⟩) (w.alloc (.cells (us ++ extra) el)) := by
  have hgrow : Grows m w (upd m n ⟨w.heap.size, 0, vs.length⟩) (w.alloc (.cells (us ++ extra) el)) := by
    refine ⟨fun i L h => ?_, blkSize_alloc _⟩
    unfold upd
    split
    · rename_i he; subst he; rw [hn] at h; cases h
    · exact h
  have hbel : Below B w (w.alloc (.cells (us ++ extra) el)) := (Below.refl B w).alloc hs.le _
  have hheap : ∀ k, k < w.heap.size → (w.alloc (.cells (us ++ extra) el)).heap[k]? = w.heap[k]? := Below.heap_alloc w _
  have hnew : (w.alloc (.cells (us ++ extra) el)).heap[w.heap.size]? = some (.cells (us ++ extra) el (0, 0)) := by
    show (w.heap.push _)[w.heap.size]? = _
    simp
  refine ⟨hgrow, hbel, fun σ' hσ => ⟨?_, ?_, ?_, ?_, hs.globs hgrow hbel fun id n2 cs2 hid => by
    rw [hσ] at hid; split at hid
    · simp at hid
    · exact hid⟩⟩
  · intro id cs own hid
    rw [hσ] at hid
    split at hid
    · rename_i he
      subst he
      simp only [Option.some.injEq, Blk.cells.injEq] at hid
      obtain ⟨rfl, rfl⟩ := hid
      have hl := hr.length
      refine ⟨⟨w.heap.size, 0, vs.length⟩, us ++ extra, el, (0, 0), by simp [upd], rfl, hnew, by simp; simp at hl; omega, ?_, h1, fun _ => ⟨hs.le, rfl⟩, by simp⟩
      have : ((us ++ extra).toList.drop 0).take vs.length = us.toList := by
        simp [hl]
      rw [this]
      exact RepL.mono hgrow hr
    · obtain ⟨L2, c2, el2, fr2, p1, p2, p3, p4, p5, p6, p7, p8⟩ := hs.row id cs own hid
      have hlt : L2.blk < w.heap.size := (Array.getElem?_eq_some_iff.1 p3).1
      exact ⟨L2, c2, el2, fr2, hgrow.map _ _ p1, p2, by rw [hheap _ hlt]; exact p3, p4, RepL.mono hgrow p5, p6, p7, p8⟩
  · intro id x hid hx
    rw [hσ] at hid
    split at hid
    · simp only [Option.some.injEq] at hid; subst hid; simp [Blk.isObj] at hx
    · obtain ⟨L2, o, p1, p2, p3, p4⟩ := hs.obj id x hid hx
      have hlt : L2.blk < w.heap.size := (Array.getElem?_eq_some_iff.1 p3).1
      exact ⟨L2, o, hgrow.map _ _ p1, p2, by rw [hheap _ hlt]; exact p3, p4.mono hgrow⟩
  · intro i j x y L1 L2 hi hj hx hy hL1 hL2 he
    have old : ∀ {i : Nat} {x : Blk} {L : Loc}, i ≠ n → σ'.get i = some x → x.own = true → upd m n ⟨w.heap.size, 0, vs.length⟩ i = some L → σ.get i = some x ∧ m i = some L ∧ L.blk ≠ w.heap.size := by
      intro i x L hne hi hx hL
      rw [hσ, if_neg hne] at hi
      unfold upd at hL
      rw [if_neg hne] at hL
      refine ⟨hi, hL, ?_⟩
      have := (hs.there hi hx hL).2; omega
    by_cases hin : i = n
    · by_cases hjn : j = n
      · rw [hin, hjn]
      · obtain ⟨_, _, hne⟩ := old hjn hj hy hL2
        subst hin
        simp [upd] at hL1
        subst hL1
        exact absurd he.symm hne
    · by_cases hjn : j = n
      · obtain ⟨_, _, hne⟩ := old hin hi hx hL1
        subst hjn
        simp [upd] at hL2
        subst hL2
        exact absurd he hne
      · obtain ⟨a1, a2, _⟩ := old hin hi hx hL1
        obtain ⟨b1, b2, _⟩ := old hjn hj hy hL2
        exact hs.sep i j x y L1 L2 a1 b1 hx hy a2 b2 he
  · simp; have := hs.le; omega

end

end Go.AM

set_option linter.unusedVariables false
set_option linter.unusedSimpArgs false
namespace Go.AM
open Go.RowKit (Below)

section
variable {B : Nat} {σ : St} {m : Mp} {w : World} {P : Program} {R : Type}

theorem run_firstCells_slice {ad : Option Addr} {n c k size : Nat} {cs : List Value} (hl : cs.length = k * size) (h : ∀ a, ad = some a → ∀ j u, cs[j]? = some u → w.cell? (a.add j) = some u) (hn : ad = none → cs = []) :
    (Builtin.firstCells size k (.slice ad n c)).run P w = .ok cs.toArray w := by
  cases ad with
  | none => rw [hn rfl]; rfl
  | some a => exact run_firstCells_some (P := P) w size k a n c cs hl (h a rfl)

/-- append within the capacity. -/
theorem run_app_room {t u ty el el' : TypeId} {ie : TypeInfo} (ht : P.underlying t = some (.slice el)) (hu : P.underlying u = some (.slice el')) (hi : P.info? el = some ie)
    {ad xa : Option Addr} {sLen sCap n xc : Nat} {news : List Value} (hl : news.length = n * P.cellsOf el)
    (hx : ∀ a, xa = some a → ∀ j v, news[j]? = some v → w.cell? (a.add j) = some v) (hxn : xa = none → news = []) (hroom : sLen + n ≤ sCap) {w' : World}
    (hst : ∀ a, ad = some a → (storeCells (a.add (sLen * P.cellsOf el)) news).run P w = .ok () w') (hn : ad = none → w' = w) :
    (Builtin.append_ #[t, u] ty #[.slice ad sLen sCap, .slice xa n xc]).run P w = .ok (.slice ad (sLen + n) sCap) w' := by
  have hf := run_firstCells_slice (P := P) (n := n) (c := xc) hl hx hxn
  cases ad with
  | none =>
    rw [hn rfl]
    simp [Builtin.append_, run_underlying ht, run_underlying hu, run_size hi, Builtin.lenOf, hroom, hf]
  | some a =>
    simp [Builtin.append_, run_underlying ht, run_underlying hu, run_size hi, Builtin.lenOf, hroom, hf, hst a rfl]

/-- append beyond the capacity. -/
theorem run_app_grow {t u ty el el' : TypeId} {ie : TypeInfo} {z : Value} (ht : P.underlying t = some (.slice el)) (hu : P.underlying u = some (.slice el')) (hi : P.info? el = some ie) (hz : ie.zero = some z)
    {ad xa : Option Addr} {sLen sCap n xc : Nat} {olds news : List Value} (hl : news.length = n * P.cellsOf el) (hlo : olds.length = sLen * P.cellsOf el)
    (ho : ∀ a, ad = some a → ∀ j v, olds[j]? = some v → w.cell? (a.add j) = some v) (hon : ad = none → olds = [])
    (hx : ∀ a, xa = some a → ∀ j v, news[j]? = some v → w.cell? (a.add j) = some v) (hxn : xa = none → news = []) (hg : sCap < sLen + n) (hb : (sLen + n) * (P.bytesOf el + 1) ≤ 2 ^ 46) :
    ∃ cap extra, sLen + n ≤ cap ∧ (∀ (q : Nat), q = P.cellsOf el → z.cells.size = q → extra.size = (cap - (sLen + n)) * q) ∧
    (Builtin.append_ #[t, u] ty #[.slice ad sLen sCap, .slice xa n xc]).run P w = .ok (.slice (some ⟨w.heap.size, 0, none⟩) (sLen + n) cap) (w.drew.alloc (.cells ((olds ++ news).toArray ++ extra) el)) := by
  have hf := run_firstCells_slice (P := P) (w := w.drew) (n := n) (c := xc) hl (by simpa using hx) hxn
  have hfo := run_firstCells_slice (P := P) (w := w.drew) (n := sLen) (c := sCap) hlo (by simpa using ho) hon
  have hroom : ¬ (sLen + n ≤ sCap) := by omega
  have hbytes : P.bytesOf el = ie.bytes := by simp [Program.bytesOf, hi]
  have h1 : (sLen + n) * (P.bytesOf el + 1) = (sLen + n) * P.bytesOf el + (sLen + n) := by rw [Nat.mul_add, Nat.mul_one]
  have h63' : ¬ (9223372036854775807 < ((sLen : Int) + (n : Int))) := by omega
  have h48 := growslice_fits (need := sLen + n) (old := sCap) (bytes := ie.bytes) hg (by rw [hbytes] at h1 hb; omega)
  have h48' : ¬ (281474976710656 < Builtin.nextslicecap (sLen + n) sCap * ie.bytes) := by omega
  refine ⟨grownCap w (sLen + n) sCap el, Builtin.zeroCells z.cells (grownCap w (sLen + n) sCap el - (sLen + n)), grownCap_ge w _ _ _, fun q hq hzq => by rw [size_zeroCells, hzq], ?_⟩
  have hsz : (sizeOf el).run P w = .ok (P.cellsOf el) w := run_size hi w
  simp [Builtin.append_, run_underlying ht, run_underlying hu, hsz, typeInfo, zeroValue, hi, hz, Builtin.lenOf, hroom, h63', h48', Question.forced, hf, hfo, newRow, grownCap]
  congr 2
  apply Array.ext'
  simp [List.append_assoc]

theorem St.elems_some {sz n : Nat} {s : Sl} {cs : List AV} (h : σ.elems sz s n = some cs) : (n = 0 ∧ cs = []) ∨ (0 < n ∧ n ≤ s.len ∧ ∃ p, s.o = some p ∧ σ.lds p.1 p.2 (n * sz) = some cs) := by
  unfold St.elems at h
  split at h
  · simp only [Option.some.injEq] at h; exact .inl ⟨by assumption, h.symm⟩
  · split at h
    · simp only [Option.bind_eq_some_iff] at h
      obtain ⟨p, hp, h⟩ := h
      exact .inr ⟨by omega, by assumption, p, hp, h⟩
    · simp at h

/-- A slice's first elements lie in the model's memory. -/
theorem Sim.elems (hs : Sim B σ m w) {sz n : Nat} {o : Option (Nat × Nat)} {len : Nat} {cap : Option Nat} {cs : List AV} (h : σ.elems sz ⟨o, len, cap⟩ n = some cs) (hsz : 0 < sz)
    {ad : Option Addr} {c' : Nat} (hr : RepV m w (.slice o len cap sz) (.slice ad len c')) :
    ∃ us, RepL m w cs us ∧ cs.all AV.one = true ∧ us.length = n * sz ∧ (∀ a, ad = some a → ∀ j u, us[j]? = some u → w.cell? (a.add j) = some u) ∧ (ad = none → us = []) := by
  rcases St.elems_some h with ⟨rfl, rfl⟩ | ⟨hn, hl, p, hp, hld⟩
  · exact ⟨[], .nil, rfl, by simp, by simp, fun _ => rfl⟩
  · obtain ⟨id, off⟩ := p
    simp only at hp hl
    subst hp
    obtain ⟨L, c2, ad2, hL, he, hle, hc, ha⟩ := slice_inv hr
    simp only [Value.slice.injEq] at he
    obtain ⟨rfl, _, rfl⟩ := he
    obtain ⟨hlen, hcell⟩ := St.lds_ld hld
    obtain ⟨us, h1, h2, h3⟩ := hs.cellsAt hL hcell
    refine ⟨us, h1, h2, by rw [← h1.length, hlen], fun a hae => ?_, by simp⟩
    rcases ha.1 with ⟨rfl, _⟩ | ⟨h0, _⟩
    · simp only [Option.some.injEq] at hae; subst hae; exact h3
    · omega

/-- The rest of a row is written, and a row of its own stands for it from then on. -/
theorem extend_sim (hs : Sim B σ m w) {b off k : Nat} {cs : List AV} {L : Loc} (hg : σ.get b = some (.cells cs true)) (hm : m b = some L) {news : List AV} {us : List Value} (hr : RepL m w news us) (h1 : news.all AV.one = true)
    (hk : off + k ≤ cs.length) (hroom : L.base + off + k + news.length ≤ blkSize w L.blk) (hn : m σ.next = none) :
    ∃ w', (storeCells ⟨L.blk, L.base + off + k, none⟩ us).run P w = .ok () w' ∧ Grows m w (upd m σ.next ⟨L.blk, L.base + off, k + news.length⟩) w' ∧ Below B w w' ∧
      (∀ b', blkSize w' b' = blkSize w b') ∧
      Sim B ((σ.put b .dead).new (.cells ((cs.drop off).take k ++ news) true)) (upd m σ.next ⟨L.blk, L.base + off, k + news.length⟩) w' := by
  obtain ⟨L', ccs, el, fr, q1, q2, q3, q4, q5, q6, q7, _⟩ := hs.row b cs true hg
  rw [hm] at q1; obtain rfl := Option.some.inj q1
  obtain ⟨hB, rfl⟩ := q7 rfl
  have hlu := hr.length
  have hbs0 : blkSize w L.blk = ccs.size := by simp [blkSize, q3]
  rw [hbs0] at hroom
  have hrun := run_storeCells_at P L.blk (L.base + off + k) el us 0 ccs w q3 (by omega) (hr.one h1)
  simp only [Nat.add_zero] at hrun
  let nc : Array Value := (ccs.toList.take (L.base + off + k) ++ us ++ ccs.toList.drop (L.base + off + k + us.length)).toArray
  have hnc : nc.size = ccs.size := by simp [nc]; omega
  have hbs := blkSize_setRow (cs := nc) q3 hnc
  have hgrow : Grows m w (upd m σ.next ⟨L.blk, L.base + off, k + news.length⟩) (w.setRow L.blk nc) := by
    refine ⟨fun i L2 h => ?_, fun b => Nat.le_of_eq (hbs b).symm⟩
    unfold upd
    split
    · rename_i he; subst he; rw [hn] at h; cases h
    · exact h
  have hbn : b ≠ σ.next := by intro he; rw [he, hn] at hm; cases hm
  have hget : ∀ i, ((σ.put b .dead).new (.cells ((cs.drop off).take k ++ news) true)).get i = if i = σ.next then some (.cells ((cs.drop off).take k ++ news) true) else if i = b then some .dead else σ.get i := by
    intro i; rw [St.get_new, St.get_put]; rfl
  refine ⟨w.setRow L.blk nc, hrun, hgrow, ⟨rfl, rfl, rfl, by simp, fun j hj => setRow_other w L.blk j nc (by omega)⟩, hbs, ⟨?_, ?_, ?_, by simpa using hs.le, hs.globs hgrow ⟨rfl, rfl, rfl, by simp, fun j hj => setRow_other w L.blk j nc (by omega)⟩ fun id n2 cs2 hid => by
    rw [hget] at hid; split at hid
    · simp at hid
    · split at hid
      · simp at hid
      · exact hid⟩⟩
  · intro id cs2 own hid
    rw [hget] at hid
    split at hid
    · rename_i he
      simp only [Option.some.injEq, Blk.cells.injEq] at hid
      obtain ⟨rfl, rfl⟩ := hid
      have hlen : ((cs.drop off).take k ++ news).length = k + news.length := by simp; omega
      refine ⟨⟨L.blk, L.base + off, k + news.length⟩, nc, el, (0, 0), by simp [upd, he], by rw [hlen], setRow_heap w L.blk ccs nc el (0, 0) q3, by rw [hlen, hnc]; show L.base + off + (k + news.length) ≤ ccs.size; omega, ?_, ?_, fun _ => ⟨hB, rfl⟩, by simp⟩
      · rw [hlen]
        have e : (nc.toList.drop (L.base + off)).take (k + news.length) = (((ccs.toList.drop L.base).take cs.length).drop off).take k ++ us := by
          have := splice_region ccs.toList us (L.base + off) k (k + us.length) (by omega) (by simp; omega)
          simp only [nc]
          rw [hlu, this]
          rw [List.take_take, show min k (k + us.length) = k by omega, List.drop_of_length_le (l := List.take (k + us.length) (List.drop (L.base + off) ccs.toList)) (by simp; omega), List.append_nil, List.drop_take, List.take_take, show min k (cs.length - off) = k by omega, List.drop_drop]
        show RepL _ _ _ ((nc.toList.drop (L.base + off)).take (k + news.length))
        rw [e]
        exact RepL.append (RepL.take (RepL.drop (RepL.mono hgrow q5) off) k) (RepL.mono hgrow hr)
      · simp only [List.all_append, Bool.and_eq_true]
        refine ⟨?_, h1⟩
        exact List.all_eq_true.2 fun v hv => List.all_eq_true.1 q6 v (List.mem_of_mem_drop (List.mem_of_mem_take hv))
    · split at hid
      · simp at hid
      · rename_i hne1 hne2
        obtain ⟨L2, c2, el2, fr2, p1, p2, p3, p4, p5, p6, p7, p8⟩ := hs.row id cs2 own hid
        have hbne : L2.blk ≠ L.blk := by
          cases own with
          | true => exact fun he => hne2 (hs.sep id b _ _ L2 L hid hg rfl rfl p1 hm he)
          | false => have := p8 rfl; omega
        exact ⟨L2, c2, el2, fr2, hgrow.map _ _ p1, p2, by rw [setRow_other w L.blk L2.blk nc hbne]; exact p3, p4, RepL.mono hgrow p5, p6, p7, p8⟩
  · intro id x hid hx
    rw [hget] at hid
    split at hid
    · simp only [Option.some.injEq] at hid; subst hid; simp [Blk.isObj] at hx
    · split at hid
      · simp only [Option.some.injEq] at hid; subst hid; simp [Blk.isObj] at hx
      · rename_i hne1 hne2
        obtain ⟨L2, o, p1, p2, p3, p4⟩ := hs.obj id x hid hx
        have ox : x.own = true := by cases x <;> simp_all [Blk.isObj, Blk.own]
        have hbne : L2.blk ≠ L.blk := fun he => hne2 (hs.sep id b _ _ L2 L hid hg ox rfl p1 hm he)
        exact ⟨L2, o, hgrow.map _ _ p1, p2, by rw [setRow_other w L.blk L2.blk nc hbne]; exact p3, p4.mono hgrow⟩
  · intro i j x y L1 L2 hi hj hx hy hL1 hL2 he
    rw [hget] at hi hj
    have old : ∀ {i : Nat} {x : Blk} {L1 : Loc}, i ≠ σ.next → (if i = σ.next then some (Blk.cells ((cs.drop off).take k ++ news) true) else if i = b then some .dead else σ.get i) = some x → x.own = true →
        upd m σ.next ⟨L.blk, L.base + off, k + news.length⟩ i = some L1 → σ.get i = some x ∧ m i = some L1 ∧ L1.blk ≠ L.blk := by
      intro i x L1 hne hi hx hL
      rw [if_neg hne] at hi
      split at hi
      · simp only [Option.some.injEq] at hi; subst hi; simp [Blk.own] at hx
      · rename_i hib
        unfold upd at hL
        rw [if_neg hne] at hL
        exact ⟨hi, hL, fun he => hib (hs.sep i b _ _ L1 L hi hg hx rfl hL hm he)⟩
    by_cases hin : i = σ.next
    · by_cases hjn : j = σ.next
      · rw [hin, hjn]
      · obtain ⟨_, _, hne⟩ := old hjn hj hy hL2
        simp [upd, hin] at hL1
        subst hL1
        exact absurd he.symm hne
    · by_cases hjn : j = σ.next
      · obtain ⟨_, _, hne⟩ := old hin hi hx hL1
        simp [upd, hjn] at hL2
        subst hL2
        exact absurd he hne
      · obtain ⟨a1, a2, _⟩ := old hin hi hx hL1
        obtain ⟨b1, b2, _⟩ := old hjn hj hy hL2
        exact hs.sep i j x y L1 L2 a1 b1 hx hy a2 b2 he

end

end Go.AM
