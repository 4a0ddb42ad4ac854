/- The abstract machine against the model: the operations that change memory, but for calls. -/
import Derived.Test.YtnjhcfcnpapaiaaGreatDoorA15
import Derived.Great.BuildSlice
set_option linter.unusedVariables false
set_option linter.unusedSimpArgs false
namespace Go.AM
open Go.RowKit (Below)

section
variable {B : Nat} {σ : St} {m : Mp} {w : World} {P : Program} {R : Type}

/-- What a change of memory is. -/
def Eff (B : Nat) (m : Mp) (w : World) (P : Program) (o : Oper) (e : Env) (a : Act) (K : AV → St → Option R) (σ : St) (r : R) : Prop :=
  ∃ v σ' cv w' m', K v σ' = some r ∧ (∀ (call' : CallF R) (K' : AV → St → Option R), aop P call' o e σ K' = K' v σ') ∧ Does P o a w cv w' ∧ Sim B σ' m' w' ∧ Grows m w m' w' ∧ Below B w w' ∧ RepV m' w' v cv ∧ Fresh m σ m' σ'

theorem copy_sim (hs : Sim B σ m w) {t u ty el el' : TypeId} (ht : P.underlying t = some (.slice el)) (hu : P.underlying u = some (.slice el')) {e : Nat} (he : e = P.cellsOf el) (h0 : 0 < e)
    {o o' : Option (Nat × Nat)} {n n' : Nat} {c c' : Option Nat} {dv sv : Value} (hdv : RepV m w (.slice o n c e) dv) (hsv : RepV m w (.slice o' n' c' e) sv) {k : Nat} {σ2 : St}
    (h : σ.copy e ⟨o, n, c⟩ ⟨o', n', c'⟩ = some (k, σ2)) :
    ∃ w', (Builtin.copy_ #[t, u] ty #[dv, sv]).run P w = .ok (.int .i64 k) w' ∧ Sim B σ2 m w' ∧ Grows m w m w' ∧ Below B w w' ∧ σ2.next = σ.next := by
  obtain ⟨da, dc, rfl⟩ := slice_inv' hdv
  obtain ⟨sa, sc, rfl⟩ := slice_inv' hsv
  subst he
  obtain ⟨ie, hie, _⟩ := info_of_cells (P := P) (t := el) (by omega)
  unfold St.copy at h
  split at h
  · rename_i hz
    simp only at hz
    simp only [Option.some.injEq, Prod.mk.injEq] at h
    obtain ⟨rfl, rfl⟩ := h
    refine ⟨w, ?_, hs, .refl _ _, Below.refl _ _, rfl⟩
    have hm : Nat.min n' n = 0 := hz
    cases sa with
    | none => cases da <;> simp [Builtin.copy_, run_underlying ht, Builtin.lenOf, hm, run_size hie, Builtin.firstCells, storeCells, goInt]
    | some a =>
      have := run_loadCells_list (P := P) w a [] (by simp)
      simp at this
      cases da <;> simp [Builtin.copy_, run_underlying ht, Builtin.lenOf, hm, run_size hie, Builtin.firstCells, storeCells, goInt, this]
  · rename_i hz
    simp only at hz
    simp only [Option.bind_eq_some_iff, Option.some.injEq, Prod.mk.injEq] at h
    obtain ⟨cs, hcs, ⟨id, off⟩, ho, σ', hst, rfl, rfl⟩ := h
    obtain rfl : o = some (id, off) := ho
    obtain ⟨us, hr, h1, hl, hx, hxn⟩ := hs.elems hcs h0 hsv
    obtain ⟨L, c2, ad2, hL, heq, hle, hcc, ha⟩ := slice_inv hdv
    simp only [Value.slice.injEq] at heq
    obtain ⟨rfl, _, rfl⟩ := heq
    rcases ha.1 with ⟨rfl, hroom⟩ | ⟨h3, h4⟩
    · obtain ⟨w', hr1, hr2, hr3, hr4, hr5⟩ := store_sim (P := P) hs hst hL hr h1
      refine ⟨w', ?_, hr2, hr3, hr4, hr5⟩
      have hf := run_firstCells_slice (P := P) (n := n') (c := sc) hl hx hxn
      have hm : Nat.min n' n = min n' n := rfl
      simp [Builtin.copy_, run_underlying ht, Builtin.lenOf, hm, run_size hie, hf, hr1, goInt]
    · omega

theorem store_op {call : CallF R} {o : Oper} {t : TypeId} {x y : Operand} (hop : o.op = .store t x y) {e : Env} {a : Act} {K : AV → St → Option R} {r : R} (h : aop P call o e σ K = some r) (hs : Sim B σ m w) (he : RepE m w e a) :
    Eff B m w P o e a K σ r := by
  unfold Eff
  simp only [aop, hop] at h ⊢
  have hx := ev_rep (P := P) he x
  split at h
  · rename_i p hp
    rw [hp] at hx
    obtain ⟨id, off⟩ := p
    obtain ⟨L, hL, hv⟩ := ptr_inv hx
    split at h
    · rename_i hc
      simp only [Option.bind_eq_some_iff] at h
      obtain ⟨σ', hst, h⟩ := h
      have hy := evT_rep (P := P) he t y
      have hcr := hy.cells hc.2
      obtain ⟨w', hr1, hr2, hr3, hr4, hr5⟩ := store_sim (P := P) hs hst hL hcr hc.2
      refine ⟨_, σ', undef, w', m, h, fun call' K' => by simp only [hp, if_pos hc, hst, Option.bind_some], .inr ⟨rfl, ?_⟩, hr2, hr3, hr4, .tuple [] #[] .nil, .inl ⟨hr5, rfl⟩⟩
      have hlen : (a.eval y).cells.size = P.cellsOf t := by have := hcr.length; have := hc.1.2; simp at *; omega
      obtain ⟨ie, hie⟩ := Option.isSome_iff_exists.1 hc.1.1
      simp [execOp, hop, hv, Instr.storeAt, Instr.sureAddr, storeVar, run_size hie, hlen, hr1]
    · simp at h
  · simp at h

theorem aFill_length {pl : Nat → Option (Nat × Nat)} : ∀ {ps : List (Nat × AV)} {cs r : List AV}, aFill pl cs ps = some r → r.length = cs.length := by
  intro ps
  induction ps with
  | nil => intro cs r h; simp [aFill] at h; rw [h]
  | cons p ps ih =>
    intro cs r h
    obtain ⟨i, v⟩ := p
    simp only [aFill] at h
    cases hp : pl i with
    | none => simp [hp] at h
    | some os =>
      obtain ⟨off, size⟩ := os
      simp only [hp] at h
      split at h
      · simp at h
      · rename_i hc
        simp only [ne_eq, Bool.or_eq_true, decide_eq_true_eq, not_or, Decidable.not_not] at hc
        rw [ih h]
        simp [St.splice]; omega

theorem zeros_flat (zc : Array Value) (hq : 0 < zc.size) : ∀ (len : Nat), ((Array.range (len * zc.size)).map (zc[· % zc.size]!)).toList = (List.replicate len zc.toList).flatten := by
  intro len
  simp only [Array.toList_map, Array.toList_range]
  induction len with
  | zero => simp
  | succ len ih =>
    rw [Nat.add_mul, Nat.one_mul, List.range_add, List.map_append, ih, List.replicate_succ', List.flatten_append]
    congr 1
    simp only [List.map_map, List.flatten_singleton]
    apply List.ext_getElem?
    intro i
    by_cases hi : i < zc.size
    · simp [hi, Nat.add_mod, Nat.mod_eq_of_lt hi]
    · simp [hi]

theorem RepL.flat {x : List AV} {y : List Value} (h : RepL m w x y) (n : Nat) : RepL m w (List.replicate n x).flatten (List.replicate n y).flatten := by
  induction n with
  | zero => exact .nil
  | succ n ih => simp only [List.replicate_succ, List.flatten_cons]; exact h.append ih

/-- make of a slice. -/
theorem run_makeSlice {t el : TypeId} {ie : TypeInfo} {z : Value} (hu : P.underlying t = some (.slice el)) (hi : P.info? el = some ie) (hz : ie.zero = some z) {k1 k2 : IntKind} {n k : Int}
    (h0 : 0 ≤ n) (h1 : n ≤ k) (h2 : k ≤ 2 ^ 40) (hb : k.toNat * (P.bytesOf el + 1) ≤ 2 ^ 46) (w : World) (hsz : z.cells.size = P.cellsOf el) :
    (Instr.makeSlice t (.int k1 n) (.int k2 k)).run P w = .ok (.slice (some ⟨w.heap.size, 0, none⟩) n.toNat k.toNat) (w.alloc (.cells ((Array.range (k.toNat * z.cells.size)).map (z.cells[· % z.cells.size]!)) el)) := by
  have hbytes : P.bytesOf el = ie.bytes := by simp [Program.bytesOf, hi]
  have hw1 : IntKind.i64.wrap n = n := by rw [IntKind.wrap_i64]; omega
  have hw2 : IntKind.i64.wrap k = k := by rw [IntKind.wrap_i64]; omega
  have hkb : (ie.bytes : Int) * k ≤ 2 ^ 46 := by
    rw [hbytes, Nat.mul_add, Nat.mul_one] at hb
    have : ((k.toNat * ie.bytes : Nat) : Int) ≤ 2 ^ 46 := by omega
    rw [Int.natCast_mul, Int.toNat_of_nonneg (by omega), Int.mul_comm] at this
    exact this
  have c1 : ¬ (281474976710656 < (ie.bytes : Int) * k) := by omega
  have c2 : ¬ (k < 0) := by omega
  have c3 : ¬ (n < 0) := by omega
  have c4 : ¬ (k < n) := by omega
  have c5 : ¬ (140737488355328 < k.toNat * ie.bytes) := by rw [hbytes, Nat.mul_add] at hb; omega
  have hs : (sizeOf el).run P w = .ok (P.cellsOf el) w := run_size hi w
  by_cases hk0 : k.toNat * P.cellsOf el = 0
  · have e1 : k.toNat * z.cells.size = 0 := by rw [hsz]; exact hk0
    simp [Instr.makeSlice, run_underlying hu, typeInfo, zeroValue, hi, hz, hw1, hw2, c1, c2, c3, c4, c5, askRoom, roomBytes, asInt, asIntOf, hs, hk0, e1, newRow]
    have e0 : ∀ f : Nat → Value, Array.map f (Array.range 0) = #[] := fun f => Array.ext' (by simp)
    rw [e0, e0]
  · rw [hsz] 
    simp [Instr.makeSlice, run_underlying hu, typeInfo, zeroValue, hi, hz, hw1, hw2, c1, c2, c3, c4, c5, askRoom, roomBytes, asInt, asIntOf, hs, hk0, newRow, hsz]

/-- A new map, a new iterator. -/
theorem newObj_sim (hs : Sim B σ m w) {x : Blk} {o : Obj} (hx : x.isObj = true) (ho : ObjRep m w x o) {n : Nat} (hn : m n = none) :
    Grows m w (upd m n ⟨w.heap.size, 0, 0⟩) (w.alloc o) ∧ Below B w (w.alloc o) ∧
    ∀ (σ' : St), (∀ i, σ'.get i = if i = n then some x else σ.get i) → Sim B σ' (upd m n ⟨w.heap.size, 0, 0⟩) (w.alloc o) := by
  have hgrow : Grows m w (upd m n ⟨w.heap.size, 0, 0⟩) (w.alloc o) := by
    refine ⟨fun i L h => ?_, blkSize_alloc _⟩
    unfold upd
    split
    · rename_i he; subst he; rw [hn] at h; cases h
    · exact h
  have hbel : Below B w (w.alloc o) := (Below.refl B w).alloc hs.le _
  have hheap : ∀ k, k < w.heap.size → (w.alloc o).heap[k]? = w.heap[k]? := Below.heap_alloc w _
  have hnew : (w.alloc o).heap[w.heap.size]? = some o := by
    show (w.heap.push _)[w.heap.size]? = _
    simp
  refine ⟨hgrow, hbel, fun σ' hσ => ⟨?_, ?_, ?_, ?_, hs.globs hgrow hbel fun id n2 cs2 hid => by
    rw [hσ] at hid; split at hid
    · simp only [Option.some.injEq] at hid; subst hid; simp [Blk.isObj] at hx
    · exact hid⟩⟩
  · intro id cs own hid
    rw [hσ] at hid
    split at hid
    · simp only [Option.some.injEq] at hid; subst hid; simp [Blk.isObj] at hx
    · obtain ⟨L2, c2, el2, fr2, p1, p2, p3, p4, p5, p6, p7, p8⟩ := hs.row id cs own hid
      have hlt : L2.blk < w.heap.size := (Array.getElem?_eq_some_iff.1 p3).1
      exact ⟨L2, c2, el2, fr2, hgrow.map _ _ p1, p2, by rw [hheap _ hlt]; exact p3, p4, RepL.mono hgrow p5, p6, p7, p8⟩
  · intro id y hid hy
    rw [hσ] at hid
    split at hid
    · rename_i he
      subst he
      simp only [Option.some.injEq] at hid
      subst hid
      exact ⟨⟨w.heap.size, 0, 0⟩, o, by simp [upd], ⟨hs.le, rfl⟩, hnew, ho.mono hgrow⟩
    · obtain ⟨L2, o2, p1, p2, p3, p4⟩ := hs.obj id y hid hy
      have hlt : L2.blk < w.heap.size := (Array.getElem?_eq_some_iff.1 p3).1
      exact ⟨L2, o2, hgrow.map _ _ p1, p2, by rw [hheap _ hlt]; exact p3, p4.mono hgrow⟩
  · intro i j x2 y L1 L2 hi hj hx2 hy hL1 hL2 he
    have old : ∀ {i : Nat} {x2 : Blk} {L : Loc}, i ≠ n → σ'.get i = some x2 → x2.own = true → upd m n ⟨w.heap.size, 0, 0⟩ i = some L → σ.get i = some x2 ∧ m i = some L ∧ L.blk ≠ w.heap.size := by
      intro i x2 L hne hi hx2 hL
      rw [hσ, if_neg hne] at hi
      unfold upd at hL
      rw [if_neg hne] at hL
      refine ⟨hi, hL, ?_⟩
      have := (hs.there hi hx2 hL).2; omega
    by_cases hin : i = n
    · by_cases hjn : j = n
      · rw [hin, hjn]
      · obtain ⟨_, _, hne⟩ := old hjn hj hy hL2
        subst hin
        simp [upd] at hL1
        subst hL1
        exact absurd he.symm hne
    · by_cases hjn : j = n
      · obtain ⟨_, _, hne⟩ := old hin hi hx2 hL1
        subst hjn
        simp [upd] at hL2
        subst hL2
        exact absurd he hne
      · obtain ⟨h1, h2, _⟩ := old hin hi hx2 hL1
        obtain ⟨h3, h4, _⟩ := old hjn hj hy hL2
        exact hs.sep i j x2 y L1 L2 h1 h3 hx2 hy h2 h4 he
  · show B ≤ (w.heap.push _).size
    have := hs.le
    simp; omega

/-- An allocation makes one row, of the next number. -/
theorem alloc_op0 {call : CallF R} {o : Oper} (hk : kindOf o = .alloc) (hnc : ∀ c, o.op ≠ .call c) {e : Env} {K : AV → St → Option R} {r : R} (h : aop P call o e σ K = some r) :
    ∃ (bx : Blk) (val : Nat → AV), K (val σ.next) (σ.new bx) = some r ∧
      (∀ (call' : CallF R) (σ' : St) (K' : AV → St → Option R), aop P call' o e σ' K' = K' (val σ'.next) (σ'.new bx)) ∧
      ∀ {B : Nat} {m : Mp} {w : World} {a : Act} {n : Nat}, (∃ σ0, Sim B σ0 m w) → RepE m w e a → m n = none →
        ∃ cv w' L, (execOp a.eval o).run P w = .ok (.value cv) w' ∧ Grows m w (upd m n L) w' ∧ Below B w w' ∧ RepV (upd m n L) w' (val n) cv ∧
          ∀ (σ0 σ' : St), Sim B σ0 m w → (∀ i, σ'.get i = if i = n then some bx else σ0.get i) → Sim B σ' (upd m n L) w' := by
  cases hop : o.op with
  | alloc t =>
    simp only [aop, hop] at h ⊢
    simp only [Option.bind_eq_some_iff] at h
    obtain ⟨z, hz, h⟩ := h
    refine ⟨.cells z true, fun n => .ptr (some (n, 0)), h, fun call' σ' K' => by simp only [hz, Option.bind_some], ?_⟩
    intro B m w a n ⟨σ0, hs0⟩ he hn
    obtain ⟨i, zv, hi, hzv, hzr, hz1⟩ := zeroCellsT_rep (m := m) (w := w) hz
    obtain ⟨g1, g2, _⟩ := new_sim_at hs0 t hzr hz1 hn (extra := #[])
    refine ⟨.pointer (some ⟨w.heap.size, 0, none⟩), _, _, ?_, g1, g2, ?_, fun σ1 σ' hs1 hσ => (new_sim_at hs1 t hzr hz1 hn (extra := #[])).2.2 σ' hσ⟩
    · simp [execOp, hop, Instr.alloc, zeroValue, typeInfo, hi, hzv, newVar, newRow]
    · exact .ptr n 0 ⟨w.heap.size, 0, z.length⟩ (by simp [upd])
  | box t x =>
    simp only [aop, hop] at h ⊢
    split at h
    · rename_i h1
      refine ⟨.cells _ true, fun n => .ptr (some (n, 0)), h, fun call' σ' K' => by simp only [h1, if_true], ?_⟩
      intro B m w a n ⟨σ0, hs0⟩ he hn
      have hr := (evT_rep (P := P) he t x).cells h1
      obtain ⟨g1, g2, _⟩ := new_sim_at hs0 t hr h1 hn (extra := #[])
      refine ⟨.pointer (some ⟨w.heap.size, 0, none⟩), _, _, ?_, g1, g2, ?_, fun σ1 σ' hs1 hσ => (new_sim_at hs1 t hr h1 hn (extra := #[])).2.2 σ' hσ⟩
      · simp [execOp, hop, Instr.box, newVar, newRow]
      · exact .ptr n 0 ⟨w.heap.size, 0, (evT P e t x).cells.length⟩ (by simp [upd])
    · simp at h
  | buildSlice t len ps =>
    simp only [aop, hop] at h ⊢
    split at h
    · rename_i el hu
      simp only [Option.bind_eq_some_iff] at h
      obtain ⟨z, hz, h⟩ := h
      split at h
      · rename_i hc
        simp only [Option.bind_eq_some_iff] at h
        obtain ⟨cs, hcs, h⟩ := h
        split at h
        · simp at h
        · rename_i h1
          have h1' : cs.all AV.one = true := by simpa using h1
          refine ⟨.cells cs true, fun n => .slice (some (n, 0)) len (some len) (P.cellsOf el), h, fun call' σ' K' => by simp only [hu, hz, Option.bind_some, if_pos hc, hcs, h1', Bool.not_true, Bool.false_eq_true, if_false], ?_⟩
          intro B m w a n ⟨σ0, hs0⟩ he hn
          obtain ⟨i, zv, hi, hzv, hzr, hz1⟩ := zeroCellsT_rep (m := m) (w := w) hz
          have hzl : zv.cells.size = P.cellsOf el := by have := hzr.length; simp at this; omega
          have hrz : RepL m w (List.replicate len z).flatten ((Array.range (len * zv.cells.size)).map (zv.cells[· % zv.cells.size]!)).toList := by
            rw [zeros_flat zv.cells (by omega) len]; exact hzr.flat len
          have hfill : ∃ ds, Instr.fill (fun i => some (i * P.cellsOf el, P.cellsOf el)) ((Array.range (len * zv.cells.size)).map (zv.cells[· % zv.cells.size]!)) (ps.toList.map fun (i, x) => (i, a.eval x)) = some ds ∧ RepL m w cs ds.toList := by
            refine aFill_rep hcs hrz (by simp [Function.comp_def]) (parts_rep _ (evT_rep he el) ps.toList) ?_
            intro p hp
            obtain ⟨q, hq, rfl⟩ := List.mem_map.1 hp
            exact .inl (List.all_eq_true.1 hc.2 q hq)
          obtain ⟨ds, hds, hr⟩ := hfill
          have hisz : i.size = P.cellsOf el := by simp [Program.cellsOf, hi]
          obtain ⟨g1, g2, _⟩ := new_sim_at hs0 el hr h1' hn (extra := #[])
          have hcl : cs.length = len * P.cellsOf el := by
            have := aFill_length hcs
            rw [this]
            simp [hc.1.2.2.1]
          have hrun : (Instr.buildSlice t len (ps.map fun (i, x) => (i, a.eval x))).run P w = .ok (.slice (some ⟨w.heap.size, 0, none⟩) len len) (w.alloc (.cells ds el)) := by
            refine run_buildSlice w t el len _ ds i zv hu hi hzv (by rw [hisz]; omega) (by rw [hisz]; have := Nat.mul_pos hc.1.1 hc.1.2.1; omega) ?_
            rw [hisz, ← hzl] at *
            simpa using hds
          refine ⟨.slice (some ⟨w.heap.size, 0, none⟩) len len, _, _, ?_, g1, g2, ?_, fun σ1 σ' hs1 hσ => (new_sim_at hs1 el hr h1' hn (extra := #[])).2.2 σ' hσ⟩
          · simp [execOp, hop, hrun]
          · refine .slice n 0 len _ _ ⟨w.heap.size, 0, cs.length⟩ len _ (by simp [upd]) (Nat.le_refl _) (by simp) ⟨.inl ⟨rfl, ?_⟩, by simp⟩
            intro hcc; cases hcc
      · simp at h
    · simp at h
  | makeSlice t l c =>
    simp only [aop, hop] at h ⊢
    split at h
    · rename_i el k1 n k2 k hu hl hc
      simp only [Option.bind_eq_some_iff] at h
      obtain ⟨z, hz, h⟩ := h
      split at h
      · rename_i hcond
        refine ⟨.cells (List.replicate k.toNat z).flatten true, fun n' => .slice (some (n', 0)) n.toNat (some k.toNat) (P.cellsOf el), h, fun call' σ' K' => by simp only [hz, Option.bind_some, if_pos hcond], ?_⟩
        intro B m w a n' ⟨σ0, hs0⟩ he hn
        obtain ⟨⟨c0, c1, c2⟩, c3, c4, c5⟩ := hcond
        obtain ⟨i, zv, hi, hzv, hzr, hz1⟩ := zeroCellsT_rep (m := m) (w := w) hz
        have hzl : zv.cells.size = P.cellsOf el := by have := hzr.length; simp at this; omega
        have hrz : RepL m w (List.replicate k.toNat z).flatten ((Array.range (k.toNat * zv.cells.size)).map (zv.cells[· % zv.cells.size]!)).toList := by
          rw [zeros_flat zv.cells (by omega) k.toNat]; exact hzr.flat k.toNat
        have h1' : (List.replicate k.toNat z).flatten.all AV.one = true := by
          rw [List.all_eq_true]
          intro y hy
          obtain ⟨ys, h4, h5⟩ := List.mem_flatten.1 hy
          rw [List.mem_replicate] at h4
          exact List.all_eq_true.1 hz1 y (h4.2 ▸ h5)
        have e1 : a.eval l = .int k1 n := by have := ev_rep (P := P) he l; rw [hl] at this; exact int_inv this
        have e2 : a.eval c = .int k2 k := by have := ev_rep (P := P) he c; rw [hc] at this; exact int_inv this
        obtain ⟨g1, g2, _⟩ := new_sim_at hs0 el hrz h1' hn (extra := #[])
        have hrun := run_makeSlice (P := P) (t := t) (k1 := k1) (k2 := k2) hu hi hzv c0 c1 c2 c5 w hzl
        have hcl : (List.replicate k.toNat z).flatten.length = k.toNat * P.cellsOf el := by simp [c4]
        refine ⟨.slice (some ⟨w.heap.size, 0, none⟩) n.toNat k.toNat, _, _, ?_, g1, g2, ?_, fun σ1 σ' hs1 hσ => (new_sim_at hs1 el hrz h1' hn (extra := #[])).2.2 σ' hσ⟩
        · simp [execOp, hop, e1, e2, hrun]
        · refine .slice n' 0 n.toNat _ _ ⟨w.heap.size, 0, (List.replicate k.toNat z).flatten.length⟩ k.toNat _ (by simp [upd]) (by omega) (by simp) ⟨.inl ⟨rfl, ?_⟩, by simp⟩
          intro hcc; cases hcc
      · simp at h
    · simp at h
  | makeMap t rsv =>
    cases rsv with
    | some x => simp [aop, hop] at h
    | none =>
      simp only [aop, hop] at h ⊢
      refine ⟨.map [] 0, fun n => .map (some n), h, fun call' σ' K' => rfl, ?_⟩
      intro B m w a n ⟨σ0, hs0⟩ he hn
      obtain ⟨g1, g2, _⟩ := newObj_sim hs0 (x := .map [] 0) (o := .map #[] 0) rfl ⟨rfl, .nil⟩ hn
      refine ⟨.map (some w.heap.size), w.alloc (.map #[] 0), _, ?_, g1, g2, .map n ⟨w.heap.size, 0, 0⟩ (by simp [upd]), fun σ1 σ' hs1 hσ => (newObj_sim hs1 (x := .map [] 0) (o := .map #[] 0) rfl ⟨rfl, .nil⟩ hn).2.2 σ' hσ⟩
      simp only [execOp, hop, Instr.makeMap]
      rfl
  | call c => exact absurd hop (hnc c)
  | _ => simp [kindOf, hop] at hk

end

end Go.AM
