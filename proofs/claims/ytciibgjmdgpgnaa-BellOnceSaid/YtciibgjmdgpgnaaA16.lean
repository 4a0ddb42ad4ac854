/- The abstract machine against the model: the operations that change memory, but for calls. -/
import Derived.Test.YtciibgjmdgpgnaaA15
import Derived.Great.BuildSlice
set_option linter.unusedVariables false
set_option linter.unusedSimpArgs false
namespace Go.AM
open Go.RowKit (Below)

section
variable {B : Nat} {σ : St} {m : Mp} {w : World} {P : Program} {R : Type}

/-- What a change of memory is. -/
def Eff (B : Nat) (m : Mp) (w : World) (P : Program) (o : Oper) (e : Env) (a : Act) (K : AV → St → Option R) (σ : St) (r : R) : Prop :=
  ∃ v σ' cv w' m', K v σ' = some r ∧ (∀ (call' : CallF R) (K' : AV → St → Option R), aop P call' o e σ K' = K' v σ') ∧ Does P o a w cv w' ∧ Sim B σ' m' w' ∧ Grows m w m' w' ∧ Below B w w' ∧ RepV m' w' v cv ∧ Fresh m σ m' σ'

theorem copy_sim (hs : Sim B σ m w) {t u ty el el' : TypeId} (ht : P.underlying t = some (.slice el)) (hu : P.underlying u = some (.slice el')) {e : Nat} (he : e = P.cellsOf el) (h0 : 0 < e)
    {o o' : Option (Nat × Nat)} {n n' : Nat} {c c' : Option Nat} {dv sv : Value} (hdv : RepV m w (.slice o n c e) dv) (hsv : RepV m w (.slice o' n' c' e) sv) {k : Nat} {σ2 : St}
    (h : σ.copy e ⟨o, n, c⟩ ⟨o', n', c'⟩ = some (k, σ2)) :
    ∃ w', (Builtin.copy_ #[t, u] ty #[dv, sv]).run P w = .ok (.int .i64 k) w' ∧ Sim B σ2 m w' ∧ Grows m w m w' ∧ Below B w w' ∧ σ2.next = σ.next := by
  obtain ⟨da, dc, rfl⟩ := slice_inv' hdv
  obtain ⟨sa, sc, rfl⟩ := slice_inv' hsv
  subst he
  obtain ⟨ie, hie, _⟩ := info_of_cells (P := P) (t := el) (by omega)
  unfold St.copy at h
  split at h
  · rename_i hz
    simp only at hz
    simp only [Option.some.injEq, Prod.mk.injEq] at h
    obtain ⟨rfl, rfl⟩ := h
    refine ⟨w, ?_, hs, .refl _ _, Below.refl _ _, rfl⟩
    have hm : Nat.min n' n = 0 := hz
    cases sa with
    | none => cases da <;> simp [Builtin.copy_, run_underlying ht, Builtin.lenOf, hm, run_size hie, Builtin.firstCells, storeCells, goInt]
    | some a =>
      have := run_loadCells_list (P := P) w a [] (by simp)
      simp at this
      cases da <;> simp [Builtin.copy_, run_underlying ht, Builtin.lenOf, hm, run_size hie, Builtin.firstCells, storeCells, goInt, this]
  · rename_i hz
    simp only at hz
    simp only [Option.bind_eq_some_iff, Option.some.injEq, Prod.mk.injEq] at h
    obtain ⟨cs, hcs, ⟨id, off⟩, ho, σ', hst, rfl, rfl⟩ := h
    obtain rfl : o = some (id, off) := ho
    obtain ⟨us, hr, h1, hl, hx, hxn⟩ := hs.elems hcs h0 hsv
    obtain ⟨L, c2, ad2, hL, heq, hle, hcc, ha⟩ := slice_inv hdv
    simp only [Value.slice.injEq] at heq
    obtain ⟨rfl, _, rfl⟩ := heq
    rcases ha.1 with ⟨rfl, hroom⟩ | ⟨h3, h4⟩
    · obtain ⟨w', hr1, hr2, hr3, hr4, hr5⟩ := store_sim (P := P) hs hst hL hr h1
      refine ⟨w', ?_, hr2, hr3, hr4, hr5⟩
      have hf := run_firstCells_slice (P := P) (n := n') (c := sc) hl hx hxn
      have hm : Nat.min n' n = min n' n := rfl
      simp [Builtin.copy_, run_underlying ht, Builtin.lenOf, hm, run_size hie, hf, hr1, goInt]
    · omega

theorem store_op {call : CallF R} {o : Oper} {t : TypeId} {x y : Operand} (hop : o.op = .store t x y) {e : Env} {a : Act} {K : AV → St → Option R} {r : R} (h : aop P call o e σ K = some r) (hs : Sim B σ m w) (he : RepE m w e a) :
    Eff B m w P o e a K σ r := by
  unfold Eff
  simp only [aop, hop] at h ⊢
  have hx := ev_rep (P := P) he x
  split at h
  · rename_i p hp
    rw [hp] at hx
    obtain ⟨id, off⟩ := p
    obtain ⟨L, hL, hv⟩ := ptr_inv hx
    split at h
    · rename_i hc
      simp only [Option.bind_eq_some_iff] at h
      obtain ⟨σ', hst, h⟩ := h
      have hy := evT_rep (P := P) he t y
      have hcr := hy.cells hc.2
      obtain ⟨w', hr1, hr2, hr3, hr4, hr5⟩ := store_sim (P := P) hs hst hL hcr hc.2
      refine ⟨_, σ', undef, w', m, h, fun call' K' => by simp only [hp, if_pos hc, hst, Option.bind_some], .inr ⟨rfl, ?_⟩, hr2, hr3, hr4, .tuple [] #[] .nil, .inl ⟨hr5, rfl⟩⟩
      have hlen : (a.eval y).cells.size = P.cellsOf t := by have := hcr.length; have := hc.1.2; simp at *; omega
      obtain ⟨ie, hie⟩ := Option.isSome_iff_exists.1 hc.1.1
      simp [execOp, hop, hv, Instr.storeAt, Instr.sureAddr, storeVar, run_size hie, hlen, hr1]
    · simp at h
  · simp at h

theorem aFill_length {pl : Nat → Option (Nat × Nat)} : ∀ {ps : List (Nat × AV)} {cs r : List AV}, aFill pl cs ps = some r → r.length = cs.length := by
  intro ps
  induction ps with
  | nil => intro cs r h; simp [aFill] at h; rw [h]
  | cons p ps ih =>
    intro cs r h
    obtain ⟨i, v⟩ := p
    simp only [aFill] at h
    cases hp : pl i with
    | none => simp [hp] at h
    | some os =>
      obtain ⟨off, size⟩ := os
      simp only [hp] at h
      split at h
      · simp at h
      · rename_i hc
        simp only [ne_eq, Bool.or_eq_true, decide_eq_true_eq, not_or, Decidable.not_not] at hc
        rw [ih h]
        simp [St.splice]; omega

theorem zeros_flat (zc : Array Value) (hq : 0 < zc.size) : ∀ (len : Nat), ((Array.range (len * zc.size)).map (zc[· % zc.size]!)).toList = (List.replicate len zc.toList).flatten := by
  intro len
  simp only [Array.toList_map, Array.toList_range]
  induction len with
  | zero => simp
  | succ len ih =>
    rw [Nat.add_mul, Nat.one_mul, List.range_add, List.map_append, ih, List.replicate_succ', List.flatten_append]
    congr 1
    simp only [List.map_map, List.flatten_singleton]
    apply List.ext_getElem?
    intro i
    by_cases hi : i < zc.size
    · simp [hi, Nat.add_mod, Nat.mod_eq_of_lt hi]
    · simp [hi]

theorem RepL.flat {x : List AV} {y : List Value} (h : RepL m w x y) (n : Nat) : RepL m w (List.replicate n x).flatten (List.replicate n y).flatten := by
  induction n with
  | zero => exact .nil
  | succ n ih => simp only [List.replicate_succ, List.flatten_cons]; exact h.append ih

/-- make of a slice. -/
theorem run_makeSlice {t el : TypeId} {ie : TypeInfo} {z : Value} (hu : P.underlying t = some (.slice el)) (hi : P.info? el = some ie) (hz : ie.zero = some z) {k1 k2 : IntKind} {n k : Int}
    (h0 : 0 ≤ n) (h1 : n ≤ k) (h2 : k ≤ 2 ^ 40) (hb : k.toNat * (P.bytesOf el + 1) ≤ 2 ^ 46) (w : World) (hsz : z.cells.size = P.cellsOf el) :
    (Instr.makeSlice t (.int k1 n) (.int k2 k)).run P w = .ok (.slice (some ⟨w.heap.size, 0, none⟩) n.toNat k.toNat) (w.alloc (.cells ((Array.range (k.toNat * z.cells.size)).map (z.cells[· % z.cells.size]!)) el)) := by
  have hbytes : P.bytesOf el = ie.bytes := by simp [Program.bytesOf, hi]
  have hw1 : IntKind.i64.wrap n = n := by rw [IntKind.wrap_i64]; omega
  have hw2 : IntKind.i64.wrap k = k := by rw [IntKind.wrap_i64]; omega
  have hkb : (ie.bytes : Int) * k ≤ 2 ^ 46 := by
    rw [hbytes, Nat.mul_add, Nat.mul_one] at hb
    have : ((k.toNat * ie.bytes : Nat) : Int) ≤ 2 ^ 46 := by omega
    rw [Int.natCast_mul, Int.toNat_of_nonneg (by omega), Int.mul_comm] at this
    exact this
  have c1 : ¬ (281474976710656 < (ie.bytes : Int) * k) := by omega
  have c2 : ¬ (k < 0) := by omega
  have c3 : ¬ (n < 0) := by omega
  have c4 : ¬ (k < n) := by omega
  have c5 : ¬ (140737488355328 < k.toNat * ie.bytes) := by rw [hbytes, Nat.mul_add] at hb; omega
  have hs : (sizeOf el).run P w = .ok (P.cellsOf el) w := run_size hi w
  by_cases hk0 : k.toNat * P.cellsOf el = 0
  · have e1 : k.toNat * z.cells.size = 0 := by rw [hsz]; exact hk0
    simp [Instr.makeSlice, run_underlying hu, typeInfo, zeroValue, hi, hz, hw1, hw2, c1, c2, c3, c4, c5, askRoom, roomBytes, asInt, asIntOf, hs, hk0, e1, newRow]
    have e0 : ∀ f : Nat → Value, Array.map f (Array.range 0) = #[] := fun f => Array.ext' (by simp)
    rw [e0, e0]
  · rw [hsz] 
    simp [Instr.makeSlice, run_underlying hu, typeInfo, zeroValue, hi, hz, hw1, hw2, c1, c2, c3, c4, c5, askRoom, roomBytes, asInt, asIntOf, hs, hk0, newRow, hsz]

/-- An allocation makes one row, of the next number. -/
theorem alloc_op {call : CallF R} {o : Oper} (hk : kindOf o = .alloc) {e : Env} {K : AV → St → Option R} {r : R} (h : aop P call o e σ K = some r) :
    ∃ (cs : List AV) (val : Nat → AV), K (val σ.next) (σ.new (.cells cs true)) = some r ∧
      (∀ (call' : CallF R) (σ' : St) (K' : AV → St → Option R), aop P call' o e σ' K' = K' (val σ'.next) (σ'.new (.cells cs true))) ∧
      ∀ {B : Nat} {m : Mp} {w : World} {a : Act} {n : Nat}, (∃ σ0, Sim B σ0 m w) → RepE m w e a → m n = none →
        ∃ cv w' L, (execOp a.eval o).run P w = .ok (.value cv) w' ∧ Grows m w (upd m n L) w' ∧ Below B w w' ∧ RepV (upd m n L) w' (val n) cv ∧
          ∀ (σ0 σ' : St), Sim B σ0 m w → (∀ i, σ'.get i = if i = n then some (.cells cs true) else σ0.get i) → Sim B σ' (upd m n L) w' := by
  cases hop : o.op with
  | alloc t =>
    simp only [aop, hop] at h ⊢
    simp only [Option.bind_eq_some_iff] at h
    obtain ⟨z, hz, h⟩ := h
    refine ⟨z, fun n => .ptr (some (n, 0)), h, fun call' σ' K' => by simp only [hz, Option.bind_some], ?_⟩
    intro B m w a n ⟨σ0, hs0⟩ he hn
    obtain ⟨i, zv, hi, hzv, hzr, hz1⟩ := zeroCellsT_rep (m := m) (w := w) hz
    obtain ⟨g1, g2, _⟩ := new_sim_at hs0 t hzr hz1 hn (extra := #[])
    refine ⟨.pointer (some ⟨w.heap.size, 0, none⟩), _, _, ?_, g1, g2, ?_, fun σ1 σ' hs1 hσ => (new_sim_at hs1 t hzr hz1 hn (extra := #[])).2.2 σ' hσ⟩
    · simp [execOp, hop, Instr.alloc, zeroValue, typeInfo, hi, hzv, newVar, newRow]
    · exact .ptr n 0 ⟨w.heap.size, 0, z.length⟩ (by simp [upd])
  | box t x =>
    simp only [aop, hop] at h ⊢
    split at h
    · rename_i h1
      refine ⟨_, fun n => .ptr (some (n, 0)), h, fun call' σ' K' => by simp only [h1, if_true], ?_⟩
      intro B m w a n ⟨σ0, hs0⟩ he hn
      have hr := (evT_rep (P := P) he t x).cells h1
      obtain ⟨g1, g2, _⟩ := new_sim_at hs0 t hr h1 hn (extra := #[])
      refine ⟨.pointer (some ⟨w.heap.size, 0, none⟩), _, _, ?_, g1, g2, ?_, fun σ1 σ' hs1 hσ => (new_sim_at hs1 t hr h1 hn (extra := #[])).2.2 σ' hσ⟩
      · simp [execOp, hop, Instr.box, newVar, newRow]
      · exact .ptr n 0 ⟨w.heap.size, 0, (evT P e t x).cells.length⟩ (by simp [upd])
    · simp at h
  | buildSlice t len ps =>
    simp only [aop, hop] at h ⊢
    split at h
    · rename_i el hu
      simp only [Option.bind_eq_some_iff] at h
      obtain ⟨z, hz, h⟩ := h
      split at h
      · rename_i hc
        simp only [Option.bind_eq_some_iff] at h
        obtain ⟨cs, hcs, h⟩ := h
        split at h
        · simp at h
        · rename_i h1
          have h1' : cs.all AV.one = true := by simpa using h1
          refine ⟨cs, fun n => .slice (some (n, 0)) len (some len) (P.cellsOf el), h, fun call' σ' K' => by simp only [hu, hz, Option.bind_some, if_pos hc, hcs, h1', Bool.not_true, Bool.false_eq_true, if_false], ?_⟩
          intro B m w a n ⟨σ0, hs0⟩ he hn
          obtain ⟨i, zv, hi, hzv, hzr, hz1⟩ := zeroCellsT_rep (m := m) (w := w) hz
          have hzl : zv.cells.size = P.cellsOf el := by have := hzr.length; simp at this; omega
          have hrz : RepL m w (List.replicate len z).flatten ((Array.range (len * zv.cells.size)).map (zv.cells[· % zv.cells.size]!)).toList := by
            rw [zeros_flat zv.cells (by omega) len]; exact hzr.flat len
          have hfill : ∃ ds, Instr.fill (fun i => some (i * P.cellsOf el, P.cellsOf el)) ((Array.range (len * zv.cells.size)).map (zv.cells[· % zv.cells.size]!)) (ps.toList.map fun (i, x) => (i, a.eval x)) = some ds ∧ RepL m w cs ds.toList := by
            refine aFill_rep hcs hrz (by simp [Function.comp_def]) (parts_rep _ (evT_rep he el) ps.toList) ?_
            intro p hp
            obtain ⟨q, hq, rfl⟩ := List.mem_map.1 hp
            exact .inl (List.all_eq_true.1 hc.2 q hq)
          obtain ⟨ds, hds, hr⟩ := hfill
          have hisz : i.size = P.cellsOf el := by simp [Program.cellsOf, hi]
          obtain ⟨g1, g2, _⟩ := new_sim_at hs0 el hr h1' hn (extra := #[])
          have hcl : cs.length = len * P.cellsOf el := by
            have := aFill_length hcs
            rw [this]
            simp [hc.1.2.2.1]
          have hrun : (Instr.buildSlice t len (ps.map fun (i, x) => (i, a.eval x))).run P w = .ok (.slice (some ⟨w.heap.size, 0, none⟩) len len) (w.alloc (.cells ds el)) := by
            refine run_buildSlice w t el len _ ds i zv hu hi hzv (by rw [hisz]; omega) (by rw [hisz]; have := Nat.mul_pos hc.1.1 hc.1.2.1; omega) ?_
            rw [hisz, ← hzl] at *
            simpa using hds
          refine ⟨.slice (some ⟨w.heap.size, 0, none⟩) len len, _, _, ?_, g1, g2, ?_, fun σ1 σ' hs1 hσ => (new_sim_at hs1 el hr h1' hn (extra := #[])).2.2 σ' hσ⟩
          · simp [execOp, hop, hrun]
          · refine .slice n 0 len _ _ ⟨w.heap.size, 0, cs.length⟩ len _ (by simp [upd]) (Nat.le_refl _) (by simp) ⟨.inl ⟨rfl, ?_⟩, by simp⟩
            have : blkSize (w.alloc (.cells (ds ++ #[]) el)) w.heap.size = ds.size := by
              unfold blkSize
              have : (w.alloc (.cells (ds ++ #[]) el)).heap[w.heap.size]? = some (.cells (ds ++ #[]) el (0, 0)) := by
                show (w.heap.push _)[w.heap.size]? = _
                simp
              rw [this]; simp
            show 0 + 0 + len * P.cellsOf el ≤ _
            rw [this]
            have := hr.length
            simp at this
            omega
      · simp at h
    · simp at h
  | makeSlice t l c =>
    simp only [aop, hop] at h ⊢
    split at h
    · rename_i el k1 n k2 k hu hl hc
      simp only [Option.bind_eq_some_iff] at h
      obtain ⟨z, hz, h⟩ := h
      split at h
      · rename_i hcond
        refine ⟨(List.replicate k.toNat z).flatten, fun n' => .slice (some (n', 0)) n.toNat (some k.toNat) (P.cellsOf el), h, fun call' σ' K' => by simp only [hz, Option.bind_some, if_pos hcond], ?_⟩
        intro B m w a n' ⟨σ0, hs0⟩ he hn
        obtain ⟨⟨c0, c1, c2⟩, c3, c4, c5⟩ := hcond
        obtain ⟨i, zv, hi, hzv, hzr, hz1⟩ := zeroCellsT_rep (m := m) (w := w) hz
        have hzl : zv.cells.size = P.cellsOf el := by have := hzr.length; simp at this; omega
        have hrz : RepL m w (List.replicate k.toNat z).flatten ((Array.range (k.toNat * zv.cells.size)).map (zv.cells[· % zv.cells.size]!)).toList := by
          rw [zeros_flat zv.cells (by omega) k.toNat]; exact hzr.flat k.toNat
        have h1' : (List.replicate k.toNat z).flatten.all AV.one = true := by
          rw [List.all_eq_true]
          intro y hy
          obtain ⟨ys, h4, h5⟩ := List.mem_flatten.1 hy
          rw [List.mem_replicate] at h4
          exact List.all_eq_true.1 hz1 y (h4.2 ▸ h5)
        have e1 : a.eval l = .int k1 n := by have := ev_rep (P := P) he l; rw [hl] at this; exact int_inv this
        have e2 : a.eval c = .int k2 k := by have := ev_rep (P := P) he c; rw [hc] at this; exact int_inv this
        obtain ⟨g1, g2, _⟩ := new_sim_at hs0 el hrz h1' hn (extra := #[])
        have hrun := run_makeSlice (P := P) (t := t) (k1 := k1) (k2 := k2) hu hi hzv c0 c1 c2 c5 w hzl
        have hcl : (List.replicate k.toNat z).flatten.length = k.toNat * P.cellsOf el := by simp [c4]
        refine ⟨.slice (some ⟨w.heap.size, 0, none⟩) n.toNat k.toNat, _, _, ?_, g1, g2, ?_, fun σ1 σ' hs1 hσ => (new_sim_at hs1 el hrz h1' hn (extra := #[])).2.2 σ' hσ⟩
        · simp [execOp, hop, e1, e2, hrun]
        · refine .slice n' 0 n.toNat _ _ ⟨w.heap.size, 0, (List.replicate k.toNat z).flatten.length⟩ k.toNat _ (by simp [upd]) (by omega) (by simp) ⟨.inl ⟨rfl, ?_⟩, by simp⟩
          have hsz : blkSize (w.alloc (.cells ((Array.range (k.toNat * zv.cells.size)).map (zv.cells[· % zv.cells.size]!) ++ #[]) el)) w.heap.size = k.toNat * zv.cells.size := by
            unfold blkSize
            have : (w.alloc (.cells ((Array.range (k.toNat * zv.cells.size)).map (zv.cells[· % zv.cells.size]!) ++ #[]) el)).heap[w.heap.size]? = some (.cells ((Array.range (k.toNat * zv.cells.size)).map (zv.cells[· % zv.cells.size]!) ++ #[]) el (0, 0)) := by
              show (w.heap.push _)[w.heap.size]? = _
              simp
            rw [this]; simp
          show 0 + 0 + k.toNat * P.cellsOf el ≤ _
          rw [hsz, hzl]
          omega
      · simp at h
    · simp at h
  | call c =>
    simp only [kindOf, hop] at hk
    split at hk <;> simp at hk
  | _ => simp [kindOf, hop] at hk

end

end Go.AM
