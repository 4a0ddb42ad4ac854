/- The abstract machine against the model: memory: loads, stores, new rows. -/
import Derived.Test.YtbgepjggclhfiaaGreatDoorA11
import Derived.Laws.CopyRow
import Derived.Laws.AppendOwn
set_option linter.unusedVariables false
set_option linter.unusedSimpArgs false
namespace Go.AM
open Go.RowKit (Below)

/-- Blocks' numbers from n on stand for nothing yet. -/
def Fr (m : Mp) (n : Nat) : Prop := ∀ i, n ≤ i → m i = none

def upd (m : Mp) (i : Nat) (L : Loc) : Mp := fun j => if j = i then some L else m j

section
variable {B : Nat} {σ : St} {m : Mp} {w : World} {P : Program} {R : Type}

/-- Cells that the machine reads lie in the model's memory. -/
theorem Sim.cellsAt (hs : Sim B σ m w) {b : Nat} {L : Loc} (hm : m b = some L) : ∀ {cs : List AV} {off : Nat}, (∀ i v, cs[i]? = some v → σ.ld b (off + i) = some v) →
    ∃ us, RepL m w cs us ∧ cs.all AV.one = true ∧ ∀ j u, us[j]? = some u → w.cell? ((⟨L.blk, L.base + off, none⟩ : Addr).add j) = some u := by
  intro cs
  induction cs with
  | nil => intro off _; exact ⟨[], .nil, rfl, by simp⟩
  | cons v cs ih =>
    intro off h
    obtain ⟨u, h1, h2, _, h3⟩ := hs.cell (h 0 v rfl) hm
    obtain ⟨us, h4, h5, h6⟩ := ih (off := off + 1) (fun i x hx => by rw [show off + 1 + i = off + (i + 1) by omega]; exact h (i + 1) x (by simpa using hx))
    refine ⟨u :: us, .cons _ _ _ _ h2 h4, by simp [h3]; simpa using h5, ?_⟩
    intro j x hx
    cases j with
    | zero => simp at hx; subst hx; simpa [Addr.add_lit] using h1
    | succ j => have := h6 j x (by simpa using hx); simp only [Addr.add_lit] at this ⊢; rw [show L.base + off + (j + 1) = L.base + (off + 1) + j by omega]; exact this

theorem St.lds_ld {σ : St} {b off n : Nat} {cs : List AV} (h : σ.lds b off n = some cs) : cs.length = n ∧ ∀ i v, cs[i]? = some v → σ.ld b (off + i) = some v := by
  unfold St.lds at h
  cases hr : σ.row b with
  | none => simp [hr] at h
  | some row =>
    simp only [hr, Option.bind_some] at h
    split at h
    · rename_i hl
      simp only [Option.some.injEq] at h
      subst h
      refine ⟨by simp; omega, fun i v hv => ?_⟩
      rw [List.getElem?_take] at hv
      split at hv
      · rw [List.getElem?_drop] at hv
        simp [St.ld, hr, hv]
      · simp at hv
    · simp at h

theorem AV.cells_one {v : AV} (h : v.one = true) : v.cells = [v] := by cases v <;> simp_all [AV.one, AV.cells]

mutual
theorem AV.beq_eq : ∀ {a b : AV}, AV.beq a b = true → a = b
  | .bool a, .bool b, h => by simp [AV.beq] at h; rw [h]
  | .int k a, .int j b, h => by simp [AV.beq] at h; rw [h.1, h.2]
  | .str a, .str b, h => by simp [AV.beq] at h; rw [h]
  | .ptr a, .ptr b, h => by simp [AV.beq] at h; rw [h]
  | .slice a n c e, .slice b m d f, h => by simp [AV.beq] at h; obtain ⟨⟨⟨rfl, rfl⟩, rfl⟩, rfl⟩ := h; rfl
  | .map a, .map b, h => by simp [AV.beq] at h; rw [h]
  | .func f a b, .func g c d, h => by
    simp only [AV.beq, Bool.and_eq_true, decide_eq_true_eq] at h
    obtain ⟨⟨rfl, h1⟩, h2⟩ := h
    rw [AV.beqL_eq h1, AV.beqL_eq h2]
  | .nilFunc, .nilFunc, _ => rfl
  | .iface t a, .iface u b, h => by
    simp only [AV.beq, Bool.and_eq_true, beq_iff_eq] at h
    obtain ⟨rfl, h1⟩ := h
    rw [AV.beq_eq h1]
  | .nilIface, .nilIface, _ => rfl
  | .agg a, .agg b, h => by simp only [AV.beq] at h; rw [AV.beqL_eq h]
  | .tuple a, .tuple b, h => by simp only [AV.beq] at h; rw [AV.beqL_eq h]
  | .undef, b, h => by simp [AV.beq] at h
  | .bool _, .undef, h | .bool _, .int _ _, h | .bool _, .str _, h | .bool _, .ptr _, h | .bool _, .slice _ _ _ _, h | .bool _, .map _, h | .bool _, .func _ _ _, h | .bool _, .nilFunc, h
  | .bool _, .iface _ _, h | .bool _, .nilIface, h | .bool _, .agg _, h | .bool _, .tuple _, h => by simp [AV.beq] at h
  | .int _ _, .undef, h | .int _ _, .bool _, h | .int _ _, .str _, h | .int _ _, .ptr _, h | .int _ _, .slice _ _ _ _, h | .int _ _, .map _, h | .int _ _, .func _ _ _, h | .int _ _, .nilFunc, h
  | .int _ _, .iface _ _, h | .int _ _, .nilIface, h | .int _ _, .agg _, h | .int _ _, .tuple _, h => by simp [AV.beq] at h
  | .str _, .undef, h | .str _, .bool _, h | .str _, .int _ _, h | .str _, .ptr _, h | .str _, .slice _ _ _ _, h | .str _, .map _, h | .str _, .func _ _ _, h | .str _, .nilFunc, h
  | .str _, .iface _ _, h | .str _, .nilIface, h | .str _, .agg _, h | .str _, .tuple _, h => by simp [AV.beq] at h
  | .ptr _, .undef, h | .ptr _, .bool _, h | .ptr _, .int _ _, h | .ptr _, .str _, h | .ptr _, .slice _ _ _ _, h | .ptr _, .map _, h | .ptr _, .func _ _ _, h | .ptr _, .nilFunc, h
  | .ptr _, .iface _ _, h | .ptr _, .nilIface, h | .ptr _, .agg _, h | .ptr _, .tuple _, h => by simp [AV.beq] at h
  | .slice _ _ _ _, .undef, h | .slice _ _ _ _, .bool _, h | .slice _ _ _ _, .int _ _, h | .slice _ _ _ _, .str _, h | .slice _ _ _ _, .ptr _, h | .slice _ _ _ _, .map _, h | .slice _ _ _ _, .func _ _ _, h
  | .slice _ _ _ _, .nilFunc, h | .slice _ _ _ _, .iface _ _, h | .slice _ _ _ _, .nilIface, h | .slice _ _ _ _, .agg _, h | .slice _ _ _ _, .tuple _, h => by simp [AV.beq] at h
  | .map _, .undef, h | .map _, .bool _, h | .map _, .int _ _, h | .map _, .str _, h | .map _, .ptr _, h | .map _, .slice _ _ _ _, h | .map _, .func _ _ _, h | .map _, .nilFunc, h
  | .map _, .iface _ _, h | .map _, .nilIface, h | .map _, .agg _, h | .map _, .tuple _, h => by simp [AV.beq] at h
  | .func _ _ _, .undef, h | .func _ _ _, .bool _, h | .func _ _ _, .int _ _, h | .func _ _ _, .str _, h | .func _ _ _, .ptr _, h | .func _ _ _, .slice _ _ _ _, h | .func _ _ _, .map _, h
  | .func _ _ _, .nilFunc, h | .func _ _ _, .iface _ _, h | .func _ _ _, .nilIface, h | .func _ _ _, .agg _, h | .func _ _ _, .tuple _, h => by simp [AV.beq] at h
  | .nilFunc, .undef, h | .nilFunc, .bool _, h | .nilFunc, .int _ _, h | .nilFunc, .str _, h | .nilFunc, .ptr _, h | .nilFunc, .slice _ _ _ _, h | .nilFunc, .map _, h | .nilFunc, .func _ _ _, h
  | .nilFunc, .iface _ _, h | .nilFunc, .nilIface, h | .nilFunc, .agg _, h | .nilFunc, .tuple _, h => by simp [AV.beq] at h
  | .iface _ _, .undef, h | .iface _ _, .bool _, h | .iface _ _, .int _ _, h | .iface _ _, .str _, h | .iface _ _, .ptr _, h | .iface _ _, .slice _ _ _ _, h | .iface _ _, .map _, h
  | .iface _ _, .func _ _ _, h | .iface _ _, .nilFunc, h | .iface _ _, .nilIface, h | .iface _ _, .agg _, h | .iface _ _, .tuple _, h => by simp [AV.beq] at h
  | .nilIface, .undef, h | .nilIface, .bool _, h | .nilIface, .int _ _, h | .nilIface, .str _, h | .nilIface, .ptr _, h | .nilIface, .slice _ _ _ _, h | .nilIface, .map _, h
  | .nilIface, .func _ _ _, h | .nilIface, .nilFunc, h | .nilIface, .iface _ _, h | .nilIface, .agg _, h | .nilIface, .tuple _, h => by simp [AV.beq] at h
  | .agg _, .undef, h | .agg _, .bool _, h | .agg _, .int _ _, h | .agg _, .str _, h | .agg _, .ptr _, h | .agg _, .slice _ _ _ _, h | .agg _, .map _, h | .agg _, .func _ _ _, h
  | .agg _, .nilFunc, h | .agg _, .iface _ _, h | .agg _, .nilIface, h | .agg _, .tuple _, h => by simp [AV.beq] at h
  | .tuple _, .undef, h | .tuple _, .bool _, h | .tuple _, .int _ _, h | .tuple _, .str _, h | .tuple _, .ptr _, h | .tuple _, .slice _ _ _ _, h | .tuple _, .map _, h | .tuple _, .func _ _ _, h
  | .tuple _, .nilFunc, h | .tuple _, .iface _ _, h | .tuple _, .nilIface, h | .tuple _, .agg _, h => by simp [AV.beq] at h
theorem AV.beqL_eq : ∀ {a b : List AV}, AV.beqL a b = true → a = b
  | [], [], _ => rfl
  | a :: x, b :: y, h => by
    simp only [AV.beqL, Bool.and_eq_true] at h
    rw [AV.beq_eq h.1, AV.beqL_eq h.2]
  | [], _ :: _, h | _ :: _, [], h => by simp [AV.beqL] at h
end

theorem St.same_lds {σ : St} {b off : Nat} {vs : List AV} (h : σ.same b off vs = true) : σ.lds b off vs.length = some vs := by
  unfold St.same at h
  split at h
  · rename_i us hu; rw [hu, AV.beqL_eq h]
  · simp at h

/-- A load. -/
theorem load_sound {call : CallF R} {o : Oper} {t : TypeId} {x : Operand} (hop : o.op = .load t x) {e : Env} {a : Act} {K : AV → St → Option R} {r : R} (h : aop P call o e σ K = some r) (hs : Sim B σ m w) (he : RepE m w e a) :
    ∃ v cv p, ev P e x = .ptr (some p) ∧ K v σ = some r ∧ RepV m w v cv ∧ (execOp a.eval o).run P w = .ok (.value cv) w ∧
      ∀ (σ' : St), (∀ i u, v.cells[i]? = some u → σ'.ld p.1 (p.2 + i) = some u) → ∀ (R' : Type) (call' : CallF R') (K' : AV → St → Option R'), aop P call' o e σ' K' = K' v σ' := by
  simp only [aop, hop] at h ⊢
  have hx := ev_rep (P := P) he x
  split at h
  · rename_i p shs hp hsh
    split at h
    · rename_i hl
      obtain ⟨cs, h1, h2, h3, h4⟩ := ldT_some h
      rw [hp] at hx
      obtain ⟨id, off⟩ := p
      obtain ⟨L, hL, hv⟩ := ptr_inv hx
      obtain ⟨us, hr, h1s, hc⟩ := hs.cellsAt hL h3
      obtain ⟨d, hu⟩ := shOf_underlying hsh
      obtain ⟨ie, hie⟩ := info_of_underlying hu
      have hlen := hr.length
      by_cases ha : isAggT P t = true
      · simp only [ha, if_true] at h1
        refine ⟨.agg cs, .agg us.toArray, (id, off), hp, h1, .agg _ _ (by simpa using hr), ?_, fun σ' hσ R' call' K' => ?_⟩
        · have hlc := run_loadCells_list (P := P) w _ us hc
          simp [execOp, hop, hv, Instr.loadAt, Instr.sureAddr, loadVar, run_isAggT hu, ha, run_size hie, ← hl, ← h2, hlen, hlc]
        · simp only [hp, hsh, if_pos hl]
          rw [h4 σ' hσ]
          simp [ha]
      · simp only [ha, if_false, Bool.false_eq_true] at h1
        split at h1
        · rename_i v
          cases hr with
          | cons _ u _ y hvr ht =>
            cases ht
            have hcell := hc 0 u rfl
            simp only [Addr.add_lit, Nat.add_zero] at hcell
            have h1v : v.one = true := by simpa using h1s
            refine ⟨v, u, (id, off), hp, h1, hvr, ?_, fun σ' hσ R' call' K' => ?_⟩
            · simp [execOp, hop, hv, Instr.loadAt, Instr.sureAddr, loadVar, run_isAggT hu, ha, hcell]
            · simp only [hp, hsh, if_pos hl]
              rw [h4 σ' (by rw [AV.cells_one h1v] at hσ; exact hσ)]
              simp [ha]
        · simp at h1
    · simp at h
  · simp at h
end

end Go.AM
