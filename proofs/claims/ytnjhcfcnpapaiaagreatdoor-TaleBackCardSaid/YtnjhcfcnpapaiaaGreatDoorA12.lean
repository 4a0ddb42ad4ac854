/- The abstract machine against the model: every quiet operation, continued. -/
import Derived.Test.YtnjhcfcnpapaiaaGreatDoorA10
import Derived.Laws.Build
import Derived.Laws.CopyRow
import Derived.Laws.AppendOwn
set_option linter.unusedVariables false
set_option linter.unusedSimpArgs false
namespace Go.AM

section
variable {m : Mp} {w : World} {P : Program} {R : Type}

theorem ptr_inv {id off : Nat} {u : Value} (h : RepV m w (.ptr (some (id, off))) u) : ∃ L, m id = some L ∧ u = .pointer (some ⟨L.blk, L.base + off, none⟩) := by
  cases h; exact ⟨_, by assumption, rfl⟩
theorem int_inv {k : IntKind} {n : Int} {u : Value} (h : RepV m w (.int k n) u) : u = .int k n := by cases h; rfl
theorem str_inv {s : ByteArray} {u : Value} (h : RepV m w (.str s) u) : u = .string s := by cases h; rfl
theorem slice_inv {id off n z : Nat} {c : Option Nat} {u : Value} (h : RepV m w (.slice (some (id, off)) n c z) u) :
    ∃ L c' ad, m id = some L ∧ u = .slice (some ad) n c' ∧ n ≤ c' ∧ (∀ d, c = some d → c' = d) ∧ SlAt w L off n c z c' ad := by
  cases h with | slice _ _ _ _ _ L c' ad hL hl hc ha => exact ⟨L, c', ad, hL, rfl, hl, hc, ha⟩
theorem slice_inv' {o : Option (Nat × Nat)} {n z : Nat} {c : Option Nat} {u : Value} (h : RepV m w (.slice o n c z) u) : ∃ ad c', u = .slice ad n c' := by
  cases h <;> exact ⟨_, _, rfl⟩
theorem one_inv {v : AV} {us : List Value} (h : RepL m w [v] us) : ∃ u, us = [u] ∧ RepV m w v u := by
  cases h with | cons _ u _ y h t => cases t; exact ⟨u, rfl, h⟩
theorem two_inv {v1 v2 : AV} {us : List Value} (h : RepL m w [v1, v2] us) : ∃ u1 u2, us = [u1, u2] ∧ RepV m w v1 u1 ∧ RepV m w v2 u2 := by
  cases h with | cons _ u _ y h t => obtain ⟨u2, rfl, h2⟩ := one_inv t; exact ⟨u, u2, rfl, h, h2⟩

theorem run_fieldPlace {f : Field} (h0 : P.cellsOf f.type ≠ 0) (b off : Nat) (w' : World) : (fieldPlace ⟨b, off, none⟩ f).run P w' = .ok ⟨b, off + f.offset, none⟩ w' := by
  obtain ⟨i, hi, _⟩ := info_of_cells h0
  unfold fieldPlace
  simp [run_size hi, h0, Addr.add_lit]

theorem quiet_sound {call : CallF R} {o : Oper} (hk : kindOf o = .quiet) {e : Env} {a : Act} {σ : St} {K : AV → St → Option R} {r : R} (h : aop P call o e σ K = some r) (he : RepE m w e a) :
    Quiet m P o e a w K σ r := by
  cases hop : o.op with
  | build t ps => exact quiet_build hop h he
  | slice t x lo hi mx => exact quiet_slice hop h he
  | move x =>
    unfold Quiet
    simp only [aop, hop] at h ⊢
    exact ⟨_, _, h, evT_rep he _ x, fun w' => by simp [execOp, hop], fun _ _ _ _ => rfl⟩
  | assign x =>
    unfold Quiet
    simp only [aop, hop] at h ⊢
    exact ⟨_, _, h, evT_rep he _ x, fun w' => by simp [execOp, hop], fun _ _ _ _ => rfl⟩
  | pick c x y =>
    unfold Quiet
    simp only [aop, hop] at h ⊢
    simp only [Option.bind_eq_some_iff] at h
    obtain ⟨t, ht, h⟩ := h
    have hc := ev_rep (P := P) he c
    rw [AV.toBool_some ht] at hc
    have hcv : a.eval c = .bool t := by cases hv : a.eval c <;> rw [hv] at hc <;> cases hc; rfl
    cases t with
    | true =>
      simp only [if_true] at h
      obtain ⟨h1, h2⟩ := castVal_nat h
      refine ⟨_, _, h1, evT_rep he _ x, fun w' => by simp [execOp, hop, hcv, asBool], fun R' call' σ' K' => ?_⟩
      simp only [ht, Option.bind_some, if_true]; exact h2 _ _
    | false =>
      simp only [Bool.false_eq_true, if_false] at h
      obtain ⟨h1, h2⟩ := castVal_nat h
      refine ⟨_, _, h1, evT_rep he _ y, fun w' => by simp [execOp, hop, hcv, asBool], fun R' call' σ' K' => ?_⟩
      simp only [ht, Option.bind_some, Bool.false_eq_true, if_false]; exact h2 _ _
  | nilCheck x =>
    unfold Quiet
    simp only [aop, hop] at h ⊢
    have hx := ev_rep (P := P) he x
    split at h
    · rename_i p hp
      simp only [Option.bind_eq_some_iff] at h
      obtain ⟨q, rfl, h⟩ := h
      rw [hp] at hx
      refine ⟨_, a.eval x, h, hx, fun w' => ?_, fun R' call' σ' K' => by simp⟩
      cases hv : a.eval x <;> rw [hv] at hx <;> cases hx
      simp [execOp, hop, hv]
    · rename_i t v hp
      rw [hp] at hx
      refine ⟨_, a.eval x, h, hx, fun w' => ?_, fun R' call' σ' K' => rfl⟩
      cases hv : a.eval x <;> rw [hv] at hx <;> cases hx
      simp [execOp, hop, hv]
    · rename_i f a1 b1 hp
      rw [hp] at hx
      refine ⟨_, a.eval x, h, hx, fun w' => ?_, fun R' call' σ' K' => rfl⟩
      cases hv : a.eval x <;> rw [hv] at hx <;> cases hx
      simp [execOp, hop, hv]
    · simp at h
  | binOp op t x y u =>
    unfold Quiet
    simp only [aop, hop] at h ⊢
    obtain ⟨v, cv, h1, h2, h3, h4⟩ := abin_run h (evT_rep he t x) (evT_rep he u y) x y
    refine ⟨v, cv, h1, h2, fun w' => ?_, fun R' call' σ' K' => h4 _ _⟩
    have := h3 w'
    simp only [execOp, hop, Sem.run_bind] at this ⊢
    rw [this]; rfl
  | unOp op t x =>
    unfold Quiet
    simp only [aop, hop] at h ⊢
    obtain ⟨v, cv, h1, h2, h3, h4⟩ := aun_run (P := P) h (ev_rep (P := P) he x)
    exact ⟨v, cv, h1, h2, fun w' => by simp [execOp, hop, h3 w'], fun R' call' σ' K' => h4 _ _⟩
  | convert s d x =>
    unfold Quiet
    simp only [aop, hop] at h ⊢
    have hx := ev_rep (P := P) he x
    split at h
    · rename_i k1 k j n hs hd hp
      rw [hp] at hx
      have hv : a.eval x = .int j n := by cases hv : a.eval x <;> rw [hv] at hx <;> cases hx; rfl
      refine ⟨_, _, h, .int _ _, fun w' => ?_, fun R' call' σ' K' => rfl⟩
      simp [execOp, hop, hv, convert, run_underlying hs, run_underlying hd, Conv.intToInt]
    · rename_i b hs hd hp
      rw [hp] at hx
      have hv : a.eval x = .string b := by cases hv : a.eval x <;> rw [hv] at hx <;> cases hx; rfl
      refine ⟨_, _, h, .str _, fun w' => ?_, fun R' call' σ' K' => rfl⟩
      simp [execOp, hop, hv, convert, run_underlying hs, run_underlying hd]
    · simp at h
  | makeInterface t x =>
    unfold Quiet
    simp only [aop, hop] at h ⊢
    split at h
    · simp at h
    · simp at h
    · rename_i hn1 hn2
      obtain ⟨d, hd⟩ : ∃ d, P.underlying t = some d := by
        cases hu : P.underlying t with
        | none => exact absurd hu hn2
        | some d => exact ⟨d, rfl⟩
      refine ⟨_, _, h, .iface t _ _ (evT_rep he t x), fun w' => ?_, fun R' call' σ' K' => rfl⟩
      have hcc : P.concrete t = true := by
        unfold Program.concrete
        cases d <;> simp_all
      simp [execOp, hop, run_makeInterface w' t _ hcc]
  | typeAssert x xt t ok =>
    unfold Quiet
    simp only [aop, hop] at h ⊢
    have hx := ev_rep (P := P) he x
    split at h
    · simp at h
    · rename_i d u v hdi hd hev
      rw [hev] at hx
      obtain ⟨cv, hcv, hrv⟩ : ∃ cv, a.eval x = .iface u cv ∧ RepV m w v cv := by
        cases hv : a.eval x <;> rw [hv] at hx <;> cases hx
        exact ⟨_, rfl, by assumption⟩
      split at h
      · rename_i hut
        subst hut
        obtain ⟨h1, h2⟩ := castVal_nat h
        refine ⟨_, (if ok then .tuple #[cv, .bool true] else cv), h1, ?_, fun w' => ?_, fun R' call' σ' K' => ?_⟩
        · cases ok with
          | true => exact .tuple _ _ (.cons _ _ _ _ hrv (.cons _ _ _ _ (.bool true) .nil))
          | false => exact hrv
        · simp only [execOp, hop, hcv, Instr.typeAssert, Sem.run_bind, run_underlying hd, Result.andThen_ok]
          cases d <;> first | exact (hdi _ rfl).elim | simp
        · simp only [hd, hev]
          cases d <;> first | exact (hdi _ rfl).elim | (simp only [if_true]; exact h2 _ _)
      · rename_i hut
        split at h
        · rename_i hok
          subst hok
          simp only [Option.bind_eq_some_iff] at h
          obtain ⟨z, hz, h⟩ := h
          obtain ⟨zv, hz1, hz2⟩ := zeroAV_rep (P := P) (m := m) (w := w) hz
          refine ⟨_, .tuple #[zv, .bool false], h, .tuple _ _ (.cons _ _ _ _ hz2 (.cons _ _ _ _ (.bool false) .nil)), fun w' => ?_, fun R' call' σ' K' => ?_⟩
          · obtain ⟨zv', hz1', _⟩ := zeroAV_rep (P := P) (m := m) (w := w') hz
            have : zv' = zv := by
              have e1 := hz1
              have e2 := hz1'
              unfold zeroAV at hz
              simp only [Option.bind_eq_some_iff] at hz
              obtain ⟨i, hi, z2, hz2', _⟩ := hz
              simp [zeroValue, typeInfo, hi, hz2'] at e1 e2
              rw [← e1, ← e2]
            subst this
            simp only [execOp, hop, hcv, Instr.typeAssert, Sem.run_bind, run_underlying hd, Result.andThen_ok]
            cases d <;> first | exact (hdi _ rfl).elim | simp [hut, hz1']
          · simp only [hd, hev]
            cases d <;> first | exact (hdi _ rfl).elim | (simp only [if_neg hut, if_true, hz, Option.bind_some])
        · simp at h
    · simp at h
  | makeFunc fn f c =>
    unfold Quiet
    simp only [aop, hop] at h ⊢
    refine ⟨_, _, h, .func fn _ _ (f.map a.eval) (c.map a.eval) ?_ ?_, fun w' => by simp [execOp, hop, Instr.makeFunc], fun R' call' σ' K' => rfl⟩
    · rw [Array.toList_map]; exact evs_rep he _
    · rw [Array.toList_map]; exact evs_rep he _
  | fieldAddr t x f =>
    unfold Quiet
    simp only [aop, hop] at h ⊢
    split at h
    · rename_i fs p hu hp
      split at h
      · rename_i g hg
        split at h
        · simp at h
        · rename_i h0
          simp only [Option.bind_eq_some_iff] at h
          obtain ⟨q, rfl, h⟩ := h
          have hx := ev_rep (P := P) he x
          rw [hp] at hx
          obtain ⟨id, off⟩ := q
          have : ∃ L, m id = some L ∧ a.eval x = .pointer (some ⟨L.blk, L.base + off, none⟩) := by
            cases hv : a.eval x <;> rw [hv] at hx <;> cases hx
            exact ⟨_, by assumption, rfl⟩
          obtain ⟨L, hL, hv⟩ := this
          refine ⟨_, _, h, .ptr id (off + g.offset) L hL, fun w' => ?_, fun R' call' σ' K' => by simp only [hu, hp, hg, h0, if_false, Option.bind_some]⟩
          simp [execOp, hop, hv, Instr.fieldAt, run_underlying hu, hg, Instr.sureAddr, run_fieldPlace h0, Nat.add_assoc]
      · simp at h
    · simp at h
  | field t x f =>
    unfold Quiet
    simp only [aop, hop] at h ⊢
    split at h
    · rename_i fs cs hu hp
      simp only [Option.bind_eq_some_iff] at h
      obtain ⟨v, ⟨g, hg, hv⟩, h⟩ := h
      have hx := ev_rep (P := P) he x
      rw [hp] at hx
      obtain ⟨ds, hds, hr⟩ := agg_inv hx
      obtain ⟨u, hu', hru⟩ := partOf_run hr hv
      exact ⟨v, u, h, hru, fun w' => by simp [execOp, hop, hds, Instr.field, run_underlying hu, hg, asAgg, hu' w'], fun R' call' σ' K' => by simp only [hu, hp, hg, hv, Option.bind_some]⟩
    · simp at h
  | indexAddr t x i =>
    unfold Quiet
    simp only [aop, hop] at h ⊢
    have hx := evT_rep (P := P) he t x
    have hi := ev_rep (P := P) he i
    split at h
    · rename_i el o' n c z k j hu hp hq
      split at h
      · rename_i hz
        split at h
        · rename_i hb
          simp only [Option.bind_eq_some_iff] at h
          obtain ⟨⟨id, off⟩, rfl, h⟩ := h
          rw [hp] at hx; rw [hq] at hi
          have hvi : a.eval i = .int k j := by cases hv : a.eval i <;> rw [hv] at hi <;> cases hi; rfl
          obtain ⟨ie, hie, _⟩ := info_of_cells (P := P) (t := el) (by omega)
          obtain ⟨L, c', ad, hL, hv, hl, _, ha⟩ := slice_inv hx
          obtain rfl : ad = ⟨L.blk, L.base + off, none⟩ := by
            rcases ha.1 with ⟨h, _⟩ | ⟨h0, _⟩
            · exact h
            · omega
          refine ⟨_, _, h, .ptr id (off + j.toNat * z) L hL, fun w' => ?_, fun R' call' σ' K' => by simp only [hu, hp, hq, if_pos hz, if_pos hb, Option.bind_some]⟩
          simp [execOp, hop, hv, hvi, Instr.indexAt, asIntOf, run_underlying hu, hb.1, hb.2, run_size hie, Addr.add_lit, hz.1, Nat.add_assoc]
        · simp at h
      · simp at h
    · rename_i n el q k j hu hp hq
      split at h
      · rename_i hb
        rw [hp] at hx; rw [hq] at hi
        obtain ⟨id, off⟩ := q
        have hvi : a.eval i = .int k j := by cases hv : a.eval i <;> rw [hv] at hi <;> cases hi; rfl
        obtain ⟨ie, hie, _⟩ := info_of_cells (P := P) (t := el) (by omega)
        have : ∃ L, m id = some L ∧ a.eval x = .pointer (some ⟨L.blk, L.base + off, none⟩) := by
          cases hv : a.eval x <;> rw [hv] at hx <;> cases hx
          exact ⟨_, by assumption, rfl⟩
        obtain ⟨L, hL, hv⟩ := this
        refine ⟨_, _, h, .ptr id (off + j.toNat * P.cellsOf el) L hL, fun w' => ?_, fun R' call' σ' K' => by simp only [hu, hp, hq, if_pos hb]⟩
        simp [execOp, hop, hv, hvi, Instr.indexAt, asIntOf, run_underlying hu, hb.2.1, hb.2.2, run_size hie, Addr.add_lit, Instr.sureAddr, Nat.add_assoc]
      · simp at h
    · simp at h
  | index t x i =>
    unfold Quiet
    simp only [aop, hop] at h ⊢
    have hx := ev_rep (P := P) he x
    have hi := ev_rep (P := P) he i
    split at h
    · rename_i s k j hu hp hq
      simp only [Option.bind_eq_some_iff] at h
      obtain ⟨b, hb, h⟩ := h
      rw [hp] at hx; rw [hq] at hi
      have hvi : a.eval i = .int k j := by cases hv : a.eval i <;> rw [hv] at hi <;> cases hi; rfl
      have hvx : a.eval x = .string s := by cases hv : a.eval x <;> rw [hv] at hx <;> cases hx; rfl
      refine ⟨_, _, h, .int _ _, fun w' => ?_, fun R' call' σ' K' => by simp only [hu, hp, hq, hb, Option.bind_some]⟩
      unfold byteAt at hb
      split at hb
      · rename_i h0
        rw [Option.map_eq_some_iff] at hb
        obtain ⟨c, hc, rfl⟩ := hb
        simp [execOp, hop, hvx, hvi, Instr.index, asIntOf, run_underlying hu, h0, hc]
      · simp at hb
    · rename_i n el cs k j hu hp hq
      split at h
      · rename_i hb
        simp only [Option.bind_eq_some_iff] at h
        obtain ⟨v, hv, h⟩ := h
        obtain ⟨h1, h2⟩ := castVal_nat h
        rw [hp] at hx; rw [hq] at hi
        have hvi : a.eval i = .int k j := by cases hv : a.eval i <;> rw [hv] at hi <;> cases hi; rfl
        obtain ⟨ds, hds, hr⟩ := agg_inv hx
        obtain ⟨u, hu', hru⟩ := partOf_run hr hv
        obtain ⟨ie, hie, _⟩ := info_of_cells (P := P) (t := el) (by omega)
        refine ⟨v, u, h1, hru, fun w' => ?_, fun R' call' σ' K' => ?_⟩
        · simp [execOp, hop, hds, hvi, Instr.index, asIntOf, run_underlying hu, hb.2.1, hb.2.2, run_size hie, hu' w']
        · simp only [hu, hp, hq, if_pos hb, hv, Option.bind_some]; exact h2 _ _
      · simp at h
    · simp at h
  | extract x i =>
    unfold Quiet
    simp only [aop, hop] at h ⊢
    split at h
    · rename_i vs hp
      simp only [Option.bind_eq_some_iff] at h
      obtain ⟨v, hv, h⟩ := h
      have hx := ev_rep (P := P) he x
      rw [hp] at hx
      have : ∃ ds, a.eval x = .tuple ds ∧ RepL m w vs ds.toList := by
        cases hv : a.eval x <;> rw [hv] at hx <;> cases hx
        exact ⟨_, rfl, by assumption⟩
      obtain ⟨ds, hds, hr⟩ := this
      obtain ⟨u, hu, hru⟩ := hr.get hv
      refine ⟨v, u, h, hru, fun w' => ?_, fun R' call' σ' K' => by simp [hv]⟩
      rw [Array.getElem?_toList] at hu
      simp [execOp, hop, hds, Instr.extract, hu]
    · simp at h
  | call c =>
    unfold Quiet
    simp only [kindOf, hop] at hk
    simp only [aop, hop] at h ⊢
    have hargs := evArgs_rep (P := P) he c.argTypes.toList c.args.toList
    cases hc : c.callee with
    | value f => simp only [hc] at hk; split at hk <;> cases hk
    | invoke r n => simp [hc] at hk
    | builtin b =>
      simp only [hc] at h hk ⊢
      have hexec : ∀ us, c.args.toList.map a.eval = us → (execOp a.eval o) = builtin b c.argTypes o.type (c.args.map fun | .const _ => true | _ => false) us.toArray := by
        intro us hus
        have : c.args.map a.eval = us.toArray := by rw [← hus, ← Array.toList_map, Array.toArray_toList]
        simp only [execOp, hop, resolve, hc, this]
        rfl
      unfold abuiltin at h ⊢
      split at h
      · rename_i t s hts hp
        split at h
        · rename_i hu
          rw [hp] at hargs
          obtain ⟨u, hus, hr⟩ := one_inv hargs
          obtain rfl := str_inv hr
          have ht : c.argTypes = #[t] := by rw [← Array.toList_inj, hts]
          refine ⟨_, _, h, .int _ _, fun w' => ?_, fun R' call' σ' K' => by simp only [hts, hp, hu]⟩
          rw [hexec _ hus]
          simp [builtin, Builtin.len_, ht, run_underlying hu, goInt]
        · simp at h
      · rename_i t o' n c' z hts hp
        split at h
        · rename_i el hu
          rw [hp] at hargs
          obtain ⟨u, hus, hr⟩ := one_inv hargs
          obtain ⟨ad, c2, rfl⟩ := slice_inv' hr
          have ht : c.argTypes = #[t] := by rw [← Array.toList_inj, hts]
          refine ⟨_, _, h, .int _ _, fun w' => ?_, fun R' call' σ' K' => by simp only [hts, hp, hu]⟩
          rw [hexec _ hus]
          simp [builtin, Builtin.len_, ht, run_underlying hu, goInt]
        · simp at h
      · simp at hk
      · simp at hk
      · rename_i k x j y hp
        split at h
        · rename_i hk
          subst hk
          rw [hp] at hargs
          obtain ⟨u1, u2, hus, hr1, hr2⟩ := two_inv hargs
          obtain rfl := int_inv hr1
          obtain rfl := int_inv hr2
          refine ⟨_, _, h, .int _ _, fun w' => ?_, fun R' call' σ' K' => by first | rfl | simp only [hp, if_true] | simp⟩
          rw [hexec _ hus]
          simp [builtin, Builtin.min_, Builtin.min2]
        · simp at h
      · rename_i k x j y hp
        split at h
        · rename_i hk
          subst hk
          rw [hp] at hargs
          obtain ⟨u1, u2, hus, hr1, hr2⟩ := two_inv hargs
          obtain rfl := int_inv hr1
          obtain rfl := int_inv hr2
          refine ⟨_, _, h, .int _ _, fun w' => ?_, fun R' call' σ' K' => by first | rfl | simp only [hp, if_true] | simp⟩
          rw [hexec _ hus]
          simp [builtin, Builtin.max_, Builtin.max2]
        · simp at h
      · simp at h
  | _ => simp [kindOf, hop] at hk

end

end Go.AM

set_option linter.unusedVariables false
set_option linter.unusedSimpArgs false
namespace Go.AM
open Go.RowKit (Below)

/-- Blocks' numbers from n on stand for nothing yet. -/
def Fr (m : Mp) (n : Nat) : Prop := ∀ i, n ≤ i → m i = none

def upd (m : Mp) (i : Nat) (L : Loc) : Mp := fun j => if j = i then some L else m j

section
variable {B : Nat} {σ : St} {m : Mp} {w : World} {P : Program} {R : Type}

/-- Cells that the machine reads lie in the model's memory. -/
theorem Sim.cellsAt (hs : Sim B σ m w) {b : Nat} {L : Loc} (hm : m b = some L) : ∀ {cs : List AV} {off : Nat}, (∀ i v, cs[i]? = some v → σ.ld b (off + i) = some v) →
    ∃ us, RepL m w cs us ∧ cs.all AV.one = true ∧ ∀ j u, us[j]? = some u → w.cell? ((⟨L.blk, L.base + off, none⟩ : Addr).add j) = some u := by
  intro cs
  induction cs with
  | nil => intro off _; exact ⟨[], .nil, rfl, by simp⟩
  | cons v cs ih =>
    intro off h
    obtain ⟨u, h1, h2, _, h3⟩ := hs.cell (h 0 v rfl) hm
    obtain ⟨us, h4, h5, h6⟩ := ih (off := off + 1) (fun i x hx => by rw [show off + 1 + i = off + (i + 1) by omega]; exact h (i + 1) x (by simpa using hx))
    refine ⟨u :: us, .cons _ _ _ _ h2 h4, by simp [h3]; simpa using h5, ?_⟩
    intro j x hx
    cases j with
    | zero => simp at hx; subst hx; simpa [Addr.add_lit] using h1
    | succ j => have := h6 j x (by simpa using hx); simp only [Addr.add_lit] at this ⊢; rw [show L.base + off + (j + 1) = L.base + (off + 1) + j by omega]; exact this

theorem St.lds_ld {σ : St} {b off n : Nat} {cs : List AV} (h : σ.lds b off n = some cs) : cs.length = n ∧ ∀ i v, cs[i]? = some v → σ.ld b (off + i) = some v := by
  unfold St.lds at h
  cases hr : σ.row b with
  | none => simp [hr] at h
  | some row =>
    simp only [hr, Option.bind_some] at h
    split at h
    · rename_i hl
      simp only [Option.some.injEq] at h
      subst h
      refine ⟨by simp; omega, fun i v hv => ?_⟩
      rw [List.getElem?_take] at hv
      split at hv
      · rw [List.getElem?_drop] at hv
        simp [St.ld, hr, hv]
      · simp at hv
    · simp at h

theorem AV.cells_one {v : AV} (h : v.one = true) : v.cells = [v] := by cases v <;> simp_all [AV.one, AV.cells]

mutual
theorem AV.beq_eq : ∀ {a b : AV}, AV.beq a b = true → a = b
  | .bool a, .bool b, h => by simp [AV.beq] at h; rw [h]
  | .int k a, .int j b, h => by simp [AV.beq] at h; rw [h.1, h.2]
  | .str a, .str b, h => by simp [AV.beq] at h; rw [h]
  | .ptr a, .ptr b, h => by simp [AV.beq] at h; rw [h]
  | .slice a n c e, .slice b m d f, h => by simp [AV.beq] at h; obtain ⟨⟨⟨rfl, rfl⟩, rfl⟩, rfl⟩ := h; rfl
  | .map a, .map b, h => by simp [AV.beq] at h; rw [h]
  | .func f a b, .func g c d, h => by
    simp only [AV.beq, Bool.and_eq_true, decide_eq_true_eq] at h
    obtain ⟨⟨rfl, h1⟩, h2⟩ := h
    rw [AV.beqL_eq h1, AV.beqL_eq h2]
  | .nilFunc, .nilFunc, _ => rfl
  | .iface t a, .iface u b, h => by
    simp only [AV.beq, Bool.and_eq_true, beq_iff_eq] at h
    obtain ⟨rfl, h1⟩ := h
    rw [AV.beq_eq h1]
  | .nilIface, .nilIface, _ => rfl
  | .agg a, .agg b, h => by simp only [AV.beq] at h; rw [AV.beqL_eq h]
  | .tuple a, .tuple b, h => by simp only [AV.beq] at h; rw [AV.beqL_eq h]
  | .undef, b, h => by simp [AV.beq] at h
  | .bool _, .undef, h | .bool _, .int _ _, h | .bool _, .str _, h | .bool _, .ptr _, h | .bool _, .slice _ _ _ _, h | .bool _, .map _, h | .bool _, .func _ _ _, h | .bool _, .nilFunc, h
  | .bool _, .iface _ _, h | .bool _, .nilIface, h | .bool _, .agg _, h | .bool _, .tuple _, h => by simp [AV.beq] at h
  | .int _ _, .undef, h | .int _ _, .bool _, h | .int _ _, .str _, h | .int _ _, .ptr _, h | .int _ _, .slice _ _ _ _, h | .int _ _, .map _, h | .int _ _, .func _ _ _, h | .int _ _, .nilFunc, h
  | .int _ _, .iface _ _, h | .int _ _, .nilIface, h | .int _ _, .agg _, h | .int _ _, .tuple _, h => by simp [AV.beq] at h
  | .str _, .undef, h | .str _, .bool _, h | .str _, .int _ _, h | .str _, .ptr _, h | .str _, .slice _ _ _ _, h | .str _, .map _, h | .str _, .func _ _ _, h | .str _, .nilFunc, h
  | .str _, .iface _ _, h | .str _, .nilIface, h | .str _, .agg _, h | .str _, .tuple _, h => by simp [AV.beq] at h
  | .ptr _, .undef, h | .ptr _, .bool _, h | .ptr _, .int _ _, h | .ptr _, .str _, h | .ptr _, .slice _ _ _ _, h | .ptr _, .map _, h | .ptr _, .func _ _ _, h | .ptr _, .nilFunc, h
  | .ptr _, .iface _ _, h | .ptr _, .nilIface, h | .ptr _, .agg _, h | .ptr _, .tuple _, h => by simp [AV.beq] at h
  | .slice _ _ _ _, .undef, h | .slice _ _ _ _, .bool _, h | .slice _ _ _ _, .int _ _, h | .slice _ _ _ _, .str _, h | .slice _ _ _ _, .ptr _, h | .slice _ _ _ _, .map _, h | .slice _ _ _ _, .func _ _ _, h
  | .slice _ _ _ _, .nilFunc, h | .slice _ _ _ _, .iface _ _, h | .slice _ _ _ _, .nilIface, h | .slice _ _ _ _, .agg _, h | .slice _ _ _ _, .tuple _, h => by simp [AV.beq] at h
  | .map _, .undef, h | .map _, .bool _, h | .map _, .int _ _, h | .map _, .str _, h | .map _, .ptr _, h | .map _, .slice _ _ _ _, h | .map _, .func _ _ _, h | .map _, .nilFunc, h
  | .map _, .iface _ _, h | .map _, .nilIface, h | .map _, .agg _, h | .map _, .tuple _, h => by simp [AV.beq] at h
  | .func _ _ _, .undef, h | .func _ _ _, .bool _, h | .func _ _ _, .int _ _, h | .func _ _ _, .str _, h | .func _ _ _, .ptr _, h | .func _ _ _, .slice _ _ _ _, h | .func _ _ _, .map _, h
  | .func _ _ _, .nilFunc, h | .func _ _ _, .iface _ _, h | .func _ _ _, .nilIface, h | .func _ _ _, .agg _, h | .func _ _ _, .tuple _, h => by simp [AV.beq] at h
  | .nilFunc, .undef, h | .nilFunc, .bool _, h | .nilFunc, .int _ _, h | .nilFunc, .str _, h | .nilFunc, .ptr _, h | .nilFunc, .slice _ _ _ _, h | .nilFunc, .map _, h | .nilFunc, .func _ _ _, h
  | .nilFunc, .iface _ _, h | .nilFunc, .nilIface, h | .nilFunc, .agg _, h | .nilFunc, .tuple _, h => by simp [AV.beq] at h
  | .iface _ _, .undef, h | .iface _ _, .bool _, h | .iface _ _, .int _ _, h | .iface _ _, .str _, h | .iface _ _, .ptr _, h | .iface _ _, .slice _ _ _ _, h | .iface _ _, .map _, h
  | .iface _ _, .func _ _ _, h | .iface _ _, .nilFunc, h | .iface _ _, .nilIface, h | .iface _ _, .agg _, h | .iface _ _, .tuple _, h => by simp [AV.beq] at h
  | .nilIface, .undef, h | .nilIface, .bool _, h | .nilIface, .int _ _, h | .nilIface, .str _, h | .nilIface, .ptr _, h | .nilIface, .slice _ _ _ _, h | .nilIface, .map _, h
  | .nilIface, .func _ _ _, h | .nilIface, .nilFunc, h | .nilIface, .iface _ _, h | .nilIface, .agg _, h | .nilIface, .tuple _, h => by simp [AV.beq] at h
  | .agg _, .undef, h | .agg _, .bool _, h | .agg _, .int _ _, h | .agg _, .str _, h | .agg _, .ptr _, h | .agg _, .slice _ _ _ _, h | .agg _, .map _, h | .agg _, .func _ _ _, h
  | .agg _, .nilFunc, h | .agg _, .iface _ _, h | .agg _, .nilIface, h | .agg _, .tuple _, h => by simp [AV.beq] at h
  | .tuple _, .undef, h | .tuple _, .bool _, h | .tuple _, .int _ _, h | .tuple _, .str _, h | .tuple _, .ptr _, h | .tuple _, .slice _ _ _ _, h | .tuple _, .map _, h | .tuple _, .func _ _ _, h
  | .tuple _, .nilFunc, h | .tuple _, .iface _ _, h | .tuple _, .nilIface, h | .tuple _, .agg _, h => by simp [AV.beq] at h
theorem AV.beqL_eq : ∀ {a b : List AV}, AV.beqL a b = true → a = b
  | [], [], _ => rfl
  | a :: x, b :: y, h => by
    simp only [AV.beqL, Bool.and_eq_true] at h
    rw [AV.beq_eq h.1, AV.beqL_eq h.2]
  | [], _ :: _, h | _ :: _, [], h => by simp [AV.beqL] at h
end

theorem St.same_lds {σ : St} {b off : Nat} {vs : List AV} (h : σ.same b off vs = true) : σ.lds b off vs.length = some vs := by
  unfold St.same at h
  split at h
  · rename_i us hu; rw [hu, AV.beqL_eq h]
  · simp at h

/-- A load. -/
theorem load_sound {call : CallF R} {o : Oper} {t : TypeId} {x : Operand} (hop : o.op = .load t x) {e : Env} {a : Act} {K : AV → St → Option R} {r : R} (h : aop P call o e σ K = some r) (hs : Sim B σ m w) (he : RepE m w e a) :
    ∃ v cv p, ev P e x = .ptr (some p) ∧ K v σ = some r ∧ RepV m w v cv ∧ (execOp a.eval o).run P w = .ok (.value cv) w ∧
      ∀ (σ' : St), (∀ i u, v.cells[i]? = some u → σ'.ld p.1 (p.2 + i) = some u) → ∀ (R' : Type) (call' : CallF R') (K' : AV → St → Option R'), aop P call' o e σ' K' = K' v σ' := by
  simp only [aop, hop] at h ⊢
  have hx := ev_rep (P := P) he x
  split at h
  · rename_i p shs hp hsh
    split at h
    · rename_i hl
      obtain ⟨cs, h1, h2, h3, h4⟩ := ldT_some h
      rw [hp] at hx
      obtain ⟨id, off⟩ := p
      obtain ⟨L, hL, hv⟩ := ptr_inv hx
      obtain ⟨us, hr, h1s, hc⟩ := hs.cellsAt hL h3
      obtain ⟨d, hu⟩ := shOf_underlying hsh
      obtain ⟨ie, hie⟩ := info_of_underlying hu
      have hlen := hr.length
      by_cases ha : isAggT P t = true
      · simp only [ha, if_true] at h1
        refine ⟨.agg cs, .agg us.toArray, (id, off), hp, h1, .agg _ _ (by simpa using hr), ?_, fun σ' hσ R' call' K' => ?_⟩
        · have hlc := run_loadCells_list (P := P) w _ us hc
          simp [execOp, hop, hv, Instr.loadAt, Instr.sureAddr, loadVar, run_isAggT hu, ha, run_size hie, ← hl, ← h2, hlen, hlc]
        · simp only [hp, hsh, if_pos hl]
          rw [h4 σ' hσ]
          simp [ha]
      · simp only [ha, if_false, Bool.false_eq_true] at h1
        split at h1
        · rename_i v
          cases hr with
          | cons _ u _ y hvr ht =>
            cases ht
            have hcell := hc 0 u rfl
            simp only [Addr.add_lit, Nat.add_zero] at hcell
            have h1v : v.one = true := by simpa using h1s
            refine ⟨v, u, (id, off), hp, h1, hvr, ?_, fun σ' hσ R' call' K' => ?_⟩
            · simp [execOp, hop, hv, Instr.loadAt, Instr.sureAddr, loadVar, run_isAggT hu, ha, hcell]
            · simp only [hp, hsh, if_pos hl]
              rw [h4 σ' (by rw [AV.cells_one h1v] at hσ; exact hσ)]
              simp [ha]
        · simp at h1
    · simp at h
  · simp at h
end

end Go.AM
