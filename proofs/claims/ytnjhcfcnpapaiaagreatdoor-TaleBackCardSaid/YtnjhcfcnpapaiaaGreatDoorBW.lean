/- A law's row where the program's variables are laid, out of its walk. -/
import Derived.Test.YtnjhcfcnpapaiaaGreatDoorA26
import Derived.Deep.DeepHandedRow
import Derived.Laws.AppendOwn
import Derived.Test.YtnjhcfcnpapaiaaGreatDoorA31
set_option linter.unusedVariables false
set_option linter.unusedSimpArgs false
namespace Go.AM
open Go.ChangeShapes Go.WideShapes Go.ChangeAt Go.RowKit
section
variable {H : Type} {enc : TypeId × Value → H}

theorem law_row {C : Checked} {os : Os} {f : FuncId} {fn : Func} {s : ChangeSpec} {F : Stop.Interp} {rt : TypeId} {conds : List PathCond} {laid : List (String × DataW Unit)} (own : ownKnob C.prog.godebug = none) (started : os.Started)
    (noInit : C.prog.inits.idxOf? f = none) (hfn : C.prog.funcs[f]? = some fn)
    (witness : ∃ (w : World) (tape : Tape) (i : Input), w.os = os ∧ (w.forCall tape i).Shaped C.prog ∧ i.vars = [] ∧ Input.okWide C.prog (w.forCall tape i) .any w.heap.size f i ∧
      (OpenSpec.ofChange s).preRow enc C.prog fn conds false laid (w.forCall tape i).memory i.args ∧ ({} : Assume).holds C.prog (lone (Frame.enter C.prog f i.args .normal) [] (w.forCall tape i)))
    (laidOut : laidOutB C.prog = true) (hvars : s.vars = []) (hs : ∀ ds : List (DataW H), ds.length = fn.params.toList.length → s.fn H ds = { results := [.lit (.bool true)], args := ds })
    (hrt : fn.resultTypes = #[rt]) (hrb : C.prog.underlying rt = some .bool) (hpt : ∀ t ∈ fn.params.toList, C.prog.readableRec t = true ∧ t < C.prog.types.size)
    (walk : ∀ (W : World) (args : Array Value) (ds : List (DataW H)) (p : List MemPlace), DataW.TrodAll enc C.prog W 0 (fun _ => true) true fn.params.toList args.toList ds p →
      (∀ (j : Nat) t v, fn.params[j]? = some t → args[j]? = some v → ∃ base, Value.okWide C.prog W .any base t v) → laidMetH C.prog laid W → W.ShapedOpen C.prog →
      Calls C.prog f args W fun e W' => e = .returned (.bool true) ∧ Below W.heap.size W W') :
    ReturnsInHanded {} C os f .any ((OpenSpec.ofChange s).preRow enc C.prog fn conds false laid) (((OpenSpec.ofChange s).at F).post enc C.prog fn false true false false) := by
  refine returnsInHanded_of_row (C := C) (s := OpenSpec.ofChange s) own started noInit hfn witness ?_
  intro W base args ds gs before hval hW _ _ _ hL hSh _
  have hvars' : (OpenSpec.ofChange s).vars = [] := hvars
  have hlt := hW.lt
  have hW' := hW
  obtain ⟨p, q, hA, hV, rfl, hfz, hnd⟩ := hW
  rw [hvars'] at hV
  obtain ⟨rfl, rfl⟩ := trodVars_none hV
  refine (walk W args ds p hA (fun j t v h1 h2 => ⟨base, hval j t v h1 h2⟩) hL hSh).mono ?_
  rintro e W' ⟨rfl, hb⟩
  have hsd : s.fn H (ds ++ []) = { results := [.lit (.bool true)], args := ds } := by rw [List.append_nil]; exact hs ds (trodAll_length hA)
  refine ⟨_, rfl, ds, [], p ++ [], [], p, [], hW', ?_, ?_, ?_, hb.frame _, fun h => by cases h⟩
  · show DataW.TrodAll _ _ _ _ _ _ _ _ (s.fn H (ds ++ [])).results _
    rw [hsd, hrt]; exact trodAll_mk1 (shut_bool hrb true)
  · show DataW.TrodAll _ _ _ _ _ _ _ _ (s.fn H (ds ++ [])).args _
    rw [hsd]; exact trodAll_back laidOut hb hpt hA (fun x hx => hlt x (by simp [hx]))
  · show DataW.TrodVars _ _ _ _ s.vars (s.fn H (ds ++ [])).vars _
    rw [hsd, hvars]; exact rfl

/-- A variable that holds an interface's value. -/
theorem trod_iface_cell {P : Program} {w : World} {base : Nat} {sp : Nat → Bool} {fuel : Nat} {t : TypeId} {cs : List Value} {nm : String} {d : DataW H} {p : List MemPlace} {ms : Array (String × TypeId)} (hu : P.underlying t = some (.interface ms))
    (h : DataW.trod enc P w base sp false fuel t cs = some (.iface nm d, p)) : ∃ u v, cs = [.iface u v] := by
  cases fuel with
  | zero => simp [DataW.trod] at h
  | succ f =>
    unfold DataW.trod at h
    rw [hu] at h
    split at h <;> first | exact ⟨_, _, rfl⟩ | (simp at h; done) | (rename_i e2; cases e2; done) | (rename_i e2 _; cases e2; done) | (rename_i e2 _ _; cases e2; done) | (rename_i e2 _ _ _; cases e2; done)
end
end Go.AM

set_option linter.unusedVariables false
namespace Go.AM
open Go.RowKit (Below)

/-- What only lays new blocks leaves all as it is. -/
theorem sim_behind {B : Nat} {σ : St} {m : Mp} {w w' : World} (hs : Sim B σ m w) (hb : Below w.heap.size w w') : Sim B σ m w' ∧ Grows m w m w' ∧ Below B w w' := by
  have hB : Below B w w' := ⟨hb.os, hb.tape, hb.output, hb.size, fun k hk => hb.block k (by have := hs.le; omega)⟩
  have g : Grows m w m w' := by
    refine ⟨fun _ _ h => h, fun k => ?_⟩
    by_cases hk : k < w.heap.size
    · unfold blkSize; rw [hb.block k hk]; exact Nat.le_refl _
    · unfold blkSize
      rw [Array.getElem?_eq_none (by omega)]
      exact Nat.zero_le _
  refine ⟨⟨?_, ?_, hs.sep, Nat.le_trans hs.le hb.size, hs.globs g hB fun _ _ _ h => h⟩, g, hB⟩
  · intro id cs own h
    obtain ⟨L, ccs, el, fr, p1, p2, p3, p4, p5, p6⟩ := hs.row id cs own h
    exact ⟨L, ccs, el, fr, p1, p2, by rw [hb.block _ (Array.getElem?_eq_some_iff.1 p3).1]; exact p3, p4, RepL.mono g p5, p6⟩
  · intro id x h hx
    obtain ⟨L, o, p1, p2, p3, p4⟩ := hs.obj id x h hx
    exact ⟨L, o, p1, p2, by rw [hb.block _ (Array.getElem?_eq_some_iff.1 p3).1]; exact p3, p4.mono g⟩

/-- A row that a call has laid. -/
theorem row_behind {B : Nat} {σ : St} {m : Mp} {w w' : World} (hs : Sim B σ m w) (hb : Below w.heap.size w w') (hf : Fr m σ.next) {g : Nat} {cur : Array Value} {el : TypeId} (hg : w.heap.size ≤ g) (hh : w'.heap[g]? = some (.cells cur el (0, 0)))
    {vs : List AV} (h1 : vs.all AV.one = true) (hr : ∀ m w, RepL m w vs (cur.toList.take vs.length)) :
    Sim B (σ.new (.cells vs true)) (upd m σ.next ⟨g, 0, vs.length⟩) w' ∧ Grows m w (upd m σ.next ⟨g, 0, vs.length⟩) w' ∧ Below B w w' ∧ Fr (upd m σ.next ⟨g, 0, vs.length⟩) (σ.next + 1) := by
  obtain ⟨hs', g1, hB⟩ := sim_behind hs hb
  have hn : m σ.next = none := hf σ.next (Nat.le_refl _)
  have hle := hs.le
  have hg2 : Grows m w' (upd m σ.next ⟨g, 0, vs.length⟩) w' := by
    refine ⟨fun i L h => ?_, fun _ => Nat.le_refl _⟩
    unfold upd
    split
    · rename_i he; subst he; rw [hn] at h; cases h
    · exact h
  have hgrow := Grows.trans g1 hg2
  refine ⟨⟨?_, ?_, ?_, hs'.le, hs'.globs hg2 (Below.refl B w') fun id n2 cs2 hid => by
    rw [St.get_new] at hid; split at hid
    · simp at hid
    · exact hid⟩, hgrow, hB, ?_⟩
  · intro id cs own hid
    rw [St.get_new] at hid
    split at hid
    · rename_i he
      subst he
      simp only [Option.some.injEq, Blk.cells.injEq] at hid
      obtain ⟨rfl, rfl⟩ := hid
      have hl := (hr m w').length
      refine ⟨⟨g, 0, vs.length⟩, cur, el, (0, 0), by simp [upd], rfl, hh, ?_, ?_, h1, fun _ => ⟨by show B ≤ g; omega, rfl⟩, by simp⟩
      · simp at hl ⊢; omega
      · simpa using hr _ _
    · obtain ⟨L2, c2, el2, fr2, p1, p2, p3, p4, p5, p6⟩ := hs'.row id cs own hid
      exact ⟨L2, c2, el2, fr2, hg2.map _ _ p1, p2, p3, p4, RepL.mono hg2 p5, p6⟩
  · intro id x hid hx
    rw [St.get_new] at hid
    split at hid
    · simp only [Option.some.injEq] at hid; subst hid; simp [Blk.isObj] at hx
    · obtain ⟨L2, o, p1, p2, p3, p4⟩ := hs'.obj id x hid hx
      exact ⟨L2, o, hg2.map _ _ p1, p2, p3, p4.mono hg2⟩
  · intro i j x y L1 L2 hi hj hx hy hL1 hL2 he
    have old : ∀ {i : Nat} {x : Blk} {L : Loc}, i ≠ σ.next → (σ.new (.cells vs true)).get i = some x → x.own = true → upd m σ.next ⟨g, 0, vs.length⟩ i = some L → σ.get i = some x ∧ m i = some L ∧ L.blk ≠ g := by
      intro i x L hne hi hx hL
      rw [St.get_new, if_neg hne] at hi
      unfold upd at hL
      rw [if_neg hne] at hL
      refine ⟨hi, hL, ?_⟩
      have := (hs.there hi hx hL).2; omega
    by_cases hin : i = σ.next
    · by_cases hjn : j = σ.next
      · rw [hin, hjn]
      · obtain ⟨_, _, hne⟩ := old hjn hj hy hL2
        subst hin
        simp [upd] at hL1
        subst hL1
        exact absurd he.symm hne
    · by_cases hjn : j = σ.next
      · obtain ⟨_, _, hne⟩ := old hin hi hx hL1
        subst hjn
        simp [upd] at hL2
        subst hL2
        exact absurd he hne
      · obtain ⟨a1, a2, _⟩ := old hin hi hx hL1
        obtain ⟨b1, b2, _⟩ := old hjn hj hy hL2
        exact hs.sep i j x y L1 L2 a1 b1 hx hy a2 b2 he
  · exact Fresh.fr (σ' := σ.new (.cells vs true)) (.inr ⟨rfl, _, rfl⟩) hf

theorem strs_rep (m : Mp) (w : World) : ∀ l : List ByteArray, RepL m w (l.map AV.str) (l.map Value.string)
  | [] => .nil
  | s :: l => .cons _ _ _ _ (.str s) (strs_rep m w l)
theorem strs_one (l : List ByteArray) : (l.map AV.str).all AV.one = true := by
  simp [List.all_map, Function.comp_def]
  intro x _; rfl

/-- A slice of texts that a call has laid. -/
theorem texts_behind {B : Nat} {σ : St} {m : Mp} {w w' : World} (hs : Sim B σ m w) (hb : Below w.heap.size w w') (hf : Fr m σ.next) {e : TypeId} {v : Value} {l : List ByteArray} (hne : l ≠ [])
    (ho : w'.ownsRow w.heap.size e 1 v l.length (l.map Value.string)) :
    ∃ m', Sim B (σ.new (.cells (l.map AV.str) true)) m' w' ∧ Grows m w m' w' ∧ Below B w w' ∧ Fr m' (σ.next + 1) ∧ RepV m' w' (.slice (some (σ.next, 0)) l.length none 1) v := by
  rcases ho.2 with ⟨_, h0⟩ | ⟨g, cap, cur, rfl, hg, hh, hc1, hc2, hc3, hc4⟩
  · exact absurd (List.eq_nil_of_length_eq_zero h0) hne
  · obtain ⟨p1, p2, p3, p4⟩ := row_behind (vs := l.map AV.str) hs hb hf hg hh (strs_one l) (fun m w => by
      rw [Nat.mul_one] at hc4
      rw [List.length_map, hc4]; exact strs_rep m w l)
    refine ⟨_, p1, p2, p3, p4, ?_⟩
    refine .slice σ.next 0 _ _ _ ⟨g, 0, (l.map AV.str).length⟩ cap _ (by simp [upd]) hc1 (by simp) ⟨.inl ⟨rfl, fun _ => ?_⟩, fun _ => ?_⟩
    · unfold blkSize
      rw [hh]
      simp only
      omega
    · simp; omega
end Go.AM

set_option linter.unusedVariables false
set_option linter.unusedSimpArgs false
namespace Go.AM
open Go.ChangeShapes Go.WideShapes Go.ChangeAt Go.RowKit

def okS : Sh → AV → Prop
  | .bool, v => ∃ b, v = .bool b
  | .int k, v => ∃ n, v = .int k n ∧ (Lit.int k n).wf = true
  | .str, v => ∃ s, v = .str s ∧ s.size ≤ reachBytes
  | _, _ => False
def okSs : List Sh → List AV → Prop
  | [], ys => ys = []
  | s :: ss, ys => ∃ y r, ys = y :: r ∧ okS s y ∧ okSs ss r
theorem okSs.append {a b : List Sh} {x y : List AV} (h : okSs a x) (g : okSs b y) : okSs (a ++ b) (x ++ y) := by
  induction a generalizing x with
  | nil => cases h; exact g
  | cons s a ih => obtain ⟨y', r, rfl, h1, h2⟩ := h; exact ⟨y', r ++ y, rfl, h1, ih h2⟩
theorem okSs.length {a : List Sh} {x : List AV} (h : okSs a x) : x.length = a.length := by
  induction a generalizing x with
  | nil => cases h; rfl
  | cons s a ih => obtain ⟨y', r, rfl, h1, h2⟩ := h; simp [ih h2]

section
variable {H : Type} {enc : TypeId × Value → H} {P : Program} {w : World}

theorem each_all {p : Nat → Bool} : ∀ {ts : List TypeId} {ds : List (DataW H)}, (DataW.weightsEach P ts ds).all p = true → ∀ (i : Nat) t d, ts[i]? = some t → ds[i]? = some d → (d.weights P t).all p = true := by
  intro ts
  induction ts with
  | nil => intro ds _ i t d h; simp at h
  | cons t0 ts ih =>
    intro ds h i t d ht hd
    cases ds with
    | nil => simp at hd
    | cons d0 ds =>
      unfold DataW.weightsEach at h
      rw [List.all_append, Bool.and_eq_true] at h
      cases i with
      | zero =>
        simp only [List.getElem?_cons_zero, Option.some.injEq] at ht hd
        subst ht hd
        exact h.1
      | succ i => exact ih h.2 i t d (by simpa using ht) (by simpa using hd)
theorem all_all {p : Nat → Bool} {e : TypeId} : ∀ {ds : List (DataW H)}, (DataW.weightsAll P e ds).all p = true → ∀ d ∈ ds, (d.weights P e).all p = true := by
  intro ds
  induction ds with
  | nil => intro _ d h; cases h
  | cons d0 ds ih =>
    intro h d hd
    unfold DataW.weightsAll at h
    rw [List.all_append, Bool.and_eq_true] at h
    rcases List.mem_cons.1 hd with rfl | hd
    · exact h.1
    · exact ih h.2 d hd

theorem flat_fs2 {n' : Nat} {rec : TypeId → Option (List Sh)} {cs : List Value}
    (hrec : ∀ t s cs x, rec t = some s → DataW.trod enc P w 0 (fun _ => true) true n' t cs = some x → (x.1.weights P t).all (· ≤ reachBytes) = true → ∃ ys, Plain ys cs ∧ okSs s ys) :
    ∀ (l : List Field) (off : Nat) (shs : List Sh), (∀ f ∈ l, ∃ x, DataW.trod enc P w 0 (fun _ => true) true n' f.type ((cs.drop f.offset).take (P.cellsOf f.type)) = some x ∧ (x.1.weights P f.type).all (· ≤ reachBytes) = true) → flatFs P rec off l = some shs →
      ∃ ys, Plain ys ((cs.drop off).take shs.length) ∧ okSs shs ys := by
  intro l
  induction l with
  | nil =>
    intro off shs _ h
    simp only [flatFs, Option.some.injEq] at h
    subst h
    exact ⟨[], ⟨fun _ _ => by simpa using .nil, rfl⟩, rfl⟩
  | cons f l ih =>
    intro off shs hx h
    simp only [flatFs] at h
    split at h
    · rename_i s hs
      split at h
      · rename_i ho
        obtain ⟨ho, hl⟩ := ho
        simp only [Option.map_eq_some_iff] at h
        obtain ⟨s2, h2, rfl⟩ := h
        obtain ⟨x, hx1, hx2⟩ := hx f (by simp)
        obtain ⟨ys, p1, p2⟩ := hrec _ _ _ _ hs hx1 hx2
        obtain ⟨zs, q1, q2⟩ := ih (off + s.length) s2 (fun g hg => hx g (by simp [hg])) h2
        rw [ho, ← hl] at p1
        refine ⟨ys ++ zs, ?_, p2.append q2⟩
        have := p1.append q1
        rw [List.length_append, List.take_add, List.drop_drop]
        exact this
      · cases h
    · cases h

/-- What is read of such a type. -/
theorem flat_dec2 : ∀ (n : Nat) (t : TypeId) (s : List Sh), flatSh P n t = some s → ∀ (fuel : Nat) (cs : List Value) (x : DataW H × List MemPlace), DataW.trod enc P w 0 (fun _ => true) true fuel t cs = some x → (x.1.weights P t).all (· ≤ reachBytes) = true →
    ∃ ys, Plain ys cs ∧ okSs s ys := by
  intro n
  induction n with
  | zero => intro t s h; simp [flatSh] at h
  | succ n ih =>
    intro t s h fuel cs x hx hw
    simp only [flatSh] at h
    split at h
    · rename_i ht; injection h with h; subst h
      obtain ⟨b, rfl, _⟩ := DataW.trod_bool ht hx
      exact ⟨[.bool b], plain_bool b, _, _, rfl, ⟨b, rfl⟩, rfl⟩
    · rename_i k ht; injection h with h; subst h
      obtain ⟨m, rfl, _, hwf⟩ := DataW.trod_int ht hx
      exact ⟨[.int k m], plain_int k m, _, _, rfl, ⟨m, rfl, hwf⟩, rfl⟩
    · rename_i ht; injection h with h; subst h
      obtain ⟨m, rfl, rfl, _⟩ := DataW.trod_string ht hx
      refine ⟨[.str m], plain_str m, _, _, rfl, ⟨m, rfl, ?_⟩, rfl⟩
      simpa [DataW.weights] using hw
    · rename_i fs ht
      split at h
      · rename_i s' hs
        split at h
        · rename_i hl
          injection h with h; subst h
          obtain ⟨xs, n', rfl, rfl, hcl, hxl, hf⟩ := DataW.trod_struct ht hx
          unfold DataW.weights at hw
          rw [ht] at hw
          simp only at hw
          obtain ⟨ys, p1, p2⟩ := flat_fs2 (n' := n') (cs := cs) (fun t s cs x h1 h2 h3 => ih t s h1 n' cs x h2 h3) fs.toList 0 s' (fun f hf' => by
            obtain ⟨i, hi, e⟩ := List.mem_iff_getElem.1 hf'
            have h1 : fs[i]? = some f := by rw [← Array.getElem?_toList, List.getElem?_eq_getElem hi, e]
            have h2 := hf i f h1
            obtain ⟨x, hx⟩ : ∃ x, xs[i]? = some x := ⟨_, List.getElem?_eq_getElem (by simp at hi; omega)⟩
            refine ⟨x, h2.trans hx, each_all hw i f.type x.1 ?_ ?_⟩
            · rw [List.getElem?_map, Array.getElem?_toList, h1]; rfl
            · rw [List.getElem?_map, hx]; rfl) hs
          rw [List.drop_zero, List.take_of_length_le (by omega)] at p1
          exact ⟨ys, p1, p2⟩
        · cases h
      · cases h
    · cases h

/-- A plain struct. -/
theorem open_plain2 {t : TypeId} {fs : Array Field} {s : List Sh} {r : Reach} {b0 : Nat} (ht : P.underlying t = some (.struct fs)) (he : flatSh P 8 t = some s) {v : Value} {d : DataW H} {ps : List MemPlace}
    (hd : DataW.Trod enc P w 0 (fun _ => true) true t v d ps) (hw : (d.weights P t).all (· ≤ reachBytes) = true) (hv : Value.okWide P w r b0 t v) : ∃ ys, okSs s ys ∧ ∀ m w', RepV m w' (.agg ys) v := by
  obtain ⟨cs, rfl, _⟩ := okWide_struct ht hv
  obtain ⟨fuel, hf⟩ := hd
  obtain ⟨ys, p, q⟩ := flat_dec2 8 t s he fuel _ _ hf hw
  exact ⟨ys, q, fun m w' => .agg _ _ (by simpa [Value.cells] using p.1 m w')⟩

theorem law_row2 {C : Checked} {os : Os} {f : FuncId} {fn : Func} {s : ChangeSpec} {F : Stop.Interp} {rt : TypeId} {conds : List PathCond} {laid : List (String × DataW Unit)} (own : ownKnob C.prog.godebug = none) (started : os.Started)
    (noInit : C.prog.inits.idxOf? f = none) (hfn : C.prog.funcs[f]? = some fn)
    (witness : ∃ (w : World) (tape : Tape) (i : Input), w.os = os ∧ (w.forCall tape i).Shaped C.prog ∧ i.vars = [] ∧ Input.okWide C.prog (w.forCall tape i) .any w.heap.size f i ∧
      (OpenSpec.ofChange s).preRow enc C.prog fn conds false laid (w.forCall tape i).memory i.args ∧ ({} : Assume).holds C.prog (lone (Frame.enter C.prog f i.args .normal) [] (w.forCall tape i)))
    (laidOut : laidOutB C.prog = true) (hvars : s.vars = []) (hs : ∀ ds : List (DataW H), ds.length = fn.params.toList.length → s.fn H ds = { results := [.lit (.bool true)], args := ds })
    (hrt : fn.resultTypes = #[rt]) (hrb : C.prog.underlying rt = some .bool) (hpt : ∀ t ∈ fn.params.toList, C.prog.readableRec t = true ∧ t < C.prog.types.size)
    (walk : ∀ (W : World) (args : Array Value) (ds : List (DataW H)) (p : List MemPlace), DataW.TrodAll enc C.prog W 0 (fun _ => true) true fn.params.toList args.toList ds p →
      (∀ (j : Nat) t v, fn.params[j]? = some t → args[j]? = some v → ∃ base, Value.okWide C.prog W .any base t v) → (∀ (i : Nat) t d, fn.params.toList[i]? = some t → ds[i]? = some d → (d.weights C.prog t).all (· ≤ reachBytes) = true) → laidMetH C.prog laid W → W.ShapedOpen C.prog →
      Calls C.prog f args W fun e W' => e = .returned (.bool true) ∧ Below W.heap.size W W') :
    ReturnsInHanded {} C os f .any ((OpenSpec.ofChange s).preRow enc C.prog fn conds false laid) (((OpenSpec.ofChange s).at F).post enc C.prog fn false true false false) := by
  refine returnsInHanded_of_row (C := C) (s := OpenSpec.ofChange s) own started noInit hfn witness ?_
  intro W base args ds gs before hval hW _ _ hsz hL hSh _
  have hvars' : (OpenSpec.ofChange s).vars = [] := hvars
  have hlt := hW.lt
  have hW' := hW
  obtain ⟨p, q, hA, hV, rfl, hfz, hnd⟩ := hW
  rw [hvars'] at hV
  obtain ⟨rfl, rfl⟩ := trodVars_none hV
  refine (walk W args ds p hA (fun j t v h1 h2 => ⟨base, hval j t v h1 h2⟩) (fun i t d h1 h2 => each_all hsz i t d (by rw [List.getElem?_append_left (List.getElem?_eq_some_iff.1 h1).1]; exact h1) (by rw [List.append_nil]; exact h2)) hL hSh).mono ?_
  rintro e W' ⟨rfl, hb⟩
  have hsd : s.fn H (ds ++ []) = { results := [.lit (.bool true)], args := ds } := by rw [List.append_nil]; exact hs ds (trodAll_length hA)
  refine ⟨_, rfl, ds, [], p ++ [], [], p, [], hW', ?_, ?_, ?_, hb.frame _, fun h => by cases h⟩
  · show DataW.TrodAll _ _ _ _ _ _ _ _ (s.fn H (ds ++ [])).results _
    rw [hsd, hrt]; exact trodAll_mk1 (shut_bool hrb true)
  · show DataW.TrodAll _ _ _ _ _ _ _ _ (s.fn H (ds ++ [])).args _
    rw [hsd]; exact trodAll_back laidOut hb hpt hA (fun x hx => hlt x (by simp [hx]))
  · show DataW.TrodVars _ _ _ _ s.vars (s.fn H (ds ++ [])).vars _
    rw [hsd, hvars]; exact rfl
end
end Go.AM

set_option linter.unusedVariables false
set_option linter.unusedSimpArgs false
namespace Go.AM
open Go.ChangeShapes Go.WideShapes Go.ChangeAt Go.RowKit
section
variable {H : Type} {enc : TypeId × Value → H} {P : Program} {w : World}

theorem open_arg2 {Q : List AV → Prop} {z : Nat} {t e : TypeId} (ht : P.underlying t = some (.slice e)) (hz : P.cellsOf e = z) (hz0 : 0 < z)
    (dec : ∀ n cs x, DataW.trod enc P w 0 (fun _ => true) true n e cs = some x → (x.1.weights P e).all (· ≤ reachBytes) = true → ∃ ys, Plain ys cs ∧ ys.length = z ∧ Q ys)
    {v : Value} {d : DataW H} {ps : List MemPlace} (hd : DataW.Trod enc P w 0 (fun _ => true) true t v d ps) (hw : (d.weights P t).all (· ≤ reachBytes) = true) (hv : ∃ a len cap, v = .slice a len cap) :
    ∃ xss : List (List AV), (∀ ys ∈ xss, Q ys ∧ ys.length = z) ∧ xss.length * P.bytesOf e ≤ reachBytes ∧ ∀ (σ : St) (m : Mp) (r : Hp), Sim w.heap.size σ m w → Fr m σ.next → HasH σ r →
      ∃ av σ' m' h, Arg z av xss.length xss.flatten h ∧ Sim w.heap.size σ' m' w ∧ Fr m' σ'.next ∧ Grows m w m' w ∧ RepV m' w av v ∧ HasH σ' (h ++ r) := by
  obtain ⟨a0, len0, cap0, rfl⟩ := hv
  obtain ⟨fuel, hf⟩ := hd
  rcases DataW.trod_slice ht hf with ⟨hcs, -⟩ | ⟨a, len, cap, elems, rest, n, -, hcs, hdx, -, hlc, -, hlen, hel, hsp, -⟩
  · simp [Value.cells] at hcs
    obtain ⟨rfl, rfl, rfl⟩ := hcs
    exact ⟨[], by simp, by simp, fun σ m r hs hf hr => ⟨.slice none 0 (some 0) z, σ, m, [], ⟨by simp, .inl ⟨_, _, rfl, rfl, rfl⟩⟩, hs, hf, Grows.refl _ _, .snil z, hr⟩⟩
  · simp [Value.cells] at hcs
    obtain ⟨rfl, rfl, rfl⟩ := hcs
    obtain ⟨hrl, hre⟩ := hsp rfl
    obtain rfl := (Prod.mk.inj hdx).1
    unfold DataW.weights at hw
    rw [ht] at hw
    simp only [List.all_cons, List.all_append, Bool.and_eq_true, decide_eq_true_eq] at hw
    obtain ⟨hw0, hwe, hwr⟩ := hw
    rw [hz] at hel hre
    -- each element's cells
    have each : ∀ i, i < cap0 → ∃ cs, w.cells? 0 (a.add (i * z)) z = some cs ∧ ∃ n x, DataW.trod enc P w 0 (fun _ => true) true n e cs = some x ∧ (x.1.weights P e).all (· ≤ reachBytes) = true := by
      intro i hi
      by_cases h : i < len0
      · have := hel i h
        obtain ⟨x, hx⟩ : ∃ x, elems[i]? = some x := ⟨_, List.getElem?_eq_getElem (by omega)⟩
        rw [hx, Option.bind_eq_some_iff] at this
        obtain ⟨cs, h1, h2⟩ := this
        exact ⟨cs, h1, n, x, h2, all_all hwe _ (List.mem_map.2 ⟨x, List.mem_of_getElem? hx, rfl⟩)⟩
      · have := hre (i - len0) (by omega)
        rw [show len0 + (i - len0) = i by omega] at this
        obtain ⟨x, hx⟩ : ∃ x, rest[i - len0]? = some x := ⟨_, List.getElem?_eq_getElem (by omega)⟩
        rw [hx, Option.bind_eq_some_iff] at this
        obtain ⟨cs, h1, h2⟩ := this
        exact ⟨cs, h1, n, x, h2, all_all hwr _ (List.mem_map.2 ⟨x, List.mem_of_getElem? hx, rfl⟩)⟩
    -- the elements' values
    have els : ∀ k, k ≤ len0 → ∃ xss : List (List AV), xss.length = k ∧ (∀ ys ∈ xss, Q ys ∧ ys.length = z ∧ ys.all AV.one = true) ∧
        ∀ i ys, xss[i]? = some ys → ∃ cs, w.cells? 0 (a.add (i * z)) z = some cs ∧ Plain ys cs := by
      intro k
      induction k with
      | zero => intro _; exact ⟨[], rfl, by simp, by simp⟩
      | succ k ih =>
        intro hk
        obtain ⟨xss, h1, h2, h3⟩ := ih (by omega)
        obtain ⟨cs, q1, n', x, q2, qw⟩ := each k (by omega)
        obtain ⟨ys, q3, q4, q5⟩ := dec n' cs x q2 qw
        refine ⟨xss ++ [ys], by simp [h1], ?_, ?_⟩
        · intro ys' hy
          rcases List.mem_append.1 hy with h | h
          · exact h2 _ h
          · simp at h; subst h; exact ⟨q5, q4, q3.2⟩
        · intro i ys' hi
          by_cases hik : i < k
          · rw [List.getElem?_append_left (by omega)] at hi; exact h3 i ys' hi
          · have : i = k := by
              obtain ⟨h, _⟩ := List.getElem?_eq_some_iff.1 hi
              simp at h; omega
            subst this
            rw [List.getElem?_append_right (by omega)] at hi
            simp [h1] at hi; subst hi
            exact ⟨cs, q1, q3⟩
    obtain ⟨xss, h1, h2, h3⟩ := els len0 (Nat.le_refl _)
    refine ⟨xss, fun ys hy => ⟨(h2 ys hy).1, (h2 ys hy).2.1⟩, Nat.le_trans (Nat.mul_le_mul_right _ (by rw [h1, List.length_map]; omega)) hw0, ?_⟩
    intro σ m r hs hfr hr
    have hfl : ∀ l : List (List AV), (∀ ys ∈ l, ys.length = z) → l.flatten.length = l.length * z := by
      intro l hl
      induction l with
      | nil => simp
      | cons y l ih => simp only [List.flatten_cons, List.length_append, List.length_cons, hl y (by simp), ih (fun ys h => hl ys (by simp [h])), Nat.add_mul]; omega
    have hxl : xss.flatten.length = len0 * z := by rw [hfl xss (fun ys h => (h2 ys h).2.1), h1]
    by_cases hc0 : cap0 = 0
    · subst hc0
      obtain rfl : len0 = 0 := by omega
      obtain rfl : xss = [] := List.length_eq_zero_iff.1 h1
      refine ⟨.slice (some (σ.next, 0)) 0 none z, σ.new .dead, upd m σ.next ⟨0, 0, 0⟩, [], ⟨by simp, .inl ⟨_, _, rfl, rfl, rfl⟩⟩, sim_dead hs hfr _, fr_upd hfr _ _, grows_upd hfr _,
        .slice _ _ _ _ _ ⟨0, 0, 0⟩ 0 a (by simp [upd]) (Nat.le_refl _) (by simp) ⟨.inr ⟨rfl, rfl⟩, fun _ => by simp⟩, hr.new' _⟩
    · -- there is a first cell
      have cell : ∀ j, j < cap0 * z → ∃ u, w.cell? (a.add j) = some u := by
        intro j hj
        obtain ⟨cs, q1, _⟩ := each (j / z) (Nat.div_lt_of_lt_mul (by rw [Nat.mul_comm]; exact hj))
        obtain ⟨-, q2, q3⟩ := World.cells?_some q1
        have hm := Nat.mod_lt j hz0
        have := q3 (j % z) hm
        have hdm := Nat.div_add_mod j z
        refine ⟨cs[j % z]'(by omega), ?_⟩
        rw [List.getElem?_eq_getElem (by omega), addr_add_add, show j / z * z + j % z = j by rw [Nat.mul_comm]; exact hdm] at this
        exact this
      obtain ⟨u0, hu0⟩ := cell 0 (Nat.mul_pos (by omega) hz0)
      simp only [Addr.add, if_true] at hu0
      unfold World.cell? at hu0
      split at hu0
      · rename_i ccs el fr hheap
        have hspot : a.spot = none := by cases hsp : a.spot <;> simp_all
        obtain ⟨blk, off, spot⟩ := a
        simp only at hspot hheap hu0
        subst hspot
        have cget : ∀ j, j < cap0 * z → ∃ u, ccs[off + j]? = some u := by
          intro j hj
          obtain ⟨u, hu⟩ := cell j hj
          by_cases hj0 : j = 0
          · subst hj0; simp [Addr.add, World.cell?, hheap] at hu; exact ⟨u, by simpa using hu⟩
          · simp [Addr.add, hj0, World.cell?, hheap] at hu; exact ⟨u, hu⟩
        have hsz : off + cap0 * z ≤ ccs.size := by
          obtain ⟨u, hu⟩ := cget (cap0 * z - 1) (by have := Nat.mul_pos (Nat.pos_of_ne_zero hc0) hz0; omega)
          obtain ⟨h, _⟩ := Array.getElem?_eq_some_iff.1 hu
          omega
        have hlz : len0 * z ≤ cap0 * z := Nat.mul_le_mul_right z hlc
        -- the cells behind the elements
        have rep : ∀ k, k ≤ len0 → RepL m w (xss.take k).flatten ((ccs.toList.drop off).take (k * z)) := by
          intro k
          induction k with
          | zero => intro _; simp; exact .nil
          | succ k ih =>
            intro hk
            obtain ⟨ys, hy⟩ : ∃ ys, xss[k]? = some ys := ⟨_, List.getElem?_eq_getElem (by omega)⟩
            obtain ⟨cs, q1, q2⟩ := h3 k ys hy
            obtain ⟨-, q3, q4⟩ := World.cells?_some q1
            have ecs : cs = ((ccs.toList.drop off).drop (k * z)).take z := by
              apply List.ext_getElem?
              intro i
              by_cases hi : i < z
              · rw [List.getElem?_take, if_pos hi, List.getElem?_drop, List.getElem?_drop, ← q4 i hi, Array.getElem?_toList]
                have : off + (k * z + i) = off + k * z + i := by omega
                unfold Addr.add World.cell?
                by_cases hk0 : k * z = 0
                · by_cases hi0 : i = 0
                  · subst hi0; simp [hk0, hheap]
                  · simp [hk0, hi0, hheap]
                · by_cases hi0 : i = 0
                  · subst hi0; simp [hk0, hheap]
                  · simp [hk0, hi0, hheap, this]
              · rw [List.getElem?_eq_none (by omega), List.getElem?_eq_none (by simp; omega)]
            have e1 : (xss.take (k + 1)).flatten = (xss.take k).flatten ++ ys := by
              rw [List.take_add_one, hy]; simp
            have e2 : (ccs.toList.drop off).take ((k + 1) * z) = (ccs.toList.drop off).take (k * z) ++ cs := by
              rw [ecs, Nat.add_mul, Nat.one_mul, List.take_add]
            rw [e1, e2]
            exact (ih (by omega)).append (q2.1 m w)
        have hrep := rep len0 (Nat.le_refl _)
        rw [List.take_of_length_le (by omega), ← hxl] at hrep
        have hone : xss.flatten.all AV.one = true := by
          rw [List.all_eq_true]
          intro y hy
          obtain ⟨ys, h4, h5⟩ := List.mem_flatten.1 hy
          exact List.all_eq_true.1 (h2 ys h4).2.2 y h5
        have hblt : blk < w.heap.size := (Array.getElem?_eq_some_iff.1 hheap).1
        refine ⟨.slice (some (σ.next, 0)) xss.length none z, σ.new (.cells xss.flatten false), upd m σ.next ⟨blk, off, xss.flatten.length⟩, [(σ.next, .cells xss.flatten false)],
          ⟨by rw [hxl, h1], .inr ⟨_, _, rfl, rfl⟩⟩, sim_ro hs hfr rfl hheap (by show off + xss.flatten.length ≤ ccs.size; omega) hrep hone hblt, fr_upd hfr _ _, grows_upd hfr _, ?_, hr.new _⟩
        rw [h1]
        refine .slice _ _ _ _ _ ⟨blk, off, xss.flatten.length⟩ cap0 _ (by simp [upd]) hlc (by simp) ⟨.inl ⟨rfl, ?_⟩, fun _ => (by show xss.flatten.length ≤ 0 + cap0 * z; omega)⟩
        intro _; simp only [blkSize, hheap]; show off + 0 + cap0 * z ≤ ccs.size; omega
      · cases hu0

/-- A slice of integers. -/
theorem open_intz2 {t e : TypeId} {k : IntKind} (ht : P.underlying t = some (.slice e)) (he : P.underlying e = some (.int k)) (hz : P.cellsOf e = 1) {v : Value} {d : DataW H} {ps : List MemPlace}
    (hd : DataW.Trod enc P w 0 (fun _ => true) true t v d ps) (hw : (d.weights P t).all (· ≤ reachBytes) = true) (hv : ∃ a len cap, v = .slice a len cap) :
    ∃ zs : List Int, (∀ n ∈ zs, (Lit.int k n).wf = true) ∧ zs.length * P.bytesOf e ≤ reachBytes ∧ ∀ (σ : St) (m : Mp) (r : Hp), Sim w.heap.size σ m w → Fr m σ.next → HasH σ r →
      ∃ av σ' m' h, Arg 1 av zs.length (zs.map (AV.int k)) h ∧ Sim w.heap.size σ' m' w ∧ Fr m' σ'.next ∧ Grows m w m' w ∧ RepV m' w av v ∧ HasH σ' (h ++ r) := by
  obtain ⟨xss, hq, hb, hx⟩ := open_arg2 (Q := fun ys => ∃ a : { n : Int // (Lit.int k n).wf = true }, ys = [AV.int k a.1]) (z := 1) ht hz (by decide) (fun n cs x h _ => by
    obtain ⟨s, rfl, _, hwf⟩ := DataW.trod_int he h
    exact ⟨[.int k s], plain_int k s, rfl, ⟨s, hwf⟩, rfl⟩) hd hw hv
  obtain ⟨ss, rfl⟩ := exists_map (f := fun s : { n : Int // (Lit.int k n).wf = true } => [AV.int k s.1]) (fun y hy => (hq y hy).1)
  refine ⟨ss.map (·.1), fun n hn => ?_, by simpa using hb, ?_⟩
  · obtain ⟨a, _, rfl⟩ := List.mem_map.1 hn
    exact a.2
  · rw [flatten_single, List.length_map] at hx
    simpa [Function.comp_def] using hx

/-- A slice of plain structs. -/
theorem open_structs2 {α : Type} {f : α → List AV} {s : List Sh} {z : Nat} {t e : TypeId} (ht : P.underlying t = some (.slice e)) (he : flatSh P 8 e = some s) (hz : P.cellsOf e = z) (hz0 : 0 < z) (hl : s.length = z)
    (hf : ∀ ys, okSs s ys → ∃ a, ys = f a) {v : Value} {d : DataW H} {ps : List MemPlace} (hd : DataW.Trod enc P w 0 (fun _ => true) true t v d ps) (hw : (d.weights P t).all (· ≤ reachBytes) = true) (hv : ∃ a len cap, v = .slice a len cap) :
    ∃ as : List α, as.length * P.bytesOf e ≤ reachBytes ∧ ∀ (σ : St) (m : Mp) (r : Hp), Sim w.heap.size σ m w → Fr m σ.next → HasH σ r →
      ∃ av σ' m' h, Arg z av as.length (as.flatMap f) h ∧ Sim w.heap.size σ' m' w ∧ Fr m' σ'.next ∧ Grows m w m' w ∧ RepV m' w av v ∧ HasH σ' (h ++ r) := by
  obtain ⟨xss, hq, hb, hx⟩ := open_arg2 (Q := fun ys => ∃ a, ys = f a) (z := z) ht hz hz0 (fun n cs x h h2 => by
    obtain ⟨ys, p, q⟩ := flat_dec2 8 e s he n cs x h h2
    exact ⟨ys, p, by rw [q.length, hl], hf ys q⟩) hd hw hv
  obtain ⟨ss, rfl⟩ := exists_map (f := f) (fun y hy => (hq y hy).1)
  refine ⟨ss, by simpa using hb, ?_⟩
  rw [List.length_map, ← List.flatMap_def] at hx
  exact hx
end
end Go.AM
