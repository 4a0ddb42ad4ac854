/- A law's row where the program's variables are laid, out of its walk. -/
import Derived.Test.YtnjhcfcnpapaiaaGreatDoorA26
import Derived.Deep.DeepHandedRow
import Derived.Laws.AppendOwn
import Derived.Test.YtnjhcfcnpapaiaaGreatDoorA31
set_option linter.unusedVariables false
set_option linter.unusedSimpArgs false
namespace Go.AM
open Go.ChangeShapes Go.WideShapes Go.ChangeAt Go.RowKit
section
variable {H : Type} {enc : TypeId × Value → H}

theorem law_row {C : Checked} {os : Os} {f : FuncId} {fn : Func} {s : ChangeSpec} {F : Stop.Interp} {rt : TypeId} {conds : List PathCond} {laid : List (String × DataW Unit)} (own : ownKnob C.prog.godebug = none) (started : os.Started)
    (noInit : C.prog.inits.idxOf? f = none) (hfn : C.prog.funcs[f]? = some fn)
    (witness : ∃ (w : World) (tape : Tape) (i : Input), w.os = os ∧ (w.forCall tape i).Shaped C.prog ∧ i.vars = [] ∧ Input.okWide C.prog (w.forCall tape i) .any w.heap.size f i ∧
      (OpenSpec.ofChange s).preRow enc C.prog fn conds false laid (w.forCall tape i).memory i.args ∧ ({} : Assume).holds C.prog (lone (Frame.enter C.prog f i.args .normal) [] (w.forCall tape i)))
    (laidOut : laidOutB C.prog = true) (hvars : s.vars = []) (hs : ∀ ds : List (DataW H), ds.length = fn.params.toList.length → s.fn H ds = { results := [.lit (.bool true)], args := ds })
    (hrt : fn.resultTypes = #[rt]) (hrb : C.prog.underlying rt = some .bool) (hpt : ∀ t ∈ fn.params.toList, C.prog.readableRec t = true ∧ t < C.prog.types.size)
    (walk : ∀ (W : World) (args : Array Value) (ds : List (DataW H)) (p : List MemPlace), DataW.TrodAll enc C.prog W 0 (fun _ => true) true fn.params.toList args.toList ds p →
      (∀ (j : Nat) t v, fn.params[j]? = some t → args[j]? = some v → ∃ base, Value.okWide C.prog W .any base t v) → laidMetH C.prog laid W → W.ShapedOpen C.prog →
      Calls C.prog f args W fun e W' => e = .returned (.bool true) ∧ Below W.heap.size W W') :
    ReturnsInHanded {} C os f .any ((OpenSpec.ofChange s).preRow enc C.prog fn conds false laid) (((OpenSpec.ofChange s).at F).post enc C.prog fn false true false false) := by
  refine returnsInHanded_of_row (C := C) (s := OpenSpec.ofChange s) own started noInit hfn witness ?_
  intro W base args ds gs before hval hW _ _ _ hL hSh _
  have hvars' : (OpenSpec.ofChange s).vars = [] := hvars
  have hlt := hW.lt
  have hW' := hW
  obtain ⟨p, q, hA, hV, rfl, hfz, hnd⟩ := hW
  rw [hvars'] at hV
  obtain ⟨rfl, rfl⟩ := trodVars_none hV
  refine (walk W args ds p hA (fun j t v h1 h2 => ⟨base, hval j t v h1 h2⟩) hL hSh).mono ?_
  rintro e W' ⟨rfl, hb⟩
  have hsd : s.fn H (ds ++ []) = { results := [.lit (.bool true)], args := ds } := by rw [List.append_nil]; exact hs ds (trodAll_length hA)
  refine ⟨_, rfl, ds, [], p ++ [], [], p, [], hW', ?_, ?_, ?_, hb.frame _, fun h => by cases h⟩
  · show DataW.TrodAll _ _ _ _ _ _ _ _ (s.fn H (ds ++ [])).results _
    rw [hsd, hrt]; exact trodAll_mk1 (shut_bool hrb true)
  · show DataW.TrodAll _ _ _ _ _ _ _ _ (s.fn H (ds ++ [])).args _
    rw [hsd]; exact trodAll_back laidOut hb hpt hA (fun x hx => hlt x (by simp [hx]))
  · show DataW.TrodVars _ _ _ _ s.vars (s.fn H (ds ++ [])).vars _
    rw [hsd, hvars]; exact rfl

/-- A variable that holds an interface's value. -/
theorem trod_iface_cell {P : Program} {w : World} {base : Nat} {sp : Nat → Bool} {fuel : Nat} {t : TypeId} {cs : List Value} {nm : String} {d : DataW H} {p : List MemPlace} {ms : Array (String × TypeId)} (hu : P.underlying t = some (.interface ms))
    (h : DataW.trod enc P w base sp false fuel t cs = some (.iface nm d, p)) : ∃ u v, cs = [.iface u v] := by
  cases fuel with
  | zero => simp [DataW.trod] at h
  | succ f =>
    unfold DataW.trod at h
    rw [hu] at h
    split at h <;> first | exact ⟨_, _, rfl⟩ | (simp at h; done) | (rename_i e2; cases e2; done) | (rename_i e2 _; cases e2; done) | (rename_i e2 _ _; cases e2; done) | (rename_i e2 _ _ _; cases e2; done)
end
end Go.AM

set_option linter.unusedVariables false
namespace Go.AM
open Go.RowKit (Below)

/-- What only lays new blocks leaves all as it is. -/
theorem sim_behind {B : Nat} {σ : St} {m : Mp} {w w' : World} (hs : Sim B σ m w) (hb : Below w.heap.size w w') : Sim B σ m w' ∧ Grows m w m w' ∧ Below B w w' := by
  have hB : Below B w w' := ⟨hb.os, hb.tape, hb.output, hb.size, fun k hk => hb.block k (by have := hs.le; omega)⟩
  have g : Grows m w m w' := by
    refine ⟨fun _ _ h => h, fun k => ?_⟩
    by_cases hk : k < w.heap.size
    · unfold blkSize; rw [hb.block k hk]; exact Nat.le_refl _
    · unfold blkSize
      rw [Array.getElem?_eq_none (by omega)]
      exact Nat.zero_le _
  refine ⟨⟨?_, ?_, hs.sep, Nat.le_trans hs.le hb.size, hs.globs g hB fun _ _ _ h => h⟩, g, hB⟩
  · intro id cs own h
    obtain ⟨L, ccs, el, fr, p1, p2, p3, p4, p5, p6⟩ := hs.row id cs own h
    exact ⟨L, ccs, el, fr, p1, p2, by rw [hb.block _ (Array.getElem?_eq_some_iff.1 p3).1]; exact p3, p4, RepL.mono g p5, p6⟩
  · intro id x h hx
    obtain ⟨L, o, p1, p2, p3, p4⟩ := hs.obj id x h hx
    exact ⟨L, o, p1, p2, by rw [hb.block _ (Array.getElem?_eq_some_iff.1 p3).1]; exact p3, p4.mono g⟩

/-- A row that a call has laid. -/
theorem row_behind {B : Nat} {σ : St} {m : Mp} {w w' : World} (hs : Sim B σ m w) (hb : Below w.heap.size w w') (hf : Fr m σ.next) {g : Nat} {cur : Array Value} {el : TypeId} (hg : w.heap.size ≤ g) (hh : w'.heap[g]? = some (.cells cur el (0, 0)))
    {vs : List AV} (h1 : vs.all AV.one = true) (hr : ∀ m w, RepL m w vs (cur.toList.take vs.length)) :
    Sim B (σ.new (.cells vs true)) (upd m σ.next ⟨g, 0, vs.length⟩) w' ∧ Grows m w (upd m σ.next ⟨g, 0, vs.length⟩) w' ∧ Below B w w' ∧ Fr (upd m σ.next ⟨g, 0, vs.length⟩) (σ.next + 1) := by
  obtain ⟨hs', g1, hB⟩ := sim_behind hs hb
  have hn : m σ.next = none := hf σ.next (Nat.le_refl _)
  have hle := hs.le
  have hg2 : Grows m w' (upd m σ.next ⟨g, 0, vs.length⟩) w' := by
    refine ⟨fun i L h => ?_, fun _ => Nat.le_refl _⟩
    unfold upd
    split
    · rename_i he; subst he; rw [hn] at h; cases h
    · exact h
  have hgrow := Grows.trans g1 hg2
  refine ⟨⟨?_, ?_, ?_, hs'.le, hs'.globs hg2 (Below.refl B w') fun id n2 cs2 hid => by
    rw [St.get_new] at hid; split at hid
    · simp at hid
    · exact hid⟩, hgrow, hB, ?_⟩
  · intro id cs own hid
    rw [St.get_new] at hid
    split at hid
    · rename_i he
      subst he
      simp only [Option.some.injEq, Blk.cells.injEq] at hid
      obtain ⟨rfl, rfl⟩ := hid
      have hl := (hr m w').length
      refine ⟨⟨g, 0, vs.length⟩, cur, el, (0, 0), by simp [upd], rfl, hh, ?_, ?_, h1, fun _ => ⟨by show B ≤ g; omega, rfl⟩, by simp⟩
      · simp at hl ⊢; omega
      · simpa using hr _ _
    · obtain ⟨L2, c2, el2, fr2, p1, p2, p3, p4, p5, p6⟩ := hs'.row id cs own hid
      exact ⟨L2, c2, el2, fr2, hg2.map _ _ p1, p2, p3, p4, RepL.mono hg2 p5, p6⟩
  · intro id x hid hx
    rw [St.get_new] at hid
    split at hid
    · simp only [Option.some.injEq] at hid; subst hid; simp [Blk.isObj] at hx
    · obtain ⟨L2, o, p1, p2, p3, p4⟩ := hs'.obj id x hid hx
      exact ⟨L2, o, hg2.map _ _ p1, p2, p3, p4.mono hg2⟩
  · intro i j x y L1 L2 hi hj hx hy hL1 hL2 he
    have old : ∀ {i : Nat} {x : Blk} {L : Loc}, i ≠ σ.next → (σ.new (.cells vs true)).get i = some x → x.own = true → upd m σ.next ⟨g, 0, vs.length⟩ i = some L → σ.get i = some x ∧ m i = some L ∧ L.blk ≠ g := by
      intro i x L hne hi hx hL
      rw [St.get_new, if_neg hne] at hi
      unfold upd at hL
      rw [if_neg hne] at hL
      refine ⟨hi, hL, ?_⟩
      have := (hs.there hi hx hL).2; omega
    by_cases hin : i = σ.next
    · by_cases hjn : j = σ.next
      · rw [hin, hjn]
      · obtain ⟨_, _, hne⟩ := old hjn hj hy hL2
        subst hin
        simp [upd] at hL1
        subst hL1
        exact absurd he.symm hne
    · by_cases hjn : j = σ.next
      · obtain ⟨_, _, hne⟩ := old hin hi hx hL1
        subst hjn
        simp [upd] at hL2
        subst hL2
        exact absurd he hne
      · obtain ⟨a1, a2, _⟩ := old hin hi hx hL1
        obtain ⟨b1, b2, _⟩ := old hjn hj hy hL2
        exact hs.sep i j x y L1 L2 a1 b1 hx hy a2 b2 he
  · exact Fresh.fr (σ' := σ.new (.cells vs true)) (.inr ⟨rfl, _, rfl⟩) hf

theorem strs_rep (m : Mp) (w : World) : ∀ l : List ByteArray, RepL m w (l.map AV.str) (l.map Value.string)
  | [] => .nil
  | s :: l => .cons _ _ _ _ (.str s) (strs_rep m w l)
theorem strs_one (l : List ByteArray) : (l.map AV.str).all AV.one = true := by
  simp [List.all_map, Function.comp_def]
  intro x _; rfl

/-- A slice of texts that a call has laid. -/
theorem texts_behind {B : Nat} {σ : St} {m : Mp} {w w' : World} (hs : Sim B σ m w) (hb : Below w.heap.size w w') (hf : Fr m σ.next) {e : TypeId} {v : Value} {l : List ByteArray} (hne : l ≠ [])
    (ho : w'.ownsRow w.heap.size e 1 v l.length (l.map Value.string)) :
    ∃ m', Sim B (σ.new (.cells (l.map AV.str) true)) m' w' ∧ Grows m w m' w' ∧ Below B w w' ∧ Fr m' (σ.next + 1) ∧ RepV m' w' (.slice (some (σ.next, 0)) l.length none 1) v := by
  rcases ho.2 with ⟨_, h0⟩ | ⟨g, cap, cur, rfl, hg, hh, hc1, hc2, hc3, hc4⟩
  · exact absurd (List.eq_nil_of_length_eq_zero h0) hne
  · obtain ⟨p1, p2, p3, p4⟩ := row_behind (vs := l.map AV.str) hs hb hf hg hh (strs_one l) (fun m w => by
      rw [Nat.mul_one] at hc4
      rw [List.length_map, hc4]; exact strs_rep m w l)
    refine ⟨_, p1, p2, p3, p4, ?_⟩
    refine .slice σ.next 0 _ _ _ ⟨g, 0, (l.map AV.str).length⟩ cap _ (by simp [upd]) hc1 (by simp) ⟨.inl ⟨rfl, fun _ => ?_⟩, fun _ => ?_⟩
    · unfold blkSize
      rw [hh]
      simp only
      omega
    · simp; omega
end Go.AM

set_option linter.unusedVariables false
set_option linter.unusedSimpArgs false
namespace Go.AM
open Go.ChangeShapes Go.WideShapes Go.ChangeAt Go.RowKit

def okS : Sh → AV → Prop
  | .bool, v => ∃ b, v = .bool b
  | .int k, v => ∃ n, v = .int k n ∧ (Lit.int k n).wf = true
  | .str, v => ∃ s, v = .str s ∧ s.size ≤ reachBytes
  | _, _ => False
def okSs : List Sh → List AV → Prop
  | [], ys => ys = []
  | s :: ss, ys => ∃ y r, ys = y :: r ∧ okS s y ∧ okSs ss r
theorem okSs.append {a b : List Sh} {x y : List AV} (h : okSs a x) (g : okSs b y) : okSs (a ++ b) (x ++ y) := by
  induction a generalizing x with
  | nil => cases h; exact g
  | cons s a ih => obtain ⟨y', r, rfl, h1, h2⟩ := h; exact ⟨y', r ++ y, rfl, h1, ih h2⟩
theorem okSs.length {a : List Sh} {x : List AV} (h : okSs a x) : x.length = a.length := by
  induction a generalizing x with
  | nil => cases h; rfl
  | cons s a ih => obtain ⟨y', r, rfl, h1, h2⟩ := h; simp [ih h2]

section
variable {H : Type} {enc : TypeId × Value → H} {P : Program} {w : World}

theorem each_all {p : Nat → Bool} : ∀ {ts : List TypeId} {ds : List (DataW H)}, (DataW.weightsEach P ts ds).all p = true → ∀ (i : Nat) t d, ts[i]? = some t → ds[i]? = some d → (d.weights P t).all p = true := by
  intro ts
  induction ts with
  | nil => intro ds _ i t d h; simp at h
  | cons t0 ts ih =>
    intro ds h i t d ht hd
    cases ds with
    | nil => simp at hd
    | cons d0 ds =>
      unfold DataW.weightsEach at h
      rw [List.all_append, Bool.and_eq_true] at h
      cases i with
      | zero =>
        simp only [List.getElem?_cons_zero, Option.some.injEq] at ht hd
        subst ht hd
        exact h.1
      | succ i => exact ih h.2 i t d (by simpa using ht) (by simpa using hd)
theorem all_all {p : Nat → Bool} {e : TypeId} : ∀ {ds : List (DataW H)}, (DataW.weightsAll P e ds).all p = true → ∀ d ∈ ds, (d.weights P e).all p = true := by
  intro ds
  induction ds with
  | nil => intro _ d h; cases h
  | cons d0 ds ih =>
    intro h d hd
    unfold DataW.weightsAll at h
    rw [List.all_append, Bool.and_eq_true] at h
    rcases List.mem_cons.1 hd with rfl | hd
    · exact h.1
    · exact ih h.2 d hd

theorem flat_fs2 {n' : Nat} {rec : TypeId → Option (List Sh)} {cs : List Value}
    (hrec : ∀ t s cs x, rec t = some s → DataW.trod enc P w 0 (fun _ => true) true n' t cs = some x → (x.1.weights P t).all (· ≤ reachBytes) = true → ∃ ys, Plain ys cs ∧ okSs s ys) :
    ∀ (l : List Field) (off : Nat) (shs : List Sh), (∀ f ∈ l, ∃ x, DataW.trod enc P w 0 (fun _ => true) true n' f.type ((cs.drop f.offset).take (P.cellsOf f.type)) = some x ∧ (x.1.weights P f.type).all (· ≤ reachBytes) = true) → flatFs P rec off l = some shs →
      ∃ ys, Plain ys ((cs.drop off).take shs.length) ∧ okSs shs ys := by
  intro l
  induction l with
  | nil =>
    intro off shs _ h
    simp only [flatFs, Option.some.injEq] at h
    subst h
    exact ⟨[], ⟨fun _ _ => by simpa using .nil, rfl⟩, rfl⟩
  | cons f l ih =>
    intro off shs hx h
    simp only [flatFs] at h
    split at h
    · rename_i s hs
      split at h
      · rename_i ho
        obtain ⟨ho, hl⟩ := ho
        simp only [Option.map_eq_some_iff] at h
        obtain ⟨s2, h2, rfl⟩ := h
        obtain ⟨x, hx1, hx2⟩ := hx f (by simp)
        obtain ⟨ys, p1, p2⟩ := hrec _ _ _ _ hs hx1 hx2
        obtain ⟨zs, q1, q2⟩ := ih (off + s.length) s2 (fun g hg => hx g (by simp [hg])) h2
        rw [ho, ← hl] at p1
        refine ⟨ys ++ zs, ?_, p2.append q2⟩
        have := p1.append q1
        rw [List.length_append, List.take_add, List.drop_drop]
        exact this
      · cases h
    · cases h

/-- What is read of such a type. -/
theorem flat_dec2 : ∀ (n : Nat) (t : TypeId) (s : List Sh), flatSh P n t = some s → ∀ (fuel : Nat) (cs : List Value) (x : DataW H × List MemPlace), DataW.trod enc P w 0 (fun _ => true) true fuel t cs = some x → (x.1.weights P t).all (· ≤ reachBytes) = true →
    ∃ ys, Plain ys cs ∧ okSs s ys := by
  intro n
  induction n with
  | zero => intro t s h; simp [flatSh] at h
  | succ n ih =>
    intro t s h fuel cs x hx hw
    simp only [flatSh] at h
    split at h
    · rename_i ht; injection h with h; subst h
      obtain ⟨b, rfl, _⟩ := DataW.trod_bool ht hx
      exact ⟨[.bool b], plain_bool b, _, _, rfl, ⟨b, rfl⟩, rfl⟩
    · rename_i k ht; injection h with h; subst h
      obtain ⟨m, rfl, _, hwf⟩ := DataW.trod_int ht hx
      exact ⟨[.int k m], plain_int k m, _, _, rfl, ⟨m, rfl, hwf⟩, rfl⟩
    · rename_i ht; injection h with h; subst h
      obtain ⟨m, rfl, rfl, _⟩ := DataW.trod_string ht hx
      refine ⟨[.str m], plain_str m, _, _, rfl, ⟨m, rfl, ?_⟩, rfl⟩
      simpa [DataW.weights] using hw
    · rename_i fs ht
      split at h
      · rename_i s' hs
        split at h
        · rename_i hl
          injection h with h; subst h
          obtain ⟨xs, n', rfl, rfl, hcl, hxl, hf⟩ := DataW.trod_struct ht hx
          unfold DataW.weights at hw
          rw [ht] at hw
          simp only at hw
          obtain ⟨ys, p1, p2⟩ := flat_fs2 (n' := n') (cs := cs) (fun t s cs x h1 h2 h3 => ih t s h1 n' cs x h2 h3) fs.toList 0 s' (fun f hf' => by
            obtain ⟨i, hi, e⟩ := List.mem_iff_getElem.1 hf'
            have h1 : fs[i]? = some f := by rw [← Array.getElem?_toList, List.getElem?_eq_getElem hi, e]
            have h2 := hf i f h1
            obtain ⟨x, hx⟩ : ∃ x, xs[i]? = some x := ⟨_, List.getElem?_eq_getElem (by simp at hi; omega)⟩
            refine ⟨x, h2.trans hx, each_all hw i f.type x.1 ?_ ?_⟩
            · rw [List.getElem?_map, Array.getElem?_toList, h1]; rfl
            · rw [List.getElem?_map, hx]; rfl) hs
          rw [List.drop_zero, List.take_of_length_le (by omega)] at p1
          exact ⟨ys, p1, p2⟩
        · cases h
      · cases h
    · cases h

/-- A plain struct. -/
theorem open_plain2 {t : TypeId} {fs : Array Field} {s : List Sh} {r : Reach} {b0 : Nat} (ht : P.underlying t = some (.struct fs)) (he : flatSh P 8 t = some s) {v : Value} {d : DataW H} {ps : List MemPlace}
    (hd : DataW.Trod enc P w 0 (fun _ => true) true t v d ps) (hw : (d.weights P t).all (· ≤ reachBytes) = true) (hv : Value.okWide P w r b0 t v) : ∃ ys, okSs s ys ∧ ∀ m w', RepV m w' (.agg ys) v := by
  obtain ⟨cs, rfl, _⟩ := okWide_struct ht hv
  obtain ⟨fuel, hf⟩ := hd
  obtain ⟨ys, p, q⟩ := flat_dec2 8 t s he fuel _ _ hf hw
  exact ⟨ys, q, fun m w' => .agg _ _ (by simpa [Value.cells] using p.1 m w')⟩

theorem law_row2 {C : Checked} {os : Os} {f : FuncId} {fn : Func} {s : ChangeSpec} {F : Stop.Interp} {rt : TypeId} {conds : List PathCond} {laid : List (String × DataW Unit)} (own : ownKnob C.prog.godebug = none) (started : os.Started)
    (noInit : C.prog.inits.idxOf? f = none) (hfn : C.prog.funcs[f]? = some fn)
    (witness : ∃ (w : World) (tape : Tape) (i : Input), w.os = os ∧ (w.forCall tape i).Shaped C.prog ∧ i.vars = [] ∧ Input.okWide C.prog (w.forCall tape i) .any w.heap.size f i ∧
      (OpenSpec.ofChange s).preRow enc C.prog fn conds false laid (w.forCall tape i).memory i.args ∧ ({} : Assume).holds C.prog (lone (Frame.enter C.prog f i.args .normal) [] (w.forCall tape i)))
    (laidOut : laidOutB C.prog = true) (hvars : s.vars = []) (hs : ∀ ds : List (DataW H), ds.length = fn.params.toList.length → s.fn H ds = { results := [.lit (.bool true)], args := ds })
    (hrt : fn.resultTypes = #[rt]) (hrb : C.prog.underlying rt = some .bool) (hpt : ∀ t ∈ fn.params.toList, C.prog.readableRec t = true ∧ t < C.prog.types.size)
    (walk : ∀ (W : World) (args : Array Value) (ds : List (DataW H)) (p : List MemPlace), DataW.TrodAll enc C.prog W 0 (fun _ => true) true fn.params.toList args.toList ds p →
      (∀ (j : Nat) t v, fn.params[j]? = some t → args[j]? = some v → ∃ base, Value.okWide C.prog W .any base t v) → (∀ (i : Nat) t d, fn.params.toList[i]? = some t → ds[i]? = some d → (d.weights C.prog t).all (· ≤ reachBytes) = true) → laidMetH C.prog laid W → W.ShapedOpen C.prog →
      Calls C.prog f args W fun e W' => e = .returned (.bool true) ∧ Below W.heap.size W W') :
    ReturnsInHanded {} C os f .any ((OpenSpec.ofChange s).preRow enc C.prog fn conds false laid) (((OpenSpec.ofChange s).at F).post enc C.prog fn false true false false) := by
  refine returnsInHanded_of_row (C := C) (s := OpenSpec.ofChange s) own started noInit hfn witness ?_
  intro W base args ds gs before hval hW _ _ hsz hL hSh _
  have hvars' : (OpenSpec.ofChange s).vars = [] := hvars
  have hlt := hW.lt
  have hW' := hW
  obtain ⟨p, q, hA, hV, rfl, hfz, hnd⟩ := hW
  rw [hvars'] at hV
  obtain ⟨rfl, rfl⟩ := trodVars_none hV
  refine (walk W args ds p hA (fun j t v h1 h2 => ⟨base, hval j t v h1 h2⟩) (fun i t d h1 h2 => each_all hsz i t d (by rw [List.getElem?_append_left (List.getElem?_eq_some_iff.1 h1).1]; exact h1) (by rw [List.append_nil]; exact h2)) hL hSh).mono ?_
  rintro e W' ⟨rfl, hb⟩
  have hsd : s.fn H (ds ++ []) = { results := [.lit (.bool true)], args := ds } := by rw [List.append_nil]; exact hs ds (trodAll_length hA)
  refine ⟨_, rfl, ds, [], p ++ [], [], p, [], hW', ?_, ?_, ?_, hb.frame _, fun h => by cases h⟩
  · show DataW.TrodAll _ _ _ _ _ _ _ _ (s.fn H (ds ++ [])).results _
    rw [hsd, hrt]; exact trodAll_mk1 (shut_bool hrb true)
  · show DataW.TrodAll _ _ _ _ _ _ _ _ (s.fn H (ds ++ [])).args _
    rw [hsd]; exact trodAll_back laidOut hb hpt hA (fun x hx => hlt x (by simp [hx]))
  · show DataW.TrodVars _ _ _ _ s.vars (s.fn H (ds ++ [])).vars _
    rw [hsd, hvars]; exact rfl
end
end Go.AM
