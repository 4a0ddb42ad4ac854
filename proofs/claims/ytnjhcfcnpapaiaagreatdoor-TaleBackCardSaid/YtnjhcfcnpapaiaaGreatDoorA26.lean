/- A law's row, out of its walk: what each argument reads behind the call is told here once for all. -/
import Derived.Test.YtnjhcfcnpapaiaaGreatDoorA25
import Derived.WalkKit
import Derived.ProofKit
import Derived.OpenShut
import Derived.ShutString
import Derived.ChangeOld
import Derived.Carry
import Derived.SizedLaws
set_option linter.unusedVariables false
set_option linter.unusedSimpArgs false
namespace Go.AM
open Go.ChangeShapes Go.WideShapes Go.ChangeAt Go.RowKit

section
variable {H : Type} {enc : TypeId × Value → H} {P : Program}

/-- All arguments read behind the call as before. -/
theorem trodAll_back (hl : laidOutB P = true) {W W' : World} (hb : Below W.heap.size W W') : ∀ {ts : List TypeId} {vs : List Value} {ds : List (DataW H)} {ps : List MemPlace},
    (∀ t ∈ ts, P.readableRec t = true ∧ t < P.types.size) → DataW.TrodAll enc P W 0 (fun _ => true) true ts vs ds ps → (∀ x ∈ ps, x.block < W.heap.size) →
    DataW.TrodAll enc P W' 0 (fun b => decide (b < W.heap.size)) true ts vs ds ps := by
  intro ts
  induction ts with
  | nil =>
    intro vs ds ps _ h _
    cases vs <;> cases ds <;> first | exact h | exact h.elim
  | cons t ts ih =>
    intro vs ds ps ht h hlt
    cases vs with
    | nil => exact h.elim
    | cons v vs =>
      cases ds with
      | nil => exact h.elim
      | cons d ds =>
        obtain ⟨p, q, h1, h2, rfl⟩ := h
        exact ⟨p, q, Below.trod hl (ht t (by simp)).1 (ht t (by simp)).2 h1 hb (fun x hx => hlt x (by simp [hx])), ih (fun t' h' => ht t' (by simp [h'])) h2 (fun x hx => hlt x (by simp [hx])), rfl⟩

theorem trodAll_length {w : World} {base : Nat} {sp : Nat → Bool} {held : Bool} : ∀ {ts : List TypeId} {vs : List Value} {ds : List (DataW H)} {ps : List MemPlace}, DataW.TrodAll enc P w base sp held ts vs ds ps → ds.length = ts.length := by
  intro ts
  induction ts with
  | nil => intro vs ds ps h; cases vs <;> cases ds <;> first | rfl | exact h.elim
  | cons t ts ih =>
    intro vs ds ps h
    cases vs with
    | nil => exact h.elim
    | cons v vs =>
      cases ds with
      | nil => exact h.elim
      | cons d ds => obtain ⟨p, q, _, h2, _⟩ := h; simp [ih h2]

/-- The row of a law, out of its walk. -/
theorem law_lifted {C : Checked} {os : Os} {f : FuncId} {fn : Func} {s : ChangeSpec} {rt : TypeId} (own : ownKnob C.prog.godebug = none) (started : os.Started) (noInit : C.prog.inits.idxOf? f = none) (hfn : C.prog.funcs[f]? = some fn)
    (witness : ∃ (w : World) (tape : Tape) (i : Input), w.os = os ∧ (w.forCall tape i).Shaped C.prog ∧ i.vars = [] ∧ Input.okWide C.prog (w.forCall tape i) .any w.heap.size f i ∧
      s.pre6 enc C.prog fn [] false (w.forCall tape i).memory i.args ∧ ({} : Assume).holds C.prog (lone (Frame.enter C.prog f i.args .normal) [] (w.forCall tape i)))
    (laid : laidOutB C.prog = true) (hvars : s.vars = []) (hs : ∀ ds : List (DataW H), ds.length = fn.params.toList.length → s.fn H ds = { results := [.lit (.bool true)], args := ds })
    (hrt : fn.resultTypes = #[rt]) (hrb : C.prog.underlying rt = some .bool) (hpt : ∀ t ∈ fn.params.toList, C.prog.readableRec t = true ∧ t < C.prog.types.size)
    (walk : ∀ (W : World) (args : Array Value) (ds : List (DataW H)) (p : List MemPlace), DataW.TrodAll enc C.prog W 0 (fun _ => true) true fn.params.toList args.toList ds p →
      (∀ (j : Nat) t v, fn.params[j]? = some t → args[j]? = some v → ∃ base, Value.okWide C.prog W .any base t v) →
      Calls C.prog f args W fun e W' => e = .returned (.bool true) ∧ Below W.heap.size W W') :
    ReturnsInHanded {} C os f .any (s.pre6 enc C.prog fn [] false) (s.post enc C.prog fn false true false false) := by
  refine returnsInHanded_of_change_sized own started noInit hfn witness ?_
  intro W base args ds gs before hval hW hcnd hsz _
  have hlt := hW.lt
  have hW' := hW
  obtain ⟨p, q, hA, hV, rfl, hfz, hnd⟩ := hW
  rw [hvars] at hV
  obtain ⟨rfl, rfl⟩ := trodVars_none hV
  refine (walk W args ds p hA (fun j t v h1 h2 => ⟨base, hval j t v h1 h2⟩)).mono ?_
  rintro e W' ⟨rfl, hb⟩
  have hsd : s.fn H (ds ++ []) = { results := [.lit (.bool true)], args := ds } := by rw [List.append_nil]; exact hs ds (trodAll_length hA)
  refine ⟨_, rfl, ds, [], p ++ [], [], p, [], hW', ?_, ?_, ?_, hb.frame _, fun h => by cases h⟩
  · rw [hsd, hrt]; exact trodAll_mk1 (shut_bool hrb true)
  · rw [hsd]; exact trodAll_back laid hb hpt hA (fun x hx => hlt x (by simp [hx]))
  · rw [hsd, hvars]; exact rfl

end

/-- What a law must answer. -/
def yes : AV → St → Option Unit := fun v _ => match v with | .bool true => some () | _ => none

theorem yes_some {v : AV} {σ : St} (h : yes v σ = some ()) : v = .bool true := by
  unfold yes at h; split at h <;> simp_all

/-- The machine's word on a call holds. -/
theorem calls_yes [S : Spec] {P : Program} (hm : P.follows .mixedOrders = true) {N : Nat} {ann : FuncId → Ann} {d : Nat} {f : FuncId} {args : List AV} {σ : St} {dem : Bool} (h : callK P N ann d dem f args σ yes = some ())
    {B : Nat} (hS : SpecSound S B P) {m : Mp} {w : World} {cargs : Array Value} (hs : Sim B σ m w) (hf : Fr m σ.next) (hr : RepL m w args cargs.toList) :
    Calls P f cargs w fun e w' => e = .returned (.bool true) ∧ Below B w w' := by
  obtain ⟨_, hc⟩ := (callK_right (B := B) (R := Unit) hS hm N ann d dem).2 f args σ yes () h
  refine (hc m w cargs hs hf hr).mono ?_
  rintro e w' ⟨v, σ', m', cv, rfl, hy, _, _, hb, hv, _⟩
  rw [yes_some hy] at hv
  cases hv
  exact ⟨rfl, hb⟩

theorem Sim.less {B : Nat} {σ σ' : St} {m : Mp} {w : World} (hs : Sim B σ' m w) (h : ∀ i x, x ≠ .dead → σ.get i = some x → σ'.get i = some x) : Sim B σ m w :=
  ⟨fun id cs own hg => hs.row id cs own (h _ _ (by simp) hg), fun id x hg ho => hs.obj id x (h _ _ (by rintro rfl; simp [Blk.isObj] at ho) hg) ho,
    fun i j x y L M hi hj hx hy => hs.sep i j x y L M (h _ _ (by rintro rfl; simp [Blk.own] at hx) hi) (h _ _ (by rintro rfl; simp [Blk.own] at hy) hj) hx hy, hs.le, hs.globs (.refl _ _) (Below.refl B w) fun id n cs hid => h _ _ (by simp) hid⟩

/-- What is known of a call, out of its run. -/
theorem spec_of_run {P : Program} (hF : FreshSound P) (hm : P.follows .mixedOrders = true) {N : Nat} {ann : FuncId → Ann} {d : Nat} {f : FuncId} {args : List AV} {σ σ' : St} {v : AV}
    (h : (∀ i x, σ.next ≤ i → x ≠ .dead → ¬ σ.get i = some x) → ∀ K : AV → St → Option Unit, (∀ σ2 : St, σ2.next = σ'.next → (∀ i x, x ≠ .dead → σ'.get i = some x → σ2.get i = some x) → K v σ2 = some ()) → @callK Unit nospec P N ann d true f args σ K = some ()) {B : Nat} :
    ∀ m w cargs, Sim B σ m w → Fr m σ.next → RepL m w args cargs.toList → Calls P f cargs w fun e w' => ∃ m' cv, e = .returned cv ∧
      Sim B σ' m' w' ∧ Grows m w m' w' ∧ Below B w w' ∧ RepV m' w' v cv ∧ Fr m' σ'.next := by
  classical
  intro m w cargs hs hf hr
  let K : AV → St → Option Unit := fun u σ2 => if u = v ∧ σ2.next = σ'.next ∧ ∀ i x, x ≠ .dead → σ'.get i = some x → σ2.get i = some x then some () else none
  have live : ∀ i x, σ.next ≤ i → x ≠ .dead → ¬ σ.get i = some x := by
    intro i x hi hx hg
    have hmi := hf i hi
    cases x with
    | cells cs own => obtain ⟨L, _, _, _, h1, _⟩ := hs.row i cs own hg; rw [hmi] at h1; cases h1
    | dead => exact hx rfl
    | map a b => obtain ⟨L, _, h1, _⟩ := hs.obj i _ hg rfl; rw [hmi] at h1; cases h1
    | siter a b => obtain ⟨L, _, h1, _⟩ := hs.obj i _ hg rfl; rw [hmi] at h1; cases h1
    | miter a b c d => obtain ⟨L, _, h1, _⟩ := hs.obj i _ hg rfl; rw [hmi] at h1; cases h1
    | glob g cs => obtain ⟨⟨_, L, h1⟩, _⟩ := hs.glob i g cs hg; rw [hmi] at h1; cases h1
  obtain ⟨h1, h2⟩ := (@callK_right B P Unit nospec (nospec_sound hF) _ hm N ann d true).2 f args σ K () (h live K fun σ2 e1 e2 => if_pos ⟨rfl, e1, e2⟩)
  refine (h2 m w cargs hs hf hr).mono ?_
  rintro e w' ⟨u, σ2, m', cv, rfl, hk, p1, p2, p3, p4, p5⟩
  have hk' : (if u = v ∧ σ2.next = σ'.next ∧ ∀ i x, x ≠ .dead → σ'.get i = some x → σ2.get i = some x then some () else none) = some () := hk
  split at hk'
  · rename_i hc
    obtain ⟨rfl, e1, e2⟩ := hc
    exact ⟨m', cv, rfl, p1.less e2, p2, p3, p4, by rw [← e1]; exact p5⟩
  · cases hk'

theorem Sim.empty (w : World) : Sim w.heap.size ⟨.leaf, 0⟩ (fun _ => none) w := by
  have : ∀ i, St.get ⟨.leaf, 0⟩ i = none := by intro i; cases i <;> simp [St.get, Heap.get]
  refine ⟨fun i cs own h => ?_, fun i x h _ => ?_, fun i j x y L M h => ?_, Nat.le_refl _, fun i n cs h => ?_⟩ <;> rw [this] at h <;> cases h

end Go.AM
