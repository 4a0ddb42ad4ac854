/- A window's state, and its plain functions. -/
import Derived.Test.YtmgacgonoodkfaaA32
import Derived.Test.YtmgacgonoodkfaaWiNew
namespace Go.Proofs.Ytmgacgonoodkfaa
open Go.AM
set_option maxRecDepth 100000
set_option linter.unusedSimpArgs false
set_option linter.unusedVariables false

theorem wrap_small {n : Int} (h1 : -9223372036854775808 ≤ n) (h2 : n ≤ 9223372036854775807) : IntKind.i64.wrap n = n := by
  rw [IntKind.wrap_i64]; omega

/-- A slot's entry; a best one's. -/
structure En where
  view : Int
  number : Int
  s : Nat
  born : Nat
structure Bn where
  number : Int
  view : Int
  text : ByteArray
  group : Int
  born : Nat
def En.av (e : En) : AV × AV × Nat := (.agg [.int .i64 e.view, .int .i64 e.number], .ptr (some (e.s, 0)), e.born)
def Bn.av (e : Bn) : AV × AV × Nat := (.int .i64 e.number, .agg [.int .i64 e.view, .str e.text, .int .i64 e.group, .slice none 0 (some 0) 2], e.born)

theorem eqc_int (k : IntKind) (a b : Int) : eqCell (.int k) (.int k a) (.int k b) = some (a == b) := by simp [eqCell]

/-- The slots' map; the best ones'. -/
def EK : MK En (Int × Int) where
  av := En.av
  key e := (e.view, e.number)
  kc k := [.int .i64 k.1, .int .i64 k.2]
  ag := true
  shs := [.int .i64, .int .i64]
  hk _ := rfl
  he k l := by
    obtain ⟨a, b⟩ := k
    obtain ⟨c, d⟩ := l
    simp only [eqCells, eqc_int, Option.bind_some, Bool.and_true, Option.some.injEq, Prod.mk.injEq]
    rw [Bool.eq_iff_iff]
    simp
def BK : MK Bn Int where
  av := Bn.av
  key e := e.number
  kc k := [.int .i64 k]
  ag := false
  shs := [.int .i64]
  hk _ := rfl
  he a b := by
    simp only [eqCells, eqc_int, Option.bind_some, Bool.and_true, Option.some.injEq]
    rw [Bool.eq_iff_iff]
    simp

/-- What is known of Leave: the slots whose view is not below one stay. -/
def viewOf (x : AV × AV × Nat) : Int := match x.1 with | .agg (.int _ v :: _) => v | _ => 0
open Classical in
noncomputable def leaveSpec : List AV → St → Option (AV × St)
  | [.ptr (some (b, 0)), .int .i64 v], σ =>
    match σ.get b with
    | some (.cells [.int .i64 _, .int .i64 _, .int .i64 _, .map (some ms), .map (some _)] true) =>
      match σ.get ms with
      | some (.map es c) => if (∃ fs : List En, es = fs.map En.av ∧ EK.Ok fs c) ∧ es.length ≤ 1000 ∧ ms < σ.next ∧ b < σ.next ∧ b ≠ ms then
          some (.int .i64 (es.length - (es.filter fun x => decide (v ≤ viewOf x)).length), ⟨(σ.put ms (.map (es.filter fun x => decide (v ≤ viewOf x)) c)).heap, σ.next + 2 + 2 * es.length⟩) else none
      | _ => none
    | _ => none
  | _, _ => none
noncomputable instance winSpec : AM.Spec := ⟨fun dem f args σ => if f = 40 then (if dem = true then none else leaveSpec args σ) else none⟩

/-- A call is its body. -/
theorem go {R : Type} (f : FuncId) (hf : f ≠ 40) (N d : Nat) (dem : Bool) (args : List AV) (σ : St) (K : AV → St → Option R) : callK Try.prog N ann (d + 1) dem f args σ K = bodyK Try.prog (callK Try.prog N ann d) dem N ann f args σ K :=
  callK_succ _ _ _ _ _ _ _ _ _ (if_neg hf)

variable {N d : Nat} {dem : Bool} {σ : St} {K : AV → St → Option Unit}

/-- A window. -/
structure Wn where
  g : Int
  f : Int
  low : Int
  es : List En
  c1 : Nat
  fs : List Bn
  c2 : Nat
def Wn.ok (x : Wn) : Prop := 0 ≤ x.g ∧ x.g ≤ 4 ∧ 0 ≤ x.f ∧ x.f ≤ 3 ∧ 0 ≤ x.low ∧ x.low ≤ 1099511627768 ∧ EK.Ok x.es x.c1 ∧ BK.Ok x.fs x.c2
def WinP (b ms mb : Nat) (x : Wn) (h : Hp) : Prop := x.ok ∧ h = [(b, .cells [.int .i64 x.g, .int .i64 x.f, .int .i64 x.low, .map (some ms), .map (some mb)] true),
  (ms, .map (x.es.map En.av) x.c1), (mb, .map (x.fs.map Bn.av) x.c2)]

theorem new_ok {r : Hp} (H : HasH σ r) (g f : Int) (kont : ∀ σ' b ms mb h, 0 ≤ g ∧ g ≤ 4 ∧ 0 ≤ f ∧ f ≤ 3 → WinP b ms mb ⟨g, f, 0, [], 0, [], 0⟩ h → HasH σ' (h ++ r) → K (.tuple [.ptr (some (b, 0)), .int .i64 0]) σ' = some ())
    (kbad : ¬ (0 ≤ g ∧ g ≤ 4 ∧ 0 ≤ f ∧ f ≤ 3) → K (.tuple [.ptr none, .int .i64 1]) σ = some ()) : callK Try.prog N ann (d + 1) dem 13 [.int .i64 g, .int .i64 f] σ K = some () := by
  rw [go 13 (by decide), f13_eq]
  by_cases c1 : g < 0
  · simp only [go_sem, c1]
    exact kbad (by omega)
  by_cases c2 : 4 < g
  · simp only [go_sem, c1, c2]
    exact kbad (by omega)
  by_cases c3 : f < 0
  · simp only [go_sem, c1, c2, c3]
    exact kbad (by omega)
  by_cases c4 : 3 < f
  · simp only [go_sem, c1, c2, c3, c4]
    exact kbad (by omega)
  have H1 := ((H.new (.map [] 0)).new (.map [] 0)).new (.cells [.int .i64 g, .int .i64 f, .int .i64 0, .map (some σ.next), .map (some (σ.next + 1))] true)
  simp only [go_sem, c1, c2, c3, c4]
  refine kont _ (σ.next + 1 + 1) σ.next (σ.next + 1) _ (by omega) ⟨⟨show 0 ≤ g by omega, show g ≤ 4 by omega, show 0 ≤ f by omega, show f ≤ 3 by omega, by simp, by simp, MK.ok_nil 0, MK.ok_nil 0⟩, rfl⟩ ?_
  exact H1.swap23

/-- Is a number in the window? -/
def hasB (low n : Int) : Bool := decide (low < n) && decide (n ≤ low + 8)
theorem has_ok {b ms mb : Nat} {x : Wn} {h r : Hp} (W : WinP b ms mb x h) (H : HasH σ (h ++ r)) (n : Int) : callK Try.prog N ann (d + 1) dem 16 [.ptr (some (b, 0)), .int .i64 n] σ K = K (.bool (hasB x.low n)) σ := by
  obtain ⟨ho, rfl⟩ := W
  have hg : σ.get b = _ := H.g1
  obtain ⟨_, _, _, _, l0, l1, _⟩ := ho
  have hw : IntKind.i64.wrap (x.low + 8) = x.low + 8 := wrap_small (by omega) (by omega)
  rw [go 16 (by decide), f16_eq]
  by_cases c1 : x.low < n
  · by_cases c2 : n ≤ x.low + 8
    · have : hasB x.low n = true := by simp [hasB, c1, c2]
      simp only [go_sem, hg, hw, c1, c2, this]
    · have : hasB x.low n = false := by simp [hasB, c1, c2]
      simp only [go_sem, hg, hw, c1, c2, this]
  · have : hasB x.low n = false := by simp [hasB, c1]
    simp only [go_sem, hg, hw, c1, this]
theorem has_nil (n : Int) : callK Try.prog N ann (d + 1) dem 16 [.ptr none, .int .i64 n] σ K = K (.bool false) σ := by
  rw [go 16 (by decide), f16_eq]
  simp only [go_sem]
theorem low_ok {b ms mb : Nat} {x : Wn} {h r : Hp} (W : WinP b ms mb x h) (H : HasH σ (h ++ r)) : callK Try.prog N ann (d + 1) dem 18 [.ptr (some (b, 0))] σ K = K (.int .i64 x.low) σ := by
  obtain ⟨ho, rfl⟩ := W
  have hg : σ.get b = _ := H.g1
  rw [go 18 (by decide), f18_eq]
  simp only [go_sem, hg]
theorem low_nil : callK Try.prog N ann (d + 1) dem 18 [.ptr none] σ K = K (.int .i64 0) σ := by
  rw [go 18 (by decide), f18_eq]
  simp only [go_sem]
theorem slots_ok {b ms mb : Nat} {x : Wn} {h r : Hp} (W : WinP b ms mb x h) (H : HasH σ (h ++ r)) : callK Try.prog N ann (d + 1) dem 39 [.ptr (some (b, 0))] σ K = K (.int .i64 x.es.length) σ := by
  obtain ⟨ho, rfl⟩ := W
  have hg : σ.get b = _ := H.g1
  have hm : σ.get ms = _ := H.g2
  rw [go 39 (by decide), f39_eq]
  simp only [go_sem, hg, hm, List.length_map]
theorem slots_nil : callK Try.prog N ann (d + 1) dem 39 [.ptr none] σ K = K (.int .i64 0) σ := by
  rw [go 39 (by decide), f39_eq]
  simp only [go_sem]

/-- What is wrong with a view and a number. -/
def askE (low v n : Int) : Int := if v < 0 ∨ 1099511627776 < v then 1 else if hasB low n = true then 0 else 6
theorem asked_ok {b ms mb : Nat} {x : Wn} {h r : Hp} (W : WinP b ms mb x h) (H : HasH σ (h ++ r)) (v n : Int) : callK Try.prog N ann (d + 2) dem 43 [.ptr (some (b, 0)), .int .i64 v, .int .i64 n] σ K = K (.int .i64 (askE x.low v n)) σ := by
  rw [go 43 (by decide), f43_eq]
  by_cases c1 : v < 0
  · have : askE x.low v n = 1 := by simp [askE, c1]
    simp only [go_sem, c1, this]
  by_cases c2 : 1099511627776 < v
  · have : askE x.low v n = 1 := by simp [askE, c2]
    simp only [go_sem, c1, c2, this]
  cases c3 : hasB x.low n
  · have : askE x.low v n = 6 := by simp [askE, c1, c2, c3]
    simp only [go_sem, c1, c2, has_ok W H, c3, this]
  · have : askE x.low v n = 0 := by simp [askE, c1, c2, c3]
    simp only [go_sem, c1, c2, has_ok W H, c3, this]
theorem asked_nil (v n : Int) : callK Try.prog N ann (d + 2) dem 43 [.ptr none, .int .i64 v, .int .i64 n] σ K = K (.int .i64 (if v < 0 ∨ 1099511627776 < v then 1 else 7)) σ := by
  rw [go 43 (by decide), f43_eq]
  by_cases c1 : v < 0
  · simp only [go_sem, c1, true_or]
  by_cases c2 : 1099511627776 < v
  · simp only [go_sem, c1, c2, or_true]
  simp only [go_sem, c1, c2, or_self]

end Go.Proofs.Ytmgacgonoodkfaa
