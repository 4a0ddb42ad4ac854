/- What a slot's functions do. -/
import Derived.Test.YtmgacgonoodkfaaW1
import Derived.Test.YtmgacgonoodkfaaWiSlot
namespace Go.Proofs.Ytmgacgonoodkfaa
open Go.AM
set_option maxRecDepth 100000
set_option linter.unusedSimpArgs false
set_option linter.unusedVariables false
variable {N d : Nat} {dem : Bool} {σ : St} {K : AV → St → Option Unit}

/-- A replica's vote. -/
structure Vt where
  there : Bool
  text : ByteArray
  tag : ByteArray
def Vt.cells (v : Vt) : List AV := [.bool v.there, .str v.text, .str v.tag]
def Vt.zero : Vt := ⟨false, ByteArray.mk #[], ByteArray.mk #[]⟩
def vflat (V : List Vt) : List AV := V.flatMap Vt.cells
theorem vz (v : Vt) : v.cells.length = 3 := rfl

/-- A vote that is told. -/
structure Vo where
  kd : Int
  no : Int
  text : ByteArray
  tag : ByteArray
def Vo.cells (v : Vo) : List AV := [.int .i64 v.kd, .int .i64 v.no, .str v.text, .str v.tag]
theorem vo_of (ys : List AV) (h : shsOK [.int .i64, .int .i64, .str, .str] ys) : ∃ a : Vo, ys = a.cells := by
  obtain ⟨_, _, rfl, ⟨a, rfl⟩, _, _, rfl, ⟨b, rfl⟩, _, _, rfl, ⟨c, rfl⟩, _, _, rfl, ⟨d, rfl⟩, rfl⟩ := h
  exact ⟨⟨a, b, c, d⟩, rfl⟩

/-- A slot: its group, f, primary, and the votes of each kind. -/
structure Slt where
  g : Int
  f : Int
  p : Int
  V0 : List Vt
  V1 : List Vt
  V2 : List Vt
def Slt.ok (x : Slt) : Prop := 0 ≤ x.f ∧ x.f ≤ 3 ∧ 0 ≤ x.p ∧ x.p ≤ 3 * x.f ∧ x.V0.length = (3 * x.f + 1).toNat ∧ x.V1.length = (3 * x.f + 1).toNat ∧ x.V2.length = (3 * x.f + 1).toNat
def Slt.vs (x : Slt) (k : Int) : List Vt := if k = 1 then x.V1 else if k = 2 then x.V2 else []
def Slt.at (x : Slt) (k no : Int) : Vt := if 0 ≤ no then ((x.vs k)[no.toNat]?).getD .zero else .zero

def SlotP (s : Nat) (x : Slt) (h : Hp) : Prop := x.ok ∧ ∃ b0 b1 b2, h = [(s, .cells [.int .i64 x.g, .int .i64 x.f, .int .i64 x.p, .slice (some (b0, 0)) x.V0.length (some x.V0.length) 3, .slice (some (b1, 0)) x.V1.length (some x.V1.length) 3, .slice (some (b2, 0)) x.V2.length (some x.V2.length) 3] true),
  (b0, .cells (vflat x.V0) true), (b1, .cells (vflat x.V1) true), (b2, .cells (vflat x.V2) true)]

theorem vat {V : List Vt} {i : Nat} {v : Vt} (h : V[i]? = some v) : (vflat V)[i * 3]? = some (.bool v.there) ∧ (vflat V)[i * 3 + 1]? = some (.str v.text) ∧ (vflat V)[i * 3 + 2]? = some (.str v.tag) := by
  have q : ∀ j, j < 3 → (vflat V)[i * 3 + j]? = v.cells[j]? := fun j hj => by simpa [vflat] using flatMap_get vz hj h []
  exact ⟨q 0 (by omega), q 1 (by omega), q 2 (by omega)⟩

def kindB (k : Int) : Bool := decide (k = 1 ∨ k = 2)
theorem kinds_eq (k : Int) : callK Try.prog N ann (d + 1) dem 46 [.int .i64 k] σ K = K (.bool (kindB k)) σ := by
  rw [go 46 (by decide), f46_eq]
  by_cases h1 : k = 1
  · subst h1; simp only [go_sem]; rfl
  · have b1 : (k == 1) = false := by simpa using h1
    by_cases h2 : k = 2
    · subst h2; simp only [go_sem]; rfl
    · have b2 : (k == 2) = false := by simpa using h2
      have : kindB k = false := by simp [kindB, h1, h2]
      simp only [go_sem, b1, b2, this]

theorem of_ok {s : Nat} {x : Slt} {h r : Hp} (hS : SlotP s x h) (H : HasH σ (h ++ r)) (k no : Int) (kont : ∀ σ', HasH σ' (h ++ r) → K (.agg (x.at k no).cells) σ' = some ()) :
    callK Try.prog N ann (d + 2) dem 48 [.ptr (some (s, 0)), .int .i64 k, .int .i64 no] σ K = some () := by
  obtain ⟨ho, b0, b1, b2, rfl⟩ := hS
  have hg : σ.get s = _ := H.g1
  have hg1 : σ.get b1 = _ := H.g3
  have hg2 : σ.get b2 = _ := H.g4
  have n0 : (s = σ.next) = False := eq_false (by have := H.l1; omega)
  have n1 : (b1 = σ.next) = False := eq_false (by have := H.l3; omega)
  have n2 : (b2 = σ.next) = False := eq_false (by have := H.l4; omega)
  have Hd := (H.new (.cells Vt.zero.cells true)).dead (.cells (x.at k no).cells true)
  have Hd0 := (H.new (.cells Vt.zero.cells true)).dead (.cells Vt.zero.cells true)
  rw [go 48 (by decide), f48_eq]
  by_cases hk : ¬ (k = 1 ∨ k = 2)
  · have e : x.at k no = .zero := by
      have : x.vs k = [] := by unfold Slt.vs; rw [if_neg (by omega), if_neg (by omega)]
      unfold Slt.at; rw [this]; split <;> rfl
    have hkd : kindB k = false := by simpa [kindB] using hk
    rw [e] at kont
    simp only [Vt.cells, Vt.zero] at kont Hd0
    simp only [go_sem, kinds_eq, hkd]
    exact kont _ Hd0
  have hk := Classical.not_not.1 hk
  have hkd : kindB k = true := by simpa [kindB] using hk
  by_cases h0 : no < 0
  · have e : x.at k no = .zero := by unfold Slt.at; rw [if_neg (by omega)]
    rw [e] at kont
    simp only [Vt.cells, Vt.zero] at kont Hd0
    simp only [go_sem, kinds_eq, hkd, h0]
    exact kont _ Hd0
  have h0' : ((0:Int) ≤ no) = True := eq_true (by omega)
  rcases hk with rfl | rfl
  · by_cases hn : (x.V1.length : Int) ≤ no
    · have e : x.at 1 no = .zero := by
        unfold Slt.at Slt.vs; rw [if_pos (by omega), if_pos rfl, List.getElem?_eq_none (by omega)]; rfl
      rw [e] at kont
      simp only [Vt.cells, Vt.zero] at kont Hd0
      simp only [go_sem, kinds_eq, hkd, h0, hg, n0, hn]
      exact kont _ Hd0
    · have hn' : (no < (x.V1.length : Int)) = True := eq_true (by omega)
      obtain ⟨v, hv⟩ : ∃ v, x.V1[no.toNat]? = some v := ⟨_, List.getElem?_eq_getElem (by omega)⟩
      obtain ⟨q0, q1, q2⟩ := vat hv
      have e : x.at 1 no = v := by unfold Slt.at Slt.vs; rw [if_pos (by omega), if_pos rfl, hv]; rfl
      rw [e] at kont Hd
      simp only [Vt.cells, Vt.zero] at kont Hd
      simp only [go_sem, kinds_eq, hkd, h0, hg, n0, hn, h0', hn', hg1, n1, q0, q1, q2]
      exact kont _ Hd
  · by_cases hn : (x.V2.length : Int) ≤ no
    · have e : x.at 2 no = .zero := by
        unfold Slt.at Slt.vs; rw [if_pos (by omega), if_neg (by decide), if_pos rfl, List.getElem?_eq_none (by omega)]; rfl
      rw [e] at kont
      simp only [Vt.cells, Vt.zero] at kont Hd0
      simp only [go_sem, kinds_eq, hkd, h0, hg, n0, hn]
      exact kont _ Hd0
    · have hn' : (no < (x.V2.length : Int)) = True := eq_true (by omega)
      obtain ⟨v, hv⟩ : ∃ v, x.V2[no.toNat]? = some v := ⟨_, List.getElem?_eq_getElem (by omega)⟩
      obtain ⟨q0, q1, q2⟩ := vat hv
      have e : x.at 2 no = v := by unfold Slt.at Slt.vs; rw [if_pos (by omega), if_neg (by decide), if_pos rfl, hv]; rfl
      rw [e] at kont Hd
      simp only [Vt.cells, Vt.zero] at kont Hd
      simp only [go_sem, kinds_eq, hkd, h0, hg, n0, hn, h0', hn', hg2, n2, q0, q1, q2]
      exact kont _ Hd


/-- Is a vote's form right: 9.1. -/
def voteF (x : Slt) (k no : Int) (text tag : ByteArray) : Int :=
  if kindB k = false ∨ no < 0 ∨ 3 * x.f < no then 1 else if 30000 < text.size then 2 else if tag.size ≠ 16 then 4 else 0
def voteC (x : Slt) (k no : Int) (text tag : ByteArray) : Bool := decide (voteF x k no text tag = 0) && !(x.at k no).there
def Slt.put (x : Slt) (k : Int) (i : Nat) (v : Vt) : Slt := if k = 1 then { x with V1 := x.V1.set i v } else { x with V2 := x.V2.set i v }
def voteX (x : Slt) (k no : Int) (text tag : ByteArray) : Slt := if voteC x k no text tag = true then x.put k no.toNat ⟨true, text, tag⟩ else x

theorem vflat_set {V : List Vt} {i : Nat} {v : Vt} (hi : i < V.length) : St.splice (vflat V) (i * 3) v.cells = vflat (V.set i v) := by
  have hl : (vflat (V.take i)).length = i * 3 := by rw [vflat, flatMap_len vz]; simp; omega
  have e : V = V.take i ++ V[i] :: V.drop (i + 1) := by simp
  have e2 : V.set i v = V.take i ++ v :: V.drop (i + 1) := List.set_eq_take_append_cons_drop ▸ by simp [hi]
  have h1 : vflat V = vflat (V.take i) ++ ((V[i]).cells ++ vflat (V.drop (i + 1))) := by
    calc vflat V = vflat (V.take i ++ V[i] :: V.drop (i + 1)) := congrArg vflat e
      _ = _ := by simp only [vflat, List.flatMap_append, List.flatMap_cons]
  rw [h1, ← hl, splice_at, e2]
  have : List.drop v.cells.length ((V[i]).cells ++ vflat (V.drop (i + 1))) = vflat (V.drop (i + 1)) := by
    rw [vz, ← vz V[i], List.drop_left]
  rw [this]
  simp [vflat]

theorem vote_ok {s : Nat} {x : Slt} {h r : Hp} (hS : SlotP s x h) (H : HasH σ (h ++ r)) (k no : Int) (text tag : ByteArray)
    (kont : ∀ σ' h', SlotP s (voteX x k no text tag) h' → HasH σ' (h' ++ r) → K (.tuple [.bool (voteC x k no text tag), .int .i64 (voteF x k no text tag)]) σ' = some ()) :
    callK Try.prog N ann (d + 3) dem 24 [.ptr (some (s, 0)), .int .i64 k, .int .i64 no, .str text, .str tag] σ K = some () := by
  have hS' := hS
  obtain ⟨ho, b0, b1, b2, rfl⟩ := hS
  obtain ⟨f0, f3, p0, p3, l0, l1, l2⟩ := ho
  have hg : σ.get s = _ := H.g1
  have hw : IntKind.i64.wrap (3 * x.f) = 3 * x.f := wrap_small (n := 3 * x.f) (by omega) (by omega)
  rw [go 24 (by decide), f24_eq]
  have bad : ∀ e : Int, e ≠ 0 → voteF x k no text tag = e → K (.tuple [.bool false, .int .i64 e]) σ = some () := by
    intro e he hv
    have hc : voteC x k no text tag = false := by simp [voteC, hv, he]
    have hx : voteX x k no text tag = x := by simp [voteX, hc]
    rw [hc, hv, hx] at kont
    exact kont _ _ hS' H
  by_cases c1 : kindB k = false
  · have := bad 1 (by decide) (by simp [voteF, c1])
    simp only [go_sem, kinds_eq, c1]
    exact this
  have c1' : kindB k = true := by simpa using c1
  by_cases c2 : no < 0
  · have := bad 1 (by decide) (by simp [voteF, c2])
    simp only [go_sem, kinds_eq, c1', c2]
    exact this
  by_cases c3 : 3 * x.f < no
  · have := bad 1 (by decide) (by simp [voteF, c3])
    simp only [go_sem, kinds_eq, c1', c2, hg, hw, c3]
    exact this
  have n1 : ¬ (kindB k = false ∨ no < 0 ∨ 3 * x.f < no) := by simp [c1', c2, c3]
  by_cases c4 : 30000 < text.size
  · have := bad 2 (by decide) (by simp only [voteF, n1, c4, if_false, if_true])
    have c4' : ((30000 : Int) < text.size) = True := eq_true (by omega)
    simp only [go_sem, kinds_eq, c1', c2, hg, hw, c3, c4']
    exact this
  have c4' : ((30000 : Int) < text.size) = False := eq_false (by omega)
  by_cases c5 : tag.size ≠ 16
  · have := bad 4 (by decide) (by simp only [voteF, n1, c4, if_false]; rw [if_pos c5])
    have c5' : ((tag.size : Int) != 16) = true := by simp; omega
    simp only [go_sem, kinds_eq, c1', c2, hg, hw, c3, c4', c5']
    exact this
  have c5' : ((tag.size : Int) != 16) = false := by simp; omega
  have hF : voteF x k no text tag = 0 := by simp only [voteF, n1, c4, c5, if_false]
  have hk : k = 1 ∨ k = 2 := by simpa [kindB] using c1'
  simp only [go_sem, kinds_eq, c1', c2, hg, hw, c3, c4', c5']
  refine of_ok hS' H k no ?_
  intro σ1 H1
  have hg1 : σ1.get s = _ := H1.g1
  have n0 : (s = σ1.next) = False := eq_false (by have := H1.l1; omega)
  have nb1 : (b1 = σ1.next) = False := eq_false (by have := H1.l3; omega)
  have nb2 : (b2 = σ1.next) = False := eq_false (by have := H1.l4; omega)
  cases ht : (x.at k no).there with
  | true =>
    have hc : voteC x k no text tag = false := by simp [voteC, ht]
    have hx : voteX x k no text tag = x := by simp [voteX, hc]
    rw [hc, hF, hx] at kont
    simp only [go_sem, Vt.cells, ht]
    exact kont _ _ hS' (by first | exact H1 | exact (H1.new _).dead _ | exact H1.new' _)
  | false =>
    have hc : voteC x k no text tag = true := by simp [voteC, ht, hF]
    have hx : voteX x k no text tag = x.put k no.toNat ⟨true, text, tag⟩ := by simp [voteX, hc]
    rw [hc, hF, hx] at kont
    have h0' : ((0:Int) ≤ no) = True := eq_true (by omega)
    have hcl : ∀ V : List Vt, (vflat V).length = V.length * 3 := fun V => flatMap_len vz V
    rcases hk with rfl | rfl
    · have hn : (no < (x.V1.length : Int)) = True := eq_true (by omega)
      have hst : (no.toNat * 3 + 3 ≤ (vflat x.V1).length) = True := eq_true (by rw [hcl]; omega)
      have hsp := vflat_set (V := x.V1) (i := no.toNat) (v := ⟨true, text, tag⟩) (by omega)
      have hgb : σ1.get b1 = _ := H1.g3
      simp only [Vt.cells] at hsp
      simp only [go_sem, Vt.cells, ht, hg1, n0, hgb, nb1, h0', hn, hst, hsp]
      refine kont _ [(s, _), (b0, _), (b1, _), (b2, _)] ⟨⟨f0, f3, p0, p3, l0, by simpa [Slt.put] using l1, l2⟩, b0, b1, b2, ?_⟩ (H1.put3 _)
      simp only [Slt.put, if_true, List.length_set]
    · have hn : (no < (x.V2.length : Int)) = True := eq_true (by omega)
      have hst : (no.toNat * 3 + 3 ≤ (vflat x.V2).length) = True := eq_true (by rw [hcl]; omega)
      have hsp := vflat_set (V := x.V2) (i := no.toNat) (v := ⟨true, text, tag⟩) (by omega)
      have hgb : σ1.get b2 = _ := H1.g4
      simp only [Vt.cells] at hsp
      simp only [go_sem, Vt.cells, ht, hg1, n0, hgb, nb2, h0', hn, hst, hsp]
      refine kont _ [(s, _), (b0, _), (b1, _), (b2, _)] ⟨⟨f0, f3, p0, p3, l0, l1, by simpa [Slt.put] using l2⟩, b0, b1, b2, ?_⟩ (H1.put4 _)
      simp only [Slt.put, show ¬ (2:Int) = 1 by decide, if_false, List.length_set]

/-- Of a nil slot. -/
theorem vote_nil (k no : Int) (text tag : ByteArray)
    (kont : ∀ e : Int, e = (if kindB k = false ∨ no < 0 then 1 else if 30000 < text.size then 2 else if tag.size ≠ 16 then 4 else 7) → K (.tuple [.bool false, .int .i64 e]) σ = some ()) :
    callK Try.prog N ann (d + 2) dem 24 [.ptr none, .int .i64 k, .int .i64 no, .str text, .str tag] σ K = some () := by
  rw [go 24 (by decide), f24_eq]
  by_cases c1 : kindB k = false
  · have := kont 1 (by simp [c1])
    simp only [go_sem, kinds_eq, c1]
    exact this
  have c1' : kindB k = true := by simpa using c1
  by_cases c2 : no < 0
  · have := kont 1 (by simp [c2])
    simp only [go_sem, kinds_eq, c1', c2]
    exact this
  by_cases c4 : 30000 < text.size
  · have := kont 2 (by simp [c1', c2, c4])
    have c4' : ((30000 : Int) < text.size) = True := eq_true (by omega)
    simp only [go_sem, kinds_eq, c1', c2, c4']
    exact this
  have c4' : ((30000 : Int) < text.size) = False := eq_false (by omega)
  by_cases c5 : tag.size ≠ 16
  · have := kont 4 (by simp [c1', c2, c4, c5])
    have c5' : ((tag.size : Int) != 16) = true := by simp; omega
    simp only [go_sem, kinds_eq, c1', c2, c4', c5']
    exact this
  have c5' : ((tag.size : Int) != 16) = false := by simp; omega
  have := kont 7 (by rw [if_neg (by simp [c1', c2]), if_neg c4, if_neg c5])
  simp only [go_sem, kinds_eq, c1', c2, c4', c5']
  exact this


def newE (g f p : Int) : Int := if g < 0 ∨ 4 < g ∨ f < 0 ∨ 3 < f ∨ p < 0 ∨ 3 * f < p then 1 else 0
def newX (g f p : Int) : Slt := ⟨g, f, p, List.replicate (3 * f + 1).toNat .zero, List.replicate (3 * f + 1).toNat .zero, List.replicate (3 * f + 1).toNat .zero⟩

theorem vflat_zeros (n : Nat) : (List.replicate n Vt.zero.cells).flatten = vflat (List.replicate n Vt.zero) := by
  induction n with
  | zero => rfl
  | succ n ih => simp only [List.replicate_succ, List.flatten_cons, vflat, List.flatMap_cons] at ih ⊢; rw [ih]

theorem snew_bad {r : Hp} (H : HasH σ r) (g f p : Int) (he : newE g f p = 1) (kont : K (.tuple [.ptr none, .int .i64 1]) σ = some ()) :
    callK Try.prog N ann (d + 1) dem 22 [.int .i64 g, .int .i64 f, .int .i64 p] σ K = some () := by
  rw [go 22 (by decide), f22_eq]
  have hx : g < 0 ∨ 4 < g ∨ f < 0 ∨ 3 < f ∨ p < 0 ∨ 3 * f < p := by
    unfold newE at he; split at he <;> simp_all
  by_cases c1 : g < 0
  · simp only [go_sem, c1]; exact kont
  by_cases c2 : 4 < g
  · simp only [go_sem, c1, c2]; exact kont
  by_cases c3 : f < 0
  · simp only [go_sem, c1, c2, c3]; exact kont
  by_cases c4 : 3 < f
  · simp only [go_sem, c1, c2, c3, c4]; exact kont
  by_cases c5 : p < 0
  · simp only [go_sem, c1, c2, c3, c4, c5]; exact kont
  have hw : IntKind.i64.wrap (3 * f) = 3 * f := wrap_small (n := 3 * f) (by omega) (by omega)
  have c6 : 3 * f < p := by omega
  simp only [go_sem, c1, c2, c3, c4, c5, hw, c6]; exact kont

theorem snew_ok {r : Hp} (H : HasH σ r) (hN : 10 ≤ N) (g f p : Int) (he : newE g f p = 0) (kont : ∀ σ' s h, SlotP s (newX g f p) h → HasH σ' (h ++ r) → K (.tuple [.ptr (some (s, 0)), .int .i64 0]) σ' = some ()) :
    callK Try.prog N ann (d + 1) dem 22 [.int .i64 g, .int .i64 f, .int .i64 p] σ K = some () := by
  obtain ⟨n, rfl⟩ : ∃ n, N = n + 4 := ⟨N - 4, by omega⟩
  rw [go 22 (by decide), f22_eq]
  have hx : ¬ (g < 0 ∨ 4 < g ∨ f < 0 ∨ 3 < f ∨ p < 0 ∨ 3 * f < p) := by
    unfold newE at he; split at he <;> simp_all
  have c1 : ¬ g < 0 := by omega
  have c2 : ¬ 4 < g := by omega
  have c3 : ¬ f < 0 := by omega
  have c4 : ¬ 3 < f := by omega
  have c5 : ¬ p < 0 := by omega
  have c6 : ¬ 3 * f < p := by omega
  have hw : IntKind.i64.wrap (3 * f) = 3 * f := wrap_small (n := 3 * f) (by omega) (by omega)
  have hw2 : IntKind.i64.wrap (3 * f + 1) = 3 * f + 1 := wrap_small (n := 3 * f + 1) (by omega) (by omega)
  have h0 : ((0:Int) ≤ 3 * f + 1) = True := eq_true (by omega)
  have h1 : (3 * f + 1 ≤ (1099511627776 : Int)) = True := eq_true (by omega)
  have h2 : ((3 * f + 1).toNat * 41 ≤ 70368744177664) = True := eq_true (by omega)
  have H1 := H.new (.cells [.int .i64 g, .int .i64 f, .int .i64 p, .slice none 0 (some 0) 3, .slice none 0 (some 0) 3, .slice none 0 (some 0) 3] true)
  have nx : ∀ k : Nat, (σ.next = σ.next + 1 + k) = False := fun k => eq_false (by omega)
  have n1 : (σ.next = σ.next + 1) = False := eq_false (by omega)
  have n2 : (σ.next = σ.next + 1 + 1) = False := eq_false (by omega)
  have n3 : (σ.next = σ.next + 1 + 1 + 1) = False := eq_false (by omega)
  have wi0 : IntKind.i64.wrap (0 + 1) = 1 := wrap_small (n := 1) (by omega) (by omega)
  have wi1 : IntKind.i64.wrap (1 + 1) = 2 := wrap_small (n := 2) (by omega) (by omega)
  have wi2 : IntKind.i64.wrap (2 + 1) = 3 := wrap_small (n := 3) (by omega) (by omega)
  have w1 : IntKind.i64.wrap 1 = 1 := wrap_small (n := 1) (by omega) (by omega)
  have w2 : IntKind.i64.wrap 2 = 2 := wrap_small (n := 2) (by omega) (by omega)
  have w3 : IntKind.i64.wrap 3 = 3 := wrap_small (n := 3) (by omega) (by omega)
  simp only [go_sem, loopK_succ, c1, c2, c3, c4, c5, c6, hw, hw2, h0, h1, h2, Int.le_refl, n1, n2, n3, w1, w2, w3]
  have Hz := (((((H1.new (.cells (List.replicate (3 * f + 1).toNat Vt.zero.cells).flatten true)).put2 (.cells [.int .i64 g, .int .i64 f, .int .i64 p, .slice (some (σ.next + 1, 0)) (3 * f + 1).toNat (some (3 * f + 1).toNat) 3, .slice none 0 (some 0) 3, .slice none 0 (some 0) 3] true)).new (.cells (List.replicate (3 * f + 1).toNat Vt.zero.cells).flatten true)).put3 (.cells [.int .i64 g, .int .i64 f, .int .i64 p, .slice (some (σ.next + 1, 0)) (3 * f + 1).toNat (some (3 * f + 1).toNat) 3, .slice (some (σ.next + 1 + 1, 0)) (3 * f + 1).toNat (some (3 * f + 1).toNat) 3, .slice none 0 (some 0) 3] true)).new (.cells (List.replicate (3 * f + 1).toNat Vt.zero.cells).flatten true)).put4 (.cells [.int .i64 g, .int .i64 f, .int .i64 p, .slice (some (σ.next + 1, 0)) (3 * f + 1).toNat (some (3 * f + 1).toNat) 3, .slice (some (σ.next + 1 + 1, 0)) (3 * f + 1).toNat (some (3 * f + 1).toNat) 3, .slice (some (σ.next + 1 + 1 + 1, 0)) (3 * f + 1).toNat (some (3 * f + 1).toNat) 3] true)
  refine kont _ σ.next [(σ.next, _), (σ.next + 1, _), (σ.next + 1 + 1, _), (σ.next + 1 + 1 + 1, _)] ⟨⟨by simp [newX]; omega, by simp [newX]; omega, by simp [newX]; omega, by simp [newX]; omega, by simp [newX], by simp [newX], by simp [newX]⟩, _, _, _, rfl⟩ ?_
  simp only [newX, List.length_replicate, ← vflat_zeros]
  exact Hz.perm ((List.reverse_perm [(σ.next, _), (σ.next + 1, _), (σ.next + 1 + 1, _), (σ.next + 1 + 1 + 1, _)]).append_right r)

theorem proposal_ok {s : Nat} {x : Slt} {h r : Hp} (hS : SlotP s x h) (H : HasH σ (h ++ r)) (kont : ∀ σ', HasH σ' (h ++ r) → K (.tuple [.str (x.at 1 x.p).text, .bool (x.at 1 x.p).there]) σ' = some ()) :
    callK Try.prog N ann (d + 3) dem 26 [.ptr (some (s, 0))] σ K = some () := by
  have hS' := hS
  obtain ⟨ho, b0, b1, b2, rfl⟩ := hS
  have hg : σ.get s = _ := H.g1
  rw [go 26 (by decide), f26_eq]
  simp only [go_sem, hg]
  refine of_ok hS' H 1 x.p ?_
  intro σ1 H1
  simp only [go_sem, Vt.cells]
  exact kont _ (by first | exact H1 | exact (H1.new _).dead _)
theorem proposal_nil (kont : K (.tuple [.str (ByteArray.mk #[]), .bool false]) σ = some ()) : callK Try.prog N ann (d + 1) dem 26 [.ptr none] σ K = some () := by
  rw [go 26 (by decide), f26_eq]
  simp only [go_sem]
  exact kont



/-- How many voted. -/
def Slt.cnt (x : Slt) (k : Int) : Nat := (x.vs k).countP Vt.there

theorem Slt.vs_len {x : Slt} (h : x.ok) {k : Int} (hk : k = 1 ∨ k = 2) : (x.vs k).length = (3 * x.f + 1).toNat := by
  obtain ⟨_, _, _, _, _, l1, l2⟩ := h
  rcases hk with rfl | rfl
  · simpa [Slt.vs] using l1
  · simpa [Slt.vs] using l2
theorem Slt.vs_none {x : Slt} {k : Int} (hk : ¬ (k = 1 ∨ k = 2)) : x.vs k = [] := by
  unfold Slt.vs; rw [if_neg (by omega), if_neg (by omega)]

theorem votes_loop {s : Nat} {x : Slt} {h r : Hp} {J : KF Unit} (hS : SlotP s x h) (k : Int) :
    ∀ (m i n : Nat) (c : Nat) (σ : St), m + i = (3 * x.f + 1).toNat → m < n → c ≤ i → HasH σ (h ++ r) →
      (∀ σ', HasH σ' (h ++ r) → J (.exit 0) (f31e7 ((c + ((x.vs k).drop i).countP Vt.there : Nat) : Int)) σ' = some ()) →
      loopK (f31L9 (callK Try.prog N ann (d + 2)) dem N) f31a9 n J (f31e3 (some (s, 0)) k c i) σ = some () := by
  have hS' := hS
  obtain ⟨ho, b0, b1, b2, rfl⟩ := hS
  have ho' := ho
  obtain ⟨f0, f3, p0, p3, l0, l1, l2⟩ := ho
  have hw : IntKind.i64.wrap (3 * x.f) = 3 * x.f := wrap_small (n := 3 * x.f) (by omega) (by omega)
  intro m
  induction m with
  | zero =>
    intro i n c σ hm hn hc H kont
    obtain ⟨n, rfl⟩ : ∃ n', n = n' + 1 := ⟨n - 1, by omega⟩
    have hg : σ.get s = _ := H.g1
    have h1 : ((i:Int) ≤ 3 * x.f) = False := eq_false (by omega)
    rw [loopK_succ]
    simp only [go_sem, hg, hw, h1]
    have := kont σ H
    rw [List.drop_eq_nil_of_le] at this
    · exact this
    · by_cases hk : k = 1 ∨ k = 2
      · rw [Slt.vs_len ho' hk]; omega
      · rw [Slt.vs_none hk]; simp
  | succ m ih =>
    intro i n c σ hm hn hc H kont
    obtain ⟨n, rfl⟩ : ∃ n', n = n' + 1 := ⟨n - 1, by omega⟩
    have hg : σ.get s = _ := H.g1
    have h1 : ((i:Int) ≤ 3 * x.f) = True := eq_true (by omega)
    have hwi : IntKind.i64.wrap ((i:Int) + 1) = (i:Int) + 1 := wrap_small (n := (i:Int) + 1) (by omega) (by omega)
    have hwc : IntKind.i64.wrap ((c:Int) + 1) = ((c + 1 : Nat) : Int) := wrap_small (n := ((c + 1 : Nat) : Int)) (by omega) (by omega)
    have hd : ((x.vs k).drop i).countP Vt.there = (if (x.at k i).there = true then 1 else 0) + ((x.vs k).drop (i + 1)).countP Vt.there := by
      have ha : x.at k i = ((x.vs k)[i]?).getD .zero := by unfold Slt.at; rw [if_pos (by omega)]; simp
      by_cases hi : i < (x.vs k).length
      · rw [List.drop_eq_getElem_cons hi, List.countP_cons, ha, List.getElem?_eq_getElem hi, Option.getD_some]; omega
      · rw [List.drop_eq_nil_of_le (by omega), List.drop_eq_nil_of_le (by omega), ha, List.getElem?_eq_none (by omega)]; rfl
    rw [loopK_succ]
    simp only [go_sem, hg, hw, h1]
    refine of_ok hS' H k i ?_
    intro σ1 H1
    cases ht : (x.at k i).there with
    | true =>
      rw [ht, if_pos rfl] at hd
      simp only [go_sem, Vt.cells, ht, hwi, hwc]
      exact ih (i + 1) n (c + 1) _ (by omega) (by omega) (by omega) (by first | exact H1 | exact (H1.new _).dead _) (by rw [show c + 1 + ((x.vs k).drop (i + 1)).countP Vt.there = c + ((x.vs k).drop i).countP Vt.there by omega]; exact kont)
    | false =>
      rw [ht, if_neg (by decide)] at hd
      simp only [go_sem, Vt.cells, ht, hwi, hwc]
      exact ih (i + 1) n c _ (by omega) (by omega) (by omega) (by first | exact H1 | exact (H1.new _).dead _) (by rw [show c + ((x.vs k).drop (i + 1)).countP Vt.there = c + ((x.vs k).drop i).countP Vt.there by omega]; exact kont)

theorem votes_ok {s : Nat} {x : Slt} {h r : Hp} (hS : SlotP s x h) (H : HasH σ (h ++ r)) (hN : 20 ≤ N) (k : Int) (kont : ∀ σ', HasH σ' (h ++ r) → K (.int .i64 (x.cnt k : Nat)) σ' = some ()) :
    callK Try.prog N ann (d + 3) dem 31 [.ptr (some (s, 0)), .int .i64 k] σ K = some () := by
  have ho := hS.1
  obtain ⟨f0, f3, _⟩ := ho
  rw [go 31 (by decide), f31_eq]
  simp only [go_sem]
  refine votes_loop hS k (3 * x.f + 1).toNat 0 N 0 σ (by omega) (by omega) (by omega) H ?_
  intro σ1 H1
  simp only [go_sem]
  simpa [Slt.cnt] using kont σ1 H1
theorem votes_nil (hN : 20 ≤ N) (k : Int) (kont : K (.int .i64 0) σ = some ()) : callK Try.prog N ann (d + 1) dem 31 [.ptr none, .int .i64 k] σ K = some () := by
  obtain ⟨n, rfl⟩ : ∃ n, N = n + 1 := ⟨N - 1, by omega⟩
  rw [go 31 (by decide), f31_eq]
  simp only [go_sem, loopK_succ]
  exact kont

end Go.Proofs.Ytmgacgonoodkfaa
