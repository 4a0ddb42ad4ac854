/- What a slot's functions do. -/
import Derived.Test.YtmgacgonoodkfaaA31
import Derived.Test.YtmgacgonoodkfaaSlCore
namespace Go.Proofs.Ytmgacgonoodkfaa
open Go.AM
set_option maxRecDepth 100000
set_option linter.unusedSimpArgs false
set_option linter.unusedVariables false
variable {N d : Nat} {σ : St} {K : AV → St → Option Unit}

theorem wrap_small {n : Int} (h1 : -9223372036854775808 ≤ n) (h2 : n ≤ 9223372036854775807) : IntKind.i64.wrap n = n := by
  rw [IntKind.wrap_i64]; omega

/-- A replica's vote. -/
structure Vt where
  there : Bool
  text : ByteArray
  tag : ByteArray
def Vt.cells (v : Vt) : List AV := [.bool v.there, .str v.text, .str v.tag]
def Vt.zero : Vt := ⟨false, ByteArray.mk #[], ByteArray.mk #[]⟩
def vflat (V : List Vt) : List AV := V.flatMap Vt.cells
theorem vz (v : Vt) : v.cells.length = 3 := rfl

/-- A vote that is told. -/
structure Vo where
  kd : Int
  no : Int
  text : ByteArray
  tag : ByteArray
def Vo.cells (v : Vo) : List AV := [.int .i64 v.kd, .int .i64 v.no, .str v.text, .str v.tag]
theorem vo_of (ys : List AV) (h : shsOK [.int .i64, .int .i64, .str, .str] ys) : ∃ a : Vo, ys = a.cells := by
  obtain ⟨_, _, rfl, ⟨a, rfl⟩, _, _, rfl, ⟨b, rfl⟩, _, _, rfl, ⟨c, rfl⟩, _, _, rfl, ⟨d, rfl⟩, rfl⟩ := h
  exact ⟨⟨a, b, c, d⟩, rfl⟩

/-- A slot: its group, f, primary, and the votes of each kind. -/
structure Slt where
  g : Int
  f : Int
  p : Int
  V0 : List Vt
  V1 : List Vt
  V2 : List Vt
def Slt.ok (x : Slt) : Prop := 0 ≤ x.f ∧ x.f ≤ 3 ∧ 0 ≤ x.p ∧ x.p ≤ 3 * x.f ∧ x.V0.length = (3 * x.f + 1).toNat ∧ x.V1.length = (3 * x.f + 1).toNat ∧ x.V2.length = (3 * x.f + 1).toNat
def Slt.vs (x : Slt) (k : Int) : List Vt := if k = 1 then x.V1 else if k = 2 then x.V2 else []
def Slt.at (x : Slt) (k no : Int) : Vt := if 0 ≤ no then ((x.vs k)[no.toNat]?).getD .zero else .zero

def SlotP (s : Nat) (x : Slt) (h : Hp) : Prop := x.ok ∧ ∃ b0 b1 b2, h = [(s, .cells [.int .i64 x.g, .int .i64 x.f, .int .i64 x.p, .slice (some (b0, 0)) x.V0.length (some x.V0.length) 3, .slice (some (b1, 0)) x.V1.length (some x.V1.length) 3, .slice (some (b2, 0)) x.V2.length (some x.V2.length) 3] true),
  (b0, .cells (vflat x.V0) true), (b1, .cells (vflat x.V1) true), (b2, .cells (vflat x.V2) true)]

theorem vat {V : List Vt} {i : Nat} {v : Vt} (h : V[i]? = some v) : (vflat V)[i * 3]? = some (.bool v.there) ∧ (vflat V)[i * 3 + 1]? = some (.str v.text) ∧ (vflat V)[i * 3 + 2]? = some (.str v.tag) := by
  have q : ∀ j, j < 3 → (vflat V)[i * 3 + j]? = v.cells[j]? := fun j hj => by simpa [vflat] using flatMap_get vz hj h []
  exact ⟨q 0 (by omega), q 1 (by omega), q 2 (by omega)⟩

def kindB (k : Int) : Bool := decide (k = 1 ∨ k = 2)
theorem kinds_eq (k : Int) : callK Try.prog N ann (d + 1) 46 [.int .i64 k] σ K = K (.bool (kindB k)) σ := by
  rw [callK_succ, f46_eq]
  by_cases h1 : k = 1
  · subst h1; simp only [go_sem]; rfl
  · have b1 : (k == 1) = false := by simpa using h1
    by_cases h2 : k = 2
    · subst h2; simp only [go_sem]; rfl
    · have b2 : (k == 2) = false := by simpa using h2
      have : kindB k = false := by simp [kindB, h1, h2]
      simp only [go_sem, b1, b2, this]

theorem of_ok {s : Nat} {x : Slt} {h r : Hp} (hS : SlotP s x h) (H : HasH σ (h ++ r)) (k no : Int) (kont : ∀ σ', HasH σ' (h ++ r) → K (.agg (x.at k no).cells) σ' = some ()) :
    callK Try.prog N ann (d + 2) 48 [.ptr (some (s, 0)), .int .i64 k, .int .i64 no] σ K = some () := by
  obtain ⟨ho, b0, b1, b2, rfl⟩ := hS
  have hg : σ.get s = _ := H.g1
  have hg1 : σ.get b1 = _ := H.g3
  have hg2 : σ.get b2 = _ := H.g4
  have n0 : (s = σ.next) = False := eq_false (by have := H.l1; omega)
  have n1 : (b1 = σ.next) = False := eq_false (by have := H.l3; omega)
  have n2 : (b2 = σ.next) = False := eq_false (by have := H.l4; omega)
  have Hd := (H.new (.cells Vt.zero.cells true)).dead (.cells (x.at k no).cells true)
  have Hd0 := (H.new (.cells Vt.zero.cells true)).dead (.cells Vt.zero.cells true)
  rw [callK_succ, f48_eq]
  by_cases hk : ¬ (k = 1 ∨ k = 2)
  · have e : x.at k no = .zero := by
      have : x.vs k = [] := by unfold Slt.vs; rw [if_neg (by omega), if_neg (by omega)]
      unfold Slt.at; rw [this]; split <;> rfl
    have hkd : kindB k = false := by simpa [kindB] using hk
    rw [e] at kont
    simp only [Vt.cells, Vt.zero] at kont Hd0
    simp only [go_sem, kinds_eq, hkd]
    exact kont _ Hd0
  have hk := Classical.not_not.1 hk
  have hkd : kindB k = true := by simpa [kindB] using hk
  by_cases h0 : no < 0
  · have e : x.at k no = .zero := by unfold Slt.at; rw [if_neg (by omega)]
    rw [e] at kont
    simp only [Vt.cells, Vt.zero] at kont Hd0
    simp only [go_sem, kinds_eq, hkd, h0]
    exact kont _ Hd0
  have h0' : ((0:Int) ≤ no) = True := eq_true (by omega)
  rcases hk with rfl | rfl
  · by_cases hn : (x.V1.length : Int) ≤ no
    · have e : x.at 1 no = .zero := by
        unfold Slt.at Slt.vs; rw [if_pos (by omega), if_pos rfl, List.getElem?_eq_none (by omega)]; rfl
      rw [e] at kont
      simp only [Vt.cells, Vt.zero] at kont Hd0
      simp only [go_sem, kinds_eq, hkd, h0, hg, n0, hn]
      exact kont _ Hd0
    · have hn' : (no < (x.V1.length : Int)) = True := eq_true (by omega)
      obtain ⟨v, hv⟩ : ∃ v, x.V1[no.toNat]? = some v := ⟨_, List.getElem?_eq_getElem (by omega)⟩
      obtain ⟨q0, q1, q2⟩ := vat hv
      have e : x.at 1 no = v := by unfold Slt.at Slt.vs; rw [if_pos (by omega), if_pos rfl, hv]; rfl
      rw [e] at kont Hd
      simp only [Vt.cells, Vt.zero] at kont Hd
      simp only [go_sem, kinds_eq, hkd, h0, hg, n0, hn, h0', hn', hg1, n1, q0, q1, q2]
      exact kont _ Hd
  · by_cases hn : (x.V2.length : Int) ≤ no
    · have e : x.at 2 no = .zero := by
        unfold Slt.at Slt.vs; rw [if_pos (by omega), if_neg (by decide), if_pos rfl, List.getElem?_eq_none (by omega)]; rfl
      rw [e] at kont
      simp only [Vt.cells, Vt.zero] at kont Hd0
      simp only [go_sem, kinds_eq, hkd, h0, hg, n0, hn]
      exact kont _ Hd0
    · have hn' : (no < (x.V2.length : Int)) = True := eq_true (by omega)
      obtain ⟨v, hv⟩ : ∃ v, x.V2[no.toNat]? = some v := ⟨_, List.getElem?_eq_getElem (by omega)⟩
      obtain ⟨q0, q1, q2⟩ := vat hv
      have e : x.at 2 no = v := by unfold Slt.at Slt.vs; rw [if_pos (by omega), if_neg (by decide), if_pos rfl, hv]; rfl
      rw [e] at kont Hd
      simp only [Vt.cells, Vt.zero] at kont Hd
      simp only [go_sem, kinds_eq, hkd, h0, hg, n0, hn, h0', hn', hg2, n2, q0, q1, q2]
      exact kont _ Hd

end Go.Proofs.Ytmgacgonoodkfaa
