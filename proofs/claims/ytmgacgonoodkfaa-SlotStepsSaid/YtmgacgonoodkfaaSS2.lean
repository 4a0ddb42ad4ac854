/- What a slot's functions do: votes, new slots. -/
import Derived.Test.YtmgacgonoodkfaaSS1
namespace Go.Proofs.Ytmgacgonoodkfaa
open Go.AM
set_option maxRecDepth 100000
set_option linter.unusedSimpArgs false
set_option linter.unusedVariables false
variable {N d : Nat} {σ : St} {K : AV → St → Option Unit}

/-- Is a vote's form right: 9.1. -/
def voteF (x : Slt) (k no : Int) (text tag : ByteArray) : Int :=
  if kindB k = false ∨ no < 0 ∨ 3 * x.f < no then 1 else if 30000 < text.size then 2 else if tag.size ≠ 16 then 4 else 0
def voteC (x : Slt) (k no : Int) (text tag : ByteArray) : Bool := decide (voteF x k no text tag = 0) && !(x.at k no).there
def Slt.put (x : Slt) (k : Int) (i : Nat) (v : Vt) : Slt := if k = 1 then { x with V1 := x.V1.set i v } else { x with V2 := x.V2.set i v }
def voteX (x : Slt) (k no : Int) (text tag : ByteArray) : Slt := if voteC x k no text tag = true then x.put k no.toNat ⟨true, text, tag⟩ else x

theorem vflat_set {V : List Vt} {i : Nat} {v : Vt} (hi : i < V.length) : St.splice (vflat V) (i * 3) v.cells = vflat (V.set i v) := by
  have hl : (vflat (V.take i)).length = i * 3 := by rw [vflat, flatMap_len vz]; simp; omega
  have e : V = V.take i ++ V[i] :: V.drop (i + 1) := by simp
  have e2 : V.set i v = V.take i ++ v :: V.drop (i + 1) := List.set_eq_take_append_cons_drop ▸ by simp [hi]
  have h1 : vflat V = vflat (V.take i) ++ ((V[i]).cells ++ vflat (V.drop (i + 1))) := by
    calc vflat V = vflat (V.take i ++ V[i] :: V.drop (i + 1)) := congrArg vflat e
      _ = _ := by simp only [vflat, List.flatMap_append, List.flatMap_cons]
  rw [h1, ← hl, splice_at, e2]
  have : List.drop v.cells.length ((V[i]).cells ++ vflat (V.drop (i + 1))) = vflat (V.drop (i + 1)) := by
    rw [vz, ← vz V[i], List.drop_left]
  rw [this]
  simp [vflat]

theorem vote_ok {s : Nat} {x : Slt} {h r : Hp} (hS : SlotP s x h) (H : HasH σ (h ++ r)) (k no : Int) (text tag : ByteArray)
    (kont : ∀ σ' h', SlotP s (voteX x k no text tag) h' → HasH σ' (h' ++ r) → K (.tuple [.bool (voteC x k no text tag), .int .i64 (voteF x k no text tag)]) σ' = some ()) :
    callK Try.prog N ann (d + 3) 24 [.ptr (some (s, 0)), .int .i64 k, .int .i64 no, .str text, .str tag] σ K = some () := by
  have hS' := hS
  obtain ⟨ho, b0, b1, b2, rfl⟩ := hS
  obtain ⟨f0, f3, p0, p3, l0, l1, l2⟩ := ho
  have hg : σ.get s = _ := H.g1
  have hw : IntKind.i64.wrap (3 * x.f) = 3 * x.f := wrap_small (n := 3 * x.f) (by omega) (by omega)
  rw [callK_succ, f24_eq]
  have bad : ∀ e : Int, e ≠ 0 → voteF x k no text tag = e → K (.tuple [.bool false, .int .i64 e]) σ = some () := by
    intro e he hv
    have hc : voteC x k no text tag = false := by simp [voteC, hv, he]
    have hx : voteX x k no text tag = x := by simp [voteX, hc]
    rw [hc, hv, hx] at kont
    exact kont _ _ hS' H
  by_cases c1 : kindB k = false
  · have := bad 1 (by decide) (by simp [voteF, c1])
    simp only [go_sem, kinds_eq, c1]
    exact this
  have c1' : kindB k = true := by simpa using c1
  by_cases c2 : no < 0
  · have := bad 1 (by decide) (by simp [voteF, c2])
    simp only [go_sem, kinds_eq, c1', c2]
    exact this
  by_cases c3 : 3 * x.f < no
  · have := bad 1 (by decide) (by simp [voteF, c3])
    simp only [go_sem, kinds_eq, c1', c2, hg, hw, c3]
    exact this
  have n1 : ¬ (kindB k = false ∨ no < 0 ∨ 3 * x.f < no) := by simp [c1', c2, c3]
  by_cases c4 : 30000 < text.size
  · have := bad 2 (by decide) (by simp only [voteF, n1, c4, if_false, if_true])
    have c4' : ((30000 : Int) < text.size) = True := eq_true (by omega)
    simp only [go_sem, kinds_eq, c1', c2, hg, hw, c3, c4']
    exact this
  have c4' : ((30000 : Int) < text.size) = False := eq_false (by omega)
  by_cases c5 : tag.size ≠ 16
  · have := bad 4 (by decide) (by simp only [voteF, n1, c4, if_false]; rw [if_pos c5])
    have c5' : ((tag.size : Int) != 16) = true := by simp; omega
    simp only [go_sem, kinds_eq, c1', c2, hg, hw, c3, c4', c5']
    exact this
  have c5' : ((tag.size : Int) != 16) = false := by simp; omega
  have hF : voteF x k no text tag = 0 := by simp only [voteF, n1, c4, c5, if_false]
  have hk : k = 1 ∨ k = 2 := by simpa [kindB] using c1'
  simp only [go_sem, kinds_eq, c1', c2, hg, hw, c3, c4', c5']
  refine of_ok hS' H k no ?_
  intro σ1 H1
  have hg1 : σ1.get s = _ := H1.g1
  have n0 : (s = σ1.next) = False := eq_false (by have := H1.l1; omega)
  have nb1 : (b1 = σ1.next) = False := eq_false (by have := H1.l3; omega)
  have nb2 : (b2 = σ1.next) = False := eq_false (by have := H1.l4; omega)
  cases ht : (x.at k no).there with
  | true =>
    have hc : voteC x k no text tag = false := by simp [voteC, ht]
    have hx : voteX x k no text tag = x := by simp [voteX, hc]
    rw [hc, hF, hx] at kont
    simp only [go_sem, Vt.cells, ht]
    exact kont _ _ hS' (by first | exact H1 | exact (H1.new _).dead _ | exact H1.new' _)
  | false =>
    have hc : voteC x k no text tag = true := by simp [voteC, ht, hF]
    have hx : voteX x k no text tag = x.put k no.toNat ⟨true, text, tag⟩ := by simp [voteX, hc]
    rw [hc, hF, hx] at kont
    have h0' : ((0:Int) ≤ no) = True := eq_true (by omega)
    have hcl : ∀ V : List Vt, (vflat V).length = V.length * 3 := fun V => flatMap_len vz V
    rcases hk with rfl | rfl
    · have hn : (no < (x.V1.length : Int)) = True := eq_true (by omega)
      have hst : (no.toNat * 3 + 3 ≤ (vflat x.V1).length) = True := eq_true (by rw [hcl]; omega)
      have hsp := vflat_set (V := x.V1) (i := no.toNat) (v := ⟨true, text, tag⟩) (by omega)
      have hgb : σ1.get b1 = _ := H1.g3
      simp only [Vt.cells] at hsp
      simp only [go_sem, Vt.cells, ht, hg1, n0, hgb, nb1, h0', hn, hst, hsp]
      refine kont _ [(s, _), (b0, _), (b1, _), (b2, _)] ⟨⟨f0, f3, p0, p3, l0, by simpa [Slt.put] using l1, l2⟩, b0, b1, b2, ?_⟩ (H1.put3 _)
      simp only [Slt.put, if_true, List.length_set]
    · have hn : (no < (x.V2.length : Int)) = True := eq_true (by omega)
      have hst : (no.toNat * 3 + 3 ≤ (vflat x.V2).length) = True := eq_true (by rw [hcl]; omega)
      have hsp := vflat_set (V := x.V2) (i := no.toNat) (v := ⟨true, text, tag⟩) (by omega)
      have hgb : σ1.get b2 = _ := H1.g4
      simp only [Vt.cells] at hsp
      simp only [go_sem, Vt.cells, ht, hg1, n0, hgb, nb2, h0', hn, hst, hsp]
      refine kont _ [(s, _), (b0, _), (b1, _), (b2, _)] ⟨⟨f0, f3, p0, p3, l0, l1, by simpa [Slt.put] using l2⟩, b0, b1, b2, ?_⟩ (H1.put4 _)
      simp only [Slt.put, show ¬ (2:Int) = 1 by decide, if_false, List.length_set]

/-- Of a nil slot. -/
theorem vote_nil (k no : Int) (text tag : ByteArray)
    (kont : ∀ e : Int, e = (if kindB k = false ∨ no < 0 then 1 else if 30000 < text.size then 2 else if tag.size ≠ 16 then 4 else 7) → K (.tuple [.bool false, .int .i64 e]) σ = some ()) :
    callK Try.prog N ann (d + 2) 24 [.ptr none, .int .i64 k, .int .i64 no, .str text, .str tag] σ K = some () := by
  rw [callK_succ, f24_eq]
  by_cases c1 : kindB k = false
  · have := kont 1 (by simp [c1])
    simp only [go_sem, kinds_eq, c1]
    exact this
  have c1' : kindB k = true := by simpa using c1
  by_cases c2 : no < 0
  · have := kont 1 (by simp [c2])
    simp only [go_sem, kinds_eq, c1', c2]
    exact this
  by_cases c4 : 30000 < text.size
  · have := kont 2 (by simp [c1', c2, c4])
    have c4' : ((30000 : Int) < text.size) = True := eq_true (by omega)
    simp only [go_sem, kinds_eq, c1', c2, c4']
    exact this
  have c4' : ((30000 : Int) < text.size) = False := eq_false (by omega)
  by_cases c5 : tag.size ≠ 16
  · have := kont 4 (by simp [c1', c2, c4, c5])
    have c5' : ((tag.size : Int) != 16) = true := by simp; omega
    simp only [go_sem, kinds_eq, c1', c2, c4', c5']
    exact this
  have c5' : ((tag.size : Int) != 16) = false := by simp; omega
  have := kont 7 (by rw [if_neg (by simp [c1', c2]), if_neg c4, if_neg c5])
  simp only [go_sem, kinds_eq, c1', c2, c4', c5']
  exact this

end Go.Proofs.Ytmgacgonoodkfaa
